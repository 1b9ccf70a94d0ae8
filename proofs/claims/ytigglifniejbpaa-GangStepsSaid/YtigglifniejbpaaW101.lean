/- Functions of the program as functions of data, part 2; printed by a program of mine. -/
import Derived.Test.YtigglifniejbpaaW100
import Derived.Test.YtigglifniejbpaaProg
set_option linter.unusedSectionVars false
set_option linter.unusedVariables false
set_option linter.unusedSimpArgs false
open Go.AM
namespace Go.Proofs.Try
set_option maxRecDepth 100000
set_option synthInstance.maxSize 4000
set_option synthInstance.maxHeartbeats 400000


/- 62 -/
noncomputable def cx62 : Cx := mkCxH [ct61, ct63] []
theorem cx62_ok : cx62.Ok prog := mkCxH_ok ⟨ct61_ok, ct63_ok, trivial⟩ trivial
@[reducible] def p62_1 : Pat := Pat.mk [(1, .c (.fn0 61)), (2, .c (.fn0 63)), (8, .c (.hole (.list (.prod (.int .i64) (.int .i64))))), (14, .c (.hole (.list (.list (.prod (.int .i64) (.int .i64)))))), (15, hzI), (16, hzI), (23, .c (.hole (.list (.prod (.int .i64) (.int .i64))))), (24, hzI), (25, hzI)] [] [] []
@[reducible] def x62_1 : Outs := [(.ret, Pat.mk [(6, hzI)] [] [] []), (.exit 2, Pat.mk [(1, .c (.fn0 61)), (2, .c (.fn0 63)), (14, .c (.hole (.list (.list (.prod (.int .i64) (.int .i64)))))), (15, hzI), (16, hzI)] [] [] [])]
noncomputable def b62_1 : D prog 51 none 0 := (.seq (.reg [oo 26 (.bin .lss (.t 25) (.t 24))]) (.seq (.cond ( .t 26) .skip (.exit 2)) (.seq (.block 3 (.seq (.reg [om 27 25, oo 28 (.idx 2 (.t 23) (.t 25)), oo 29 (.load true 2 (.t 28)), oo 10 (.alloc [.int .i64 (Int.ofNat 0), .int .i64 (Int.ofNat 0)]), om 9 27, .op none none (.store 2 (.t 10) (.t 29))]) (.block 4 (.seq (.reg [om 31 1, oo 32 (.load true 2 (.t 10)), .call (some 33) none (.t 31) [.t 32] [some (.prod (.int .i64) (.int .i64))], oo 34 (.not (.t 33)), om 30 34]) (.cond ( .t 30) (.seq (.reg [oo 6 (.mv (ki 2))]) .ret) (.seq (.draw [[], [0], [0, 1], [0, 1, 2], [0, 1, 2], [0, 1, 2], [0, 1, 2], [0, 1, 2, 6], [0, 1, 2, 5, 6, 7], [0, 1, 2, 5, 6, 7, 8], [0, 1, 2, 3, 4, 5, 6, 7, 8, 9], [0, 1, 2, 3, 4, 5, 6, 7, 8, 9, 10], [0, 1, 2, 3, 4, 5, 6, 7, 8, 9, 10, 11], [0, 1, 2, 3, 4, 5, 6, 7, 8, 9, 10, 11, 12]] [om 36 9, oo 37 (.bin .gtr (.t 36) (ki 0)), om 38 37, og 39 38 true (.mv (.t 2)), og 40 38 true (.load true 2 (.t 10)), og 41 38 true (.mv (.t 8)), og 42 38 true (.mv (.t 9)), og 43 38 true (.bin .sub (.t 42) (ki 1)), og 44 38 true (.idx 2 (.t 41) (.t 43)), og 45 38 true (.load true 2 (.t 44)), .call (some 46) (some (38, true)) (.t 39) [.t 40, .t 45] [some (.prod (.int .i64) (.int .i64)), some (.prod (.int .i64) (.int .i64))], og 47 38 true (.not (.t 46)), oo 48 (.pick (.t 38) (.t 47) (.c (.tf false))), om 35 48]) (.cond ( .t 35) (.seq (.reg [oo 6 (.mv (ki 7))]) .ret) .skip))))))) (.reg [oo 49 (.bin .add (.t 25) (ki 1)), om 25 49]))))
noncomputable def g62_1 (v8 : List (Int × Int)) (v14 : List (List (Int × Int))) (v15 : Int) (v16 : Int) (v23 : List (Int × Int)) (v24 : Int) (v25 : Int) : Option (((List (Int × Int)) × (List (List (Int × Int))) × Int × Int × (List (Int × Int)) × Int × Int × Unit) ⊕ ((Int × Unit) ⊕ (((List (List (Int × Int))) × Int × Int × Unit)))) :=
 brO (decide (v25 < v24)) (
 need (inb v25 (((v23).length : Nat) : Int)) (
 bindO (F61 (((v23).getD (Int.toNat v25) ((0 : Int), (0 : Int))).1, ((v23).getD (Int.toNat v25) ((0 : Int), (0 : Int))).2)) fun y0 =>
 brO (!y0.1) (
 some (.inr <| .inl <| ((2 : Int), ()))) (
 brO (decide ((0 : Int) < v25)) (
 need (rng .i64 (v25 - (1 : Int))) (
 need (inb (v25 - (1 : Int)) (((v8).length : Nat) : Int)) (
 bindO (F63 (((v23).getD (Int.toNat v25) ((0 : Int), (0 : Int))).1, ((v23).getD (Int.toNat v25) ((0 : Int), (0 : Int))).2) (((v8).getD (Int.toNat (v25 - (1 : Int))) ((0 : Int), (0 : Int))).1, ((v8).getD (Int.toNat (v25 - (1 : Int))) ((0 : Int), (0 : Int))).2)) fun y1 =>
 brO (!y1.1) (
 some (.inr <| .inl <| ((7 : Int), ()))) (
 need (rng .i64 (v25 + (1 : Int))) (
 some (.inl (v8, (v14, (v15, (v16, (v23, (v24, ((v25 + (1 : Int)), ()))))))))))))) (
 need (rng .i64 (v25 + (1 : Int))) (
 some (.inl (v8, (v14, (v15, (v16, (v23, (v24, ((v25 + (1 : Int)), ()))))))))))))) (
 some (.inr <| .inr <| (v14, (v15, (v16, ())))))
def Cg62_1 (v8 : List (Int × Int)) (v14 : List (List (Int × Int))) (v15 : Int) (v16 : Int) (v23 : List (Int × Int)) (v24 : Int) (v25 : Int) : Option (((List (Int × Int)) × (List (List (Int × Int))) × Int × Int × (List (Int × Int)) × Int × Int × Unit) ⊕ ((Int × Unit) ⊕ (((List (List (Int × Int))) × Int × Int × Unit)))) :=
 brC (decide (v25 < v24)) (
 needC (inb v25 (((v23).length : Nat) : Int)) (
 bindC (CF61 (((v23).getD (Int.toNat v25) ((0 : Int), (0 : Int))).1, ((v23).getD (Int.toNat v25) ((0 : Int), (0 : Int))).2)) fun y0 =>
 brC (!y0.1) (
 some (.inr <| .inl <| ((2 : Int), ()))) (
 brC (decide ((0 : Int) < v25)) (
 needC (rng .i64 (v25 - (1 : Int))) (
 needC (inb (v25 - (1 : Int)) (((v8).length : Nat) : Int)) (
 bindC (CF63 (((v23).getD (Int.toNat v25) ((0 : Int), (0 : Int))).1, ((v23).getD (Int.toNat v25) ((0 : Int), (0 : Int))).2) (((v8).getD (Int.toNat (v25 - (1 : Int))) ((0 : Int), (0 : Int))).1, ((v8).getD (Int.toNat (v25 - (1 : Int))) ((0 : Int), (0 : Int))).2)) fun y1 =>
 brC (!y1.1) (
 some (.inr <| .inl <| ((7 : Int), ()))) (
 needC (rng .i64 (v25 + (1 : Int))) (
 some (.inl (v8, (v14, (v15, (v16, (v23, (v24, ((v25 + (1 : Int)), ()))))))))))))) (
 needC (rng .i64 (v25 + (1 : Int))) (
 some (.inl (v8, (v14, (v15, (v16, (v23, (v24, ((v25 + (1 : Int)), ()))))))))))))) (
 some (.inr <| .inr <| (v14, (v15, (v16, ())))))
theorem Cg62_1_le (v8 : List (Int × Int)) (v14 : List (List (Int × Int))) (v15 : Int) (v16 : Int) (v23 : List (Int × Int)) (v24 : Int) (v25 : Int) : Le (Cg62_1 v8 v14 v15 v16 v23 v24 v25) (g62_1 v8 v14 v15 v16 v23 v24 v25) := (Le.br (Le.nd (Le.bd (CF61_le ..) fun y0 => (Le.br Le.r (Le.br (Le.nd (Le.nd (Le.bd (CF63_le ..) fun y1 => (Le.br Le.r (Le.nd Le.r))))) (Le.nd Le.r))))) Le.r)
noncomputable def L62_1 : LoopS prog 51 none 0 := mkLoop mixed cx62 cx62_ok [] rfl p62_1 x62_1 rfl (b62_1) (fun x => g62_1 x.1 x.2.1 x.2.2.1 x.2.2.2.1 x.2.2.2.2.1 x.2.2.2.2.2.1 x.2.2.2.2.2.2.1) (by intro x; kernel_rfl)
@[reducible] def p62_0 : Pat := Pat.mk [(1, .c (.fn0 61)), (2, .c (.fn0 63)), (14, .c (.hole (.list (.list (.prod (.int .i64) (.int .i64)))))), (15, hzI), (16, hzI)] [] [] []
@[reducible] def x62_0 : Outs := [(.ret, Pat.mk [(6, hzI)] [] [] []), (.exit 0, Pat.mk [] [] [] [])]
noncomputable def b62_0 : D prog 51 none 0 := (.seq (.reg [oo 17 (.bin .lss (.t 16) (.t 15))]) (.seq (.cond ( .t 17) .skip (.exit 0)) (.seq (.block 1 (.seq (.reg [oo 18 (.idx 1 (.t 14) (.t 16)), ol 19 18, om 8 19]) (.seq (.seq (.reg [om 20 8, oo 21 (.len (.t 20)), oo 22 (.bin .gtr (.t 21) (ki 10))]) (.cond ( .t 22) (.seq (.reg [oo 6 (.mv (ki 1))]) .ret) .skip)) (.seq (.reg [om 23 8, oo 24 (.len (.t 23)), oo 25 (.mv (ki 0))]) (.block 2 (.loop L62_1)))))) (.reg [oo 50 (.bin .add (.t 16) (ki 1)), om 16 50]))))
noncomputable def g62_0 (v14 : List (List (Int × Int))) (v15 : Int) (v16 : Int) : Option (((List (List (Int × Int))) × Int × Int × Unit) ⊕ ((Int × Unit) ⊕ ((Unit)))) :=
 brO (decide (v16 < v15)) (
 need (inb v16 (((v14).length : Nat) : Int)) (
 brO (decide ((10 : Int) < (((((v14).getD (Int.toNat v16) [])).length : Nat) : Int))) (
 some (.inr <| .inl <| ((1 : Int), ()))) (
 bindO (iter (fun x => g62_1 x.1 x.2.1 x.2.2.1 x.2.2.2.1 x.2.2.2.2.1 x.2.2.2.2.2.1 x.2.2.2.2.2.2.1) (((v14).getD (Int.toNat v16) []), (v14, (v15, (v16, (((v14).getD (Int.toNat v16) []), ((((((v14).getD (Int.toNat v16) [])).length : Nat) : Int), ((0 : Int), ())))))))) fun z2 =>
 match z2 with
 | .inl z3 =>
 some (.inr <| .inl <| (z3.1, ()))
 | .inr z4 =>
 need (rng .i64 (z4.2.2.1 + (1 : Int))) (
 some (.inl (z4.1, (z4.2.1, ((z4.2.2.1 + (1 : Int)), ())))))))) (
 some (.inr <| .inr <| ()))
def Cg62_0 (v14 : List (List (Int × Int))) (v15 : Int) (v16 : Int) : Option (((List (List (Int × Int))) × Int × Int × Unit) ⊕ ((Int × Unit) ⊕ ((Unit)))) :=
 brC (decide (v16 < v15)) (
 needC (inb v16 (((v14).length : Nat) : Int)) (
 brC (decide ((10 : Int) < (((((v14).getD (Int.toNat v16) [])).length : Nat) : Int))) (
 some (.inr <| .inl <| ((1 : Int), ()))) (
 bindC (iterF (fun x => Cg62_1 x.1 x.2.1 x.2.2.1 x.2.2.2.1 x.2.2.2.2.1 x.2.2.2.2.2.1 x.2.2.2.2.2.2.1) 1000000 (((v14).getD (Int.toNat v16) []), (v14, (v15, (v16, (((v14).getD (Int.toNat v16) []), ((((((v14).getD (Int.toNat v16) [])).length : Nat) : Int), ((0 : Int), ())))))))) fun z2 =>
 match z2 with
 | .inl z3 =>
 some (.inr <| .inl <| (z3.1, ()))
 | .inr z4 =>
 needC (rng .i64 (z4.2.2.1 + (1 : Int))) (
 some (.inl (z4.1, (z4.2.1, ((z4.2.2.1 + (1 : Int)), ())))))))) (
 some (.inr <| .inr <| ()))
theorem Cg62_0_le (v14 : List (List (Int × Int))) (v15 : Int) (v16 : Int) : Le (Cg62_0 v14 v15 v16) (g62_0 v14 v15 v16) := (Le.br (Le.nd (Le.br Le.r (Le.bd (Le.iter fun x => Cg62_1_le ..) fun z2 => (match z2 with | .inl z3 => Le.r | .inr z4 => (Le.nd Le.r))))) Le.r)
noncomputable def L62_0 : LoopS prog 51 none 0 := mkLoop mixed cx62 cx62_ok [] rfl p62_0 x62_0 rfl (b62_0) (fun x => g62_0 x.1 x.2.1 x.2.2.1) (by intro x; kernel_rfl)
noncomputable def dd62 : D prog 51 none 0 := (.seq (.reg [oo 6 (.mv (ki 0))]) (.seq (.seq (.reg [om 11 0, oo 12 (.len (.t 11)), oo 13 (.bin .gtr (.t 12) (ki 12))]) (.cond ( .t 13) (.seq (.reg [oo 6 (.mv (ki 1))]) .ret) .skip)) (.seq (.seq (.reg [om 14 0, oo 15 (.len (.t 14)), oo 16 (.mv (ki 0))]) (.block 0 (.loop L62_0))) (.seq (.reg [oo 6 (.mv (ki 0))]) .ret))))
noncomputable def F62 (a0 : List (List (Int × Int))) : Option (Int × Unit) :=
 brO (decide ((12 : Int) < (((a0).length : Nat) : Int))) (
 some ((1 : Int), ())) (
 bindO (iter (fun x => g62_0 x.1 x.2.1 x.2.2.1) (a0, ((((a0).length : Nat) : Int), ((0 : Int), ())))) fun z5 =>
 match z5 with
 | .inl z6 =>
 some (z6.1, ())
 | .inr z7 =>
 some ((0 : Int), ()))
def CF62 (a0 : List (List (Int × Int))) : Option (Int × Unit) :=
 brC (decide ((12 : Int) < (((a0).length : Nat) : Int))) (
 some ((1 : Int), ())) (
 bindC (iterF (fun x => Cg62_0 x.1 x.2.1 x.2.2.1) 1000000 (a0, ((((a0).length : Nat) : Int), ((0 : Int), ())))) fun z5 =>
 match z5 with
 | .inl z6 =>
 some (z6.1, ())
 | .inr z7 =>
 some ((0 : Int), ()))
theorem CF62_le (a0 : List (List (Int × Int))) : Le (CF62 a0) (F62 a0) := (Le.br Le.r (Le.bd (Le.iter fun x => Cg62_0_le ..) fun z5 => (match z5 with | .inl z6 => Le.r | .inr z7 => Le.r)))
theorem c62_ok : trF prog f62 = some ⟨51, 3, dd62.er, [.t 6], [some (.int .i64)]⟩ := by kernel_rfl
noncomputable def ct62 : Ct := ⟨62, [.c (.hole (.list (.list (.prod (.int .i64) (.int .i64))))), .c (.fn0 61), .c (.fn0 63)], .c (.hole (.int .i64)), fun x => F62 x.1⟩
theorem ct62_ok : ct62.Ok prog := ct_ok mixed cx62_ok func62 c62_ok (enters_of func62 rfl rfl) dd62 rfl rfl (fun x => by kernel_rfl)

/- 65 -/
noncomputable def cx65 : Cx := mkCxH [] []
theorem cx65_ok : cx65.Ok prog := mkCxH_ok trivial trivial
noncomputable def dd65 : D prog 13 none 0 := (.seq (.reg [oo 4 (.box (.t 1)), oo 5 (.mv (ki 0))]) (.seq (.seq (.reg [om 6 0, ol 7 2, oo 8 (.bin .eql (.t 6) (.t 7))]) (.cond ( .t 8) (.seq (.reg [oo 9 (.fld 0 [false] (.t 4)), ol 10 9, om 5 10]) .ret) .skip)) (.seq (.reg [oo 11 (.fld 1 [true] (.t 4)), ol 12 11, om 5 12]) .ret)))
noncomputable def F65 (a0 : Int) (a1 : Int × Int) (a2 : Int) : Option (Int × Unit) :=
 brO (a0 == a2) (
 some (a1.1, ())) (
 some (a1.2, ()))
def CF65 (a0 : Int) (a1 : Int × Int) (a2 : Int) : Option (Int × Unit) :=
 brC (a0 == a2) (
 some (a1.1, ())) (
 some (a1.2, ()))
theorem CF65_le (a0 : Int) (a1 : Int × Int) (a2 : Int) : Le (CF65 a0 a1 a2) (F65 a0 a1 a2) := (Le.br Le.r Le.r)
theorem c65_ok : trF prog f65 = some ⟨13, 3, dd65.er, [.t 5], [some (.int .i64)]⟩ := by kernel_rfl
noncomputable def ct65 : Ct := ⟨65, [.c (.hole (.int .i64)), .c (.hole (.prod (.int .i64) (.int .i64))), .c (.ipc (.int .i64))], .c (.hole (.int .i64)), fun x => F65 x.1 x.2.1 x.2.2.1⟩
theorem ct65_ok : ct65.Ok prog := ct_ok mixed cx65_ok func65 c65_ok (enters_of func65 rfl rfl) dd65 rfl rfl (fun x => by kernel_rfl)

/- 64 -/
noncomputable def cx64 : Cx := mkCxH [ct65] []
theorem cx64_ok : cx64.Ok prog := mkCxH_ok ⟨ct65_ok, trivial⟩ trivial
@[reducible] def p64_1 : Pat := Pat.mk [(1, .fn 65 [] [.ipc (.int .i64)]), (5, .c (.sl0 0 (.list (.int .i64)))), (6, hzI), (8, .c (.sl0 1 (.int .i64))), (11, .c (.hole (.list (.list (.prod (.int .i64) (.int .i64)))))), (12, hzI), (13, hzI), (19, .c (.hole (.list (.prod (.int .i64) (.int .i64))))), (20, hzI), (21, hzI)] [(0, .arr (.list (.int .i64)) false), (1, .arr (.int .i64) false)] [.slot 5, .slot 8] []
@[reducible] def x64_1 : Outs := [(.exit 2, Pat.mk [(1, .fn 65 [] [.ipc (.int .i64)]), (5, .c (.sl0 0 (.list (.int .i64)))), (8, .c (.sl0 1 (.int .i64))), (11, .c (.hole (.list (.list (.prod (.int .i64) (.int .i64)))))), (12, hzI), (13, hzI)] [(0, .arr (.list (.int .i64)) false), (1, .arr (.int .i64) false)] [.slot 5, .slot 8] [])]
noncomputable def b64_1 : D prog 39 none 0 := (.seq (.reg [oo 22 (.bin .lss (.t 21) (.t 20))]) (.seq (.cond ( .t 22) .skip (.exit 2)) (.seq (.block 3 (.seq (.reg [oo 23 (.idx 2 (.t 19) (.t 21)), oo 24 (.load true 2 (.t 23)), oo 10 (.alloc [.int .i64 (Int.ofNat 0), .int .i64 (Int.ofNat 0)]), .op none none (.store 2 (.t 10) (.t 24))]) (.reg [om 25 8, om 26 1, om 27 6, oo 28 (.load true 2 (.t 10)), .call (some 29) none (.t 26) [.t 27, .t 28] [some (.int .i64), some (.prod (.int .i64) (.int .i64))], oo 30 (.bslice (.int .i64) [.t 29]), oo 31 (.append 1 (.t 25) (.t 30)), om 8 31]))) (.reg [oo 32 (.bin .add (.t 21) (ki 1)), om 21 32]))))
noncomputable def g64_1 (v1_0 : Int) (nv5 : Nat) (v6 : Int) (nv8 : Nat) (v11 : List (List (Int × Int))) (v12 : Int) (v13 : Int) (v19 : List (Int × Int)) (v20 : Int) (v21 : Int) (b0 : List (List Int)) (b1 : List Int) : Option ((Int × Nat × Int × Nat × (List (List (Int × Int))) × Int × Int × (List (Int × Int)) × Int × Int × List (List Int) × List Int × Unit) ⊕ ((Int × Nat × Nat × (List (List (Int × Int))) × Int × Int × List (List Int) × List Int × Unit))) :=
 brO (decide (v21 < v20)) (
 need (inb v21 (((v19).length : Nat) : Int)) (
 bindO (F65 v6 (((v19).getD (Int.toNat v21) ((0 : Int), (0 : Int))).1, ((v19).getD (Int.toNat v21) ((0 : Int), (0 : Int))).2) v1_0) fun y0 =>
 need (decide ((nv8 + (((((y0.1 :: [])).drop (0 : Nat)).take (1 : Nat))).length) < bigL)) (
 need (rng .i64 (v21 + (1 : Int))) (
 some (.inl (v1_0, (nv5, (v6, ((nv8 + (((((y0.1 :: [])).drop (0 : Nat)).take (1 : Nat))).length), (v11, (v12, (v13, (v19, (v20, ((v21 + (1 : Int)), (b0, (((((b1).drop (0 : Nat)).take nv8) ++ ((((y0.1 :: [])).drop (0 : Nat)).take (1 : Nat))), ()))))))))))))))))) (
 some (.inr (v1_0, (nv5, (nv8, (v11, (v12, (v13, (b0, (b1, ()))))))))))
def Cg64_1 (v1_0 : Int) (nv5 : Nat) (v6 : Int) (nv8 : Nat) (v11 : List (List (Int × Int))) (v12 : Int) (v13 : Int) (v19 : List (Int × Int)) (v20 : Int) (v21 : Int) (b0 : List (List Int)) (b1 : List Int) : Option ((Int × Nat × Int × Nat × (List (List (Int × Int))) × Int × Int × (List (Int × Int)) × Int × Int × List (List Int) × List Int × Unit) ⊕ ((Int × Nat × Nat × (List (List (Int × Int))) × Int × Int × List (List Int) × List Int × Unit))) :=
 brC (decide (v21 < v20)) (
 needC (inb v21 (((v19).length : Nat) : Int)) (
 bindC (CF65 v6 (((v19).getD (Int.toNat v21) ((0 : Int), (0 : Int))).1, ((v19).getD (Int.toNat v21) ((0 : Int), (0 : Int))).2) v1_0) fun y0 =>
 needC (decide ((nv8 + (((((y0.1 :: [])).drop (0 : Nat)).take (1 : Nat))).length) < bigL)) (
 needC (rng .i64 (v21 + (1 : Int))) (
 some (.inl (v1_0, (nv5, (v6, ((nv8 + (((((y0.1 :: [])).drop (0 : Nat)).take (1 : Nat))).length), (v11, (v12, (v13, (v19, (v20, ((v21 + (1 : Int)), (b0, (((((b1).drop (0 : Nat)).take nv8) ++ ((((y0.1 :: [])).drop (0 : Nat)).take (1 : Nat))), ()))))))))))))))))) (
 some (.inr (v1_0, (nv5, (nv8, (v11, (v12, (v13, (b0, (b1, ()))))))))))
theorem Cg64_1_le (v1_0 : Int) (nv5 : Nat) (v6 : Int) (nv8 : Nat) (v11 : List (List (Int × Int))) (v12 : Int) (v13 : Int) (v19 : List (Int × Int)) (v20 : Int) (v21 : Int) (b0 : List (List Int)) (b1 : List Int) : Le (Cg64_1 v1_0 nv5 v6 nv8 v11 v12 v13 v19 v20 v21 b0 b1) (g64_1 v1_0 nv5 v6 nv8 v11 v12 v13 v19 v20 v21 b0 b1) := (Le.br (Le.nd (Le.bd (CF65_le ..) fun y0 => (Le.nd (Le.nd Le.r)))) Le.r)
noncomputable def L64_1 : LoopS prog 39 none 0 := mkLoop mixed cx64 cx64_ok [] rfl p64_1 x64_1 rfl (b64_1) (fun x => g64_1 x.1 x.2.1 x.2.2.1 x.2.2.2.1 x.2.2.2.2.1 x.2.2.2.2.2.1 x.2.2.2.2.2.2.1 x.2.2.2.2.2.2.2.1 x.2.2.2.2.2.2.2.2.1 x.2.2.2.2.2.2.2.2.2.1 x.2.2.2.2.2.2.2.2.2.2.1 x.2.2.2.2.2.2.2.2.2.2.2.1) (by intro x; kernel_rfl)
@[reducible] def p64_0 : Pat := Pat.mk [(1, .fn 65 [] [.ipc (.int .i64)]), (5, .c (.sl0 0 (.list (.int .i64)))), (11, .c (.hole (.list (.list (.prod (.int .i64) (.int .i64)))))), (12, hzI), (13, hzI)] [(0, .arr (.list (.int .i64)) false)] [.slot 5] []
@[reducible] def x64_0 : Outs := [(.exit 0, Pat.mk [(5, .c (.sl0 0 (.list (.int .i64))))] [(0, .arr (.list (.int .i64)) false)] [.slot 5] [])]
noncomputable def b64_0 : D prog 39 none 0 := (.seq (.reg [oo 14 (.bin .lss (.t 13) (.t 12))]) (.seq (.cond ( .t 14) .skip (.exit 0)) (.seq (.block 1 (.seq (.reg [om 15 13, oo 16 (.idx 1 (.t 11) (.t 13)), ol 17 16, om 6 15, om 7 17]) (.seq (.reg [oo 18 (.bslice (.int .i64) []), om 8 18]) (.seq (.seq (.reg [om 19 7, oo 20 (.len (.t 19)), oo 21 (.mv (ki 0))]) (.block 2 (.loop L64_1))) (.reg [om 33 5, om 34 8, oo 35 (.bslice (.list (.int .i64)) [.t 34]), oo 36 (.append 1 (.t 33) (.t 35)), om 5 36]))))) (.reg [oo 37 (.bin .add (.t 13) (ki 1)), om 13 37]))))
noncomputable def g64_0 (v1_0 : Int) (nv5 : Nat) (v11 : List (List (Int × Int))) (v12 : Int) (v13 : Int) (b0 : List (List Int)) : Option ((Int × Nat × (List (List (Int × Int))) × Int × Int × List (List Int) × Unit) ⊕ ((Nat × List (List Int) × Unit))) :=
 brO (decide (v13 < v12)) (
 need (inb v13 (((v11).length : Nat) : Int)) (
 bindO (iter (fun x => g64_1 x.1 x.2.1 x.2.2.1 x.2.2.2.1 x.2.2.2.2.1 x.2.2.2.2.2.1 x.2.2.2.2.2.2.1 x.2.2.2.2.2.2.2.1 x.2.2.2.2.2.2.2.2.1 x.2.2.2.2.2.2.2.2.2.1 x.2.2.2.2.2.2.2.2.2.2.1 x.2.2.2.2.2.2.2.2.2.2.2.1) (v1_0, (nv5, (v13, ((0 : Nat), (v11, (v12, (v13, (((v11).getD (Int.toNat v13) []), ((((((v11).getD (Int.toNat v13) [])).length : Nat) : Int), ((0 : Int), (b0, ([], ()))))))))))))) fun z1 =>
 need (decide ((z1.2.1 + ((((((((z1.2.2.2.2.2.2.2.1).drop (0 : Nat)).take z1.2.2.1) :: [])).drop (0 : Nat)).take (1 : Nat))).length) < bigL)) (
 need (rng .i64 (z1.2.2.2.2.2.1 + (1 : Int))) (
 some (.inl (z1.1, ((z1.2.1 + ((((((((z1.2.2.2.2.2.2.2.1).drop (0 : Nat)).take z1.2.2.1) :: [])).drop (0 : Nat)).take (1 : Nat))).length), (z1.2.2.2.1, (z1.2.2.2.2.1, ((z1.2.2.2.2.2.1 + (1 : Int)), (((((z1.2.2.2.2.2.2.1).drop (0 : Nat)).take z1.2.1) ++ (((((((z1.2.2.2.2.2.2.2.1).drop (0 : Nat)).take z1.2.2.1) :: [])).drop (0 : Nat)).take (1 : Nat))), ()))))))))))) (
 some (.inr (nv5, (b0, ()))))
def Cg64_0 (v1_0 : Int) (nv5 : Nat) (v11 : List (List (Int × Int))) (v12 : Int) (v13 : Int) (b0 : List (List Int)) : Option ((Int × Nat × (List (List (Int × Int))) × Int × Int × List (List Int) × Unit) ⊕ ((Nat × List (List Int) × Unit))) :=
 brC (decide (v13 < v12)) (
 needC (inb v13 (((v11).length : Nat) : Int)) (
 bindC (iterF (fun x => Cg64_1 x.1 x.2.1 x.2.2.1 x.2.2.2.1 x.2.2.2.2.1 x.2.2.2.2.2.1 x.2.2.2.2.2.2.1 x.2.2.2.2.2.2.2.1 x.2.2.2.2.2.2.2.2.1 x.2.2.2.2.2.2.2.2.2.1 x.2.2.2.2.2.2.2.2.2.2.1 x.2.2.2.2.2.2.2.2.2.2.2.1) 1000000 (v1_0, (nv5, (v13, ((0 : Nat), (v11, (v12, (v13, (((v11).getD (Int.toNat v13) []), ((((((v11).getD (Int.toNat v13) [])).length : Nat) : Int), ((0 : Int), (b0, ([], ()))))))))))))) fun z1 =>
 needC (decide ((z1.2.1 + ((((((((z1.2.2.2.2.2.2.2.1).drop (0 : Nat)).take z1.2.2.1) :: [])).drop (0 : Nat)).take (1 : Nat))).length) < bigL)) (
 needC (rng .i64 (z1.2.2.2.2.2.1 + (1 : Int))) (
 some (.inl (z1.1, ((z1.2.1 + ((((((((z1.2.2.2.2.2.2.2.1).drop (0 : Nat)).take z1.2.2.1) :: [])).drop (0 : Nat)).take (1 : Nat))).length), (z1.2.2.2.1, (z1.2.2.2.2.1, ((z1.2.2.2.2.2.1 + (1 : Int)), (((((z1.2.2.2.2.2.2.1).drop (0 : Nat)).take z1.2.1) ++ (((((((z1.2.2.2.2.2.2.2.1).drop (0 : Nat)).take z1.2.2.1) :: [])).drop (0 : Nat)).take (1 : Nat))), ()))))))))))) (
 some (.inr (nv5, (b0, ()))))
theorem Cg64_0_le (v1_0 : Int) (nv5 : Nat) (v11 : List (List (Int × Int))) (v12 : Int) (v13 : Int) (b0 : List (List Int)) : Le (Cg64_0 v1_0 nv5 v11 v12 v13 b0) (g64_0 v1_0 nv5 v11 v12 v13 b0) := (Le.br (Le.nd (Le.bd (Le.iter fun x => Cg64_1_le ..) fun z1 => (Le.nd (Le.nd Le.r)))) Le.r)
noncomputable def L64_0 : LoopS prog 39 none 0 := mkLoop mixed cx64 cx64_ok [] rfl p64_0 x64_0 rfl (b64_0) (fun x => g64_0 x.1 x.2.1 x.2.2.1 x.2.2.2.1 x.2.2.2.2.1 x.2.2.2.2.2.1) (by intro x; kernel_rfl)
noncomputable def dd64 : D prog 39 none 0 := (.seq (.reg [oo 4 (.mv (.c .nsl))]) (.seq (.reg [oo 5 (.mv (.c .nsl))]) (.seq (.seq (.reg [om 11 0, oo 12 (.len (.t 11)), oo 13 (.mv (ki 0))]) (.block 0 (.loop L64_0))) (.seq (.reg [om 38 5, om 4 38]) .ret))))
noncomputable def F64 (a0 : List (List (Int × Int))) (a1_0 : Int) : Option (List (List Int) × Unit) :=
 bindO (iter (fun x => g64_0 x.1 x.2.1 x.2.2.1 x.2.2.2.1 x.2.2.2.2.1 x.2.2.2.2.2.1) (a1_0, ((0 : Nat), (a0, ((((a0).length : Nat) : Int), ((0 : Int), ([], ()))))))) fun z2 =>
 some ((((z2.2.1).drop (0 : Nat)).take z2.1), ())
def CF64 (a0 : List (List (Int × Int))) (a1_0 : Int) : Option (List (List Int) × Unit) :=
 bindC (iterF (fun x => Cg64_0 x.1 x.2.1 x.2.2.1 x.2.2.2.1 x.2.2.2.2.1 x.2.2.2.2.2.1) 1000000 (a1_0, ((0 : Nat), (a0, ((((a0).length : Nat) : Int), ((0 : Int), ([], ()))))))) fun z2 =>
 some ((((z2.2.1).drop (0 : Nat)).take z2.1), ())
theorem CF64_le (a0 : List (List (Int × Int))) (a1_0 : Int) : Le (CF64 a0 a1_0) (F64 a0 a1_0) := (Le.bd (Le.iter fun x => Cg64_0_le ..) fun z2 => Le.r)
theorem c64_ok : trF prog f64 = some ⟨39, 2, dd64.er, [.t 4], [some (.list (.list (.int .i64)))]⟩ := by kernel_rfl
noncomputable def ct64 : Ct := ⟨64, [.c (.hole (.list (.list (.prod (.int .i64) (.int .i64))))), .fn 65 [] [.ipc (.int .i64)]], .c (.hole (.list (.list (.int .i64)))), fun x => F64 x.1 x.2.1⟩
theorem ct64_ok : ct64.Ok prog := ct_ok mixed cx64_ok func64 c64_ok (enters_of func64 rfl rfl) dd64 rfl rfl (fun x => by kernel_rfl)

/- 66 -/
noncomputable def cx66 : Cx := mkCxH [] []
theorem cx66_ok : cx66.Ok prog := mkCxH_ok trivial trivial
noncomputable def dd66 : D prog 13 none 0 := (.seq (.reg [oo 4 (.box (.t 1)), oo 5 (.mv (ki 0))]) (.seq (.seq (.reg [om 6 0, ol 7 2, oo 8 (.bin .eql (.t 6) (.t 7))]) (.cond ( .t 8) (.seq (.reg [oo 9 (.fld 1 [true] (.t 4)), ol 10 9, om 5 10]) .ret) .skip)) (.seq (.reg [oo 11 (.fld 0 [false] (.t 4)), ol 12 11, om 5 12]) .ret)))
noncomputable def F66 (a0 : Int) (a1 : Int × Int) (a2 : Int) : Option (Int × Unit) :=
 brO (a0 == a2) (
 some (a1.2, ())) (
 some (a1.1, ()))
def CF66 (a0 : Int) (a1 : Int × Int) (a2 : Int) : Option (Int × Unit) :=
 brC (a0 == a2) (
 some (a1.2, ())) (
 some (a1.1, ()))
theorem CF66_le (a0 : Int) (a1 : Int × Int) (a2 : Int) : Le (CF66 a0 a1 a2) (F66 a0 a1 a2) := (Le.br Le.r Le.r)
theorem c66_ok : trF prog f66 = some ⟨13, 3, dd66.er, [.t 5], [some (.int .i64)]⟩ := by kernel_rfl
noncomputable def ct66 : Ct := ⟨66, [.c (.hole (.int .i64)), .c (.hole (.prod (.int .i64) (.int .i64))), .c (.ipc (.int .i64))], .c (.hole (.int .i64)), fun x => F66 x.1 x.2.1 x.2.2.1⟩
theorem ct66_ok : ct66.Ok prog := ct_ok mixed cx66_ok func66 c66_ok (enters_of func66 rfl rfl) dd66 rfl rfl (fun x => by kernel_rfl)

/- 64 -/
noncomputable def cx64_v1 : Cx := mkCxH [ct66] []
theorem cx64_v1_ok : cx64_v1.Ok prog := mkCxH_ok ⟨ct66_ok, trivial⟩ trivial
@[reducible] def p64_v1_1 : Pat := Pat.mk [(1, .fn 66 [] [.ipc (.int .i64)]), (5, .c (.sl0 0 (.list (.int .i64)))), (6, hzI), (8, .c (.sl0 1 (.int .i64))), (11, .c (.hole (.list (.list (.prod (.int .i64) (.int .i64)))))), (12, hzI), (13, hzI), (19, .c (.hole (.list (.prod (.int .i64) (.int .i64))))), (20, hzI), (21, hzI)] [(0, .arr (.list (.int .i64)) false), (1, .arr (.int .i64) false)] [.slot 5, .slot 8] []
@[reducible] def x64_v1_1 : Outs := [(.exit 2, Pat.mk [(1, .fn 66 [] [.ipc (.int .i64)]), (5, .c (.sl0 0 (.list (.int .i64)))), (8, .c (.sl0 1 (.int .i64))), (11, .c (.hole (.list (.list (.prod (.int .i64) (.int .i64)))))), (12, hzI), (13, hzI)] [(0, .arr (.list (.int .i64)) false), (1, .arr (.int .i64) false)] [.slot 5, .slot 8] [])]
noncomputable def b64_v1_1 : D prog 39 none 0 := (.seq (.reg [oo 22 (.bin .lss (.t 21) (.t 20))]) (.seq (.cond ( .t 22) .skip (.exit 2)) (.seq (.block 3 (.seq (.reg [oo 23 (.idx 2 (.t 19) (.t 21)), oo 24 (.load true 2 (.t 23)), oo 10 (.alloc [.int .i64 (Int.ofNat 0), .int .i64 (Int.ofNat 0)]), .op none none (.store 2 (.t 10) (.t 24))]) (.reg [om 25 8, om 26 1, om 27 6, oo 28 (.load true 2 (.t 10)), .call (some 29) none (.t 26) [.t 27, .t 28] [some (.int .i64), some (.prod (.int .i64) (.int .i64))], oo 30 (.bslice (.int .i64) [.t 29]), oo 31 (.append 1 (.t 25) (.t 30)), om 8 31]))) (.reg [oo 32 (.bin .add (.t 21) (ki 1)), om 21 32]))))
noncomputable def g64_v1_1 (v1_0 : Int) (nv5 : Nat) (v6 : Int) (nv8 : Nat) (v11 : List (List (Int × Int))) (v12 : Int) (v13 : Int) (v19 : List (Int × Int)) (v20 : Int) (v21 : Int) (b0 : List (List Int)) (b1 : List Int) : Option ((Int × Nat × Int × Nat × (List (List (Int × Int))) × Int × Int × (List (Int × Int)) × Int × Int × List (List Int) × List Int × Unit) ⊕ ((Int × Nat × Nat × (List (List (Int × Int))) × Int × Int × List (List Int) × List Int × Unit))) :=
 brO (decide (v21 < v20)) (
 need (inb v21 (((v19).length : Nat) : Int)) (
 bindO (F66 v6 (((v19).getD (Int.toNat v21) ((0 : Int), (0 : Int))).1, ((v19).getD (Int.toNat v21) ((0 : Int), (0 : Int))).2) v1_0) fun y0 =>
 need (decide ((nv8 + (((((y0.1 :: [])).drop (0 : Nat)).take (1 : Nat))).length) < bigL)) (
 need (rng .i64 (v21 + (1 : Int))) (
 some (.inl (v1_0, (nv5, (v6, ((nv8 + (((((y0.1 :: [])).drop (0 : Nat)).take (1 : Nat))).length), (v11, (v12, (v13, (v19, (v20, ((v21 + (1 : Int)), (b0, (((((b1).drop (0 : Nat)).take nv8) ++ ((((y0.1 :: [])).drop (0 : Nat)).take (1 : Nat))), ()))))))))))))))))) (
 some (.inr (v1_0, (nv5, (nv8, (v11, (v12, (v13, (b0, (b1, ()))))))))))
def Cg64_v1_1 (v1_0 : Int) (nv5 : Nat) (v6 : Int) (nv8 : Nat) (v11 : List (List (Int × Int))) (v12 : Int) (v13 : Int) (v19 : List (Int × Int)) (v20 : Int) (v21 : Int) (b0 : List (List Int)) (b1 : List Int) : Option ((Int × Nat × Int × Nat × (List (List (Int × Int))) × Int × Int × (List (Int × Int)) × Int × Int × List (List Int) × List Int × Unit) ⊕ ((Int × Nat × Nat × (List (List (Int × Int))) × Int × Int × List (List Int) × List Int × Unit))) :=
 brC (decide (v21 < v20)) (
 needC (inb v21 (((v19).length : Nat) : Int)) (
 bindC (CF66 v6 (((v19).getD (Int.toNat v21) ((0 : Int), (0 : Int))).1, ((v19).getD (Int.toNat v21) ((0 : Int), (0 : Int))).2) v1_0) fun y0 =>
 needC (decide ((nv8 + (((((y0.1 :: [])).drop (0 : Nat)).take (1 : Nat))).length) < bigL)) (
 needC (rng .i64 (v21 + (1 : Int))) (
 some (.inl (v1_0, (nv5, (v6, ((nv8 + (((((y0.1 :: [])).drop (0 : Nat)).take (1 : Nat))).length), (v11, (v12, (v13, (v19, (v20, ((v21 + (1 : Int)), (b0, (((((b1).drop (0 : Nat)).take nv8) ++ ((((y0.1 :: [])).drop (0 : Nat)).take (1 : Nat))), ()))))))))))))))))) (
 some (.inr (v1_0, (nv5, (nv8, (v11, (v12, (v13, (b0, (b1, ()))))))))))
theorem Cg64_v1_1_le (v1_0 : Int) (nv5 : Nat) (v6 : Int) (nv8 : Nat) (v11 : List (List (Int × Int))) (v12 : Int) (v13 : Int) (v19 : List (Int × Int)) (v20 : Int) (v21 : Int) (b0 : List (List Int)) (b1 : List Int) : Le (Cg64_v1_1 v1_0 nv5 v6 nv8 v11 v12 v13 v19 v20 v21 b0 b1) (g64_v1_1 v1_0 nv5 v6 nv8 v11 v12 v13 v19 v20 v21 b0 b1) := (Le.br (Le.nd (Le.bd (CF66_le ..) fun y0 => (Le.nd (Le.nd Le.r)))) Le.r)
noncomputable def L64_v1_1 : LoopS prog 39 none 0 := mkLoop mixed cx64_v1 cx64_v1_ok [] rfl p64_v1_1 x64_v1_1 rfl (b64_v1_1) (fun x => g64_v1_1 x.1 x.2.1 x.2.2.1 x.2.2.2.1 x.2.2.2.2.1 x.2.2.2.2.2.1 x.2.2.2.2.2.2.1 x.2.2.2.2.2.2.2.1 x.2.2.2.2.2.2.2.2.1 x.2.2.2.2.2.2.2.2.2.1 x.2.2.2.2.2.2.2.2.2.2.1 x.2.2.2.2.2.2.2.2.2.2.2.1) (by intro x; kernel_rfl)
@[reducible] def p64_v1_0 : Pat := Pat.mk [(1, .fn 66 [] [.ipc (.int .i64)]), (5, .c (.sl0 0 (.list (.int .i64)))), (11, .c (.hole (.list (.list (.prod (.int .i64) (.int .i64)))))), (12, hzI), (13, hzI)] [(0, .arr (.list (.int .i64)) false)] [.slot 5] []
@[reducible] def x64_v1_0 : Outs := [(.exit 0, Pat.mk [(5, .c (.sl0 0 (.list (.int .i64))))] [(0, .arr (.list (.int .i64)) false)] [.slot 5] [])]
noncomputable def b64_v1_0 : D prog 39 none 0 := (.seq (.reg [oo 14 (.bin .lss (.t 13) (.t 12))]) (.seq (.cond ( .t 14) .skip (.exit 0)) (.seq (.block 1 (.seq (.reg [om 15 13, oo 16 (.idx 1 (.t 11) (.t 13)), ol 17 16, om 6 15, om 7 17]) (.seq (.reg [oo 18 (.bslice (.int .i64) []), om 8 18]) (.seq (.seq (.reg [om 19 7, oo 20 (.len (.t 19)), oo 21 (.mv (ki 0))]) (.block 2 (.loop L64_v1_1))) (.reg [om 33 5, om 34 8, oo 35 (.bslice (.list (.int .i64)) [.t 34]), oo 36 (.append 1 (.t 33) (.t 35)), om 5 36]))))) (.reg [oo 37 (.bin .add (.t 13) (ki 1)), om 13 37]))))
noncomputable def g64_v1_0 (v1_0 : Int) (nv5 : Nat) (v11 : List (List (Int × Int))) (v12 : Int) (v13 : Int) (b0 : List (List Int)) : Option ((Int × Nat × (List (List (Int × Int))) × Int × Int × List (List Int) × Unit) ⊕ ((Nat × List (List Int) × Unit))) :=
 brO (decide (v13 < v12)) (
 need (inb v13 (((v11).length : Nat) : Int)) (
 bindO (iter (fun x => g64_v1_1 x.1 x.2.1 x.2.2.1 x.2.2.2.1 x.2.2.2.2.1 x.2.2.2.2.2.1 x.2.2.2.2.2.2.1 x.2.2.2.2.2.2.2.1 x.2.2.2.2.2.2.2.2.1 x.2.2.2.2.2.2.2.2.2.1 x.2.2.2.2.2.2.2.2.2.2.1 x.2.2.2.2.2.2.2.2.2.2.2.1) (v1_0, (nv5, (v13, ((0 : Nat), (v11, (v12, (v13, (((v11).getD (Int.toNat v13) []), ((((((v11).getD (Int.toNat v13) [])).length : Nat) : Int), ((0 : Int), (b0, ([], ()))))))))))))) fun z1 =>
 need (decide ((z1.2.1 + ((((((((z1.2.2.2.2.2.2.2.1).drop (0 : Nat)).take z1.2.2.1) :: [])).drop (0 : Nat)).take (1 : Nat))).length) < bigL)) (
 need (rng .i64 (z1.2.2.2.2.2.1 + (1 : Int))) (
 some (.inl (z1.1, ((z1.2.1 + ((((((((z1.2.2.2.2.2.2.2.1).drop (0 : Nat)).take z1.2.2.1) :: [])).drop (0 : Nat)).take (1 : Nat))).length), (z1.2.2.2.1, (z1.2.2.2.2.1, ((z1.2.2.2.2.2.1 + (1 : Int)), (((((z1.2.2.2.2.2.2.1).drop (0 : Nat)).take z1.2.1) ++ (((((((z1.2.2.2.2.2.2.2.1).drop (0 : Nat)).take z1.2.2.1) :: [])).drop (0 : Nat)).take (1 : Nat))), ()))))))))))) (
 some (.inr (nv5, (b0, ()))))
def Cg64_v1_0 (v1_0 : Int) (nv5 : Nat) (v11 : List (List (Int × Int))) (v12 : Int) (v13 : Int) (b0 : List (List Int)) : Option ((Int × Nat × (List (List (Int × Int))) × Int × Int × List (List Int) × Unit) ⊕ ((Nat × List (List Int) × Unit))) :=
 brC (decide (v13 < v12)) (
 needC (inb v13 (((v11).length : Nat) : Int)) (
 bindC (iterF (fun x => Cg64_v1_1 x.1 x.2.1 x.2.2.1 x.2.2.2.1 x.2.2.2.2.1 x.2.2.2.2.2.1 x.2.2.2.2.2.2.1 x.2.2.2.2.2.2.2.1 x.2.2.2.2.2.2.2.2.1 x.2.2.2.2.2.2.2.2.2.1 x.2.2.2.2.2.2.2.2.2.2.1 x.2.2.2.2.2.2.2.2.2.2.2.1) 1000000 (v1_0, (nv5, (v13, ((0 : Nat), (v11, (v12, (v13, (((v11).getD (Int.toNat v13) []), ((((((v11).getD (Int.toNat v13) [])).length : Nat) : Int), ((0 : Int), (b0, ([], ()))))))))))))) fun z1 =>
 needC (decide ((z1.2.1 + ((((((((z1.2.2.2.2.2.2.2.1).drop (0 : Nat)).take z1.2.2.1) :: [])).drop (0 : Nat)).take (1 : Nat))).length) < bigL)) (
 needC (rng .i64 (z1.2.2.2.2.2.1 + (1 : Int))) (
 some (.inl (z1.1, ((z1.2.1 + ((((((((z1.2.2.2.2.2.2.2.1).drop (0 : Nat)).take z1.2.2.1) :: [])).drop (0 : Nat)).take (1 : Nat))).length), (z1.2.2.2.1, (z1.2.2.2.2.1, ((z1.2.2.2.2.2.1 + (1 : Int)), (((((z1.2.2.2.2.2.2.1).drop (0 : Nat)).take z1.2.1) ++ (((((((z1.2.2.2.2.2.2.2.1).drop (0 : Nat)).take z1.2.2.1) :: [])).drop (0 : Nat)).take (1 : Nat))), ()))))))))))) (
 some (.inr (nv5, (b0, ()))))
theorem Cg64_v1_0_le (v1_0 : Int) (nv5 : Nat) (v11 : List (List (Int × Int))) (v12 : Int) (v13 : Int) (b0 : List (List Int)) : Le (Cg64_v1_0 v1_0 nv5 v11 v12 v13 b0) (g64_v1_0 v1_0 nv5 v11 v12 v13 b0) := (Le.br (Le.nd (Le.bd (Le.iter fun x => Cg64_v1_1_le ..) fun z1 => (Le.nd (Le.nd Le.r)))) Le.r)
noncomputable def L64_v1_0 : LoopS prog 39 none 0 := mkLoop mixed cx64_v1 cx64_v1_ok [] rfl p64_v1_0 x64_v1_0 rfl (b64_v1_0) (fun x => g64_v1_0 x.1 x.2.1 x.2.2.1 x.2.2.2.1 x.2.2.2.2.1 x.2.2.2.2.2.1) (by intro x; kernel_rfl)
noncomputable def dd64_v1 : D prog 39 none 0 := (.seq (.reg [oo 4 (.mv (.c .nsl))]) (.seq (.reg [oo 5 (.mv (.c .nsl))]) (.seq (.seq (.reg [om 11 0, oo 12 (.len (.t 11)), oo 13 (.mv (ki 0))]) (.block 0 (.loop L64_v1_0))) (.seq (.reg [om 38 5, om 4 38]) .ret))))
noncomputable def F64_v1 (a0 : List (List (Int × Int))) (a1_0 : Int) : Option (List (List Int) × Unit) :=
 bindO (iter (fun x => g64_v1_0 x.1 x.2.1 x.2.2.1 x.2.2.2.1 x.2.2.2.2.1 x.2.2.2.2.2.1) (a1_0, ((0 : Nat), (a0, ((((a0).length : Nat) : Int), ((0 : Int), ([], ()))))))) fun z2 =>
 some ((((z2.2.1).drop (0 : Nat)).take z2.1), ())
def CF64_v1 (a0 : List (List (Int × Int))) (a1_0 : Int) : Option (List (List Int) × Unit) :=
 bindC (iterF (fun x => Cg64_v1_0 x.1 x.2.1 x.2.2.1 x.2.2.2.1 x.2.2.2.2.1 x.2.2.2.2.2.1) 1000000 (a1_0, ((0 : Nat), (a0, ((((a0).length : Nat) : Int), ((0 : Int), ([], ()))))))) fun z2 =>
 some ((((z2.2.1).drop (0 : Nat)).take z2.1), ())
theorem CF64_v1_le (a0 : List (List (Int × Int))) (a1_0 : Int) : Le (CF64_v1 a0 a1_0) (F64_v1 a0 a1_0) := (Le.bd (Le.iter fun x => Cg64_v1_0_le ..) fun z2 => Le.r)
theorem c64_v1_ok : trF prog f64 = some ⟨39, 2, dd64_v1.er, [.t 4], [some (.list (.list (.int .i64)))]⟩ := by kernel_rfl
noncomputable def ct64_v1 : Ct := ⟨64, [.c (.hole (.list (.list (.prod (.int .i64) (.int .i64))))), .fn 66 [] [.ipc (.int .i64)]], .c (.hole (.list (.list (.int .i64)))), fun x => F64_v1 x.1 x.2.1⟩
theorem ct64_v1_ok : ct64_v1.Ok prog := ct_ok mixed cx64_v1_ok func64 c64_v1_ok (enters_of func64 rfl rfl) dd64_v1 rfl rfl (fun x => by kernel_rfl)

/- 78 -/
noncomputable def cx78 : Cx := mkCxH [] []
theorem cx78_ok : cx78.Ok prog := mkCxH_ok trivial trivial
noncomputable def dd78 : D prog 9 none 0 := (.seq (.reg [oo 4 (.mv (ki 0))]) (.seq (.seq (.reg [om 5 0, ol 6 1, oo 7 (.bin .eql (.t 5) (.t 6))]) (.cond ( .t 7) (.seq (.reg [ol 8 2, om 4 8]) .ret) .skip)) (.seq (.reg [oo 4 (.mv (ki 0))]) .ret)))
noncomputable def F78 (a0 : Int) (a1 : Int) (a2 : Int) : Option (Int × Unit) :=
 brO (a0 == a1) (
 some (a2, ())) (
 some ((0 : Int), ()))
def CF78 (a0 : Int) (a1 : Int) (a2 : Int) : Option (Int × Unit) :=
 brC (a0 == a1) (
 some (a2, ())) (
 some ((0 : Int), ()))
theorem CF78_le (a0 : Int) (a1 : Int) (a2 : Int) : Le (CF78 a0 a1 a2) (F78 a0 a1 a2) := (Le.br Le.r Le.r)
theorem c78_ok : trF prog f78 = some ⟨9, 3, dd78.er, [.t 4], [some (.int .i64)]⟩ := by kernel_rfl
noncomputable def ct78 : Ct := ⟨78, [.c (.hole (.int .i64)), .c (.ipc (.int .i64)), .c (.ipc (.int .i64))], .c (.hole (.int .i64)), fun x => F78 x.1 x.2.1 x.2.2.1⟩
theorem ct78_ok : ct78.Ok prog := ct_ok mixed cx78_ok func78 c78_ok (enters_of func78 rfl rfl) dd78 rfl rfl (fun x => by kernel_rfl)

/- 75 -/
noncomputable def cx75_v1 : Cx := mkCxH [ct78, ct76] []
theorem cx75_v1_ok : cx75_v1.Ok prog := mkCxH_ok ⟨ct78_ok, ct76_ok, trivial⟩ trivial
noncomputable def dd75_v1 : D prog 30 none 0 := (.seq (.reg [oo 3 (.box (.t 0)), oo 4 (.box (.t 1)), oo 5 (.mv (ki 0))]) (.seq (.seq (.reg [oo 6 (.load true 2 (.t 3)), oo 7 (.load true 2 (.t 4)), oo 8 (.eqs false [.i, .i] (.t 6) (.t 7))]) (.cond ( .t 8) (.seq (.reg [oo 5 (.mv (ki 0))]) .ret) .skip)) (.seq (.draw [[], [0], [], [2], [0, 1, 2, 3], [], [], [6], [5, 6, 7], [], [], [10], [5, 6, 7, 8, 9, 10, 11], [5, 6, 7, 8, 9, 10, 11, 12], [], [14], [], [16], [14, 15, 16, 17], [0, 1, 2, 3, 4, 5, 6, 7, 8, 9, 10, 11, 12, 13, 14, 15, 16, 17, 18], [0, 1, 2, 3, 4, 5, 6, 7, 8, 9, 10, 11, 12, 13, 14, 15, 16, 17, 18, 19], [0, 1, 2, 3, 4, 5, 6, 7, 8, 9, 10, 11, 12, 13, 14, 15, 16, 17, 18, 19, 20]] [oo 9 (.fld 0 [false] (.t 4)), ol 10 9, oo 11 (.fld 0 [false] (.t 3)), ol 12 11, oo 13 (.bin .sub (.t 10) (.t 12)), ol 14 2, oo 15 (.fld 1 [true] (.t 4)), ol 16 15, .call (some 17) none (.t 14) [.t 16] [some (.int .i64)], ol 18 2, oo 19 (.fld 1 [true] (.t 3)), ol 20 19, .call (some 21) none (.t 18) [.t 20] [some (.int .i64)], oo 22 (.bin .sub (.t 17) (.t 21)), oo 23 (.fld 1 [true] (.t 3)), ol 24 23, oo 25 (.fld 1 [true] (.t 4)), ol 26 25, oo 27 (.bin .sub (.t 24) (.t 26)), oo 28 (.bslice (.int .i64) [.t 13, .t 22, .t 27]), .call (some 29) none (.c (.fn 76 [] [])) [.t 28] [some (.list (.int .i64))], om 5 29]) .ret)))
noncomputable def F75_v1 (a0 : Int × Int) (a1 : Int × Int) (a2c0c0 : Int) (a2c0c1 : Int) : Option (Int × Unit) :=
 brO ((a0.1 == a1.1) && ((a0.2 == a1.2) && true)) (
 some ((0 : Int), ())) (
 need (rng .i64 (a1.1 - a0.1)) (
 bindO (F78 a1.2 a2c0c0 a2c0c1) fun y0 =>
 bindO (F78 a0.2 a2c0c0 a2c0c1) fun y1 =>
 need (rng .i64 (y0.1 - y1.1)) (
 need (rng .i64 (a0.2 - a1.2)) (
 bindO (F76 (((((a1.1 - a0.1) :: ((y0.1 - y1.1) :: ((a0.2 - a1.2) :: [])))).drop (0 : Nat)).take (3 : Nat))) fun y2 =>
 some (y2.1, ())))))
def CF75_v1 (a0 : Int × Int) (a1 : Int × Int) (a2c0c0 : Int) (a2c0c1 : Int) : Option (Int × Unit) :=
 brC ((a0.1 == a1.1) && ((a0.2 == a1.2) && true)) (
 some ((0 : Int), ())) (
 needC (rng .i64 (a1.1 - a0.1)) (
 bindC (CF78 a1.2 a2c0c0 a2c0c1) fun y0 =>
 bindC (CF78 a0.2 a2c0c0 a2c0c1) fun y1 =>
 needC (rng .i64 (y0.1 - y1.1)) (
 needC (rng .i64 (a0.2 - a1.2)) (
 bindC (CF76 (((((a1.1 - a0.1) :: ((y0.1 - y1.1) :: ((a0.2 - a1.2) :: [])))).drop (0 : Nat)).take (3 : Nat))) fun y2 =>
 some (y2.1, ())))))
theorem CF75_v1_le (a0 : Int × Int) (a1 : Int × Int) (a2c0c0 : Int) (a2c0c1 : Int) : Le (CF75_v1 a0 a1 a2c0c0 a2c0c1) (F75_v1 a0 a1 a2c0c0 a2c0c1) := (Le.br Le.r (Le.nd (Le.bd (CF78_le ..) fun y0 => (Le.bd (CF78_le ..) fun y1 => (Le.nd (Le.nd (Le.bd (CF76_le ..) fun y2 => Le.r)))))))
theorem c75_v1_ok : trF prog f75 = some ⟨30, 3, dd75_v1.er, [.t 5], [some (.int .i64)]⟩ := by kernel_rfl
noncomputable def ct75_v1 : Ct := ⟨75, [.c (.hole (.prod (.int .i64) (.int .i64))), .c (.hole (.prod (.int .i64) (.int .i64))), .c (.ipcs (.cons (.fn 78 .nil (.cons (.ipc (.int .i64)) (.cons (.ipc (.int .i64)) .nil))) .nil))], .c (.hole (.int .i64)), fun x => F75_v1 x.1 x.2.1 x.2.2.1 x.2.2.2.1⟩
theorem ct75_v1_ok : ct75_v1.Ok prog := ct_ok mixed cx75_v1_ok func75 c75_v1_ok (enters_of func75 rfl rfl) dd75_v1 rfl rfl (fun x => by kernel_rfl)

/- 81, lent -/
@[reducible] def pH81_v3 : Pat := Pat.mk [(0, .c (.sl0 0 (.prod (.int .i64) (.int .i64)))), (1, hzI), (2, hzI), (3, .fn 75 [] [.ptr 1 0])] [(0, .arr (.prod (.int .i64) (.int .i64)) false), (1, .cells [.fn 78 .nil (.cons (.ipc (.int .i64)) (.cons (.ipc (.int .i64)) .nil))] false)] [.slot 0, .part 3 0] []
@[reducible] def qH81_v3 : Pat := Pat.mk [(0, .c .any)] [(1, .cells [.fn 78 .nil (.cons (.ipc (.int .i64)) (.cons (.ipc (.int .i64)) .nil))] false), (0, .arr (.prod (.int .i64) (.int .i64)) false)] [] []
noncomputable def cxH81_v3 : Cx := mkCxH [ct75_v1] []
theorem cxH81_v3_ok : cxH81_v3.Ok prog := mkCxH_ok ⟨ct75_v1_ok, trivial⟩ trivial
@[reducible] def pH81_v3_1 : Pat := Pat.mk [(0, .c (.sl0 0 (.prod (.int .i64) (.int .i64)))), (1, hzI), (2, hzI), (3, .fn 75 [] [.ptr 1 0]), (8, hzI), (9, hzI)] [(0, .arr (.prod (.int .i64) (.int .i64)) false), (1, .cells [.fn 78 .nil (.cons (.ipc (.int .i64)) (.cons (.ipc (.int .i64)) .nil))] false)] [] []
@[reducible] def xH81_v3_1 : Outs := [(.exit 2, Pat.mk [(0, .c (.sl0 0 (.prod (.int .i64) (.int .i64)))), (1, hzI), (2, hzI), (3, .fn 75 [] [.ptr 1 0]), (8, hzI)] [(0, .arr (.prod (.int .i64) (.int .i64)) false), (1, .cells [.fn 78 .nil (.cons (.ipc (.int .i64)) (.cons (.ipc (.int .i64)) .nil))] false)] [] [])]
noncomputable def bH81_v3_1 : D prog 53 none 2 := (.seq (.seq (.draw [[], [], [0, 1], [0, 1, 2], [0, 1, 2, 3], [0, 1, 2, 3], [0, 1, 2, 3], [0, 1, 2, 3, 5, 6], [0, 1, 2, 3, 5, 6, 7], [0, 1, 2, 3], [0, 1, 2, 3], [0, 1, 2, 3, 10], [0, 1, 2, 3, 9, 10, 11], [0, 1, 2, 3, 9, 10, 11, 12], [0, 1, 2, 3, 4, 5, 6, 7, 8, 9, 10, 11, 12, 13], [0, 1, 2, 3, 4, 5, 6, 7, 8, 9, 10, 11, 12, 13, 14], [0, 1, 2, 3, 4, 5, 6, 7, 8, 9, 10, 11, 12, 13, 14, 15]] [om 18 9, om 19 1, oo 20 (.bin .gtr (.t 18) (.t 19)), om 21 20, og 22 21 true (.mv (.t 3)), og 23 21 true (.mv (.t 0)), og 24 21 true (.mv (.t 9)), og 25 21 true (.idx 2 (.t 23) (.t 24)), og 26 21 true (.load true 2 (.t 25)), og 27 21 true (.mv (.t 0)), og 28 21 true (.mv (.t 9)), og 29 21 true (.bin .sub (.t 28) (ki 1)), og 30 21 true (.idx 2 (.t 27) (.t 29)), og 31 21 true (.load true 2 (.t 30)), .call (some 32) (some (21, true)) (.t 22) [.t 26, .t 31] [some (.prod (.int .i64) (.int .i64)), some (.prod (.int .i64) (.int .i64))], og 33 21 true (.bin .lss (.t 32) (ki 0)), oo 34 (.pick (.t 21) (.t 33) (.c (.tf false)))]) (.cond ( .t 34) .skip (.exit 2))) (.seq (.block 3 (.draw [[], [], [], [], [3], [], [], [6], [5, 6, 7], [5, 6, 7, 8], [], [], [10, 11], [10, 11, 12], [0, 1, 5, 6, 7, 8, 9, 10, 11, 12, 13], [0, 1, 5, 6, 7, 8, 9, 10, 11, 12, 13, 14], [0, 1, 2, 3, 4, 5, 6, 7, 8, 9, 10, 11, 12, 13, 14, 15], [0, 1, 2, 3, 4, 5, 6, 7, 8, 9, 10, 11, 12, 13, 14, 15, 16]] [om 37 0, om 38 9, om 39 0, om 40 9, oo 41 (.bin .sub (.t 40) (ki 1)), om 42 0, om 43 9, oo 44 (.bin .sub (.t 43) (ki 1)), oo 45 (.idx 2 (.t 42) (.t 44)), oo 46 (.load true 2 (.t 45)), om 47 0, om 48 9, oo 49 (.idx 2 (.t 47) (.t 48)), oo 50 (.load true 2 (.t 49)), oo 51 (.idx 2 (.t 37) (.t 38)), .op none none (.store 2 (.t 51) (.t 46)), oo 52 (.idx 2 (.t 39) (.t 41)), .op none none (.store 2 (.t 52) (.t 50))])) (.reg [om 35 9, oo 36 (.bin .sub (.t 35) (ki 1)), om 9 36])))
noncomputable def gH81_v3_1 (nv0 : Nat) (v1 : Int) (v2 : Int) (v8 : Int) (v9 : Int) (b0 : List (Int × Int)) (c1_0c0 : Int) (c1_0c1 : Int) : Option ((Nat × Int × Int × Int × Int × (List (Int × Int)) × Int × Int × Unit) ⊕ ((Nat × Int × Int × Int × (List (Int × Int)) × Int × Int × Unit))) :=
 brO (decide (v1 < v9)) (
 need (inb v9 ((nv0 : Nat) : Int)) (
 need (decide (((0 : Nat) + (Int.toNat v9)) < (b0).length)) (
 need (rng .i64 (v9 - (1 : Int))) (
 need (inb (v9 - (1 : Int)) ((nv0 : Nat) : Int)) (
 need (decide (((0 : Nat) + (Int.toNat (v9 - (1 : Int)))) < (b0).length)) (
 bindO (F75_v1 (((b0).getD ((0 : Nat) + (Int.toNat v9)) ((0 : Int), (0 : Int))).1, ((b0).getD ((0 : Nat) + (Int.toNat v9)) ((0 : Int), (0 : Int))).2) (((b0).getD ((0 : Nat) + (Int.toNat (v9 - (1 : Int)))) ((0 : Int), (0 : Int))).1, ((b0).getD ((0 : Nat) + (Int.toNat (v9 - (1 : Int)))) ((0 : Int), (0 : Int))).2) c1_0c0 c1_0c1) fun y0 =>
 brO (decide (y0.1 < (0 : Int))) (
 need (rng .i64 (v9 - (1 : Int))) (
 need (rng .i64 (v9 - (1 : Int))) (
 need (inb (v9 - (1 : Int)) ((nv0 : Nat) : Int)) (
 need (decide (((0 : Nat) + (Int.toNat (v9 - (1 : Int)))) < (b0).length)) (
 need (inb v9 ((nv0 : Nat) : Int)) (
 need (decide (((0 : Nat) + (Int.toNat v9)) < (b0).length)) (
 need (inb v9 ((nv0 : Nat) : Int)) (
 need (decide (((0 : Nat) + (Int.toNat v9)) < (b0).length)) (
 need (inb (v9 - (1 : Int)) ((nv0 : Nat) : Int)) (
 need (decide (((0 : Nat) + (Int.toNat (v9 - (1 : Int)))) < (((b0).set ((0 : Nat) + (Int.toNat v9)) (((b0).getD ((0 : Nat) + (Int.toNat (v9 - (1 : Int)))) ((0 : Int), (0 : Int))).1, ((b0).getD ((0 : Nat) + (Int.toNat (v9 - (1 : Int)))) ((0 : Int), (0 : Int))).2))).length)) (
 need (rng .i64 (v9 - (1 : Int))) (
 some (.inl (nv0, (v1, (v2, (v8, ((v9 - (1 : Int)), (((((b0).set ((0 : Nat) + (Int.toNat v9)) (((b0).getD ((0 : Nat) + (Int.toNat (v9 - (1 : Int)))) ((0 : Int), (0 : Int))).1, ((b0).getD ((0 : Nat) + (Int.toNat (v9 - (1 : Int)))) ((0 : Int), (0 : Int))).2))).set ((0 : Nat) + (Int.toNat (v9 - (1 : Int)))) (((b0).getD ((0 : Nat) + (Int.toNat v9)) ((0 : Int), (0 : Int))).1, ((b0).getD ((0 : Nat) + (Int.toNat v9)) ((0 : Int), (0 : Int))).2)), (c1_0c0, (c1_0c1, ()))))))))))))))))))))) (
 some (.inr (nv0, (v1, (v2, (v8, (b0, (c1_0c0, (c1_0c1, ()))))))))))))))) (
 some (.inr (nv0, (v1, (v2, (v8, (b0, (c1_0c0, (c1_0c1, ())))))))))
def CgH81_v3_1 (nv0 : Nat) (v1 : Int) (v2 : Int) (v8 : Int) (v9 : Int) (b0 : List (Int × Int)) (c1_0c0 : Int) (c1_0c1 : Int) : Option ((Nat × Int × Int × Int × Int × (List (Int × Int)) × Int × Int × Unit) ⊕ ((Nat × Int × Int × Int × (List (Int × Int)) × Int × Int × Unit))) :=
 brC (decide (v1 < v9)) (
 needC (inb v9 ((nv0 : Nat) : Int)) (
 needC (decide (((0 : Nat) + (Int.toNat v9)) < (b0).length)) (
 needC (rng .i64 (v9 - (1 : Int))) (
 needC (inb (v9 - (1 : Int)) ((nv0 : Nat) : Int)) (
 needC (decide (((0 : Nat) + (Int.toNat (v9 - (1 : Int)))) < (b0).length)) (
 bindC (CF75_v1 (((b0).getD ((0 : Nat) + (Int.toNat v9)) ((0 : Int), (0 : Int))).1, ((b0).getD ((0 : Nat) + (Int.toNat v9)) ((0 : Int), (0 : Int))).2) (((b0).getD ((0 : Nat) + (Int.toNat (v9 - (1 : Int)))) ((0 : Int), (0 : Int))).1, ((b0).getD ((0 : Nat) + (Int.toNat (v9 - (1 : Int)))) ((0 : Int), (0 : Int))).2) c1_0c0 c1_0c1) fun y0 =>
 brC (decide (y0.1 < (0 : Int))) (
 needC (rng .i64 (v9 - (1 : Int))) (
 needC (rng .i64 (v9 - (1 : Int))) (
 needC (inb (v9 - (1 : Int)) ((nv0 : Nat) : Int)) (
 needC (decide (((0 : Nat) + (Int.toNat (v9 - (1 : Int)))) < (b0).length)) (
 needC (inb v9 ((nv0 : Nat) : Int)) (
 needC (decide (((0 : Nat) + (Int.toNat v9)) < (b0).length)) (
 needC (inb v9 ((nv0 : Nat) : Int)) (
 needC (decide (((0 : Nat) + (Int.toNat v9)) < (b0).length)) (
 needC (inb (v9 - (1 : Int)) ((nv0 : Nat) : Int)) (
 needC (decide (((0 : Nat) + (Int.toNat (v9 - (1 : Int)))) < (((b0).set ((0 : Nat) + (Int.toNat v9)) (((b0).getD ((0 : Nat) + (Int.toNat (v9 - (1 : Int)))) ((0 : Int), (0 : Int))).1, ((b0).getD ((0 : Nat) + (Int.toNat (v9 - (1 : Int)))) ((0 : Int), (0 : Int))).2))).length)) (
 needC (rng .i64 (v9 - (1 : Int))) (
 some (.inl (nv0, (v1, (v2, (v8, ((v9 - (1 : Int)), (((((b0).set ((0 : Nat) + (Int.toNat v9)) (((b0).getD ((0 : Nat) + (Int.toNat (v9 - (1 : Int)))) ((0 : Int), (0 : Int))).1, ((b0).getD ((0 : Nat) + (Int.toNat (v9 - (1 : Int)))) ((0 : Int), (0 : Int))).2))).set ((0 : Nat) + (Int.toNat (v9 - (1 : Int)))) (((b0).getD ((0 : Nat) + (Int.toNat v9)) ((0 : Int), (0 : Int))).1, ((b0).getD ((0 : Nat) + (Int.toNat v9)) ((0 : Int), (0 : Int))).2)), (c1_0c0, (c1_0c1, ()))))))))))))))))))))) (
 some (.inr (nv0, (v1, (v2, (v8, (b0, (c1_0c0, (c1_0c1, ()))))))))))))))) (
 some (.inr (nv0, (v1, (v2, (v8, (b0, (c1_0c0, (c1_0c1, ())))))))))
theorem CgH81_v3_1_le (nv0 : Nat) (v1 : Int) (v2 : Int) (v8 : Int) (v9 : Int) (b0 : List (Int × Int)) (c1_0c0 : Int) (c1_0c1 : Int) : Le (CgH81_v3_1 nv0 v1 v2 v8 v9 b0 c1_0c0 c1_0c1) (gH81_v3_1 nv0 v1 v2 v8 v9 b0 c1_0c0 c1_0c1) := (Le.br (Le.nd (Le.nd (Le.nd (Le.nd (Le.nd (Le.bd (CF75_v1_le ..) fun y0 => (Le.br (Le.nd (Le.nd (Le.nd (Le.nd (Le.nd (Le.nd (Le.nd (Le.nd (Le.nd (Le.nd (Le.nd Le.r))))))))))) Le.r))))))) Le.r)
noncomputable def LH81_v3_1 : LoopS prog 53 none 2 := mkLoop mixed cxH81_v3 cxH81_v3_ok [0, 1] rfl pH81_v3_1 xH81_v3_1 rfl (bH81_v3_1) (fun x => gH81_v3_1 x.1 x.2.1 x.2.2.1 x.2.2.2.1 x.2.2.2.2.1 x.2.2.2.2.2.1 x.2.2.2.2.2.2.1 x.2.2.2.2.2.2.2.1) (by intro x; kernel_rfl)
@[reducible] def pH81_v3_0 : Pat := Pat.mk [(0, .c (.sl0 0 (.prod (.int .i64) (.int .i64)))), (1, hzI), (2, hzI), (3, .fn 75 [] [.ptr 1 0]), (8, hzI)] [(0, .arr (.prod (.int .i64) (.int .i64)) false), (1, .cells [.fn 78 .nil (.cons (.ipc (.int .i64)) (.cons (.ipc (.int .i64)) .nil))] false)] [] []
@[reducible] def xH81_v3_0 : Outs := [(.exit 0, Pat.mk [] [(1, .cells [.fn 78 .nil (.cons (.ipc (.int .i64)) (.cons (.ipc (.int .i64)) .nil))] false), (0, .arr (.prod (.int .i64) (.int .i64)) false)] [] [])]
noncomputable def bH81_v3_0 : D prog 53 none 2 := (.seq (.seq (.reg [om 12 8, om 13 2, oo 14 (.bin .lss (.t 12) (.t 13))]) (.cond ( .t 14) .skip (.exit 0))) (.seq (.block 1 (.seq (.reg [om 17 8, om 9 17]) (.block 2 (.loop LH81_v3_1)))) (.reg [om 15 8, oo 16 (.bin .add (.t 15) (ki 1)), om 8 16])))
noncomputable def gH81_v3_0 (nv0 : Nat) (v1 : Int) (v2 : Int) (v8 : Int) (b0 : List (Int × Int)) (c1_0c0 : Int) (c1_0c1 : Int) : Option ((Nat × Int × Int × Int × (List (Int × Int)) × Int × Int × Unit) ⊕ ((Int × Int × (List (Int × Int)) × Unit))) :=
 brO (decide (v8 < v2)) (
 bindO (iter (fun x => gH81_v3_1 x.1 x.2.1 x.2.2.1 x.2.2.2.1 x.2.2.2.2.1 x.2.2.2.2.2.1 x.2.2.2.2.2.2.1 x.2.2.2.2.2.2.2.1) (nv0, (v1, (v2, (v8, (v8, (b0, (c1_0c0, (c1_0c1, ()))))))))) fun z1 =>
 need (rng .i64 (z1.2.2.2.1 + (1 : Int))) (
 some (.inl (z1.1, (z1.2.1, (z1.2.2.1, ((z1.2.2.2.1 + (1 : Int)), (z1.2.2.2.2.1, (z1.2.2.2.2.2.1, (z1.2.2.2.2.2.2.1, ())))))))))) (
 some (.inr (c1_0c0, (c1_0c1, (b0, ())))))
def CgH81_v3_0 (nv0 : Nat) (v1 : Int) (v2 : Int) (v8 : Int) (b0 : List (Int × Int)) (c1_0c0 : Int) (c1_0c1 : Int) : Option ((Nat × Int × Int × Int × (List (Int × Int)) × Int × Int × Unit) ⊕ ((Int × Int × (List (Int × Int)) × Unit))) :=
 brC (decide (v8 < v2)) (
 bindC (iterF (fun x => CgH81_v3_1 x.1 x.2.1 x.2.2.1 x.2.2.2.1 x.2.2.2.2.1 x.2.2.2.2.2.1 x.2.2.2.2.2.2.1 x.2.2.2.2.2.2.2.1) 1000000 (nv0, (v1, (v2, (v8, (v8, (b0, (c1_0c0, (c1_0c1, ()))))))))) fun z1 =>
 needC (rng .i64 (z1.2.2.2.1 + (1 : Int))) (
 some (.inl (z1.1, (z1.2.1, (z1.2.2.1, ((z1.2.2.2.1 + (1 : Int)), (z1.2.2.2.2.1, (z1.2.2.2.2.2.1, (z1.2.2.2.2.2.2.1, ())))))))))) (
 some (.inr (c1_0c0, (c1_0c1, (b0, ())))))
theorem CgH81_v3_0_le (nv0 : Nat) (v1 : Int) (v2 : Int) (v8 : Int) (b0 : List (Int × Int)) (c1_0c0 : Int) (c1_0c1 : Int) : Le (CgH81_v3_0 nv0 v1 v2 v8 b0 c1_0c0 c1_0c1) (gH81_v3_0 nv0 v1 v2 v8 b0 c1_0c0 c1_0c1) := (Le.br (Le.bd (Le.iter fun x => CgH81_v3_1_le ..) fun z1 => (Le.nd Le.r)) Le.r)
noncomputable def LH81_v3_0 : LoopS prog 53 none 2 := mkLoop mixed cxH81_v3 cxH81_v3_ok [0, 1] rfl pH81_v3_0 xH81_v3_0 rfl (bH81_v3_0) (fun x => gH81_v3_0 x.1 x.2.1 x.2.2.1 x.2.2.2.1 x.2.2.2.2.1 x.2.2.2.2.2.1 x.2.2.2.2.2.2.1) (by intro x; kernel_rfl)
noncomputable def ddH81_v3 : D prog 53 none 2 := (.seq (.reg [om 10 1, oo 11 (.bin .add (.t 10) (ki 1)), om 8 11]) (.block 0 (.loop LH81_v3_0)))
noncomputable def FH81_v3 (nv0 : Nat) (v1 : Int) (v2 : Int) (b0 : List (Int × Int)) (c1_0c0 : Int) (c1_0c1 : Int) : Option (Int × Int × (List (Int × Int)) × Unit) :=
 need (rng .i64 (v1 + (1 : Int))) (
 bindO (iter (fun x => gH81_v3_0 x.1 x.2.1 x.2.2.1 x.2.2.2.1 x.2.2.2.2.1 x.2.2.2.2.2.1 x.2.2.2.2.2.2.1) (nv0, (v1, (v2, ((v1 + (1 : Int)), (b0, (c1_0c0, (c1_0c1, ())))))))) fun z2 =>
 some (z2.1, (z2.2.1, (z2.2.2.1, ()))))
def CFH81_v3 (nv0 : Nat) (v1 : Int) (v2 : Int) (b0 : List (Int × Int)) (c1_0c0 : Int) (c1_0c1 : Int) : Option (Int × Int × (List (Int × Int)) × Unit) :=
 needC (rng .i64 (v1 + (1 : Int))) (
 bindC (iterF (fun x => CgH81_v3_0 x.1 x.2.1 x.2.2.1 x.2.2.2.1 x.2.2.2.2.1 x.2.2.2.2.2.1 x.2.2.2.2.2.2.1) 1000000 (nv0, (v1, (v2, ((v1 + (1 : Int)), (b0, (c1_0c0, (c1_0c1, ())))))))) fun z2 =>
 some (z2.1, (z2.2.1, (z2.2.2.1, ()))))
theorem CFH81_v3_le (nv0 : Nat) (v1 : Int) (v2 : Int) (b0 : List (Int × Int)) (c1_0c0 : Int) (c1_0c1 : Int) : Le (CFH81_v3 nv0 v1 v2 b0 c1_0c0 c1_0c1) (FH81_v3 nv0 v1 v2 b0 c1_0c0 c1_0c1) := (Le.nd (Le.bd (Le.iter fun x => CgH81_v3_0_le ..) fun z2 => Le.r))
theorem cH81_v3_ok : trF prog f81 = some ⟨53, 4, ddH81_v3.er, [], []⟩ := by kernel_rfl
noncomputable def ht81_v3 : Ht := ⟨81, pH81_v3, qH81_v3, (fun x => FH81_v3 x.1 x.2.1 x.2.2.1 x.2.2.2.1 x.2.2.2.2.1 x.2.2.2.2.2.1)⟩
theorem ht81_v3_ok : ht81_v3.Ok prog := ht_ok mixed cxH81_v3_ok rfl func81 cH81_v3_ok (enters_of func81 rfl rfl) ddH81_v3 rfl rfl rfl ⟨_, rfl⟩ rfl (pre := [0, 1]) rfl (fun x => by kernel_rfl)

/- 84, lent -/
@[reducible] def pH84_v3 : Pat := Pat.mk [(0, .c (.sl0 0 (.prod (.int .i64) (.int .i64)))), (1, hzI), (2, hzI), (3, hzI), (4, .fn 75 [] [.ptr 1 0])] [(0, .arr (.prod (.int .i64) (.int .i64)) false), (1, .cells [.fn 78 .nil (.cons (.ipc (.int .i64)) (.cons (.ipc (.int .i64)) .nil))] false)] [.slot 0, .part 4 0] []
@[reducible] def qH84_v3 : Pat := Pat.mk [(0, .c .any)] [(1, .cells [.fn 78 .nil (.cons (.ipc (.int .i64)) (.cons (.ipc (.int .i64)) .nil))] false), (0, .arr (.prod (.int .i64) (.int .i64)) false)] [] []
noncomputable def cxH84_v3 : Cx := mkCxH [] []
theorem cxH84_v3_ok : cxH84_v3.Ok prog := mkCxH_ok trivial trivial
@[reducible] def pH84_v3_0 : Pat := Pat.mk [(0, .c (.sl0 0 (.prod (.int .i64) (.int .i64)))), (1, hzI), (2, hzI), (3, hzI), (10, hzI)] [(0, .arr (.prod (.int .i64) (.int .i64)) false), (1, .cells [.fn 78 .nil (.cons (.ipc (.int .i64)) (.cons (.ipc (.int .i64)) .nil))] false)] [] []
@[reducible] def xH84_v3_0 : Outs := [(.exit 0, Pat.mk [] [(1, .cells [.fn 78 .nil (.cons (.ipc (.int .i64)) (.cons (.ipc (.int .i64)) .nil))] false), (0, .arr (.prod (.int .i64) (.int .i64)) false)] [] [])]
noncomputable def bH84_v3_0 : D prog 38 none 2 := (.seq (.seq (.reg [om 11 10, om 12 3, oo 13 (.bin .lss (.t 11) (.t 12))]) (.cond ( .t 13) .skip (.exit 0))) (.seq (.block 1 (.draw [[], [], [], [1, 2], [], [], [], [5, 6], [], [], [], [9, 10], [8, 9, 10, 11], [8, 9, 10, 11, 12], [], [], [], [15, 16], [14, 15, 16, 17], [14, 15, 16, 17, 18], [0, 1, 2, 3, 8, 9, 10, 11, 12, 13, 14, 15, 16, 17, 18, 19], [0, 1, 2, 3, 8, 9, 10, 11, 12, 13, 14, 15, 16, 17, 18, 19, 20], [0, 1, 2, 3, 4, 5, 6, 7, 8, 9, 10, 11, 12, 13, 14, 15, 16, 17, 18, 19, 20, 21], [0, 1, 2, 3, 4, 5, 6, 7, 8, 9, 10, 11, 12, 13, 14, 15, 16, 17, 18, 19, 20, 21, 22]] [om 16 0, om 17 1, om 18 10, oo 19 (.bin .add (.t 17) (.t 18)), om 20 0, om 21 2, om 22 10, oo 23 (.bin .add (.t 21) (.t 22)), om 24 0, om 25 2, om 26 10, oo 27 (.bin .add (.t 25) (.t 26)), oo 28 (.idx 2 (.t 24) (.t 27)), oo 29 (.load true 2 (.t 28)), om 30 0, om 31 1, om 32 10, oo 33 (.bin .add (.t 31) (.t 32)), oo 34 (.idx 2 (.t 30) (.t 33)), oo 35 (.load true 2 (.t 34)), oo 36 (.idx 2 (.t 16) (.t 19)), .op none none (.store 2 (.t 36) (.t 29)), oo 37 (.idx 2 (.t 20) (.t 23)), .op none none (.store 2 (.t 37) (.t 35))])) (.reg [om 14 10, oo 15 (.bin .add (.t 14) (ki 1)), om 10 15])))
noncomputable def gH84_v3_0 (nv0 : Nat) (v1 : Int) (v2 : Int) (v3 : Int) (v10 : Int) (b0 : List (Int × Int)) (c1_0c0 : Int) (c1_0c1 : Int) : Option ((Nat × Int × Int × Int × Int × (List (Int × Int)) × Int × Int × Unit) ⊕ ((Int × Int × (List (Int × Int)) × Unit))) :=
 brO (decide (v10 < v3)) (
 need (rng .i64 (v1 + v10)) (
 need (rng .i64 (v2 + v10)) (
 need (rng .i64 (v2 + v10)) (
 need (inb (v2 + v10) ((nv0 : Nat) : Int)) (
 need (decide (((0 : Nat) + (Int.toNat (v2 + v10))) < (b0).length)) (
 need (rng .i64 (v1 + v10)) (
 need (inb (v1 + v10) ((nv0 : Nat) : Int)) (
 need (decide (((0 : Nat) + (Int.toNat (v1 + v10))) < (b0).length)) (
 need (inb (v1 + v10) ((nv0 : Nat) : Int)) (
 need (decide (((0 : Nat) + (Int.toNat (v1 + v10))) < (b0).length)) (
 need (inb (v2 + v10) ((nv0 : Nat) : Int)) (
 need (decide (((0 : Nat) + (Int.toNat (v2 + v10))) < (((b0).set ((0 : Nat) + (Int.toNat (v1 + v10))) (((b0).getD ((0 : Nat) + (Int.toNat (v2 + v10))) ((0 : Int), (0 : Int))).1, ((b0).getD ((0 : Nat) + (Int.toNat (v2 + v10))) ((0 : Int), (0 : Int))).2))).length)) (
 need (rng .i64 (v10 + (1 : Int))) (
 some (.inl (nv0, (v1, (v2, (v3, ((v10 + (1 : Int)), (((((b0).set ((0 : Nat) + (Int.toNat (v1 + v10))) (((b0).getD ((0 : Nat) + (Int.toNat (v2 + v10))) ((0 : Int), (0 : Int))).1, ((b0).getD ((0 : Nat) + (Int.toNat (v2 + v10))) ((0 : Int), (0 : Int))).2))).set ((0 : Nat) + (Int.toNat (v2 + v10))) (((b0).getD ((0 : Nat) + (Int.toNat (v1 + v10))) ((0 : Int), (0 : Int))).1, ((b0).getD ((0 : Nat) + (Int.toNat (v1 + v10))) ((0 : Int), (0 : Int))).2)), (c1_0c0, (c1_0c1, ()))))))))))))))))))))))) (
 some (.inr (c1_0c0, (c1_0c1, (b0, ())))))
def CgH84_v3_0 (nv0 : Nat) (v1 : Int) (v2 : Int) (v3 : Int) (v10 : Int) (b0 : List (Int × Int)) (c1_0c0 : Int) (c1_0c1 : Int) : Option ((Nat × Int × Int × Int × Int × (List (Int × Int)) × Int × Int × Unit) ⊕ ((Int × Int × (List (Int × Int)) × Unit))) :=
 brC (decide (v10 < v3)) (
 needC (rng .i64 (v1 + v10)) (
 needC (rng .i64 (v2 + v10)) (
 needC (rng .i64 (v2 + v10)) (
 needC (inb (v2 + v10) ((nv0 : Nat) : Int)) (
 needC (decide (((0 : Nat) + (Int.toNat (v2 + v10))) < (b0).length)) (
 needC (rng .i64 (v1 + v10)) (
 needC (inb (v1 + v10) ((nv0 : Nat) : Int)) (
 needC (decide (((0 : Nat) + (Int.toNat (v1 + v10))) < (b0).length)) (
 needC (inb (v1 + v10) ((nv0 : Nat) : Int)) (
 needC (decide (((0 : Nat) + (Int.toNat (v1 + v10))) < (b0).length)) (
 needC (inb (v2 + v10) ((nv0 : Nat) : Int)) (
 needC (decide (((0 : Nat) + (Int.toNat (v2 + v10))) < (((b0).set ((0 : Nat) + (Int.toNat (v1 + v10))) (((b0).getD ((0 : Nat) + (Int.toNat (v2 + v10))) ((0 : Int), (0 : Int))).1, ((b0).getD ((0 : Nat) + (Int.toNat (v2 + v10))) ((0 : Int), (0 : Int))).2))).length)) (
 needC (rng .i64 (v10 + (1 : Int))) (
 some (.inl (nv0, (v1, (v2, (v3, ((v10 + (1 : Int)), (((((b0).set ((0 : Nat) + (Int.toNat (v1 + v10))) (((b0).getD ((0 : Nat) + (Int.toNat (v2 + v10))) ((0 : Int), (0 : Int))).1, ((b0).getD ((0 : Nat) + (Int.toNat (v2 + v10))) ((0 : Int), (0 : Int))).2))).set ((0 : Nat) + (Int.toNat (v2 + v10))) (((b0).getD ((0 : Nat) + (Int.toNat (v1 + v10))) ((0 : Int), (0 : Int))).1, ((b0).getD ((0 : Nat) + (Int.toNat (v1 + v10))) ((0 : Int), (0 : Int))).2)), (c1_0c0, (c1_0c1, ()))))))))))))))))))))))) (
 some (.inr (c1_0c0, (c1_0c1, (b0, ())))))
theorem CgH84_v3_0_le (nv0 : Nat) (v1 : Int) (v2 : Int) (v3 : Int) (v10 : Int) (b0 : List (Int × Int)) (c1_0c0 : Int) (c1_0c1 : Int) : Le (CgH84_v3_0 nv0 v1 v2 v3 v10 b0 c1_0c0 c1_0c1) (gH84_v3_0 nv0 v1 v2 v3 v10 b0 c1_0c0 c1_0c1) := (Le.br (Le.nd (Le.nd (Le.nd (Le.nd (Le.nd (Le.nd (Le.nd (Le.nd (Le.nd (Le.nd (Le.nd (Le.nd (Le.nd Le.r))))))))))))) Le.r)
noncomputable def LH84_v3_0 : LoopS prog 38 none 2 := mkLoop mixed cxH84_v3 cxH84_v3_ok [0, 1] rfl pH84_v3_0 xH84_v3_0 rfl (bH84_v3_0) (fun x => gH84_v3_0 x.1 x.2.1 x.2.2.1 x.2.2.2.1 x.2.2.2.2.1 x.2.2.2.2.2.1 x.2.2.2.2.2.2.1 x.2.2.2.2.2.2.2.1) (by intro x; kernel_rfl)
noncomputable def ddH84_v3 : D prog 38 none 2 := (.seq (.reg [oo 10 (.mv (ki 0))]) (.block 0 (.loop LH84_v3_0)))
noncomputable def FH84_v3 (nv0 : Nat) (v1 : Int) (v2 : Int) (v3 : Int) (b0 : List (Int × Int)) (c1_0c0 : Int) (c1_0c1 : Int) : Option (Int × Int × (List (Int × Int)) × Unit) :=
 bindO (iter (fun x => gH84_v3_0 x.1 x.2.1 x.2.2.1 x.2.2.2.1 x.2.2.2.2.1 x.2.2.2.2.2.1 x.2.2.2.2.2.2.1 x.2.2.2.2.2.2.2.1) (nv0, (v1, (v2, (v3, ((0 : Int), (b0, (c1_0c0, (c1_0c1, ()))))))))) fun z0 =>
 some (z0.1, (z0.2.1, (z0.2.2.1, ())))
def CFH84_v3 (nv0 : Nat) (v1 : Int) (v2 : Int) (v3 : Int) (b0 : List (Int × Int)) (c1_0c0 : Int) (c1_0c1 : Int) : Option (Int × Int × (List (Int × Int)) × Unit) :=
 bindC (iterF (fun x => CgH84_v3_0 x.1 x.2.1 x.2.2.1 x.2.2.2.1 x.2.2.2.2.1 x.2.2.2.2.2.1 x.2.2.2.2.2.2.1 x.2.2.2.2.2.2.2.1) 1000000 (nv0, (v1, (v2, (v3, ((0 : Int), (b0, (c1_0c0, (c1_0c1, ()))))))))) fun z0 =>
 some (z0.1, (z0.2.1, (z0.2.2.1, ())))
theorem CFH84_v3_le (nv0 : Nat) (v1 : Int) (v2 : Int) (v3 : Int) (b0 : List (Int × Int)) (c1_0c0 : Int) (c1_0c1 : Int) : Le (CFH84_v3 nv0 v1 v2 v3 b0 c1_0c0 c1_0c1) (FH84_v3 nv0 v1 v2 v3 b0 c1_0c0 c1_0c1) := (Le.bd (Le.iter fun x => CgH84_v3_0_le ..) fun z0 => Le.r)
theorem cH84_v3_ok : trF prog f84 = some ⟨38, 5, ddH84_v3.er, [], []⟩ := by kernel_rfl
noncomputable def ht84_v3 : Ht := ⟨84, pH84_v3, qH84_v3, (fun x => FH84_v3 x.1 x.2.1 x.2.2.1 x.2.2.2.1 x.2.2.2.2.1 x.2.2.2.2.2.1 x.2.2.2.2.2.2.1)⟩
theorem ht84_v3_ok : ht84_v3.Ok prog := ht_ok mixed cxH84_v3_ok rfl func84 cH84_v3_ok (enters_of func84 rfl rfl) ddH84_v3 rfl rfl rfl ⟨_, rfl⟩ rfl (pre := [0, 1]) rfl (fun x => by kernel_rfl)

/- 83, lent -/
@[reducible] def pH83_v3 : Pat := Pat.mk [(0, .c (.sl0 0 (.prod (.int .i64) (.int .i64)))), (1, hzI), (2, hzI), (3, hzI), (4, .fn 75 [] [.ptr 1 0])] [(0, .arr (.prod (.int .i64) (.int .i64)) false), (1, .cells [.fn 78 .nil (.cons (.ipc (.int .i64)) (.cons (.ipc (.int .i64)) .nil))] false)] [.slot 0, .part 4 0] []
@[reducible] def qH83_v3 : Pat := Pat.mk [(0, .c .any)] [(1, .cells [.fn 78 .nil (.cons (.ipc (.int .i64)) (.cons (.ipc (.int .i64)) .nil))] false), (0, .arr (.prod (.int .i64) (.int .i64)) false)] [] []
noncomputable def cxH83_v3 : Cx := mkCxH [] [ht84_v3]
theorem cxH83_v3_ok : cxH83_v3.Ok prog := mkCxH_ok trivial ⟨⟨ht84_v3_ok, rfl⟩, trivial⟩
@[reducible] def pH83_v3_0 : Pat := Pat.mk [(0, .c (.sl0 0 (.prod (.int .i64) (.int .i64)))), (2, hzI), (4, .fn 75 [] [.ptr 1 0]), (10, hzI), (11, hzI)] [(0, .arr (.prod (.int .i64) (.int .i64)) false), (1, .cells [.fn 78 .nil (.cons (.ipc (.int .i64)) (.cons (.ipc (.int .i64)) .nil))] false)] [] []
@[reducible] def xH83_v3_0 : Outs := [(.exit 0, Pat.mk [(0, .c (.sl0 0 (.prod (.int .i64) (.int .i64)))), (2, hzI), (4, .fn 75 [] [.ptr 1 0]), (10, hzI)] [(0, .arr (.prod (.int .i64) (.int .i64)) false), (1, .cells [.fn 78 .nil (.cons (.ipc (.int .i64)) (.cons (.ipc (.int .i64)) .nil))] false)] [] [])]
noncomputable def bH83_v3_0 : D prog 58 none 2 := (.seq (.seq (.reg [om 18 10, om 19 11, oo 20 (.bin .neq (.t 18) (.t 19))]) (.cond ( .t 20) .skip (.exit 0))) (.block 1 (.seq (.reg [om 21 10, om 22 11, oo 23 (.bin .gtr (.t 21) (.t 22))]) (.cond ( .t 23) (.seq (.reg [om 24 0, om 25 2, om 26 10, oo 27 (.bin .sub (.t 25) (.t 26)), om 28 2, om 29 11, om 30 4, .call (some 31) none (.c (.fn 84 [] [])) [.t 24, .t 27, .t 28, .t 29, .t 30] [some (.list (.prod (.int .i64) (.int .i64))), some (.int .i64), some (.int .i64), some (.int .i64), none]]) (.reg [om 32 10, om 33 11, oo 34 (.bin .sub (.t 32) (.t 33)), om 10 34])) (.seq (.reg [om 35 0, om 36 2, om 37 10, oo 38 (.bin .sub (.t 36) (.t 37)), om 39 2, om 40 11, oo 41 (.bin .add (.t 39) (.t 40)), om 42 10, oo 43 (.bin .sub (.t 41) (.t 42)), om 44 10, om 45 4, .call (some 46) none (.c (.fn 84 [] [])) [.t 35, .t 38, .t 43, .t 44, .t 45] [some (.list (.prod (.int .i64) (.int .i64))), some (.int .i64), some (.int .i64), some (.int .i64), none]]) (.reg [om 47 11, om 48 10, oo 49 (.bin .sub (.t 47) (.t 48)), om 11 49]))))))
noncomputable def gH83_v3_0 (nv0 : Nat) (v2 : Int) (v10 : Int) (v11 : Int) (b0 : List (Int × Int)) (c1_0c0 : Int) (c1_0c1 : Int) : Option ((Nat × Int × Int × Int × (List (Int × Int)) × Int × Int × Unit) ⊕ ((Nat × Int × Int × (List (Int × Int)) × Int × Int × Unit))) :=
 brO (!(v10 == v11)) (
 brO (decide (v11 < v10)) (
 need (rng .i64 (v2 - v10)) (
 bindO (FH84_v3 nv0 (v2 - v10) v2 v11 b0 c1_0c0 c1_0c1) fun y0 =>
 need (rng .i64 (v10 - v11)) (
 some (.inl (nv0, (v2, ((v10 - v11), (v11, (y0.2.2.1, (y0.1, (y0.2.1, ()))))))))))) (
 need (rng .i64 (v2 - v10)) (
 need (rng .i64 (v2 + v11)) (
 need (rng .i64 ((v2 + v11) - v10)) (
 bindO (FH84_v3 nv0 (v2 - v10) ((v2 + v11) - v10) v10 b0 c1_0c0 c1_0c1) fun y1 =>
 need (rng .i64 (v11 - v10)) (
 some (.inl (nv0, (v2, (v10, ((v11 - v10), (y1.2.2.1, (y1.1, (y1.2.1, ())))))))))))))) (
 some (.inr (nv0, (v2, (v10, (b0, (c1_0c0, (c1_0c1, ()))))))))
def CgH83_v3_0 (nv0 : Nat) (v2 : Int) (v10 : Int) (v11 : Int) (b0 : List (Int × Int)) (c1_0c0 : Int) (c1_0c1 : Int) : Option ((Nat × Int × Int × Int × (List (Int × Int)) × Int × Int × Unit) ⊕ ((Nat × Int × Int × (List (Int × Int)) × Int × Int × Unit))) :=
 brC (!(v10 == v11)) (
 brC (decide (v11 < v10)) (
 needC (rng .i64 (v2 - v10)) (
 bindC (CFH84_v3 nv0 (v2 - v10) v2 v11 b0 c1_0c0 c1_0c1) fun y0 =>
 needC (rng .i64 (v10 - v11)) (
 some (.inl (nv0, (v2, ((v10 - v11), (v11, (y0.2.2.1, (y0.1, (y0.2.1, ()))))))))))) (
 needC (rng .i64 (v2 - v10)) (
 needC (rng .i64 (v2 + v11)) (
 needC (rng .i64 ((v2 + v11) - v10)) (
 bindC (CFH84_v3 nv0 (v2 - v10) ((v2 + v11) - v10) v10 b0 c1_0c0 c1_0c1) fun y1 =>
 needC (rng .i64 (v11 - v10)) (
 some (.inl (nv0, (v2, (v10, ((v11 - v10), (y1.2.2.1, (y1.1, (y1.2.1, ())))))))))))))) (
 some (.inr (nv0, (v2, (v10, (b0, (c1_0c0, (c1_0c1, ()))))))))
theorem CgH83_v3_0_le (nv0 : Nat) (v2 : Int) (v10 : Int) (v11 : Int) (b0 : List (Int × Int)) (c1_0c0 : Int) (c1_0c1 : Int) : Le (CgH83_v3_0 nv0 v2 v10 v11 b0 c1_0c0 c1_0c1) (gH83_v3_0 nv0 v2 v10 v11 b0 c1_0c0 c1_0c1) := (Le.br (Le.br (Le.nd (Le.bd (CFH84_v3_le ..) fun y0 => (Le.nd Le.r))) (Le.nd (Le.nd (Le.nd (Le.bd (CFH84_v3_le ..) fun y1 => (Le.nd Le.r)))))) Le.r)
noncomputable def LH83_v3_0 : LoopS prog 58 none 2 := mkLoop mixed cxH83_v3 cxH83_v3_ok [0, 1] rfl pH83_v3_0 xH83_v3_0 rfl (bH83_v3_0) (fun x => gH83_v3_0 x.1 x.2.1 x.2.2.1 x.2.2.2.1 x.2.2.2.2.1 x.2.2.2.2.2.1 x.2.2.2.2.2.2.1) (by intro x; kernel_rfl)
noncomputable def ddH83_v3 : D prog 58 none 2 := (.seq (.reg [om 12 2, om 13 1, oo 14 (.bin .sub (.t 12) (.t 13)), om 10 14]) (.seq (.reg [om 15 3, om 16 2, oo 17 (.bin .sub (.t 15) (.t 16)), om 11 17]) (.seq (.block 0 (.loop LH83_v3_0)) (.reg [om 50 0, om 51 2, om 52 10, oo 53 (.bin .sub (.t 51) (.t 52)), om 54 2, om 55 10, om 56 4, .call (some 57) none (.c (.fn 84 [] [])) [.t 50, .t 53, .t 54, .t 55, .t 56] [some (.list (.prod (.int .i64) (.int .i64))), some (.int .i64), some (.int .i64), some (.int .i64), none]]))))
noncomputable def FH83_v3 (nv0 : Nat) (v1 : Int) (v2 : Int) (v3 : Int) (b0 : List (Int × Int)) (c1_0c0 : Int) (c1_0c1 : Int) : Option (Int × Int × (List (Int × Int)) × Unit) :=
 need (rng .i64 (v2 - v1)) (
 need (rng .i64 (v3 - v2)) (
 bindO (iter (fun x => gH83_v3_0 x.1 x.2.1 x.2.2.1 x.2.2.2.1 x.2.2.2.2.1 x.2.2.2.2.2.1 x.2.2.2.2.2.2.1) (nv0, (v2, ((v2 - v1), ((v3 - v2), (b0, (c1_0c0, (c1_0c1, ())))))))) fun z2 =>
 need (rng .i64 (z2.2.1 - z2.2.2.1)) (
 bindO (FH84_v3 z2.1 (z2.2.1 - z2.2.2.1) z2.2.1 z2.2.2.1 z2.2.2.2.1 z2.2.2.2.2.1 z2.2.2.2.2.2.1) fun y3 =>
 some (y3.1, (y3.2.1, (y3.2.2.1, ()))))))
def CFH83_v3 (nv0 : Nat) (v1 : Int) (v2 : Int) (v3 : Int) (b0 : List (Int × Int)) (c1_0c0 : Int) (c1_0c1 : Int) : Option (Int × Int × (List (Int × Int)) × Unit) :=
 needC (rng .i64 (v2 - v1)) (
 needC (rng .i64 (v3 - v2)) (
 bindC (iterF (fun x => CgH83_v3_0 x.1 x.2.1 x.2.2.1 x.2.2.2.1 x.2.2.2.2.1 x.2.2.2.2.2.1 x.2.2.2.2.2.2.1) 1000000 (nv0, (v2, ((v2 - v1), ((v3 - v2), (b0, (c1_0c0, (c1_0c1, ())))))))) fun z2 =>
 needC (rng .i64 (z2.2.1 - z2.2.2.1)) (
 bindC (CFH84_v3 z2.1 (z2.2.1 - z2.2.2.1) z2.2.1 z2.2.2.1 z2.2.2.2.1 z2.2.2.2.2.1 z2.2.2.2.2.2.1) fun y3 =>
 some (y3.1, (y3.2.1, (y3.2.2.1, ()))))))
theorem CFH83_v3_le (nv0 : Nat) (v1 : Int) (v2 : Int) (v3 : Int) (b0 : List (Int × Int)) (c1_0c0 : Int) (c1_0c1 : Int) : Le (CFH83_v3 nv0 v1 v2 v3 b0 c1_0c0 c1_0c1) (FH83_v3 nv0 v1 v2 v3 b0 c1_0c0 c1_0c1) := (Le.nd (Le.nd (Le.bd (Le.iter fun x => CgH83_v3_0_le ..) fun z2 => (Le.nd (Le.bd (CFH84_v3_le ..) fun y3 => Le.r)))))
theorem cH83_v3_ok : trF prog f83 = some ⟨58, 5, ddH83_v3.er, [], []⟩ := by kernel_rfl
noncomputable def ht83_v3 : Ht := ⟨83, pH83_v3, qH83_v3, (fun x => FH83_v3 x.1 x.2.1 x.2.2.1 x.2.2.2.1 x.2.2.2.2.1 x.2.2.2.2.2.1 x.2.2.2.2.2.2.1)⟩
theorem ht83_v3_ok : ht83_v3.Ok prog := ht_ok mixed cxH83_v3_ok rfl func83 cH83_v3_ok (enters_of func83 rfl rfl) ddH83_v3 rfl rfl rfl ⟨_, rfl⟩ rfl (pre := [0, 1]) rfl (fun x => by kernel_rfl)

/- 82, lent -/
@[reducible] def pH82_v3 : Pat := Pat.mk [(0, .c (.sl0 0 (.prod (.int .i64) (.int .i64)))), (1, hzI), (2, hzI), (3, hzI), (4, .fn 75 [] [.ptr 1 0])] [(0, .arr (.prod (.int .i64) (.int .i64)) false), (1, .cells [.fn 78 .nil (.cons (.ipc (.int .i64)) (.cons (.ipc (.int .i64)) .nil))] false)] [.slot 0, .part 4 0] []
@[reducible] def qH82_v3 : Pat := Pat.mk [(0, .c .any)] [(1, .cells [.fn 78 .nil (.cons (.ipc (.int .i64)) (.cons (.ipc (.int .i64)) .nil))] false), (0, .arr (.prod (.int .i64) (.int .i64)) false)] [] []
noncomputable def cxH82_v3 (rec : pH82_v3.T → Option qH82_v3.T) : Cx := mkCxH [ct75_v1] [ht83_v3, ⟨82, pH82_v3, qH82_v3, rec⟩]
theorem cxH82_v3_ok (rec : pH82_v3.T → Option qH82_v3.T) (h : Ht.Ok prog ⟨82, pH82_v3, qH82_v3, rec⟩) : (cxH82_v3 rec).Ok prog := mkCxH_ok ⟨ct75_v1_ok, trivial⟩ ⟨⟨ht83_v3_ok, rfl⟩, ⟨h, rfl⟩, trivial⟩
@[reducible] def pH82_v3_0 : Pat := Pat.mk [(0, .c (.sl0 0 (.prod (.int .i64) (.int .i64)))), (1, hzI), (4, .fn 75 [] [.ptr 1 0]), (10, hzI), (11, hzI)] [(0, .arr (.prod (.int .i64) (.int .i64)) false), (1, .cells [.fn 78 .nil (.cons (.ipc (.int .i64)) (.cons (.ipc (.int .i64)) .nil))] false)] [] []
@[reducible] def xH82_v3_0 : Outs := [(.exit 0, Pat.mk [(0, .c (.sl0 0 (.prod (.int .i64) (.int .i64)))), (1, hzI), (10, hzI)] [(0, .arr (.prod (.int .i64) (.int .i64)) false), (1, .cells [.fn 78 .nil (.cons (.ipc (.int .i64)) (.cons (.ipc (.int .i64)) .nil))] false)] [] [])]
noncomputable def bH82_v3_0 (rec : pH82_v3.T → Option qH82_v3.T) (h : Ht.Ok prog ⟨82, pH82_v3, qH82_v3, rec⟩) : D prog 220 none 2 := (.seq (.seq (.reg [om 31 10, om 32 11, oo 33 (.bin .lss (.t 31) (.t 32))]) (.cond ( .t 33) .skip (.exit 0))) (.block 1 (.seq (.reg [om 34 10, om 35 11, oo 36 (.bin .add (.t 34) (.t 35)), oo 37 (.conv .u64 (.t 36)), oo 38 (.bin .shr (.t 37) (.c (.int .u64 (Int.ofNat 1)))), oo 39 (.conv .i64 (.t 38)), om 12 39]) (.seq (.draw [[], [], [], [1, 2], [1, 2, 3], [], [], [5, 6], [5, 6, 7], [0, 1, 2, 3, 4, 5, 6, 7, 8], [0, 1, 2, 3, 4, 5, 6, 7, 8, 9]] [om 40 4, om 41 0, om 42 12, oo 43 (.idx 2 (.t 41) (.t 42)), oo 44 (.load true 2 (.t 43)), om 45 0, om 46 1, oo 47 (.idx 2 (.t 45) (.t 46)), oo 48 (.load true 2 (.t 47)), .call (some 49) none (.t 40) [.t 44, .t 48] [some (.prod (.int .i64) (.int .i64)), some (.prod (.int .i64) (.int .i64))], oo 50 (.bin .lss (.t 49) (ki 0))]) (.cond ( .t 50) (.reg [om 51 12, oo 52 (.bin .add (.t 51) (ki 1)), om 10 52]) (.reg [om 53 12, om 11 53]))))))
noncomputable def gH82_v3_0 (rec : pH82_v3.T → Option qH82_v3.T) (nv0 : Nat) (v1 : Int) (v10 : Int) (v11 : Int) (b0 : List (Int × Int)) (c1_0c0 : Int) (c1_0c1 : Int) : Option ((Nat × Int × Int × Int × (List (Int × Int)) × Int × Int × Unit) ⊕ ((Nat × Int × Int × (List (Int × Int)) × Int × Int × Unit))) :=
 brO (decide (v10 < v11)) (
 need (rng .i64 (v10 + v11)) (
 need (rng .u64 (v10 + v11)) (
 need (inb (1 : Int) (64 : Int)) (
 need (rng .i64 (ar0.shr (v10 + v11) (1 : Int))) (
 need (inb (ar0.shr (v10 + v11) (1 : Int)) ((nv0 : Nat) : Int)) (
 need (decide (((0 : Nat) + (Int.toNat (ar0.shr (v10 + v11) (1 : Int)))) < (b0).length)) (
 need (inb v1 ((nv0 : Nat) : Int)) (
 need (decide (((0 : Nat) + (Int.toNat v1)) < (b0).length)) (
 bindO (F75_v1 (((b0).getD ((0 : Nat) + (Int.toNat (ar0.shr (v10 + v11) (1 : Int)))) ((0 : Int), (0 : Int))).1, ((b0).getD ((0 : Nat) + (Int.toNat (ar0.shr (v10 + v11) (1 : Int)))) ((0 : Int), (0 : Int))).2) (((b0).getD ((0 : Nat) + (Int.toNat v1)) ((0 : Int), (0 : Int))).1, ((b0).getD ((0 : Nat) + (Int.toNat v1)) ((0 : Int), (0 : Int))).2) c1_0c0 c1_0c1) fun y0 =>
 brO (decide (y0.1 < (0 : Int))) (
 need (rng .i64 ((ar0.shr (v10 + v11) (1 : Int)) + (1 : Int))) (
 some (.inl (nv0, (v1, (((ar0.shr (v10 + v11) (1 : Int)) + (1 : Int)), (v11, (b0, (c1_0c0, (c1_0c1, ())))))))))) (
 some (.inl (nv0, (v1, (v10, ((ar0.shr (v10 + v11) (1 : Int)), (b0, (c1_0c0, (c1_0c1, ())))))))))))))))))) (
 some (.inr (nv0, (v1, (v10, (b0, (c1_0c0, (c1_0c1, ()))))))))
def CgH82_v3_0 (rec : pH82_v3.T → Option qH82_v3.T) (nv0 : Nat) (v1 : Int) (v10 : Int) (v11 : Int) (b0 : List (Int × Int)) (c1_0c0 : Int) (c1_0c1 : Int) : Option ((Nat × Int × Int × Int × (List (Int × Int)) × Int × Int × Unit) ⊕ ((Nat × Int × Int × (List (Int × Int)) × Int × Int × Unit))) :=
 brC (decide (v10 < v11)) (
 needC (rng .i64 (v10 + v11)) (
 needC (rng .u64 (v10 + v11)) (
 needC (inb (1 : Int) (64 : Int)) (
 needC (rng .i64 (ar0.shr (v10 + v11) (1 : Int))) (
 needC (inb (ar0.shr (v10 + v11) (1 : Int)) ((nv0 : Nat) : Int)) (
 needC (decide (((0 : Nat) + (Int.toNat (ar0.shr (v10 + v11) (1 : Int)))) < (b0).length)) (
 needC (inb v1 ((nv0 : Nat) : Int)) (
 needC (decide (((0 : Nat) + (Int.toNat v1)) < (b0).length)) (
 bindC (CF75_v1 (((b0).getD ((0 : Nat) + (Int.toNat (ar0.shr (v10 + v11) (1 : Int)))) ((0 : Int), (0 : Int))).1, ((b0).getD ((0 : Nat) + (Int.toNat (ar0.shr (v10 + v11) (1 : Int)))) ((0 : Int), (0 : Int))).2) (((b0).getD ((0 : Nat) + (Int.toNat v1)) ((0 : Int), (0 : Int))).1, ((b0).getD ((0 : Nat) + (Int.toNat v1)) ((0 : Int), (0 : Int))).2) c1_0c0 c1_0c1) fun y0 =>
 brC (decide (y0.1 < (0 : Int))) (
 needC (rng .i64 ((ar0.shr (v10 + v11) (1 : Int)) + (1 : Int))) (
 some (.inl (nv0, (v1, (((ar0.shr (v10 + v11) (1 : Int)) + (1 : Int)), (v11, (b0, (c1_0c0, (c1_0c1, ())))))))))) (
 some (.inl (nv0, (v1, (v10, ((ar0.shr (v10 + v11) (1 : Int)), (b0, (c1_0c0, (c1_0c1, ())))))))))))))))))) (
 some (.inr (nv0, (v1, (v10, (b0, (c1_0c0, (c1_0c1, ()))))))))
theorem CgH82_v3_0_le' {rec rec' : pH82_v3.T → Option qH82_v3.T} (hr : ∀ x, Le (rec x) (rec' x)) (nv0 : Nat) (v1 : Int) (v10 : Int) (v11 : Int) (b0 : List (Int × Int)) (c1_0c0 : Int) (c1_0c1 : Int) : Le (CgH82_v3_0 rec nv0 v1 v10 v11 b0 c1_0c0 c1_0c1) (gH82_v3_0 rec' nv0 v1 v10 v11 b0 c1_0c0 c1_0c1) := (Le.br (Le.nd (Le.nd (Le.nd (Le.nd (Le.nd (Le.nd (Le.nd (Le.nd (Le.bd (CF75_v1_le ..) fun y0 => (Le.br (Le.nd Le.r) Le.r)))))))))) Le.r)
theorem sH82_v3_0 (rec : pH82_v3.T → Option qH82_v3.T) (h : Ht.Ok prog ⟨82, pH82_v3, qH82_v3, rec⟩) : ∀ x, roundE (kzO (pH82_v3_0.T ⊕ xH82_v3_0.T)) (cxH82_v3 rec) ar0 [0, 1] pH82_v3_0 xH82_v3_0 (bH82_v3_0 rec h) (fun y => some (.inl y)) (fun b => some (.inr b)) x = gH82_v3_0 rec x.1 x.2.1 x.2.2.1 x.2.2.2.1 x.2.2.2.2.1 x.2.2.2.2.2.1 x.2.2.2.2.2.2.1 := by intro x; kernel_rfl
noncomputable def LH82_v3_0 (rec : pH82_v3.T → Option qH82_v3.T) (h : Ht.Ok prog ⟨82, pH82_v3, qH82_v3, rec⟩) : LoopS prog 220 none 2 := mkLoop mixed (cxH82_v3 rec) (cxH82_v3_ok rec h) [0, 1] rfl pH82_v3_0 xH82_v3_0 rfl (bH82_v3_0 rec h) (fun x => gH82_v3_0 rec x.1 x.2.1 x.2.2.1 x.2.2.2.1 x.2.2.2.2.1 x.2.2.2.2.2.1 x.2.2.2.2.2.2.1) (sH82_v3_0 rec h)
@[reducible] def pH82_v3_1 : Pat := Pat.mk [(0, .c (.sl0 0 (.prod (.int .i64) (.int .i64)))), (10, hzI), (13, hzI)] [(0, .arr (.prod (.int .i64) (.int .i64)) false), (1, .cells [.fn 78 .nil (.cons (.ipc (.int .i64)) (.cons (.ipc (.int .i64)) .nil))] false)] [] []
@[reducible] def xH82_v3_1 : Outs := [(.exit 2, Pat.mk [] [(1, .cells [.fn 78 .nil (.cons (.ipc (.int .i64)) (.cons (.ipc (.int .i64)) .nil))] false), (0, .arr (.prod (.int .i64) (.int .i64)) false)] [] [])]
noncomputable def bH82_v3_1 (rec : pH82_v3.T → Option qH82_v3.T) (h : Ht.Ok prog ⟨82, pH82_v3, qH82_v3, rec⟩) : D prog 220 none 2 := (.seq (.seq (.reg [om 55 13, om 56 10, oo 57 (.bin .sub (.t 56) (ki 1)), oo 58 (.bin .lss (.t 55) (.t 57))]) (.cond ( .t 58) .skip (.exit 2))) (.seq (.block 3 (.draw [[], [], [], [], [3], [], [], [6], [5, 6, 7], [5, 6, 7, 8], [], [], [10, 11], [10, 11, 12], [0, 1, 5, 6, 7, 8, 9, 10, 11, 12, 13], [0, 1, 5, 6, 7, 8, 9, 10, 11, 12, 13, 14], [0, 1, 2, 3, 4, 5, 6, 7, 8, 9, 10, 11, 12, 13, 14, 15], [0, 1, 2, 3, 4, 5, 6, 7, 8, 9, 10, 11, 12, 13, 14, 15, 16]] [om 61 0, om 62 13, om 63 0, om 64 13, oo 65 (.bin .add (.t 64) (ki 1)), om 66 0, om 67 13, oo 68 (.bin .add (.t 67) (ki 1)), oo 69 (.idx 2 (.t 66) (.t 68)), oo 70 (.load true 2 (.t 69)), om 71 0, om 72 13, oo 73 (.idx 2 (.t 71) (.t 72)), oo 74 (.load true 2 (.t 73)), oo 75 (.idx 2 (.t 61) (.t 62)), .op none none (.store 2 (.t 75) (.t 70)), oo 76 (.idx 2 (.t 63) (.t 65)), .op none none (.store 2 (.t 76) (.t 74))])) (.reg [om 59 13, oo 60 (.bin .add (.t 59) (ki 1)), om 13 60])))
noncomputable def gH82_v3_1 (rec : pH82_v3.T → Option qH82_v3.T) (nv0 : Nat) (v10 : Int) (v13 : Int) (b0 : List (Int × Int)) (c1_0c0 : Int) (c1_0c1 : Int) : Option ((Nat × Int × Int × (List (Int × Int)) × Int × Int × Unit) ⊕ ((Int × Int × (List (Int × Int)) × Unit))) :=
 need (rng .i64 (v10 - (1 : Int))) (
 brO (decide (v13 < (v10 - (1 : Int)))) (
 need (rng .i64 (v13 + (1 : Int))) (
 need (rng .i64 (v13 + (1 : Int))) (
 need (inb (v13 + (1 : Int)) ((nv0 : Nat) : Int)) (
 need (decide (((0 : Nat) + (Int.toNat (v13 + (1 : Int)))) < (b0).length)) (
 need (inb v13 ((nv0 : Nat) : Int)) (
 need (decide (((0 : Nat) + (Int.toNat v13)) < (b0).length)) (
 need (inb v13 ((nv0 : Nat) : Int)) (
 need (decide (((0 : Nat) + (Int.toNat v13)) < (b0).length)) (
 need (inb (v13 + (1 : Int)) ((nv0 : Nat) : Int)) (
 need (decide (((0 : Nat) + (Int.toNat (v13 + (1 : Int)))) < (((b0).set ((0 : Nat) + (Int.toNat v13)) (((b0).getD ((0 : Nat) + (Int.toNat (v13 + (1 : Int)))) ((0 : Int), (0 : Int))).1, ((b0).getD ((0 : Nat) + (Int.toNat (v13 + (1 : Int)))) ((0 : Int), (0 : Int))).2))).length)) (
 need (rng .i64 (v13 + (1 : Int))) (
 some (.inl (nv0, (v10, ((v13 + (1 : Int)), (((((b0).set ((0 : Nat) + (Int.toNat v13)) (((b0).getD ((0 : Nat) + (Int.toNat (v13 + (1 : Int)))) ((0 : Int), (0 : Int))).1, ((b0).getD ((0 : Nat) + (Int.toNat (v13 + (1 : Int)))) ((0 : Int), (0 : Int))).2))).set ((0 : Nat) + (Int.toNat (v13 + (1 : Int)))) (((b0).getD ((0 : Nat) + (Int.toNat v13)) ((0 : Int), (0 : Int))).1, ((b0).getD ((0 : Nat) + (Int.toNat v13)) ((0 : Int), (0 : Int))).2)), (c1_0c0, (c1_0c1, ()))))))))))))))))))) (
 some (.inr (c1_0c0, (c1_0c1, (b0, ()))))))
def CgH82_v3_1 (rec : pH82_v3.T → Option qH82_v3.T) (nv0 : Nat) (v10 : Int) (v13 : Int) (b0 : List (Int × Int)) (c1_0c0 : Int) (c1_0c1 : Int) : Option ((Nat × Int × Int × (List (Int × Int)) × Int × Int × Unit) ⊕ ((Int × Int × (List (Int × Int)) × Unit))) :=
 needC (rng .i64 (v10 - (1 : Int))) (
 brC (decide (v13 < (v10 - (1 : Int)))) (
 needC (rng .i64 (v13 + (1 : Int))) (
 needC (rng .i64 (v13 + (1 : Int))) (
 needC (inb (v13 + (1 : Int)) ((nv0 : Nat) : Int)) (
 needC (decide (((0 : Nat) + (Int.toNat (v13 + (1 : Int)))) < (b0).length)) (
 needC (inb v13 ((nv0 : Nat) : Int)) (
 needC (decide (((0 : Nat) + (Int.toNat v13)) < (b0).length)) (
 needC (inb v13 ((nv0 : Nat) : Int)) (
 needC (decide (((0 : Nat) + (Int.toNat v13)) < (b0).length)) (
 needC (inb (v13 + (1 : Int)) ((nv0 : Nat) : Int)) (
 needC (decide (((0 : Nat) + (Int.toNat (v13 + (1 : Int)))) < (((b0).set ((0 : Nat) + (Int.toNat v13)) (((b0).getD ((0 : Nat) + (Int.toNat (v13 + (1 : Int)))) ((0 : Int), (0 : Int))).1, ((b0).getD ((0 : Nat) + (Int.toNat (v13 + (1 : Int)))) ((0 : Int), (0 : Int))).2))).length)) (
 needC (rng .i64 (v13 + (1 : Int))) (
 some (.inl (nv0, (v10, ((v13 + (1 : Int)), (((((b0).set ((0 : Nat) + (Int.toNat v13)) (((b0).getD ((0 : Nat) + (Int.toNat (v13 + (1 : Int)))) ((0 : Int), (0 : Int))).1, ((b0).getD ((0 : Nat) + (Int.toNat (v13 + (1 : Int)))) ((0 : Int), (0 : Int))).2))).set ((0 : Nat) + (Int.toNat (v13 + (1 : Int)))) (((b0).getD ((0 : Nat) + (Int.toNat v13)) ((0 : Int), (0 : Int))).1, ((b0).getD ((0 : Nat) + (Int.toNat v13)) ((0 : Int), (0 : Int))).2)), (c1_0c0, (c1_0c1, ()))))))))))))))))))) (
 some (.inr (c1_0c0, (c1_0c1, (b0, ()))))))
theorem CgH82_v3_1_le' {rec rec' : pH82_v3.T → Option qH82_v3.T} (hr : ∀ x, Le (rec x) (rec' x)) (nv0 : Nat) (v10 : Int) (v13 : Int) (b0 : List (Int × Int)) (c1_0c0 : Int) (c1_0c1 : Int) : Le (CgH82_v3_1 rec nv0 v10 v13 b0 c1_0c0 c1_0c1) (gH82_v3_1 rec' nv0 v10 v13 b0 c1_0c0 c1_0c1) := (Le.nd (Le.br (Le.nd (Le.nd (Le.nd (Le.nd (Le.nd (Le.nd (Le.nd (Le.nd (Le.nd (Le.nd (Le.nd Le.r))))))))))) Le.r))
theorem sH82_v3_1 (rec : pH82_v3.T → Option qH82_v3.T) (h : Ht.Ok prog ⟨82, pH82_v3, qH82_v3, rec⟩) : ∀ x, roundE (kzO (pH82_v3_1.T ⊕ xH82_v3_1.T)) (cxH82_v3 rec) ar0 [0, 1] pH82_v3_1 xH82_v3_1 (bH82_v3_1 rec h) (fun y => some (.inl y)) (fun b => some (.inr b)) x = gH82_v3_1 rec x.1 x.2.1 x.2.2.1 x.2.2.2.1 x.2.2.2.2.1 x.2.2.2.2.2.1 := by intro x; kernel_rfl
noncomputable def LH82_v3_1 (rec : pH82_v3.T → Option qH82_v3.T) (h : Ht.Ok prog ⟨82, pH82_v3, qH82_v3, rec⟩) : LoopS prog 220 none 2 := mkLoop mixed (cxH82_v3 rec) (cxH82_v3_ok rec h) [0, 1] rfl pH82_v3_1 xH82_v3_1 rfl (bH82_v3_1 rec h) (fun x => gH82_v3_1 rec x.1 x.2.1 x.2.2.1 x.2.2.2.1 x.2.2.2.2.1 x.2.2.2.2.2.1) (sH82_v3_1 rec h)
@[reducible] def pH82_v3_2 : Pat := Pat.mk [(0, .c (.sl0 0 (.prod (.int .i64) (.int .i64)))), (2, hzI), (4, .fn 75 [] [.ptr 1 0]), (14, hzI), (15, hzI)] [(0, .arr (.prod (.int .i64) (.int .i64)) false), (1, .cells [.fn 78 .nil (.cons (.ipc (.int .i64)) (.cons (.ipc (.int .i64)) .nil))] false)] [] []
@[reducible] def xH82_v3_2 : Outs := [(.exit 4, Pat.mk [(0, .c (.sl0 0 (.prod (.int .i64) (.int .i64)))), (2, hzI), (14, hzI)] [(0, .arr (.prod (.int .i64) (.int .i64)) false), (1, .cells [.fn 78 .nil (.cons (.ipc (.int .i64)) (.cons (.ipc (.int .i64)) .nil))] false)] [] [])]
noncomputable def bH82_v3_2 (rec : pH82_v3.T → Option qH82_v3.T) (h : Ht.Ok prog ⟨82, pH82_v3, qH82_v3, rec⟩) : D prog 220 none 2 := (.seq (.seq (.reg [om 83 14, om 84 15, oo 85 (.bin .lss (.t 83) (.t 84))]) (.cond ( .t 85) .skip (.exit 4))) (.block 5 (.seq (.reg [om 86 14, om 87 15, oo 88 (.bin .add (.t 86) (.t 87)), oo 89 (.conv .u64 (.t 88)), oo 90 (.bin .shr (.t 89) (.c (.int .u64 (Int.ofNat 1)))), oo 91 (.conv .i64 (.t 90)), om 16 91]) (.seq (.draw [[], [], [], [1, 2], [1, 2, 3], [], [], [5, 6], [5, 6, 7], [0, 1, 2, 3, 4, 5, 6, 7, 8], [0, 1, 2, 3, 4, 5, 6, 7, 8, 9], [0, 1, 2, 3, 4, 5, 6, 7, 8, 9, 10]] [om 92 4, om 93 0, om 94 2, oo 95 (.idx 2 (.t 93) (.t 94)), oo 96 (.load true 2 (.t 95)), om 97 0, om 98 16, oo 99 (.idx 2 (.t 97) (.t 98)), oo 100 (.load true 2 (.t 99)), .call (some 101) none (.t 92) [.t 96, .t 100] [some (.prod (.int .i64) (.int .i64)), some (.prod (.int .i64) (.int .i64))], oo 102 (.bin .lss (.t 101) (ki 0)), oo 103 (.not (.t 102))]) (.cond ( .t 103) (.reg [om 104 16, oo 105 (.bin .add (.t 104) (ki 1)), om 14 105]) (.reg [om 106 16, om 15 106]))))))
noncomputable def gH82_v3_2 (rec : pH82_v3.T → Option qH82_v3.T) (nv0 : Nat) (v2 : Int) (v14 : Int) (v15 : Int) (b0 : List (Int × Int)) (c1_0c0 : Int) (c1_0c1 : Int) : Option ((Nat × Int × Int × Int × (List (Int × Int)) × Int × Int × Unit) ⊕ ((Nat × Int × Int × (List (Int × Int)) × Int × Int × Unit))) :=
 brO (decide (v14 < v15)) (
 need (rng .i64 (v14 + v15)) (
 need (rng .u64 (v14 + v15)) (
 need (inb (1 : Int) (64 : Int)) (
 need (rng .i64 (ar0.shr (v14 + v15) (1 : Int))) (
 need (inb v2 ((nv0 : Nat) : Int)) (
 need (decide (((0 : Nat) + (Int.toNat v2)) < (b0).length)) (
 need (inb (ar0.shr (v14 + v15) (1 : Int)) ((nv0 : Nat) : Int)) (
 need (decide (((0 : Nat) + (Int.toNat (ar0.shr (v14 + v15) (1 : Int)))) < (b0).length)) (
 bindO (F75_v1 (((b0).getD ((0 : Nat) + (Int.toNat v2)) ((0 : Int), (0 : Int))).1, ((b0).getD ((0 : Nat) + (Int.toNat v2)) ((0 : Int), (0 : Int))).2) (((b0).getD ((0 : Nat) + (Int.toNat (ar0.shr (v14 + v15) (1 : Int)))) ((0 : Int), (0 : Int))).1, ((b0).getD ((0 : Nat) + (Int.toNat (ar0.shr (v14 + v15) (1 : Int)))) ((0 : Int), (0 : Int))).2) c1_0c0 c1_0c1) fun y3 =>
 brO (!(decide (y3.1 < (0 : Int)))) (
 need (rng .i64 ((ar0.shr (v14 + v15) (1 : Int)) + (1 : Int))) (
 some (.inl (nv0, (v2, (((ar0.shr (v14 + v15) (1 : Int)) + (1 : Int)), (v15, (b0, (c1_0c0, (c1_0c1, ())))))))))) (
 some (.inl (nv0, (v2, (v14, ((ar0.shr (v14 + v15) (1 : Int)), (b0, (c1_0c0, (c1_0c1, ())))))))))))))))))) (
 some (.inr (nv0, (v2, (v14, (b0, (c1_0c0, (c1_0c1, ()))))))))
def CgH82_v3_2 (rec : pH82_v3.T → Option qH82_v3.T) (nv0 : Nat) (v2 : Int) (v14 : Int) (v15 : Int) (b0 : List (Int × Int)) (c1_0c0 : Int) (c1_0c1 : Int) : Option ((Nat × Int × Int × Int × (List (Int × Int)) × Int × Int × Unit) ⊕ ((Nat × Int × Int × (List (Int × Int)) × Int × Int × Unit))) :=
 brC (decide (v14 < v15)) (
 needC (rng .i64 (v14 + v15)) (
 needC (rng .u64 (v14 + v15)) (
 needC (inb (1 : Int) (64 : Int)) (
 needC (rng .i64 (ar0.shr (v14 + v15) (1 : Int))) (
 needC (inb v2 ((nv0 : Nat) : Int)) (
 needC (decide (((0 : Nat) + (Int.toNat v2)) < (b0).length)) (
 needC (inb (ar0.shr (v14 + v15) (1 : Int)) ((nv0 : Nat) : Int)) (
 needC (decide (((0 : Nat) + (Int.toNat (ar0.shr (v14 + v15) (1 : Int)))) < (b0).length)) (
 bindC (CF75_v1 (((b0).getD ((0 : Nat) + (Int.toNat v2)) ((0 : Int), (0 : Int))).1, ((b0).getD ((0 : Nat) + (Int.toNat v2)) ((0 : Int), (0 : Int))).2) (((b0).getD ((0 : Nat) + (Int.toNat (ar0.shr (v14 + v15) (1 : Int)))) ((0 : Int), (0 : Int))).1, ((b0).getD ((0 : Nat) + (Int.toNat (ar0.shr (v14 + v15) (1 : Int)))) ((0 : Int), (0 : Int))).2) c1_0c0 c1_0c1) fun y3 =>
 brC (!(decide (y3.1 < (0 : Int)))) (
 needC (rng .i64 ((ar0.shr (v14 + v15) (1 : Int)) + (1 : Int))) (
 some (.inl (nv0, (v2, (((ar0.shr (v14 + v15) (1 : Int)) + (1 : Int)), (v15, (b0, (c1_0c0, (c1_0c1, ())))))))))) (
 some (.inl (nv0, (v2, (v14, ((ar0.shr (v14 + v15) (1 : Int)), (b0, (c1_0c0, (c1_0c1, ())))))))))))))))))) (
 some (.inr (nv0, (v2, (v14, (b0, (c1_0c0, (c1_0c1, ()))))))))
theorem CgH82_v3_2_le' {rec rec' : pH82_v3.T → Option qH82_v3.T} (hr : ∀ x, Le (rec x) (rec' x)) (nv0 : Nat) (v2 : Int) (v14 : Int) (v15 : Int) (b0 : List (Int × Int)) (c1_0c0 : Int) (c1_0c1 : Int) : Le (CgH82_v3_2 rec nv0 v2 v14 v15 b0 c1_0c0 c1_0c1) (gH82_v3_2 rec' nv0 v2 v14 v15 b0 c1_0c0 c1_0c1) := (Le.br (Le.nd (Le.nd (Le.nd (Le.nd (Le.nd (Le.nd (Le.nd (Le.nd (Le.bd (CF75_v1_le ..) fun y3 => (Le.br (Le.nd Le.r) Le.r)))))))))) Le.r)
theorem sH82_v3_2 (rec : pH82_v3.T → Option qH82_v3.T) (h : Ht.Ok prog ⟨82, pH82_v3, qH82_v3, rec⟩) : ∀ x, roundE (kzO (pH82_v3_2.T ⊕ xH82_v3_2.T)) (cxH82_v3 rec) ar0 [0, 1] pH82_v3_2 xH82_v3_2 (bH82_v3_2 rec h) (fun y => some (.inl y)) (fun b => some (.inr b)) x = gH82_v3_2 rec x.1 x.2.1 x.2.2.1 x.2.2.2.1 x.2.2.2.2.1 x.2.2.2.2.2.1 x.2.2.2.2.2.2.1 := by intro x; kernel_rfl
noncomputable def LH82_v3_2 (rec : pH82_v3.T → Option qH82_v3.T) (h : Ht.Ok prog ⟨82, pH82_v3, qH82_v3, rec⟩) : LoopS prog 220 none 2 := mkLoop mixed (cxH82_v3 rec) (cxH82_v3_ok rec h) [0, 1] rfl pH82_v3_2 xH82_v3_2 rfl (bH82_v3_2 rec h) (fun x => gH82_v3_2 rec x.1 x.2.1 x.2.2.1 x.2.2.2.1 x.2.2.2.2.1 x.2.2.2.2.2.1 x.2.2.2.2.2.2.1) (sH82_v3_2 rec h)
@[reducible] def pH82_v3_3 : Pat := Pat.mk [(0, .c (.sl0 0 (.prod (.int .i64) (.int .i64)))), (14, hzI), (17, hzI)] [(0, .arr (.prod (.int .i64) (.int .i64)) false), (1, .cells [.fn 78 .nil (.cons (.ipc (.int .i64)) (.cons (.ipc (.int .i64)) .nil))] false)] [] []
@[reducible] def xH82_v3_3 : Outs := [(.exit 6, Pat.mk [] [(1, .cells [.fn 78 .nil (.cons (.ipc (.int .i64)) (.cons (.ipc (.int .i64)) .nil))] false), (0, .arr (.prod (.int .i64) (.int .i64)) false)] [] [])]
noncomputable def bH82_v3_3 (rec : pH82_v3.T → Option qH82_v3.T) (h : Ht.Ok prog ⟨82, pH82_v3, qH82_v3, rec⟩) : D prog 220 none 2 := (.seq (.seq (.reg [om 108 17, om 109 14, oo 110 (.bin .gtr (.t 108) (.t 109))]) (.cond ( .t 110) .skip (.exit 6))) (.seq (.block 7 (.draw [[], [], [], [], [3], [], [], [6], [5, 6, 7], [5, 6, 7, 8], [], [], [10, 11], [10, 11, 12], [0, 1, 5, 6, 7, 8, 9, 10, 11, 12, 13], [0, 1, 5, 6, 7, 8, 9, 10, 11, 12, 13, 14], [0, 1, 2, 3, 4, 5, 6, 7, 8, 9, 10, 11, 12, 13, 14, 15], [0, 1, 2, 3, 4, 5, 6, 7, 8, 9, 10, 11, 12, 13, 14, 15, 16]] [om 113 0, om 114 17, om 115 0, om 116 17, oo 117 (.bin .sub (.t 116) (ki 1)), om 118 0, om 119 17, oo 120 (.bin .sub (.t 119) (ki 1)), oo 121 (.idx 2 (.t 118) (.t 120)), oo 122 (.load true 2 (.t 121)), om 123 0, om 124 17, oo 125 (.idx 2 (.t 123) (.t 124)), oo 126 (.load true 2 (.t 125)), oo 127 (.idx 2 (.t 113) (.t 114)), .op none none (.store 2 (.t 127) (.t 122)), oo 128 (.idx 2 (.t 115) (.t 117)), .op none none (.store 2 (.t 128) (.t 126))])) (.reg [om 111 17, oo 112 (.bin .sub (.t 111) (ki 1)), om 17 112])))
noncomputable def gH82_v3_3 (rec : pH82_v3.T → Option qH82_v3.T) (nv0 : Nat) (v14 : Int) (v17 : Int) (b0 : List (Int × Int)) (c1_0c0 : Int) (c1_0c1 : Int) : Option ((Nat × Int × Int × (List (Int × Int)) × Int × Int × Unit) ⊕ ((Int × Int × (List (Int × Int)) × Unit))) :=
 brO (decide (v14 < v17)) (
 need (rng .i64 (v17 - (1 : Int))) (
 need (rng .i64 (v17 - (1 : Int))) (
 need (inb (v17 - (1 : Int)) ((nv0 : Nat) : Int)) (
 need (decide (((0 : Nat) + (Int.toNat (v17 - (1 : Int)))) < (b0).length)) (
 need (inb v17 ((nv0 : Nat) : Int)) (
 need (decide (((0 : Nat) + (Int.toNat v17)) < (b0).length)) (
 need (inb v17 ((nv0 : Nat) : Int)) (
 need (decide (((0 : Nat) + (Int.toNat v17)) < (b0).length)) (
 need (inb (v17 - (1 : Int)) ((nv0 : Nat) : Int)) (
 need (decide (((0 : Nat) + (Int.toNat (v17 - (1 : Int)))) < (((b0).set ((0 : Nat) + (Int.toNat v17)) (((b0).getD ((0 : Nat) + (Int.toNat (v17 - (1 : Int)))) ((0 : Int), (0 : Int))).1, ((b0).getD ((0 : Nat) + (Int.toNat (v17 - (1 : Int)))) ((0 : Int), (0 : Int))).2))).length)) (
 need (rng .i64 (v17 - (1 : Int))) (
 some (.inl (nv0, (v14, ((v17 - (1 : Int)), (((((b0).set ((0 : Nat) + (Int.toNat v17)) (((b0).getD ((0 : Nat) + (Int.toNat (v17 - (1 : Int)))) ((0 : Int), (0 : Int))).1, ((b0).getD ((0 : Nat) + (Int.toNat (v17 - (1 : Int)))) ((0 : Int), (0 : Int))).2))).set ((0 : Nat) + (Int.toNat (v17 - (1 : Int)))) (((b0).getD ((0 : Nat) + (Int.toNat v17)) ((0 : Int), (0 : Int))).1, ((b0).getD ((0 : Nat) + (Int.toNat v17)) ((0 : Int), (0 : Int))).2)), (c1_0c0, (c1_0c1, ()))))))))))))))))))) (
 some (.inr (c1_0c0, (c1_0c1, (b0, ())))))
def CgH82_v3_3 (rec : pH82_v3.T → Option qH82_v3.T) (nv0 : Nat) (v14 : Int) (v17 : Int) (b0 : List (Int × Int)) (c1_0c0 : Int) (c1_0c1 : Int) : Option ((Nat × Int × Int × (List (Int × Int)) × Int × Int × Unit) ⊕ ((Int × Int × (List (Int × Int)) × Unit))) :=
 brC (decide (v14 < v17)) (
 needC (rng .i64 (v17 - (1 : Int))) (
 needC (rng .i64 (v17 - (1 : Int))) (
 needC (inb (v17 - (1 : Int)) ((nv0 : Nat) : Int)) (
 needC (decide (((0 : Nat) + (Int.toNat (v17 - (1 : Int)))) < (b0).length)) (
 needC (inb v17 ((nv0 : Nat) : Int)) (
 needC (decide (((0 : Nat) + (Int.toNat v17)) < (b0).length)) (
 needC (inb v17 ((nv0 : Nat) : Int)) (
 needC (decide (((0 : Nat) + (Int.toNat v17)) < (b0).length)) (
 needC (inb (v17 - (1 : Int)) ((nv0 : Nat) : Int)) (
 needC (decide (((0 : Nat) + (Int.toNat (v17 - (1 : Int)))) < (((b0).set ((0 : Nat) + (Int.toNat v17)) (((b0).getD ((0 : Nat) + (Int.toNat (v17 - (1 : Int)))) ((0 : Int), (0 : Int))).1, ((b0).getD ((0 : Nat) + (Int.toNat (v17 - (1 : Int)))) ((0 : Int), (0 : Int))).2))).length)) (
 needC (rng .i64 (v17 - (1 : Int))) (
 some (.inl (nv0, (v14, ((v17 - (1 : Int)), (((((b0).set ((0 : Nat) + (Int.toNat v17)) (((b0).getD ((0 : Nat) + (Int.toNat (v17 - (1 : Int)))) ((0 : Int), (0 : Int))).1, ((b0).getD ((0 : Nat) + (Int.toNat (v17 - (1 : Int)))) ((0 : Int), (0 : Int))).2))).set ((0 : Nat) + (Int.toNat (v17 - (1 : Int)))) (((b0).getD ((0 : Nat) + (Int.toNat v17)) ((0 : Int), (0 : Int))).1, ((b0).getD ((0 : Nat) + (Int.toNat v17)) ((0 : Int), (0 : Int))).2)), (c1_0c0, (c1_0c1, ()))))))))))))))))))) (
 some (.inr (c1_0c0, (c1_0c1, (b0, ())))))
theorem CgH82_v3_3_le' {rec rec' : pH82_v3.T → Option qH82_v3.T} (hr : ∀ x, Le (rec x) (rec' x)) (nv0 : Nat) (v14 : Int) (v17 : Int) (b0 : List (Int × Int)) (c1_0c0 : Int) (c1_0c1 : Int) : Le (CgH82_v3_3 rec nv0 v14 v17 b0 c1_0c0 c1_0c1) (gH82_v3_3 rec' nv0 v14 v17 b0 c1_0c0 c1_0c1) := (Le.br (Le.nd (Le.nd (Le.nd (Le.nd (Le.nd (Le.nd (Le.nd (Le.nd (Le.nd (Le.nd (Le.nd Le.r))))))))))) Le.r)
theorem sH82_v3_3 (rec : pH82_v3.T → Option qH82_v3.T) (h : Ht.Ok prog ⟨82, pH82_v3, qH82_v3, rec⟩) : ∀ x, roundE (kzO (pH82_v3_3.T ⊕ xH82_v3_3.T)) (cxH82_v3 rec) ar0 [0, 1] pH82_v3_3 xH82_v3_3 (bH82_v3_3 rec h) (fun y => some (.inl y)) (fun b => some (.inr b)) x = gH82_v3_3 rec x.1 x.2.1 x.2.2.1 x.2.2.2.1 x.2.2.2.2.1 x.2.2.2.2.2.1 := by intro x; kernel_rfl
noncomputable def LH82_v3_3 (rec : pH82_v3.T → Option qH82_v3.T) (h : Ht.Ok prog ⟨82, pH82_v3, qH82_v3, rec⟩) : LoopS prog 220 none 2 := mkLoop mixed (cxH82_v3 rec) (cxH82_v3_ok rec h) [0, 1] rfl pH82_v3_3 xH82_v3_3 rfl (bH82_v3_3 rec h) (fun x => gH82_v3_3 rec x.1 x.2.1 x.2.2.1 x.2.2.2.1 x.2.2.2.2.1 x.2.2.2.2.2.1) (sH82_v3_3 rec h)
@[reducible] def pH82_v3_4 : Pat := Pat.mk [(0, .c (.sl0 0 (.prod (.int .i64) (.int .i64)))), (1, hzI), (2, hzI), (3, hzI), (4, .fn 75 [] [.ptr 1 0]), (18, hzI), (19, hzI), (20, hzI), (21, hzI), (22, hzI)] [(0, .arr (.prod (.int .i64) (.int .i64)) false), (1, .cells [.fn 78 .nil (.cons (.ipc (.int .i64)) (.cons (.ipc (.int .i64)) .nil))] false)] [] []
@[reducible] def xH82_v3_4 : Outs := [(.exit 8, Pat.mk [(0, .c (.sl0 0 (.prod (.int .i64) (.int .i64)))), (1, hzI), (2, hzI), (3, hzI), (4, .fn 75 [] [.ptr 1 0]), (18, hzI), (19, hzI), (20, hzI)] [(0, .arr (.prod (.int .i64) (.int .i64)) false), (1, .cells [.fn 78 .nil (.cons (.ipc (.int .i64)) (.cons (.ipc (.int .i64)) .nil))] false)] [] [])]
noncomputable def bH82_v3_4 (rec : pH82_v3.T → Option qH82_v3.T) (h : Ht.Ok prog ⟨82, pH82_v3, qH82_v3, rec⟩) : D prog 220 none 2 := (.seq (.seq (.reg [om 149 20, om 150 21, oo 151 (.bin .lss (.t 149) (.t 150))]) (.cond ( .t 151) .skip (.exit 8))) (.block 9 (.seq (.reg [om 152 20, om 153 21, oo 154 (.bin .add (.t 152) (.t 153)), oo 155 (.conv .u64 (.t 154)), oo 156 (.bin .shr (.t 155) (.c (.int .u64 (Int.ofNat 1)))), oo 157 (.conv .i64 (.t 156)), om 23 157]) (.seq (.draw [[], [], [], [], [2, 3], [1, 2, 3, 4], [1, 2, 3, 4, 5], [], [], [7, 8], [7, 8, 9], [0, 1, 2, 3, 4, 5, 6, 7, 8, 9, 10], [0, 1, 2, 3, 4, 5, 6, 7, 8, 9, 10, 11], [0, 1, 2, 3, 4, 5, 6, 7, 8, 9, 10, 11, 12]] [om 158 4, om 159 0, om 160 22, om 161 23, oo 162 (.bin .sub (.t 160) (.t 161)), oo 163 (.idx 2 (.t 159) (.t 162)), oo 164 (.load true 2 (.t 163)), om 165 0, om 166 23, oo 167 (.idx 2 (.t 165) (.t 166)), oo 168 (.load true 2 (.t 167)), .call (some 169) none (.t 158) [.t 164, .t 168] [some (.prod (.int .i64) (.int .i64)), some (.prod (.int .i64) (.int .i64))], oo 170 (.bin .lss (.t 169) (ki 0)), oo 171 (.not (.t 170))]) (.cond ( .t 171) (.reg [om 172 23, oo 173 (.bin .add (.t 172) (ki 1)), om 20 173]) (.reg [om 174 23, om 21 174]))))))
noncomputable def gH82_v3_4 (rec : pH82_v3.T → Option qH82_v3.T) (nv0 : Nat) (v1 : Int) (v2 : Int) (v3 : Int) (v18 : Int) (v19 : Int) (v20 : Int) (v21 : Int) (v22 : Int) (b0 : List (Int × Int)) (c1_0c0 : Int) (c1_0c1 : Int) : Option ((Nat × Int × Int × Int × Int × Int × Int × Int × Int × (List (Int × Int)) × Int × Int × Unit) ⊕ ((Nat × Int × Int × Int × Int × Int × Int × (List (Int × Int)) × Int × Int × Unit))) :=
 brO (decide (v20 < v21)) (
 need (rng .i64 (v20 + v21)) (
 need (rng .u64 (v20 + v21)) (
 need (inb (1 : Int) (64 : Int)) (
 need (rng .i64 (ar0.shr (v20 + v21) (1 : Int))) (
 need (rng .i64 (v22 - (ar0.shr (v20 + v21) (1 : Int)))) (
 need (inb (v22 - (ar0.shr (v20 + v21) (1 : Int))) ((nv0 : Nat) : Int)) (
 need (decide (((0 : Nat) + (Int.toNat (v22 - (ar0.shr (v20 + v21) (1 : Int))))) < (b0).length)) (
 need (inb (ar0.shr (v20 + v21) (1 : Int)) ((nv0 : Nat) : Int)) (
 need (decide (((0 : Nat) + (Int.toNat (ar0.shr (v20 + v21) (1 : Int)))) < (b0).length)) (
 bindO (F75_v1 (((b0).getD ((0 : Nat) + (Int.toNat (v22 - (ar0.shr (v20 + v21) (1 : Int))))) ((0 : Int), (0 : Int))).1, ((b0).getD ((0 : Nat) + (Int.toNat (v22 - (ar0.shr (v20 + v21) (1 : Int))))) ((0 : Int), (0 : Int))).2) (((b0).getD ((0 : Nat) + (Int.toNat (ar0.shr (v20 + v21) (1 : Int)))) ((0 : Int), (0 : Int))).1, ((b0).getD ((0 : Nat) + (Int.toNat (ar0.shr (v20 + v21) (1 : Int)))) ((0 : Int), (0 : Int))).2) c1_0c0 c1_0c1) fun y6 =>
 brO (!(decide (y6.1 < (0 : Int)))) (
 need (rng .i64 ((ar0.shr (v20 + v21) (1 : Int)) + (1 : Int))) (
 some (.inl (nv0, (v1, (v2, (v3, (v18, (v19, (((ar0.shr (v20 + v21) (1 : Int)) + (1 : Int)), (v21, (v22, (b0, (c1_0c0, (c1_0c1, ()))))))))))))))) (
 some (.inl (nv0, (v1, (v2, (v3, (v18, (v19, (v20, ((ar0.shr (v20 + v21) (1 : Int)), (v22, (b0, (c1_0c0, (c1_0c1, ())))))))))))))))))))))))) (
 some (.inr (nv0, (v1, (v2, (v3, (v18, (v19, (v20, (b0, (c1_0c0, (c1_0c1, ()))))))))))))
def CgH82_v3_4 (rec : pH82_v3.T → Option qH82_v3.T) (nv0 : Nat) (v1 : Int) (v2 : Int) (v3 : Int) (v18 : Int) (v19 : Int) (v20 : Int) (v21 : Int) (v22 : Int) (b0 : List (Int × Int)) (c1_0c0 : Int) (c1_0c1 : Int) : Option ((Nat × Int × Int × Int × Int × Int × Int × Int × Int × (List (Int × Int)) × Int × Int × Unit) ⊕ ((Nat × Int × Int × Int × Int × Int × Int × (List (Int × Int)) × Int × Int × Unit))) :=
 brC (decide (v20 < v21)) (
 needC (rng .i64 (v20 + v21)) (
 needC (rng .u64 (v20 + v21)) (
 needC (inb (1 : Int) (64 : Int)) (
 needC (rng .i64 (ar0.shr (v20 + v21) (1 : Int))) (
 needC (rng .i64 (v22 - (ar0.shr (v20 + v21) (1 : Int)))) (
 needC (inb (v22 - (ar0.shr (v20 + v21) (1 : Int))) ((nv0 : Nat) : Int)) (
 needC (decide (((0 : Nat) + (Int.toNat (v22 - (ar0.shr (v20 + v21) (1 : Int))))) < (b0).length)) (
 needC (inb (ar0.shr (v20 + v21) (1 : Int)) ((nv0 : Nat) : Int)) (
 needC (decide (((0 : Nat) + (Int.toNat (ar0.shr (v20 + v21) (1 : Int)))) < (b0).length)) (
 bindC (CF75_v1 (((b0).getD ((0 : Nat) + (Int.toNat (v22 - (ar0.shr (v20 + v21) (1 : Int))))) ((0 : Int), (0 : Int))).1, ((b0).getD ((0 : Nat) + (Int.toNat (v22 - (ar0.shr (v20 + v21) (1 : Int))))) ((0 : Int), (0 : Int))).2) (((b0).getD ((0 : Nat) + (Int.toNat (ar0.shr (v20 + v21) (1 : Int)))) ((0 : Int), (0 : Int))).1, ((b0).getD ((0 : Nat) + (Int.toNat (ar0.shr (v20 + v21) (1 : Int)))) ((0 : Int), (0 : Int))).2) c1_0c0 c1_0c1) fun y6 =>
 brC (!(decide (y6.1 < (0 : Int)))) (
 needC (rng .i64 ((ar0.shr (v20 + v21) (1 : Int)) + (1 : Int))) (
 some (.inl (nv0, (v1, (v2, (v3, (v18, (v19, (((ar0.shr (v20 + v21) (1 : Int)) + (1 : Int)), (v21, (v22, (b0, (c1_0c0, (c1_0c1, ()))))))))))))))) (
 some (.inl (nv0, (v1, (v2, (v3, (v18, (v19, (v20, ((ar0.shr (v20 + v21) (1 : Int)), (v22, (b0, (c1_0c0, (c1_0c1, ())))))))))))))))))))))))) (
 some (.inr (nv0, (v1, (v2, (v3, (v18, (v19, (v20, (b0, (c1_0c0, (c1_0c1, ()))))))))))))
theorem CgH82_v3_4_le' {rec rec' : pH82_v3.T → Option qH82_v3.T} (hr : ∀ x, Le (rec x) (rec' x)) (nv0 : Nat) (v1 : Int) (v2 : Int) (v3 : Int) (v18 : Int) (v19 : Int) (v20 : Int) (v21 : Int) (v22 : Int) (b0 : List (Int × Int)) (c1_0c0 : Int) (c1_0c1 : Int) : Le (CgH82_v3_4 rec nv0 v1 v2 v3 v18 v19 v20 v21 v22 b0 c1_0c0 c1_0c1) (gH82_v3_4 rec' nv0 v1 v2 v3 v18 v19 v20 v21 v22 b0 c1_0c0 c1_0c1) := (Le.br (Le.nd (Le.nd (Le.nd (Le.nd (Le.nd (Le.nd (Le.nd (Le.nd (Le.nd (Le.bd (CF75_v1_le ..) fun y6 => (Le.br (Le.nd Le.r) Le.r))))))))))) Le.r)
theorem sH82_v3_4 (rec : pH82_v3.T → Option qH82_v3.T) (h : Ht.Ok prog ⟨82, pH82_v3, qH82_v3, rec⟩) : ∀ x, roundE (kzO (pH82_v3_4.T ⊕ xH82_v3_4.T)) (cxH82_v3 rec) ar0 [0, 1] pH82_v3_4 xH82_v3_4 (bH82_v3_4 rec h) (fun y => some (.inl y)) (fun b => some (.inr b)) x = gH82_v3_4 rec x.1 x.2.1 x.2.2.1 x.2.2.2.1 x.2.2.2.2.1 x.2.2.2.2.2.1 x.2.2.2.2.2.2.1 x.2.2.2.2.2.2.2.1 x.2.2.2.2.2.2.2.2.1 x.2.2.2.2.2.2.2.2.2.1 x.2.2.2.2.2.2.2.2.2.2.1 x.2.2.2.2.2.2.2.2.2.2.2.1 := by intro x; kernel_rfl
noncomputable def LH82_v3_4 (rec : pH82_v3.T → Option qH82_v3.T) (h : Ht.Ok prog ⟨82, pH82_v3, qH82_v3, rec⟩) : LoopS prog 220 none 2 := mkLoop mixed (cxH82_v3 rec) (cxH82_v3_ok rec h) [0, 1] rfl pH82_v3_4 xH82_v3_4 rfl (bH82_v3_4 rec h) (fun x => gH82_v3_4 rec x.1 x.2.1 x.2.2.1 x.2.2.2.1 x.2.2.2.2.1 x.2.2.2.2.2.1 x.2.2.2.2.2.2.1 x.2.2.2.2.2.2.2.1 x.2.2.2.2.2.2.2.2.1 x.2.2.2.2.2.2.2.2.2.1 x.2.2.2.2.2.2.2.2.2.2.1 x.2.2.2.2.2.2.2.2.2.2.2.1) (sH82_v3_4 rec h)
noncomputable def ddH82_v3 (rec : pH82_v3.T → Option qH82_v3.T) (h : Ht.Ok prog ⟨82, pH82_v3, qH82_v3, rec⟩) : D prog 220 none 2 := (.seq (.seq (.reg [om 25 2, om 26 1, oo 27 (.bin .sub (.t 25) (.t 26)), oo 28 (.bin .eql (.t 27) (ki 1))]) (.cond ( .t 28) (.seq (.reg [om 29 2, om 10 29]) (.seq (.reg [om 30 3, om 11 30]) (.seq (.block 0 (.loop (LH82_v3_0 rec h))) (.seq (.seq (.reg [om 54 1, om 13 54]) (.block 2 (.loop (LH82_v3_1 rec h)))) .ret)))) .skip)) (.seq (.seq (.reg [om 77 3, om 78 2, oo 79 (.bin .sub (.t 77) (.t 78)), oo 80 (.bin .eql (.t 79) (ki 1))]) (.cond ( .t 80) (.seq (.reg [om 81 1, om 14 81]) (.seq (.reg [om 82 2, om 15 82]) (.seq (.block 4 (.loop (LH82_v3_2 rec h))) (.seq (.seq (.reg [om 107 2, om 17 107]) (.block 6 (.loop (LH82_v3_3 rec h)))) .ret)))) .skip)) (.seq (.reg [om 129 1, om 130 3, oo 131 (.bin .add (.t 129) (.t 130)), oo 132 (.conv .u64 (.t 131)), oo 133 (.bin .shr (.t 132) (.c (.int .u64 (Int.ofNat 1)))), oo 134 (.conv .i64 (.t 133)), om 18 134]) (.seq (.reg [om 135 18, om 136 2, oo 137 (.bin .add (.t 135) (.t 136)), om 19 137]) (.seq (.reg [oo 20 (.mv (ki 0)), oo 21 (.mv (ki 0))]) (.seq (.seq (.reg [om 138 2, om 139 18, oo 140 (.bin .gtr (.t 138) (.t 139))]) (.cond ( .t 140) (.seq (.reg [om 141 19, om 142 3, oo 143 (.bin .sub (.t 141) (.t 142)), om 20 143]) (.reg [om 144 18, om 21 144])) (.seq (.reg [om 145 1, om 20 145]) (.reg [om 146 2, om 21 146])))) (.seq (.reg [om 147 19, oo 148 (.bin .sub (.t 147) (ki 1)), om 22 148]) (.seq (.block 8 (.loop (LH82_v3_4 rec h))) (.seq (.reg [om 175 19, om 176 20, oo 177 (.bin .sub (.t 175) (.t 176)), om 24 177]) (.seq (.seq (.reg [om 178 20, om 179 2, oo 180 (.bin .lss (.t 178) (.t 179)), om 181 180, og 182 181 true (.mv (.t 2)), og 183 181 true (.mv (.t 24)), og 184 181 true (.bin .lss (.t 182) (.t 183)), oo 185 (.pick (.t 181) (.t 184) (.c (.tf false)))]) (.cond ( .t 185) (.reg [om 186 0, om 187 20, om 188 2, om 189 24, om 190 4, .call (some 191) none (.c (.fn 83 [] [])) [.t 186, .t 187, .t 188, .t 189, .t 190] [some (.list (.prod (.int .i64) (.int .i64))), some (.int .i64), some (.int .i64), some (.int .i64), none]]) .skip)) (.seq (.seq (.reg [om 192 1, om 193 20, oo 194 (.bin .lss (.t 192) (.t 193)), om 195 194, og 196 195 true (.mv (.t 20)), og 197 195 true (.mv (.t 18)), og 198 195 true (.bin .lss (.t 196) (.t 197)), oo 199 (.pick (.t 195) (.t 198) (.c (.tf false)))]) (.cond ( .t 199) (.reg [om 200 0, om 201 1, om 202 20, om 203 18, om 204 4, .call (some 205) none (.c (.fn 82 [] [])) [.t 200, .t 201, .t 202, .t 203, .t 204] [some (.list (.prod (.int .i64) (.int .i64))), some (.int .i64), some (.int .i64), some (.int .i64), none]]) .skip)) (.seq (.reg [om 206 18, om 207 24, oo 208 (.bin .lss (.t 206) (.t 207)), om 209 208, og 210 209 true (.mv (.t 24)), og 211 209 true (.mv (.t 3)), og 212 209 true (.bin .lss (.t 210) (.t 211)), oo 213 (.pick (.t 209) (.t 212) (.c (.tf false)))]) (.cond ( .t 213) (.reg [om 214 0, om 215 18, om 216 24, om 217 3, om 218 4, .call (some 219) none (.c (.fn 82 [] [])) [.t 214, .t 215, .t 216, .t 217, .t 218] [some (.list (.prod (.int .i64) (.int .i64))), some (.int .i64), some (.int .i64), some (.int .i64), none]]) .skip)))))))))))))
noncomputable def FH82_v3 (rec : pH82_v3.T → Option qH82_v3.T) (nv0 : Nat) (v1 : Int) (v2 : Int) (v3 : Int) (b0 : List (Int × Int)) (c1_0c0 : Int) (c1_0c1 : Int) : Option (Int × Int × (List (Int × Int)) × Unit) :=
 need (rng .i64 (v2 - v1)) (
 brO ((v2 - v1) == (1 : Int)) (
 bindO (iter (fun x => gH82_v3_0 rec x.1 x.2.1 x.2.2.1 x.2.2.2.1 x.2.2.2.2.1 x.2.2.2.2.2.1 x.2.2.2.2.2.2.1) (nv0, (v1, (v2, (v3, (b0, (c1_0c0, (c1_0c1, ())))))))) fun z1 =>
 bindO (iter (fun x => gH82_v3_1 rec x.1 x.2.1 x.2.2.1 x.2.2.2.1 x.2.2.2.2.1 x.2.2.2.2.2.1) (z1.1, (z1.2.2.1, (z1.2.1, (z1.2.2.2.1, (z1.2.2.2.2.1, (z1.2.2.2.2.2.1, ()))))))) fun z2 =>
 some (z2.1, (z2.2.1, (z2.2.2.1, ())))) (
 need (rng .i64 (v3 - v2)) (
 brO ((v3 - v2) == (1 : Int)) (
 bindO (iter (fun x => gH82_v3_2 rec x.1 x.2.1 x.2.2.1 x.2.2.2.1 x.2.2.2.2.1 x.2.2.2.2.2.1 x.2.2.2.2.2.2.1) (nv0, (v2, (v1, (v2, (b0, (c1_0c0, (c1_0c1, ())))))))) fun z4 =>
 bindO (iter (fun x => gH82_v3_3 rec x.1 x.2.1 x.2.2.1 x.2.2.2.1 x.2.2.2.2.1 x.2.2.2.2.2.1) (z4.1, (z4.2.2.1, (z4.2.1, (z4.2.2.2.1, (z4.2.2.2.2.1, (z4.2.2.2.2.2.1, ()))))))) fun z5 =>
 some (z5.1, (z5.2.1, (z5.2.2.1, ())))) (
 need (rng .i64 (v1 + v3)) (
 need (rng .u64 (v1 + v3)) (
 need (inb (1 : Int) (64 : Int)) (
 need (rng .i64 (ar0.shr (v1 + v3) (1 : Int))) (
 need (rng .i64 ((ar0.shr (v1 + v3) (1 : Int)) + v2)) (
 brO (decide ((ar0.shr (v1 + v3) (1 : Int)) < v2)) (
 need (rng .i64 (((ar0.shr (v1 + v3) (1 : Int)) + v2) - v3)) (
 need (rng .i64 (((ar0.shr (v1 + v3) (1 : Int)) + v2) - (1 : Int))) (
 bindO (iter (fun x => gH82_v3_4 rec x.1 x.2.1 x.2.2.1 x.2.2.2.1 x.2.2.2.2.1 x.2.2.2.2.2.1 x.2.2.2.2.2.2.1 x.2.2.2.2.2.2.2.1 x.2.2.2.2.2.2.2.2.1 x.2.2.2.2.2.2.2.2.2.1 x.2.2.2.2.2.2.2.2.2.2.1 x.2.2.2.2.2.2.2.2.2.2.2.1) (nv0, (v1, (v2, (v3, ((ar0.shr (v1 + v3) (1 : Int)), (((ar0.shr (v1 + v3) (1 : Int)) + v2), ((((ar0.shr (v1 + v3) (1 : Int)) + v2) - v3), ((ar0.shr (v1 + v3) (1 : Int)), ((((ar0.shr (v1 + v3) (1 : Int)) + v2) - (1 : Int)), (b0, (c1_0c0, (c1_0c1, ()))))))))))))) fun z7 =>
 need (rng .i64 (z7.2.2.2.2.2.1 - z7.2.2.2.2.2.2.1)) (
 brO (decide (z7.2.2.2.2.2.2.1 < z7.2.2.1)) (
 brO (decide (z7.2.2.1 < (z7.2.2.2.2.2.1 - z7.2.2.2.2.2.2.1))) (
 bindO (FH83_v3 z7.1 z7.2.2.2.2.2.2.1 z7.2.2.1 (z7.2.2.2.2.2.1 - z7.2.2.2.2.2.2.1) z7.2.2.2.2.2.2.2.1 z7.2.2.2.2.2.2.2.2.1 z7.2.2.2.2.2.2.2.2.2.1) fun y8 =>
 brO (decide (z7.2.1 < z7.2.2.2.2.2.2.1)) (
 brO (decide (z7.2.2.2.2.2.2.1 < z7.2.2.2.2.1)) (
 bindO (rec (z7.1, (z7.2.1, (z7.2.2.2.2.2.2.1, (z7.2.2.2.2.1, (y8.2.2.1, (y8.1, (y8.2.1, ())))))))) fun y9 =>
 brO (decide (z7.2.2.2.2.1 < (z7.2.2.2.2.2.1 - z7.2.2.2.2.2.2.1))) (
 brO (decide ((z7.2.2.2.2.2.1 - z7.2.2.2.2.2.2.1) < z7.2.2.2.1)) (
 bindO (rec (z7.1, (z7.2.2.2.2.1, ((z7.2.2.2.2.2.1 - z7.2.2.2.2.2.2.1), (z7.2.2.2.1, (y9.2.2.1, (y9.1, (y9.2.1, ())))))))) fun y10 =>
 some (y10.1, (y10.2.1, (y10.2.2.1, ())))) (
 some (y9.1, (y9.2.1, (y9.2.2.1, ()))))) (
 some (y9.1, (y9.2.1, (y9.2.2.1, ()))))) (
 brO (decide (z7.2.2.2.2.1 < (z7.2.2.2.2.2.1 - z7.2.2.2.2.2.2.1))) (
 brO (decide ((z7.2.2.2.2.2.1 - z7.2.2.2.2.2.2.1) < z7.2.2.2.1)) (
 bindO (rec (z7.1, (z7.2.2.2.2.1, ((z7.2.2.2.2.2.1 - z7.2.2.2.2.2.2.1), (z7.2.2.2.1, (y8.2.2.1, (y8.1, (y8.2.1, ())))))))) fun y11 =>
 some (y11.1, (y11.2.1, (y11.2.2.1, ())))) (
 some (y8.1, (y8.2.1, (y8.2.2.1, ()))))) (
 some (y8.1, (y8.2.1, (y8.2.2.1, ())))))) (
 brO (decide (z7.2.2.2.2.1 < (z7.2.2.2.2.2.1 - z7.2.2.2.2.2.2.1))) (
 brO (decide ((z7.2.2.2.2.2.1 - z7.2.2.2.2.2.2.1) < z7.2.2.2.1)) (
 bindO (rec (z7.1, (z7.2.2.2.2.1, ((z7.2.2.2.2.2.1 - z7.2.2.2.2.2.2.1), (z7.2.2.2.1, (y8.2.2.1, (y8.1, (y8.2.1, ())))))))) fun y12 =>
 some (y12.1, (y12.2.1, (y12.2.2.1, ())))) (
 some (y8.1, (y8.2.1, (y8.2.2.1, ()))))) (
 some (y8.1, (y8.2.1, (y8.2.2.1, ())))))) (
 brO (decide (z7.2.1 < z7.2.2.2.2.2.2.1)) (
 brO (decide (z7.2.2.2.2.2.2.1 < z7.2.2.2.2.1)) (
 bindO (rec (z7.1, (z7.2.1, (z7.2.2.2.2.2.2.1, (z7.2.2.2.2.1, (z7.2.2.2.2.2.2.2.1, (z7.2.2.2.2.2.2.2.2.1, (z7.2.2.2.2.2.2.2.2.2.1, ())))))))) fun y13 =>
 brO (decide (z7.2.2.2.2.1 < (z7.2.2.2.2.2.1 - z7.2.2.2.2.2.2.1))) (
 brO (decide ((z7.2.2.2.2.2.1 - z7.2.2.2.2.2.2.1) < z7.2.2.2.1)) (
 bindO (rec (z7.1, (z7.2.2.2.2.1, ((z7.2.2.2.2.2.1 - z7.2.2.2.2.2.2.1), (z7.2.2.2.1, (y13.2.2.1, (y13.1, (y13.2.1, ())))))))) fun y14 =>
 some (y14.1, (y14.2.1, (y14.2.2.1, ())))) (
 some (y13.1, (y13.2.1, (y13.2.2.1, ()))))) (
 some (y13.1, (y13.2.1, (y13.2.2.1, ()))))) (
 brO (decide (z7.2.2.2.2.1 < (z7.2.2.2.2.2.1 - z7.2.2.2.2.2.2.1))) (
 brO (decide ((z7.2.2.2.2.2.1 - z7.2.2.2.2.2.2.1) < z7.2.2.2.1)) (
 bindO (rec (z7.1, (z7.2.2.2.2.1, ((z7.2.2.2.2.2.1 - z7.2.2.2.2.2.2.1), (z7.2.2.2.1, (z7.2.2.2.2.2.2.2.1, (z7.2.2.2.2.2.2.2.2.1, (z7.2.2.2.2.2.2.2.2.2.1, ())))))))) fun y15 =>
 some (y15.1, (y15.2.1, (y15.2.2.1, ())))) (
 some (z7.2.2.2.2.2.2.2.2.1, (z7.2.2.2.2.2.2.2.2.2.1, (z7.2.2.2.2.2.2.2.1, ()))))) (
 some (z7.2.2.2.2.2.2.2.2.1, (z7.2.2.2.2.2.2.2.2.2.1, (z7.2.2.2.2.2.2.2.1, ())))))) (
 brO (decide (z7.2.2.2.2.1 < (z7.2.2.2.2.2.1 - z7.2.2.2.2.2.2.1))) (
 brO (decide ((z7.2.2.2.2.2.1 - z7.2.2.2.2.2.2.1) < z7.2.2.2.1)) (
 bindO (rec (z7.1, (z7.2.2.2.2.1, ((z7.2.2.2.2.2.1 - z7.2.2.2.2.2.2.1), (z7.2.2.2.1, (z7.2.2.2.2.2.2.2.1, (z7.2.2.2.2.2.2.2.2.1, (z7.2.2.2.2.2.2.2.2.2.1, ())))))))) fun y16 =>
 some (y16.1, (y16.2.1, (y16.2.2.1, ())))) (
 some (z7.2.2.2.2.2.2.2.2.1, (z7.2.2.2.2.2.2.2.2.2.1, (z7.2.2.2.2.2.2.2.1, ()))))) (
 some (z7.2.2.2.2.2.2.2.2.1, (z7.2.2.2.2.2.2.2.2.2.1, (z7.2.2.2.2.2.2.2.1, ()))))))) (
 brO (decide (z7.2.1 < z7.2.2.2.2.2.2.1)) (
 brO (decide (z7.2.2.2.2.2.2.1 < z7.2.2.2.2.1)) (
 bindO (rec (z7.1, (z7.2.1, (z7.2.2.2.2.2.2.1, (z7.2.2.2.2.1, (z7.2.2.2.2.2.2.2.1, (z7.2.2.2.2.2.2.2.2.1, (z7.2.2.2.2.2.2.2.2.2.1, ())))))))) fun y17 =>
 brO (decide (z7.2.2.2.2.1 < (z7.2.2.2.2.2.1 - z7.2.2.2.2.2.2.1))) (
 brO (decide ((z7.2.2.2.2.2.1 - z7.2.2.2.2.2.2.1) < z7.2.2.2.1)) (
 bindO (rec (z7.1, (z7.2.2.2.2.1, ((z7.2.2.2.2.2.1 - z7.2.2.2.2.2.2.1), (z7.2.2.2.1, (y17.2.2.1, (y17.1, (y17.2.1, ())))))))) fun y18 =>
 some (y18.1, (y18.2.1, (y18.2.2.1, ())))) (
 some (y17.1, (y17.2.1, (y17.2.2.1, ()))))) (
 some (y17.1, (y17.2.1, (y17.2.2.1, ()))))) (
 brO (decide (z7.2.2.2.2.1 < (z7.2.2.2.2.2.1 - z7.2.2.2.2.2.2.1))) (
 brO (decide ((z7.2.2.2.2.2.1 - z7.2.2.2.2.2.2.1) < z7.2.2.2.1)) (
 bindO (rec (z7.1, (z7.2.2.2.2.1, ((z7.2.2.2.2.2.1 - z7.2.2.2.2.2.2.1), (z7.2.2.2.1, (z7.2.2.2.2.2.2.2.1, (z7.2.2.2.2.2.2.2.2.1, (z7.2.2.2.2.2.2.2.2.2.1, ())))))))) fun y19 =>
 some (y19.1, (y19.2.1, (y19.2.2.1, ())))) (
 some (z7.2.2.2.2.2.2.2.2.1, (z7.2.2.2.2.2.2.2.2.2.1, (z7.2.2.2.2.2.2.2.1, ()))))) (
 some (z7.2.2.2.2.2.2.2.2.1, (z7.2.2.2.2.2.2.2.2.2.1, (z7.2.2.2.2.2.2.2.1, ())))))) (
 brO (decide (z7.2.2.2.2.1 < (z7.2.2.2.2.2.1 - z7.2.2.2.2.2.2.1))) (
 brO (decide ((z7.2.2.2.2.2.1 - z7.2.2.2.2.2.2.1) < z7.2.2.2.1)) (
 bindO (rec (z7.1, (z7.2.2.2.2.1, ((z7.2.2.2.2.2.1 - z7.2.2.2.2.2.2.1), (z7.2.2.2.1, (z7.2.2.2.2.2.2.2.1, (z7.2.2.2.2.2.2.2.2.1, (z7.2.2.2.2.2.2.2.2.2.1, ())))))))) fun y20 =>
 some (y20.1, (y20.2.1, (y20.2.2.1, ())))) (
 some (z7.2.2.2.2.2.2.2.2.1, (z7.2.2.2.2.2.2.2.2.2.1, (z7.2.2.2.2.2.2.2.1, ()))))) (
 some (z7.2.2.2.2.2.2.2.2.1, (z7.2.2.2.2.2.2.2.2.2.1, (z7.2.2.2.2.2.2.2.1, ())))))))))) (
 need (rng .i64 (((ar0.shr (v1 + v3) (1 : Int)) + v2) - (1 : Int))) (
 bindO (iter (fun x => gH82_v3_4 rec x.1 x.2.1 x.2.2.1 x.2.2.2.1 x.2.2.2.2.1 x.2.2.2.2.2.1 x.2.2.2.2.2.2.1 x.2.2.2.2.2.2.2.1 x.2.2.2.2.2.2.2.2.1 x.2.2.2.2.2.2.2.2.2.1 x.2.2.2.2.2.2.2.2.2.2.1 x.2.2.2.2.2.2.2.2.2.2.2.1) (nv0, (v1, (v2, (v3, ((ar0.shr (v1 + v3) (1 : Int)), (((ar0.shr (v1 + v3) (1 : Int)) + v2), (v1, (v2, ((((ar0.shr (v1 + v3) (1 : Int)) + v2) - (1 : Int)), (b0, (c1_0c0, (c1_0c1, ()))))))))))))) fun z21 =>
 need (rng .i64 (z21.2.2.2.2.2.1 - z21.2.2.2.2.2.2.1)) (
 brO (decide (z21.2.2.2.2.2.2.1 < z21.2.2.1)) (
 brO (decide (z21.2.2.1 < (z21.2.2.2.2.2.1 - z21.2.2.2.2.2.2.1))) (
 bindO (FH83_v3 z21.1 z21.2.2.2.2.2.2.1 z21.2.2.1 (z21.2.2.2.2.2.1 - z21.2.2.2.2.2.2.1) z21.2.2.2.2.2.2.2.1 z21.2.2.2.2.2.2.2.2.1 z21.2.2.2.2.2.2.2.2.2.1) fun y22 =>
 brO (decide (z21.2.1 < z21.2.2.2.2.2.2.1)) (
 brO (decide (z21.2.2.2.2.2.2.1 < z21.2.2.2.2.1)) (
 bindO (rec (z21.1, (z21.2.1, (z21.2.2.2.2.2.2.1, (z21.2.2.2.2.1, (y22.2.2.1, (y22.1, (y22.2.1, ())))))))) fun y23 =>
 brO (decide (z21.2.2.2.2.1 < (z21.2.2.2.2.2.1 - z21.2.2.2.2.2.2.1))) (
 brO (decide ((z21.2.2.2.2.2.1 - z21.2.2.2.2.2.2.1) < z21.2.2.2.1)) (
 bindO (rec (z21.1, (z21.2.2.2.2.1, ((z21.2.2.2.2.2.1 - z21.2.2.2.2.2.2.1), (z21.2.2.2.1, (y23.2.2.1, (y23.1, (y23.2.1, ())))))))) fun y24 =>
 some (y24.1, (y24.2.1, (y24.2.2.1, ())))) (
 some (y23.1, (y23.2.1, (y23.2.2.1, ()))))) (
 some (y23.1, (y23.2.1, (y23.2.2.1, ()))))) (
 brO (decide (z21.2.2.2.2.1 < (z21.2.2.2.2.2.1 - z21.2.2.2.2.2.2.1))) (
 brO (decide ((z21.2.2.2.2.2.1 - z21.2.2.2.2.2.2.1) < z21.2.2.2.1)) (
 bindO (rec (z21.1, (z21.2.2.2.2.1, ((z21.2.2.2.2.2.1 - z21.2.2.2.2.2.2.1), (z21.2.2.2.1, (y22.2.2.1, (y22.1, (y22.2.1, ())))))))) fun y25 =>
 some (y25.1, (y25.2.1, (y25.2.2.1, ())))) (
 some (y22.1, (y22.2.1, (y22.2.2.1, ()))))) (
 some (y22.1, (y22.2.1, (y22.2.2.1, ())))))) (
 brO (decide (z21.2.2.2.2.1 < (z21.2.2.2.2.2.1 - z21.2.2.2.2.2.2.1))) (
 brO (decide ((z21.2.2.2.2.2.1 - z21.2.2.2.2.2.2.1) < z21.2.2.2.1)) (
 bindO (rec (z21.1, (z21.2.2.2.2.1, ((z21.2.2.2.2.2.1 - z21.2.2.2.2.2.2.1), (z21.2.2.2.1, (y22.2.2.1, (y22.1, (y22.2.1, ())))))))) fun y26 =>
 some (y26.1, (y26.2.1, (y26.2.2.1, ())))) (
 some (y22.1, (y22.2.1, (y22.2.2.1, ()))))) (
 some (y22.1, (y22.2.1, (y22.2.2.1, ())))))) (
 brO (decide (z21.2.1 < z21.2.2.2.2.2.2.1)) (
 brO (decide (z21.2.2.2.2.2.2.1 < z21.2.2.2.2.1)) (
 bindO (rec (z21.1, (z21.2.1, (z21.2.2.2.2.2.2.1, (z21.2.2.2.2.1, (z21.2.2.2.2.2.2.2.1, (z21.2.2.2.2.2.2.2.2.1, (z21.2.2.2.2.2.2.2.2.2.1, ())))))))) fun y27 =>
 brO (decide (z21.2.2.2.2.1 < (z21.2.2.2.2.2.1 - z21.2.2.2.2.2.2.1))) (
 brO (decide ((z21.2.2.2.2.2.1 - z21.2.2.2.2.2.2.1) < z21.2.2.2.1)) (
 bindO (rec (z21.1, (z21.2.2.2.2.1, ((z21.2.2.2.2.2.1 - z21.2.2.2.2.2.2.1), (z21.2.2.2.1, (y27.2.2.1, (y27.1, (y27.2.1, ())))))))) fun y28 =>
 some (y28.1, (y28.2.1, (y28.2.2.1, ())))) (
 some (y27.1, (y27.2.1, (y27.2.2.1, ()))))) (
 some (y27.1, (y27.2.1, (y27.2.2.1, ()))))) (
 brO (decide (z21.2.2.2.2.1 < (z21.2.2.2.2.2.1 - z21.2.2.2.2.2.2.1))) (
 brO (decide ((z21.2.2.2.2.2.1 - z21.2.2.2.2.2.2.1) < z21.2.2.2.1)) (
 bindO (rec (z21.1, (z21.2.2.2.2.1, ((z21.2.2.2.2.2.1 - z21.2.2.2.2.2.2.1), (z21.2.2.2.1, (z21.2.2.2.2.2.2.2.1, (z21.2.2.2.2.2.2.2.2.1, (z21.2.2.2.2.2.2.2.2.2.1, ())))))))) fun y29 =>
 some (y29.1, (y29.2.1, (y29.2.2.1, ())))) (
 some (z21.2.2.2.2.2.2.2.2.1, (z21.2.2.2.2.2.2.2.2.2.1, (z21.2.2.2.2.2.2.2.1, ()))))) (
 some (z21.2.2.2.2.2.2.2.2.1, (z21.2.2.2.2.2.2.2.2.2.1, (z21.2.2.2.2.2.2.2.1, ())))))) (
 brO (decide (z21.2.2.2.2.1 < (z21.2.2.2.2.2.1 - z21.2.2.2.2.2.2.1))) (
 brO (decide ((z21.2.2.2.2.2.1 - z21.2.2.2.2.2.2.1) < z21.2.2.2.1)) (
 bindO (rec (z21.1, (z21.2.2.2.2.1, ((z21.2.2.2.2.2.1 - z21.2.2.2.2.2.2.1), (z21.2.2.2.1, (z21.2.2.2.2.2.2.2.1, (z21.2.2.2.2.2.2.2.2.1, (z21.2.2.2.2.2.2.2.2.2.1, ())))))))) fun y30 =>
 some (y30.1, (y30.2.1, (y30.2.2.1, ())))) (
 some (z21.2.2.2.2.2.2.2.2.1, (z21.2.2.2.2.2.2.2.2.2.1, (z21.2.2.2.2.2.2.2.1, ()))))) (
 some (z21.2.2.2.2.2.2.2.2.1, (z21.2.2.2.2.2.2.2.2.2.1, (z21.2.2.2.2.2.2.2.1, ()))))))) (
 brO (decide (z21.2.1 < z21.2.2.2.2.2.2.1)) (
 brO (decide (z21.2.2.2.2.2.2.1 < z21.2.2.2.2.1)) (
 bindO (rec (z21.1, (z21.2.1, (z21.2.2.2.2.2.2.1, (z21.2.2.2.2.1, (z21.2.2.2.2.2.2.2.1, (z21.2.2.2.2.2.2.2.2.1, (z21.2.2.2.2.2.2.2.2.2.1, ())))))))) fun y31 =>
 brO (decide (z21.2.2.2.2.1 < (z21.2.2.2.2.2.1 - z21.2.2.2.2.2.2.1))) (
 brO (decide ((z21.2.2.2.2.2.1 - z21.2.2.2.2.2.2.1) < z21.2.2.2.1)) (
 bindO (rec (z21.1, (z21.2.2.2.2.1, ((z21.2.2.2.2.2.1 - z21.2.2.2.2.2.2.1), (z21.2.2.2.1, (y31.2.2.1, (y31.1, (y31.2.1, ())))))))) fun y32 =>
 some (y32.1, (y32.2.1, (y32.2.2.1, ())))) (
 some (y31.1, (y31.2.1, (y31.2.2.1, ()))))) (
 some (y31.1, (y31.2.1, (y31.2.2.1, ()))))) (
 brO (decide (z21.2.2.2.2.1 < (z21.2.2.2.2.2.1 - z21.2.2.2.2.2.2.1))) (
 brO (decide ((z21.2.2.2.2.2.1 - z21.2.2.2.2.2.2.1) < z21.2.2.2.1)) (
 bindO (rec (z21.1, (z21.2.2.2.2.1, ((z21.2.2.2.2.2.1 - z21.2.2.2.2.2.2.1), (z21.2.2.2.1, (z21.2.2.2.2.2.2.2.1, (z21.2.2.2.2.2.2.2.2.1, (z21.2.2.2.2.2.2.2.2.2.1, ())))))))) fun y33 =>
 some (y33.1, (y33.2.1, (y33.2.2.1, ())))) (
 some (z21.2.2.2.2.2.2.2.2.1, (z21.2.2.2.2.2.2.2.2.2.1, (z21.2.2.2.2.2.2.2.1, ()))))) (
 some (z21.2.2.2.2.2.2.2.2.1, (z21.2.2.2.2.2.2.2.2.2.1, (z21.2.2.2.2.2.2.2.1, ())))))) (
 brO (decide (z21.2.2.2.2.1 < (z21.2.2.2.2.2.1 - z21.2.2.2.2.2.2.1))) (
 brO (decide ((z21.2.2.2.2.2.1 - z21.2.2.2.2.2.2.1) < z21.2.2.2.1)) (
 bindO (rec (z21.1, (z21.2.2.2.2.1, ((z21.2.2.2.2.2.1 - z21.2.2.2.2.2.2.1), (z21.2.2.2.1, (z21.2.2.2.2.2.2.2.1, (z21.2.2.2.2.2.2.2.2.1, (z21.2.2.2.2.2.2.2.2.2.1, ())))))))) fun y34 =>
 some (y34.1, (y34.2.1, (y34.2.2.1, ())))) (
 some (z21.2.2.2.2.2.2.2.2.1, (z21.2.2.2.2.2.2.2.2.2.1, (z21.2.2.2.2.2.2.2.1, ()))))) (
 some (z21.2.2.2.2.2.2.2.2.1, (z21.2.2.2.2.2.2.2.2.2.1, (z21.2.2.2.2.2.2.2.1, ()))))))))))))))))))
def CFH82_v3 (rec : pH82_v3.T → Option qH82_v3.T) (nv0 : Nat) (v1 : Int) (v2 : Int) (v3 : Int) (b0 : List (Int × Int)) (c1_0c0 : Int) (c1_0c1 : Int) : Option (Int × Int × (List (Int × Int)) × Unit) :=
 needC (rng .i64 (v2 - v1)) (
 brC ((v2 - v1) == (1 : Int)) (
 bindC (iterF (fun x => CgH82_v3_0 rec x.1 x.2.1 x.2.2.1 x.2.2.2.1 x.2.2.2.2.1 x.2.2.2.2.2.1 x.2.2.2.2.2.2.1) 1000000 (nv0, (v1, (v2, (v3, (b0, (c1_0c0, (c1_0c1, ())))))))) fun z1 =>
 bindC (iterF (fun x => CgH82_v3_1 rec x.1 x.2.1 x.2.2.1 x.2.2.2.1 x.2.2.2.2.1 x.2.2.2.2.2.1) 1000000 (z1.1, (z1.2.2.1, (z1.2.1, (z1.2.2.2.1, (z1.2.2.2.2.1, (z1.2.2.2.2.2.1, ()))))))) fun z2 =>
 some (z2.1, (z2.2.1, (z2.2.2.1, ())))) (
 needC (rng .i64 (v3 - v2)) (
 brC ((v3 - v2) == (1 : Int)) (
 bindC (iterF (fun x => CgH82_v3_2 rec x.1 x.2.1 x.2.2.1 x.2.2.2.1 x.2.2.2.2.1 x.2.2.2.2.2.1 x.2.2.2.2.2.2.1) 1000000 (nv0, (v2, (v1, (v2, (b0, (c1_0c0, (c1_0c1, ())))))))) fun z4 =>
 bindC (iterF (fun x => CgH82_v3_3 rec x.1 x.2.1 x.2.2.1 x.2.2.2.1 x.2.2.2.2.1 x.2.2.2.2.2.1) 1000000 (z4.1, (z4.2.2.1, (z4.2.1, (z4.2.2.2.1, (z4.2.2.2.2.1, (z4.2.2.2.2.2.1, ()))))))) fun z5 =>
 some (z5.1, (z5.2.1, (z5.2.2.1, ())))) (
 needC (rng .i64 (v1 + v3)) (
 needC (rng .u64 (v1 + v3)) (
 needC (inb (1 : Int) (64 : Int)) (
 needC (rng .i64 (ar0.shr (v1 + v3) (1 : Int))) (
 needC (rng .i64 ((ar0.shr (v1 + v3) (1 : Int)) + v2)) (
 brC (decide ((ar0.shr (v1 + v3) (1 : Int)) < v2)) (
 needC (rng .i64 (((ar0.shr (v1 + v3) (1 : Int)) + v2) - v3)) (
 needC (rng .i64 (((ar0.shr (v1 + v3) (1 : Int)) + v2) - (1 : Int))) (
 bindC (iterF (fun x => CgH82_v3_4 rec x.1 x.2.1 x.2.2.1 x.2.2.2.1 x.2.2.2.2.1 x.2.2.2.2.2.1 x.2.2.2.2.2.2.1 x.2.2.2.2.2.2.2.1 x.2.2.2.2.2.2.2.2.1 x.2.2.2.2.2.2.2.2.2.1 x.2.2.2.2.2.2.2.2.2.2.1 x.2.2.2.2.2.2.2.2.2.2.2.1) 1000000 (nv0, (v1, (v2, (v3, ((ar0.shr (v1 + v3) (1 : Int)), (((ar0.shr (v1 + v3) (1 : Int)) + v2), ((((ar0.shr (v1 + v3) (1 : Int)) + v2) - v3), ((ar0.shr (v1 + v3) (1 : Int)), ((((ar0.shr (v1 + v3) (1 : Int)) + v2) - (1 : Int)), (b0, (c1_0c0, (c1_0c1, ()))))))))))))) fun z7 =>
 needC (rng .i64 (z7.2.2.2.2.2.1 - z7.2.2.2.2.2.2.1)) (
 brC (decide (z7.2.2.2.2.2.2.1 < z7.2.2.1)) (
 brC (decide (z7.2.2.1 < (z7.2.2.2.2.2.1 - z7.2.2.2.2.2.2.1))) (
 bindC (CFH83_v3 z7.1 z7.2.2.2.2.2.2.1 z7.2.2.1 (z7.2.2.2.2.2.1 - z7.2.2.2.2.2.2.1) z7.2.2.2.2.2.2.2.1 z7.2.2.2.2.2.2.2.2.1 z7.2.2.2.2.2.2.2.2.2.1) fun y8 =>
 brC (decide (z7.2.1 < z7.2.2.2.2.2.2.1)) (
 brC (decide (z7.2.2.2.2.2.2.1 < z7.2.2.2.2.1)) (
 bindC (rec (z7.1, (z7.2.1, (z7.2.2.2.2.2.2.1, (z7.2.2.2.2.1, (y8.2.2.1, (y8.1, (y8.2.1, ())))))))) fun y9 =>
 brC (decide (z7.2.2.2.2.1 < (z7.2.2.2.2.2.1 - z7.2.2.2.2.2.2.1))) (
 brC (decide ((z7.2.2.2.2.2.1 - z7.2.2.2.2.2.2.1) < z7.2.2.2.1)) (
 bindC (rec (z7.1, (z7.2.2.2.2.1, ((z7.2.2.2.2.2.1 - z7.2.2.2.2.2.2.1), (z7.2.2.2.1, (y9.2.2.1, (y9.1, (y9.2.1, ())))))))) fun y10 =>
 some (y10.1, (y10.2.1, (y10.2.2.1, ())))) (
 some (y9.1, (y9.2.1, (y9.2.2.1, ()))))) (
 some (y9.1, (y9.2.1, (y9.2.2.1, ()))))) (
 brC (decide (z7.2.2.2.2.1 < (z7.2.2.2.2.2.1 - z7.2.2.2.2.2.2.1))) (
 brC (decide ((z7.2.2.2.2.2.1 - z7.2.2.2.2.2.2.1) < z7.2.2.2.1)) (
 bindC (rec (z7.1, (z7.2.2.2.2.1, ((z7.2.2.2.2.2.1 - z7.2.2.2.2.2.2.1), (z7.2.2.2.1, (y8.2.2.1, (y8.1, (y8.2.1, ())))))))) fun y11 =>
 some (y11.1, (y11.2.1, (y11.2.2.1, ())))) (
 some (y8.1, (y8.2.1, (y8.2.2.1, ()))))) (
 some (y8.1, (y8.2.1, (y8.2.2.1, ())))))) (
 brC (decide (z7.2.2.2.2.1 < (z7.2.2.2.2.2.1 - z7.2.2.2.2.2.2.1))) (
 brC (decide ((z7.2.2.2.2.2.1 - z7.2.2.2.2.2.2.1) < z7.2.2.2.1)) (
 bindC (rec (z7.1, (z7.2.2.2.2.1, ((z7.2.2.2.2.2.1 - z7.2.2.2.2.2.2.1), (z7.2.2.2.1, (y8.2.2.1, (y8.1, (y8.2.1, ())))))))) fun y12 =>
 some (y12.1, (y12.2.1, (y12.2.2.1, ())))) (
 some (y8.1, (y8.2.1, (y8.2.2.1, ()))))) (
 some (y8.1, (y8.2.1, (y8.2.2.1, ())))))) (
 brC (decide (z7.2.1 < z7.2.2.2.2.2.2.1)) (
 brC (decide (z7.2.2.2.2.2.2.1 < z7.2.2.2.2.1)) (
 bindC (rec (z7.1, (z7.2.1, (z7.2.2.2.2.2.2.1, (z7.2.2.2.2.1, (z7.2.2.2.2.2.2.2.1, (z7.2.2.2.2.2.2.2.2.1, (z7.2.2.2.2.2.2.2.2.2.1, ())))))))) fun y13 =>
 brC (decide (z7.2.2.2.2.1 < (z7.2.2.2.2.2.1 - z7.2.2.2.2.2.2.1))) (
 brC (decide ((z7.2.2.2.2.2.1 - z7.2.2.2.2.2.2.1) < z7.2.2.2.1)) (
 bindC (rec (z7.1, (z7.2.2.2.2.1, ((z7.2.2.2.2.2.1 - z7.2.2.2.2.2.2.1), (z7.2.2.2.1, (y13.2.2.1, (y13.1, (y13.2.1, ())))))))) fun y14 =>
 some (y14.1, (y14.2.1, (y14.2.2.1, ())))) (
 some (y13.1, (y13.2.1, (y13.2.2.1, ()))))) (
 some (y13.1, (y13.2.1, (y13.2.2.1, ()))))) (
 brC (decide (z7.2.2.2.2.1 < (z7.2.2.2.2.2.1 - z7.2.2.2.2.2.2.1))) (
 brC (decide ((z7.2.2.2.2.2.1 - z7.2.2.2.2.2.2.1) < z7.2.2.2.1)) (
 bindC (rec (z7.1, (z7.2.2.2.2.1, ((z7.2.2.2.2.2.1 - z7.2.2.2.2.2.2.1), (z7.2.2.2.1, (z7.2.2.2.2.2.2.2.1, (z7.2.2.2.2.2.2.2.2.1, (z7.2.2.2.2.2.2.2.2.2.1, ())))))))) fun y15 =>
 some (y15.1, (y15.2.1, (y15.2.2.1, ())))) (
 some (z7.2.2.2.2.2.2.2.2.1, (z7.2.2.2.2.2.2.2.2.2.1, (z7.2.2.2.2.2.2.2.1, ()))))) (
 some (z7.2.2.2.2.2.2.2.2.1, (z7.2.2.2.2.2.2.2.2.2.1, (z7.2.2.2.2.2.2.2.1, ())))))) (
 brC (decide (z7.2.2.2.2.1 < (z7.2.2.2.2.2.1 - z7.2.2.2.2.2.2.1))) (
 brC (decide ((z7.2.2.2.2.2.1 - z7.2.2.2.2.2.2.1) < z7.2.2.2.1)) (
 bindC (rec (z7.1, (z7.2.2.2.2.1, ((z7.2.2.2.2.2.1 - z7.2.2.2.2.2.2.1), (z7.2.2.2.1, (z7.2.2.2.2.2.2.2.1, (z7.2.2.2.2.2.2.2.2.1, (z7.2.2.2.2.2.2.2.2.2.1, ())))))))) fun y16 =>
 some (y16.1, (y16.2.1, (y16.2.2.1, ())))) (
 some (z7.2.2.2.2.2.2.2.2.1, (z7.2.2.2.2.2.2.2.2.2.1, (z7.2.2.2.2.2.2.2.1, ()))))) (
 some (z7.2.2.2.2.2.2.2.2.1, (z7.2.2.2.2.2.2.2.2.2.1, (z7.2.2.2.2.2.2.2.1, ()))))))) (
 brC (decide (z7.2.1 < z7.2.2.2.2.2.2.1)) (
 brC (decide (z7.2.2.2.2.2.2.1 < z7.2.2.2.2.1)) (
 bindC (rec (z7.1, (z7.2.1, (z7.2.2.2.2.2.2.1, (z7.2.2.2.2.1, (z7.2.2.2.2.2.2.2.1, (z7.2.2.2.2.2.2.2.2.1, (z7.2.2.2.2.2.2.2.2.2.1, ())))))))) fun y17 =>
 brC (decide (z7.2.2.2.2.1 < (z7.2.2.2.2.2.1 - z7.2.2.2.2.2.2.1))) (
 brC (decide ((z7.2.2.2.2.2.1 - z7.2.2.2.2.2.2.1) < z7.2.2.2.1)) (
 bindC (rec (z7.1, (z7.2.2.2.2.1, ((z7.2.2.2.2.2.1 - z7.2.2.2.2.2.2.1), (z7.2.2.2.1, (y17.2.2.1, (y17.1, (y17.2.1, ())))))))) fun y18 =>
 some (y18.1, (y18.2.1, (y18.2.2.1, ())))) (
 some (y17.1, (y17.2.1, (y17.2.2.1, ()))))) (
 some (y17.1, (y17.2.1, (y17.2.2.1, ()))))) (
 brC (decide (z7.2.2.2.2.1 < (z7.2.2.2.2.2.1 - z7.2.2.2.2.2.2.1))) (
 brC (decide ((z7.2.2.2.2.2.1 - z7.2.2.2.2.2.2.1) < z7.2.2.2.1)) (
 bindC (rec (z7.1, (z7.2.2.2.2.1, ((z7.2.2.2.2.2.1 - z7.2.2.2.2.2.2.1), (z7.2.2.2.1, (z7.2.2.2.2.2.2.2.1, (z7.2.2.2.2.2.2.2.2.1, (z7.2.2.2.2.2.2.2.2.2.1, ())))))))) fun y19 =>
 some (y19.1, (y19.2.1, (y19.2.2.1, ())))) (
 some (z7.2.2.2.2.2.2.2.2.1, (z7.2.2.2.2.2.2.2.2.2.1, (z7.2.2.2.2.2.2.2.1, ()))))) (
 some (z7.2.2.2.2.2.2.2.2.1, (z7.2.2.2.2.2.2.2.2.2.1, (z7.2.2.2.2.2.2.2.1, ())))))) (
 brC (decide (z7.2.2.2.2.1 < (z7.2.2.2.2.2.1 - z7.2.2.2.2.2.2.1))) (
 brC (decide ((z7.2.2.2.2.2.1 - z7.2.2.2.2.2.2.1) < z7.2.2.2.1)) (
 bindC (rec (z7.1, (z7.2.2.2.2.1, ((z7.2.2.2.2.2.1 - z7.2.2.2.2.2.2.1), (z7.2.2.2.1, (z7.2.2.2.2.2.2.2.1, (z7.2.2.2.2.2.2.2.2.1, (z7.2.2.2.2.2.2.2.2.2.1, ())))))))) fun y20 =>
 some (y20.1, (y20.2.1, (y20.2.2.1, ())))) (
 some (z7.2.2.2.2.2.2.2.2.1, (z7.2.2.2.2.2.2.2.2.2.1, (z7.2.2.2.2.2.2.2.1, ()))))) (
 some (z7.2.2.2.2.2.2.2.2.1, (z7.2.2.2.2.2.2.2.2.2.1, (z7.2.2.2.2.2.2.2.1, ())))))))))) (
 needC (rng .i64 (((ar0.shr (v1 + v3) (1 : Int)) + v2) - (1 : Int))) (
 bindC (iterF (fun x => CgH82_v3_4 rec x.1 x.2.1 x.2.2.1 x.2.2.2.1 x.2.2.2.2.1 x.2.2.2.2.2.1 x.2.2.2.2.2.2.1 x.2.2.2.2.2.2.2.1 x.2.2.2.2.2.2.2.2.1 x.2.2.2.2.2.2.2.2.2.1 x.2.2.2.2.2.2.2.2.2.2.1 x.2.2.2.2.2.2.2.2.2.2.2.1) 1000000 (nv0, (v1, (v2, (v3, ((ar0.shr (v1 + v3) (1 : Int)), (((ar0.shr (v1 + v3) (1 : Int)) + v2), (v1, (v2, ((((ar0.shr (v1 + v3) (1 : Int)) + v2) - (1 : Int)), (b0, (c1_0c0, (c1_0c1, ()))))))))))))) fun z21 =>
 needC (rng .i64 (z21.2.2.2.2.2.1 - z21.2.2.2.2.2.2.1)) (
 brC (decide (z21.2.2.2.2.2.2.1 < z21.2.2.1)) (
 brC (decide (z21.2.2.1 < (z21.2.2.2.2.2.1 - z21.2.2.2.2.2.2.1))) (
 bindC (CFH83_v3 z21.1 z21.2.2.2.2.2.2.1 z21.2.2.1 (z21.2.2.2.2.2.1 - z21.2.2.2.2.2.2.1) z21.2.2.2.2.2.2.2.1 z21.2.2.2.2.2.2.2.2.1 z21.2.2.2.2.2.2.2.2.2.1) fun y22 =>
 brC (decide (z21.2.1 < z21.2.2.2.2.2.2.1)) (
 brC (decide (z21.2.2.2.2.2.2.1 < z21.2.2.2.2.1)) (
 bindC (rec (z21.1, (z21.2.1, (z21.2.2.2.2.2.2.1, (z21.2.2.2.2.1, (y22.2.2.1, (y22.1, (y22.2.1, ())))))))) fun y23 =>
 brC (decide (z21.2.2.2.2.1 < (z21.2.2.2.2.2.1 - z21.2.2.2.2.2.2.1))) (
 brC (decide ((z21.2.2.2.2.2.1 - z21.2.2.2.2.2.2.1) < z21.2.2.2.1)) (
 bindC (rec (z21.1, (z21.2.2.2.2.1, ((z21.2.2.2.2.2.1 - z21.2.2.2.2.2.2.1), (z21.2.2.2.1, (y23.2.2.1, (y23.1, (y23.2.1, ())))))))) fun y24 =>
 some (y24.1, (y24.2.1, (y24.2.2.1, ())))) (
 some (y23.1, (y23.2.1, (y23.2.2.1, ()))))) (
 some (y23.1, (y23.2.1, (y23.2.2.1, ()))))) (
 brC (decide (z21.2.2.2.2.1 < (z21.2.2.2.2.2.1 - z21.2.2.2.2.2.2.1))) (
 brC (decide ((z21.2.2.2.2.2.1 - z21.2.2.2.2.2.2.1) < z21.2.2.2.1)) (
 bindC (rec (z21.1, (z21.2.2.2.2.1, ((z21.2.2.2.2.2.1 - z21.2.2.2.2.2.2.1), (z21.2.2.2.1, (y22.2.2.1, (y22.1, (y22.2.1, ())))))))) fun y25 =>
 some (y25.1, (y25.2.1, (y25.2.2.1, ())))) (
 some (y22.1, (y22.2.1, (y22.2.2.1, ()))))) (
 some (y22.1, (y22.2.1, (y22.2.2.1, ())))))) (
 brC (decide (z21.2.2.2.2.1 < (z21.2.2.2.2.2.1 - z21.2.2.2.2.2.2.1))) (
 brC (decide ((z21.2.2.2.2.2.1 - z21.2.2.2.2.2.2.1) < z21.2.2.2.1)) (
 bindC (rec (z21.1, (z21.2.2.2.2.1, ((z21.2.2.2.2.2.1 - z21.2.2.2.2.2.2.1), (z21.2.2.2.1, (y22.2.2.1, (y22.1, (y22.2.1, ())))))))) fun y26 =>
 some (y26.1, (y26.2.1, (y26.2.2.1, ())))) (
 some (y22.1, (y22.2.1, (y22.2.2.1, ()))))) (
 some (y22.1, (y22.2.1, (y22.2.2.1, ())))))) (
 brC (decide (z21.2.1 < z21.2.2.2.2.2.2.1)) (
 brC (decide (z21.2.2.2.2.2.2.1 < z21.2.2.2.2.1)) (
 bindC (rec (z21.1, (z21.2.1, (z21.2.2.2.2.2.2.1, (z21.2.2.2.2.1, (z21.2.2.2.2.2.2.2.1, (z21.2.2.2.2.2.2.2.2.1, (z21.2.2.2.2.2.2.2.2.2.1, ())))))))) fun y27 =>
 brC (decide (z21.2.2.2.2.1 < (z21.2.2.2.2.2.1 - z21.2.2.2.2.2.2.1))) (
 brC (decide ((z21.2.2.2.2.2.1 - z21.2.2.2.2.2.2.1) < z21.2.2.2.1)) (
 bindC (rec (z21.1, (z21.2.2.2.2.1, ((z21.2.2.2.2.2.1 - z21.2.2.2.2.2.2.1), (z21.2.2.2.1, (y27.2.2.1, (y27.1, (y27.2.1, ())))))))) fun y28 =>
 some (y28.1, (y28.2.1, (y28.2.2.1, ())))) (
 some (y27.1, (y27.2.1, (y27.2.2.1, ()))))) (
 some (y27.1, (y27.2.1, (y27.2.2.1, ()))))) (
 brC (decide (z21.2.2.2.2.1 < (z21.2.2.2.2.2.1 - z21.2.2.2.2.2.2.1))) (
 brC (decide ((z21.2.2.2.2.2.1 - z21.2.2.2.2.2.2.1) < z21.2.2.2.1)) (
 bindC (rec (z21.1, (z21.2.2.2.2.1, ((z21.2.2.2.2.2.1 - z21.2.2.2.2.2.2.1), (z21.2.2.2.1, (z21.2.2.2.2.2.2.2.1, (z21.2.2.2.2.2.2.2.2.1, (z21.2.2.2.2.2.2.2.2.2.1, ())))))))) fun y29 =>
 some (y29.1, (y29.2.1, (y29.2.2.1, ())))) (
 some (z21.2.2.2.2.2.2.2.2.1, (z21.2.2.2.2.2.2.2.2.2.1, (z21.2.2.2.2.2.2.2.1, ()))))) (
 some (z21.2.2.2.2.2.2.2.2.1, (z21.2.2.2.2.2.2.2.2.2.1, (z21.2.2.2.2.2.2.2.1, ())))))) (
 brC (decide (z21.2.2.2.2.1 < (z21.2.2.2.2.2.1 - z21.2.2.2.2.2.2.1))) (
 brC (decide ((z21.2.2.2.2.2.1 - z21.2.2.2.2.2.2.1) < z21.2.2.2.1)) (
 bindC (rec (z21.1, (z21.2.2.2.2.1, ((z21.2.2.2.2.2.1 - z21.2.2.2.2.2.2.1), (z21.2.2.2.1, (z21.2.2.2.2.2.2.2.1, (z21.2.2.2.2.2.2.2.2.1, (z21.2.2.2.2.2.2.2.2.2.1, ())))))))) fun y30 =>
 some (y30.1, (y30.2.1, (y30.2.2.1, ())))) (
 some (z21.2.2.2.2.2.2.2.2.1, (z21.2.2.2.2.2.2.2.2.2.1, (z21.2.2.2.2.2.2.2.1, ()))))) (
 some (z21.2.2.2.2.2.2.2.2.1, (z21.2.2.2.2.2.2.2.2.2.1, (z21.2.2.2.2.2.2.2.1, ()))))))) (
 brC (decide (z21.2.1 < z21.2.2.2.2.2.2.1)) (
 brC (decide (z21.2.2.2.2.2.2.1 < z21.2.2.2.2.1)) (
 bindC (rec (z21.1, (z21.2.1, (z21.2.2.2.2.2.2.1, (z21.2.2.2.2.1, (z21.2.2.2.2.2.2.2.1, (z21.2.2.2.2.2.2.2.2.1, (z21.2.2.2.2.2.2.2.2.2.1, ())))))))) fun y31 =>
 brC (decide (z21.2.2.2.2.1 < (z21.2.2.2.2.2.1 - z21.2.2.2.2.2.2.1))) (
 brC (decide ((z21.2.2.2.2.2.1 - z21.2.2.2.2.2.2.1) < z21.2.2.2.1)) (
 bindC (rec (z21.1, (z21.2.2.2.2.1, ((z21.2.2.2.2.2.1 - z21.2.2.2.2.2.2.1), (z21.2.2.2.1, (y31.2.2.1, (y31.1, (y31.2.1, ())))))))) fun y32 =>
 some (y32.1, (y32.2.1, (y32.2.2.1, ())))) (
 some (y31.1, (y31.2.1, (y31.2.2.1, ()))))) (
 some (y31.1, (y31.2.1, (y31.2.2.1, ()))))) (
 brC (decide (z21.2.2.2.2.1 < (z21.2.2.2.2.2.1 - z21.2.2.2.2.2.2.1))) (
 brC (decide ((z21.2.2.2.2.2.1 - z21.2.2.2.2.2.2.1) < z21.2.2.2.1)) (
 bindC (rec (z21.1, (z21.2.2.2.2.1, ((z21.2.2.2.2.2.1 - z21.2.2.2.2.2.2.1), (z21.2.2.2.1, (z21.2.2.2.2.2.2.2.1, (z21.2.2.2.2.2.2.2.2.1, (z21.2.2.2.2.2.2.2.2.2.1, ())))))))) fun y33 =>
 some (y33.1, (y33.2.1, (y33.2.2.1, ())))) (
 some (z21.2.2.2.2.2.2.2.2.1, (z21.2.2.2.2.2.2.2.2.2.1, (z21.2.2.2.2.2.2.2.1, ()))))) (
 some (z21.2.2.2.2.2.2.2.2.1, (z21.2.2.2.2.2.2.2.2.2.1, (z21.2.2.2.2.2.2.2.1, ())))))) (
 brC (decide (z21.2.2.2.2.1 < (z21.2.2.2.2.2.1 - z21.2.2.2.2.2.2.1))) (
 brC (decide ((z21.2.2.2.2.2.1 - z21.2.2.2.2.2.2.1) < z21.2.2.2.1)) (
 bindC (rec (z21.1, (z21.2.2.2.2.1, ((z21.2.2.2.2.2.1 - z21.2.2.2.2.2.2.1), (z21.2.2.2.1, (z21.2.2.2.2.2.2.2.1, (z21.2.2.2.2.2.2.2.2.1, (z21.2.2.2.2.2.2.2.2.2.1, ())))))))) fun y34 =>
 some (y34.1, (y34.2.1, (y34.2.2.1, ())))) (
 some (z21.2.2.2.2.2.2.2.2.1, (z21.2.2.2.2.2.2.2.2.2.1, (z21.2.2.2.2.2.2.2.1, ()))))) (
 some (z21.2.2.2.2.2.2.2.2.1, (z21.2.2.2.2.2.2.2.2.2.1, (z21.2.2.2.2.2.2.2.1, ()))))))))))))))))))
theorem CFH82_v3_le' {rec rec' : pH82_v3.T → Option qH82_v3.T} (hr : ∀ x, Le (rec x) (rec' x)) (nv0 : Nat) (v1 : Int) (v2 : Int) (v3 : Int) (b0 : List (Int × Int)) (c1_0c0 : Int) (c1_0c1 : Int) : Le (CFH82_v3 rec nv0 v1 v2 v3 b0 c1_0c0 c1_0c1) (FH82_v3 rec' nv0 v1 v2 v3 b0 c1_0c0 c1_0c1) := (Le.nd (Le.br (Le.bd (Le.iter fun x => CgH82_v3_0_le' hr ..) fun z1 => (Le.bd (Le.iter fun x => CgH82_v3_1_le' hr ..) fun z2 => Le.r)) (Le.nd (Le.br (Le.bd (Le.iter fun x => CgH82_v3_2_le' hr ..) fun z4 => (Le.bd (Le.iter fun x => CgH82_v3_3_le' hr ..) fun z5 => Le.r)) (Le.nd (Le.nd (Le.nd (Le.nd (Le.nd (Le.br (Le.nd (Le.nd (Le.bd (Le.iter fun x => CgH82_v3_4_le' hr ..) fun z7 => (Le.nd (Le.br (Le.br (Le.bd (CFH83_v3_le ..) fun y8 => (Le.br (Le.br (Le.bd (hr _) fun y9 => (Le.br (Le.br (Le.bd (hr _) fun y10 => Le.r) Le.r) Le.r)) (Le.br (Le.br (Le.bd (hr _) fun y11 => Le.r) Le.r) Le.r)) (Le.br (Le.br (Le.bd (hr _) fun y12 => Le.r) Le.r) Le.r))) (Le.br (Le.br (Le.bd (hr _) fun y13 => (Le.br (Le.br (Le.bd (hr _) fun y14 => Le.r) Le.r) Le.r)) (Le.br (Le.br (Le.bd (hr _) fun y15 => Le.r) Le.r) Le.r)) (Le.br (Le.br (Le.bd (hr _) fun y16 => Le.r) Le.r) Le.r))) (Le.br (Le.br (Le.bd (hr _) fun y17 => (Le.br (Le.br (Le.bd (hr _) fun y18 => Le.r) Le.r) Le.r)) (Le.br (Le.br (Le.bd (hr _) fun y19 => Le.r) Le.r) Le.r)) (Le.br (Le.br (Le.bd (hr _) fun y20 => Le.r) Le.r) Le.r))))))) (Le.nd (Le.bd (Le.iter fun x => CgH82_v3_4_le' hr ..) fun z21 => (Le.nd (Le.br (Le.br (Le.bd (CFH83_v3_le ..) fun y22 => (Le.br (Le.br (Le.bd (hr _) fun y23 => (Le.br (Le.br (Le.bd (hr _) fun y24 => Le.r) Le.r) Le.r)) (Le.br (Le.br (Le.bd (hr _) fun y25 => Le.r) Le.r) Le.r)) (Le.br (Le.br (Le.bd (hr _) fun y26 => Le.r) Le.r) Le.r))) (Le.br (Le.br (Le.bd (hr _) fun y27 => (Le.br (Le.br (Le.bd (hr _) fun y28 => Le.r) Le.r) Le.r)) (Le.br (Le.br (Le.bd (hr _) fun y29 => Le.r) Le.r) Le.r)) (Le.br (Le.br (Le.bd (hr _) fun y30 => Le.r) Le.r) Le.r))) (Le.br (Le.br (Le.bd (hr _) fun y31 => (Le.br (Le.br (Le.bd (hr _) fun y32 => Le.r) Le.r) Le.r)) (Le.br (Le.br (Le.bd (hr _) fun y33 => Le.r) Le.r) Le.r)) (Le.br (Le.br (Le.bd (hr _) fun y34 => Le.r) Le.r) Le.r))))))))))))))))
theorem cH82_v3_ok (rec : pH82_v3.T → Option qH82_v3.T) (h : Ht.Ok prog ⟨82, pH82_v3, qH82_v3, rec⟩) : trF prog f82 = some ⟨220, 5, (ddH82_v3 rec h).er, [], []⟩ := by kernel_rfl
theorem ht82_v3_step (rec : pH82_v3.T → Option qH82_v3.T) (h : Ht.Ok prog ⟨82, pH82_v3, qH82_v3, rec⟩) : Ht.Ok prog ⟨82, pH82_v3, qH82_v3, (fun x => FH82_v3 rec x.1 x.2.1 x.2.2.1 x.2.2.2.1 x.2.2.2.2.1 x.2.2.2.2.2.1 x.2.2.2.2.2.2.1)⟩ := ht_ok mixed (cxH82_v3_ok rec h) rfl func82 (cH82_v3_ok rec h) (enters_of func82 rfl rfl) (ddH82_v3 rec h) rfl rfl rfl ⟨_, rfl⟩ rfl (pre := [0, 1]) rfl (fun x => by kernel_rfl)
noncomputable def ht82_v3 : Ht := ⟨82, pH82_v3, qH82_v3, fixO (fun rec x => FH82_v3 rec x.1 x.2.1 x.2.2.1 x.2.2.2.1 x.2.2.2.2.1 x.2.2.2.2.2.1 x.2.2.2.2.2.2.1)⟩
theorem ht82_v3_ok : ht82_v3.Ok prog := ht_fix (fun rec h => ht82_v3_step rec h)
noncomputable def FH82_v3fix (nv0 : Nat) (v1 : Int) (v2 : Int) (v3 : Int) (b0 : List (Int × Int)) (c1_0c0 : Int) (c1_0c1 : Int) : Option (Int × Int × (List (Int × Int)) × Unit) := fixO (fun rec x => FH82_v3 rec x.1 x.2.1 x.2.2.1 x.2.2.2.1 x.2.2.2.2.1 x.2.2.2.2.2.1 x.2.2.2.2.2.2.1) (nv0, v1, v2, v3, b0, c1_0c0, c1_0c1, ())
def CFH82_v3fix (nv0 : Nat) (v1 : Int) (v2 : Int) (v3 : Int) (b0 : List (Int × Int)) (c1_0c0 : Int) (c1_0c1 : Int) : Option (Int × Int × (List (Int × Int)) × Unit) := apx (fun (rec : pH82_v3.T → Option qH82_v3.T) x => CFH82_v3 rec x.1 x.2.1 x.2.2.1 x.2.2.2.1 x.2.2.2.2.1 x.2.2.2.2.2.1 x.2.2.2.2.2.2.1) 1000 (nv0, v1, v2, v3, b0, c1_0c0, c1_0c1, ())
theorem CFH82_v3fix_le (nv0 : Nat) (v1 : Int) (v2 : Int) (v3 : Int) (b0 : List (Int × Int)) (c1_0c0 : Int) (c1_0c1 : Int) : Le (CFH82_v3fix nv0 v1 v2 v3 b0 c1_0c0 c1_0c1) (FH82_v3fix nv0 v1 v2 v3 b0 c1_0c0 c1_0c1) := Le.fix fun r r' hr x => CFH82_v3_le' hr ..

/- 79, lent -/
@[reducible] def pH79_v3 : Pat := Pat.mk [(0, .c (.sl0 0 (.prod (.int .i64) (.int .i64)))), (1, hzI), (2, .fn 75 [] [.ptr 1 0])] [(0, .arr (.prod (.int .i64) (.int .i64)) false), (1, .cells [.fn 78 .nil (.cons (.ipc (.int .i64)) (.cons (.ipc (.int .i64)) .nil))] false)] [.slot 0, .part 2 0] []
@[reducible] def qH79_v3 : Pat := Pat.mk [(0, .c .any)] [(1, .cells [.fn 78 .nil (.cons (.ipc (.int .i64)) (.cons (.ipc (.int .i64)) .nil))] false), (0, .arr (.prod (.int .i64) (.int .i64)) false)] [] []
noncomputable def cxH79_v3 : Cx := mkCxH [] [ht81_v3, ht82_v3]
theorem cxH79_v3_ok : cxH79_v3.Ok prog := mkCxH_ok trivial ⟨⟨ht81_v3_ok, rfl⟩, ⟨ht82_v3_ok, rfl⟩, trivial⟩
@[reducible] def pH79_v3_0 : Pat := Pat.mk [(0, .c (.sl0 0 (.prod (.int .i64) (.int .i64)))), (1, hzI), (2, .fn 75 [] [.ptr 1 0]), (6, hzI), (7, hzI), (8, hzI)] [(0, .arr (.prod (.int .i64) (.int .i64)) false), (1, .cells [.fn 78 .nil (.cons (.ipc (.int .i64)) (.cons (.ipc (.int .i64)) .nil))] false)] [] []
@[reducible] def xH79_v3_0 : Outs := [(.exit 0, Pat.mk [(0, .c (.sl0 0 (.prod (.int .i64) (.int .i64)))), (1, hzI), (2, .fn 75 [] [.ptr 1 0]), (6, hzI), (7, hzI)] [(0, .arr (.prod (.int .i64) (.int .i64)) false), (1, .cells [.fn 78 .nil (.cons (.ipc (.int .i64)) (.cons (.ipc (.int .i64)) .nil))] false)] [] [])]
noncomputable def bH79_v3_0 : D prog 63 none 2 := (.seq (.seq (.reg [om 11 8, om 12 1, oo 13 (.bin .leq (.t 11) (.t 12))]) (.cond ( .t 13) .skip (.exit 0))) (.block 1 (.seq (.reg [om 14 0, om 15 7, om 16 8, om 17 2, .call (some 18) none (.c (.fn 81 [] [])) [.t 14, .t 15, .t 16, .t 17] [some (.list (.prod (.int .i64) (.int .i64))), some (.int .i64), some (.int .i64), none]]) (.seq (.reg [om 19 8, om 7 19]) (.reg [om 20 8, om 21 6, oo 22 (.bin .add (.t 20) (.t 21)), om 8 22])))))
noncomputable def gH79_v3_0 (nv0 : Nat) (v1 : Int) (v6 : Int) (v7 : Int) (v8 : Int) (b0 : List (Int × Int)) (c1_0c0 : Int) (c1_0c1 : Int) : Option ((Nat × Int × Int × Int × Int × (List (Int × Int)) × Int × Int × Unit) ⊕ ((Nat × Int × Int × Int × (List (Int × Int)) × Int × Int × Unit))) :=
 brO (decide (v8 ≤ v1)) (
 bindO (FH81_v3 nv0 v7 v8 b0 c1_0c0 c1_0c1) fun y0 =>
 need (rng .i64 (v8 + v6)) (
 some (.inl (nv0, (v1, (v6, (v8, ((v8 + v6), (y0.2.2.1, (y0.1, (y0.2.1, ()))))))))))) (
 some (.inr (nv0, (v1, (v6, (v7, (b0, (c1_0c0, (c1_0c1, ())))))))))
def CgH79_v3_0 (nv0 : Nat) (v1 : Int) (v6 : Int) (v7 : Int) (v8 : Int) (b0 : List (Int × Int)) (c1_0c0 : Int) (c1_0c1 : Int) : Option ((Nat × Int × Int × Int × Int × (List (Int × Int)) × Int × Int × Unit) ⊕ ((Nat × Int × Int × Int × (List (Int × Int)) × Int × Int × Unit))) :=
 brC (decide (v8 ≤ v1)) (
 bindC (CFH81_v3 nv0 v7 v8 b0 c1_0c0 c1_0c1) fun y0 =>
 needC (rng .i64 (v8 + v6)) (
 some (.inl (nv0, (v1, (v6, (v8, ((v8 + v6), (y0.2.2.1, (y0.1, (y0.2.1, ()))))))))))) (
 some (.inr (nv0, (v1, (v6, (v7, (b0, (c1_0c0, (c1_0c1, ())))))))))
theorem CgH79_v3_0_le (nv0 : Nat) (v1 : Int) (v6 : Int) (v7 : Int) (v8 : Int) (b0 : List (Int × Int)) (c1_0c0 : Int) (c1_0c1 : Int) : Le (CgH79_v3_0 nv0 v1 v6 v7 v8 b0 c1_0c0 c1_0c1) (gH79_v3_0 nv0 v1 v6 v7 v8 b0 c1_0c0 c1_0c1) := (Le.br (Le.bd (CFH81_v3_le ..) fun y0 => (Le.nd Le.r)) Le.r)
noncomputable def LH79_v3_0 : LoopS prog 63 none 2 := mkLoop mixed cxH79_v3 cxH79_v3_ok [0, 1] rfl pH79_v3_0 xH79_v3_0 rfl (bH79_v3_0) (fun x => gH79_v3_0 x.1 x.2.1 x.2.2.1 x.2.2.2.1 x.2.2.2.2.1 x.2.2.2.2.2.1 x.2.2.2.2.2.2.1 x.2.2.2.2.2.2.2.1) (by intro x; kernel_rfl)
@[reducible] def pH79_v3_2 : Pat := Pat.mk [(0, .c (.sl0 0 (.prod (.int .i64) (.int .i64)))), (1, hzI), (2, .fn 75 [] [.ptr 1 0]), (6, hzI), (7, hzI), (8, hzI)] [(0, .arr (.prod (.int .i64) (.int .i64)) false), (1, .cells [.fn 78 .nil (.cons (.ipc (.int .i64)) (.cons (.ipc (.int .i64)) .nil))] false)] [] []
@[reducible] def xH79_v3_2 : Outs := [(.exit 4, Pat.mk [(0, .c (.sl0 0 (.prod (.int .i64) (.int .i64)))), (1, hzI), (2, .fn 75 [] [.ptr 1 0]), (6, hzI), (7, hzI)] [(0, .arr (.prod (.int .i64) (.int .i64)) false), (1, .cells [.fn 78 .nil (.cons (.ipc (.int .i64)) (.cons (.ipc (.int .i64)) .nil))] false)] [] [])]
noncomputable def bH79_v3_2 : D prog 63 none 2 := (.seq (.seq (.reg [om 33 8, om 34 1, oo 35 (.bin .leq (.t 33) (.t 34))]) (.cond ( .t 35) .skip (.exit 4))) (.block 5 (.seq (.reg [om 36 0, om 37 7, om 38 7, om 39 6, oo 40 (.bin .add (.t 38) (.t 39)), om 41 8, om 42 2, .call (some 43) none (.c (.fn 82 [] [])) [.t 36, .t 37, .t 40, .t 41, .t 42] [some (.list (.prod (.int .i64) (.int .i64))), some (.int .i64), some (.int .i64), some (.int .i64), none]]) (.seq (.reg [om 44 8, om 7 44]) (.reg [om 45 8, om 46 6, oo 47 (.bin .mul (ki 2) (.t 46)), oo 48 (.bin .add (.t 45) (.t 47)), om 8 48])))))
noncomputable def gH79_v3_2 (nv0 : Nat) (v1 : Int) (v6 : Int) (v7 : Int) (v8 : Int) (b0 : List (Int × Int)) (c1_0c0 : Int) (c1_0c1 : Int) : Option ((Nat × Int × Int × Int × Int × (List (Int × Int)) × Int × Int × Unit) ⊕ ((Nat × Int × Int × Int × (List (Int × Int)) × Int × Int × Unit))) :=
 brO (decide (v8 ≤ v1)) (
 need (rng .i64 (v7 + v6)) (
 bindO (FH82_v3fix nv0 v7 (v7 + v6) v8 b0 c1_0c0 c1_0c1) fun y3 =>
 need (rng .i64 ((2 : Int) * v6)) (
 need (rng .i64 (v8 + ((2 : Int) * v6))) (
 some (.inl (nv0, (v1, (v6, (v8, ((v8 + ((2 : Int) * v6)), (y3.2.2.1, (y3.1, (y3.2.1, ()))))))))))))) (
 some (.inr (nv0, (v1, (v6, (v7, (b0, (c1_0c0, (c1_0c1, ())))))))))
def CgH79_v3_2 (nv0 : Nat) (v1 : Int) (v6 : Int) (v7 : Int) (v8 : Int) (b0 : List (Int × Int)) (c1_0c0 : Int) (c1_0c1 : Int) : Option ((Nat × Int × Int × Int × Int × (List (Int × Int)) × Int × Int × Unit) ⊕ ((Nat × Int × Int × Int × (List (Int × Int)) × Int × Int × Unit))) :=
 brC (decide (v8 ≤ v1)) (
 needC (rng .i64 (v7 + v6)) (
 bindC (CFH82_v3fix nv0 v7 (v7 + v6) v8 b0 c1_0c0 c1_0c1) fun y3 =>
 needC (rng .i64 ((2 : Int) * v6)) (
 needC (rng .i64 (v8 + ((2 : Int) * v6))) (
 some (.inl (nv0, (v1, (v6, (v8, ((v8 + ((2 : Int) * v6)), (y3.2.2.1, (y3.1, (y3.2.1, ()))))))))))))) (
 some (.inr (nv0, (v1, (v6, (v7, (b0, (c1_0c0, (c1_0c1, ())))))))))
theorem CgH79_v3_2_le (nv0 : Nat) (v1 : Int) (v6 : Int) (v7 : Int) (v8 : Int) (b0 : List (Int × Int)) (c1_0c0 : Int) (c1_0c1 : Int) : Le (CgH79_v3_2 nv0 v1 v6 v7 v8 b0 c1_0c0 c1_0c1) (gH79_v3_2 nv0 v1 v6 v7 v8 b0 c1_0c0 c1_0c1) := (Le.br (Le.nd (Le.bd (CFH82_v3fix_le ..) fun y3 => (Le.nd (Le.nd Le.r)))) Le.r)
noncomputable def LH79_v3_2 : LoopS prog 63 none 2 := mkLoop mixed cxH79_v3 cxH79_v3_ok [0, 1] rfl pH79_v3_2 xH79_v3_2 rfl (bH79_v3_2) (fun x => gH79_v3_2 x.1 x.2.1 x.2.2.1 x.2.2.2.1 x.2.2.2.2.1 x.2.2.2.2.2.1 x.2.2.2.2.2.2.1 x.2.2.2.2.2.2.2.1) (by intro x; kernel_rfl)
@[reducible] def pH79_v3_1 : Pat := Pat.mk [(0, .c (.sl0 0 (.prod (.int .i64) (.int .i64)))), (1, hzI), (2, .fn 75 [] [.ptr 1 0]), (6, hzI)] [(0, .arr (.prod (.int .i64) (.int .i64)) false), (1, .cells [.fn 78 .nil (.cons (.ipc (.int .i64)) (.cons (.ipc (.int .i64)) .nil))] false)] [] []
@[reducible] def xH79_v3_1 : Outs := [(.exit 2, Pat.mk [] [(1, .cells [.fn 78 .nil (.cons (.ipc (.int .i64)) (.cons (.ipc (.int .i64)) .nil))] false), (0, .arr (.prod (.int .i64) (.int .i64)) false)] [] [])]
noncomputable def bH79_v3_1 : D prog 63 none 2 := (.seq (.seq (.reg [om 28 6, om 29 1, oo 30 (.bin .lss (.t 28) (.t 29))]) (.cond ( .t 30) .skip (.exit 2))) (.block 3 (.seq (.reg [om 31 6, oo 32 (.bin .mul (ki 2) (.t 31)), oo 7 (.mv (ki 0)), om 8 32]) (.seq (.block 4 (.loop LH79_v3_2)) (.seq (.seq (.reg [om 49 7, om 50 6, oo 51 (.bin .add (.t 49) (.t 50)), om 9 51]) (.seq (.reg [om 52 9, om 53 1, oo 54 (.bin .lss (.t 52) (.t 53))]) (.cond ( .t 54) (.reg [om 55 0, om 56 7, om 57 9, om 58 1, om 59 2, .call (some 60) none (.c (.fn 82 [] [])) [.t 55, .t 56, .t 57, .t 58, .t 59] [some (.list (.prod (.int .i64) (.int .i64))), some (.int .i64), some (.int .i64), some (.int .i64), none]]) .skip))) (.reg [om 61 6, oo 62 (.bin .mul (.t 61) (ki 2)), om 6 62]))))))
noncomputable def gH79_v3_1 (nv0 : Nat) (v1 : Int) (v6 : Int) (b0 : List (Int × Int)) (c1_0c0 : Int) (c1_0c1 : Int) : Option ((Nat × Int × Int × (List (Int × Int)) × Int × Int × Unit) ⊕ ((Int × Int × (List (Int × Int)) × Unit))) :=
 brO (decide (v6 < v1)) (
 need (rng .i64 ((2 : Int) * v6)) (
 bindO (iter (fun x => gH79_v3_2 x.1 x.2.1 x.2.2.1 x.2.2.2.1 x.2.2.2.2.1 x.2.2.2.2.2.1 x.2.2.2.2.2.2.1 x.2.2.2.2.2.2.2.1) (nv0, (v1, (v6, ((0 : Int), (((2 : Int) * v6), (b0, (c1_0c0, (c1_0c1, ()))))))))) fun z4 =>
 need (rng .i64 (z4.2.2.2.1 + z4.2.2.1)) (
 brO (decide ((z4.2.2.2.1 + z4.2.2.1) < z4.2.1)) (
 bindO (FH82_v3fix z4.1 z4.2.2.2.1 (z4.2.2.2.1 + z4.2.2.1) z4.2.1 z4.2.2.2.2.1 z4.2.2.2.2.2.1 z4.2.2.2.2.2.2.1) fun y5 =>
 need (rng .i64 (z4.2.2.1 * (2 : Int))) (
 some (.inl (z4.1, (z4.2.1, ((z4.2.2.1 * (2 : Int)), (y5.2.2.1, (y5.1, (y5.2.1, ()))))))))) (
 need (rng .i64 (z4.2.2.1 * (2 : Int))) (
 some (.inl (z4.1, (z4.2.1, ((z4.2.2.1 * (2 : Int)), (z4.2.2.2.2.1, (z4.2.2.2.2.2.1, (z4.2.2.2.2.2.2.1, ())))))))))))) (
 some (.inr (c1_0c0, (c1_0c1, (b0, ())))))
def CgH79_v3_1 (nv0 : Nat) (v1 : Int) (v6 : Int) (b0 : List (Int × Int)) (c1_0c0 : Int) (c1_0c1 : Int) : Option ((Nat × Int × Int × (List (Int × Int)) × Int × Int × Unit) ⊕ ((Int × Int × (List (Int × Int)) × Unit))) :=
 brC (decide (v6 < v1)) (
 needC (rng .i64 ((2 : Int) * v6)) (
 bindC (iterF (fun x => CgH79_v3_2 x.1 x.2.1 x.2.2.1 x.2.2.2.1 x.2.2.2.2.1 x.2.2.2.2.2.1 x.2.2.2.2.2.2.1 x.2.2.2.2.2.2.2.1) 1000000 (nv0, (v1, (v6, ((0 : Int), (((2 : Int) * v6), (b0, (c1_0c0, (c1_0c1, ()))))))))) fun z4 =>
 needC (rng .i64 (z4.2.2.2.1 + z4.2.2.1)) (
 brC (decide ((z4.2.2.2.1 + z4.2.2.1) < z4.2.1)) (
 bindC (CFH82_v3fix z4.1 z4.2.2.2.1 (z4.2.2.2.1 + z4.2.2.1) z4.2.1 z4.2.2.2.2.1 z4.2.2.2.2.2.1 z4.2.2.2.2.2.2.1) fun y5 =>
 needC (rng .i64 (z4.2.2.1 * (2 : Int))) (
 some (.inl (z4.1, (z4.2.1, ((z4.2.2.1 * (2 : Int)), (y5.2.2.1, (y5.1, (y5.2.1, ()))))))))) (
 needC (rng .i64 (z4.2.2.1 * (2 : Int))) (
 some (.inl (z4.1, (z4.2.1, ((z4.2.2.1 * (2 : Int)), (z4.2.2.2.2.1, (z4.2.2.2.2.2.1, (z4.2.2.2.2.2.2.1, ())))))))))))) (
 some (.inr (c1_0c0, (c1_0c1, (b0, ())))))
theorem CgH79_v3_1_le (nv0 : Nat) (v1 : Int) (v6 : Int) (b0 : List (Int × Int)) (c1_0c0 : Int) (c1_0c1 : Int) : Le (CgH79_v3_1 nv0 v1 v6 b0 c1_0c0 c1_0c1) (gH79_v3_1 nv0 v1 v6 b0 c1_0c0 c1_0c1) := (Le.br (Le.nd (Le.bd (Le.iter fun x => CgH79_v3_2_le ..) fun z4 => (Le.nd (Le.br (Le.bd (CFH82_v3fix_le ..) fun y5 => (Le.nd Le.r)) (Le.nd Le.r))))) Le.r)
noncomputable def LH79_v3_1 : LoopS prog 63 none 2 := mkLoop mixed cxH79_v3 cxH79_v3_ok [0, 1] rfl pH79_v3_1 xH79_v3_1 rfl (bH79_v3_1) (fun x => gH79_v3_1 x.1 x.2.1 x.2.2.1 x.2.2.2.1 x.2.2.2.2.1 x.2.2.2.2.2.1) (by intro x; kernel_rfl)
noncomputable def ddH79_v3 : D prog 63 none 2 := (.seq (.reg [oo 6 (.mv (ki 20))]) (.seq (.reg [om 10 6, oo 7 (.mv (ki 0)), om 8 10]) (.seq (.block 0 (.loop LH79_v3_0)) (.seq (.reg [om 23 0, om 24 7, om 25 1, om 26 2, .call (some 27) none (.c (.fn 81 [] [])) [.t 23, .t 24, .t 25, .t 26] [some (.list (.prod (.int .i64) (.int .i64))), some (.int .i64), some (.int .i64), none]]) (.block 2 (.loop LH79_v3_1))))))
noncomputable def FH79_v3 (nv0 : Nat) (v1 : Int) (b0 : List (Int × Int)) (c1_0c0 : Int) (c1_0c1 : Int) : Option (Int × Int × (List (Int × Int)) × Unit) :=
 bindO (iter (fun x => gH79_v3_0 x.1 x.2.1 x.2.2.1 x.2.2.2.1 x.2.2.2.2.1 x.2.2.2.2.2.1 x.2.2.2.2.2.2.1 x.2.2.2.2.2.2.2.1) (nv0, (v1, ((20 : Int), ((0 : Int), ((20 : Int), (b0, (c1_0c0, (c1_0c1, ()))))))))) fun z1 =>
 bindO (FH81_v3 z1.1 z1.2.2.2.1 z1.2.1 z1.2.2.2.2.1 z1.2.2.2.2.2.1 z1.2.2.2.2.2.2.1) fun y2 =>
 bindO (iter (fun x => gH79_v3_1 x.1 x.2.1 x.2.2.1 x.2.2.2.1 x.2.2.2.2.1 x.2.2.2.2.2.1) (z1.1, (z1.2.1, (z1.2.2.1, (y2.2.2.1, (y2.1, (y2.2.1, ()))))))) fun z6 =>
 some (z6.1, (z6.2.1, (z6.2.2.1, ())))
def CFH79_v3 (nv0 : Nat) (v1 : Int) (b0 : List (Int × Int)) (c1_0c0 : Int) (c1_0c1 : Int) : Option (Int × Int × (List (Int × Int)) × Unit) :=
 bindC (iterF (fun x => CgH79_v3_0 x.1 x.2.1 x.2.2.1 x.2.2.2.1 x.2.2.2.2.1 x.2.2.2.2.2.1 x.2.2.2.2.2.2.1 x.2.2.2.2.2.2.2.1) 1000000 (nv0, (v1, ((20 : Int), ((0 : Int), ((20 : Int), (b0, (c1_0c0, (c1_0c1, ()))))))))) fun z1 =>
 bindC (CFH81_v3 z1.1 z1.2.2.2.1 z1.2.1 z1.2.2.2.2.1 z1.2.2.2.2.2.1 z1.2.2.2.2.2.2.1) fun y2 =>
 bindC (iterF (fun x => CgH79_v3_1 x.1 x.2.1 x.2.2.1 x.2.2.2.1 x.2.2.2.2.1 x.2.2.2.2.2.1) 1000000 (z1.1, (z1.2.1, (z1.2.2.1, (y2.2.2.1, (y2.1, (y2.2.1, ()))))))) fun z6 =>
 some (z6.1, (z6.2.1, (z6.2.2.1, ())))
theorem CFH79_v3_le (nv0 : Nat) (v1 : Int) (b0 : List (Int × Int)) (c1_0c0 : Int) (c1_0c1 : Int) : Le (CFH79_v3 nv0 v1 b0 c1_0c0 c1_0c1) (FH79_v3 nv0 v1 b0 c1_0c0 c1_0c1) := (Le.bd (Le.iter fun x => CgH79_v3_0_le ..) fun z1 => (Le.bd (CFH81_v3_le ..) fun y2 => (Le.bd (Le.iter fun x => CgH79_v3_1_le ..) fun z6 => Le.r)))
theorem cH79_v3_ok : trF prog f79 = some ⟨63, 3, ddH79_v3.er, [], []⟩ := by kernel_rfl
noncomputable def ht79_v3 : Ht := ⟨79, pH79_v3, qH79_v3, (fun x => FH79_v3 x.1 x.2.1 x.2.2.1 x.2.2.2.1 x.2.2.2.2.1)⟩
theorem ht79_v3_ok : ht79_v3.Ok prog := ht_ok mixed cxH79_v3_ok rfl func79 cH79_v3_ok (enters_of func79 rfl rfl) ddH79_v3 rfl rfl rfl ⟨_, rfl⟩ rfl (pre := [0, 1]) rfl (fun x => by kernel_rfl)

/- 74, lent -/
@[reducible] def pH74_v3 : Pat := Pat.mk [(0, .c (.sl0 0 (.prod (.int .i64) (.int .i64)))), (1, .fn 75 [] [.ptr 1 0])] [(0, .arr (.prod (.int .i64) (.int .i64)) false), (1, .cells [.fn 78 .nil (.cons (.ipc (.int .i64)) (.cons (.ipc (.int .i64)) .nil))] false)] [.slot 0, .part 1 0] []
@[reducible] def qH74_v3 : Pat := Pat.mk [(0, .c .any)] [(1, .cells [.fn 78 .nil (.cons (.ipc (.int .i64)) (.cons (.ipc (.int .i64)) .nil))] false), (0, .arr (.prod (.int .i64) (.int .i64)) false)] [] []
noncomputable def cxH74_v3 : Cx := mkCxH [] [ht79_v3]
theorem cxH74_v3_ok : cxH74_v3.Ok prog := mkCxH_ok trivial ⟨⟨ht79_v3_ok, rfl⟩, trivial⟩
noncomputable def ddH74_v3 : D prog 9 none 2 := (.reg [om 4 0, om 5 0, oo 6 (.len (.t 5)), om 7 1, .call (some 8) none (.c (.fn 79 [] [])) [.t 4, .t 6, .t 7] [some (.list (.prod (.int .i64) (.int .i64))), some (.int .i64), none]])
noncomputable def FH74_v3 (nv0 : Nat) (b0 : List (Int × Int)) (c1_0c0 : Int) (c1_0c1 : Int) : Option (Int × Int × (List (Int × Int)) × Unit) :=
 bindO (FH79_v3 nv0 ((nv0 : Nat) : Int) b0 c1_0c0 c1_0c1) fun y0 =>
 some (y0.1, (y0.2.1, (y0.2.2.1, ())))
def CFH74_v3 (nv0 : Nat) (b0 : List (Int × Int)) (c1_0c0 : Int) (c1_0c1 : Int) : Option (Int × Int × (List (Int × Int)) × Unit) :=
 bindC (CFH79_v3 nv0 ((nv0 : Nat) : Int) b0 c1_0c0 c1_0c1) fun y0 =>
 some (y0.1, (y0.2.1, (y0.2.2.1, ())))
theorem CFH74_v3_le (nv0 : Nat) (b0 : List (Int × Int)) (c1_0c0 : Int) (c1_0c1 : Int) : Le (CFH74_v3 nv0 b0 c1_0c0 c1_0c1) (FH74_v3 nv0 b0 c1_0c0 c1_0c1) := (Le.bd (CFH79_v3_le ..) fun y0 => Le.r)
theorem cH74_v3_ok : trF prog f74 = some ⟨9, 2, ddH74_v3.er, [], []⟩ := by kernel_rfl
noncomputable def ht74_v3 : Ht := ⟨74, pH74_v3, qH74_v3, (fun x => FH74_v3 x.1 x.2.1 x.2.2.1 x.2.2.2.1)⟩
theorem ht74_v3_ok : ht74_v3.Ok prog := ht_ok mixed cxH74_v3_ok rfl func74 cH74_v3_ok (enters_of func74 rfl rfl) ddH74_v3 rfl rfl rfl ⟨_, rfl⟩ rfl (pre := [0, 1]) rfl (fun x => by kernel_rfl)

/- 58 -/
noncomputable def cx58_v1 : Cx := mkCxH [ct77] [ht74_v3]
theorem cx58_v1_ok : cx58_v1.Ok prog := mkCxH_ok ⟨ct77_ok, trivial⟩ ⟨⟨ht74_v3_ok, rfl⟩, trivial⟩
@[reducible] def p58_v1_1 : Pat := Pat.mk [(3, .c (.ptr 0 0)), (5, .c (.sl0 1 (.prod (.int .i64) (.int .i64)))), (6, hzI), (10, hzM), (11, hzI), (12, hzI), (17, hzL), (18, hzI), (19, hzI)] [(0, .cells [.fn 78 .nil (.cons (.ipc (.int .i64)) (.cons (.ipc (.int .i64)) .nil))] false), (1, .arr (.prod (.int .i64) (.int .i64)) false)] [.slot 3, .slot 5] []
@[reducible] def x58_v1_1 : Outs := [(.exit 2, Pat.mk [(3, .c (.ptr 0 0)), (5, .c (.sl0 1 (.prod (.int .i64) (.int .i64)))), (10, hzM), (11, hzI), (12, hzI)] [(0, .cells [.fn 78 .nil (.cons (.ipc (.int .i64)) (.cons (.ipc (.int .i64)) .nil))] false), (1, .arr (.prod (.int .i64) (.int .i64)) false)] [.slot 3, .slot 5] [])]
noncomputable def b58_v1_1 : D prog 36 none 0 := (.seq (.reg [oo 20 (.bin .lss (.t 19) (.t 18))]) (.seq (.cond ( .t 20) .skip (.exit 2)) (.seq (.block 3 (.seq (.reg [oo 21 (.idx 1 (.t 17) (.t 19)), ol 22 21, om 9 22]) (.reg [om 23 5, om 24 9, om 25 6, oo 26 (.build [.int .i64 (Int.ofNat 0), .int .i64 (Int.ofNat 0)] [(0, 1, .t 24), (1, 1, .t 25)]), oo 27 (.bslice (.prod (.int .i64) (.int .i64)) [.t 26]), oo 28 (.append 2 (.t 23) (.t 27)), om 5 28]))) (.reg [oo 29 (.bin .add (.t 19) (ki 1)), om 19 29]))))
noncomputable def g58_v1_1 (nv5 : Nat) (v6 : Int) (v10 : List (List Int)) (v11 : Int) (v12 : Int) (v17 : List Int) (v18 : Int) (v19 : Int) (c0_0c0 : Int) (c0_0c1 : Int) (b1 : List (Int × Int)) : Option ((Nat × Int × List (List Int) × Int × Int × List Int × Int × Int × Int × Int × (List (Int × Int)) × Unit) ⊕ ((Nat × List (List Int) × Int × Int × Int × Int × (List (Int × Int)) × Unit))) :=
 brO (decide (v19 < v18)) (
 need (inb v19 (((v17).length : Nat) : Int)) (
 need (decide ((nv5 + ((((((((v17).getD (Int.toNat v19) (0 : Int)), v6) :: [])).drop (0 : Nat)).take (1 : Nat))).length) < bigL)) (
 need (rng .i64 (v19 + (1 : Int))) (
 some (.inl ((nv5 + ((((((((v17).getD (Int.toNat v19) (0 : Int)), v6) :: [])).drop (0 : Nat)).take (1 : Nat))).length), (v6, (v10, (v11, (v12, (v17, (v18, ((v19 + (1 : Int)), (c0_0c0, (c0_0c1, (((((b1).drop (0 : Nat)).take nv5) ++ (((((((v17).getD (Int.toNat v19) (0 : Int)), v6) :: [])).drop (0 : Nat)).take (1 : Nat))), ())))))))))))))))) (
 some (.inr (nv5, (v10, (v11, (v12, (c0_0c0, (c0_0c1, (b1, ())))))))))
def Cg58_v1_1 (nv5 : Nat) (v6 : Int) (v10 : List (List Int)) (v11 : Int) (v12 : Int) (v17 : List Int) (v18 : Int) (v19 : Int) (c0_0c0 : Int) (c0_0c1 : Int) (b1 : List (Int × Int)) : Option ((Nat × Int × List (List Int) × Int × Int × List Int × Int × Int × Int × Int × (List (Int × Int)) × Unit) ⊕ ((Nat × List (List Int) × Int × Int × Int × Int × (List (Int × Int)) × Unit))) :=
 brC (decide (v19 < v18)) (
 needC (inb v19 (((v17).length : Nat) : Int)) (
 needC (decide ((nv5 + ((((((((v17).getD (Int.toNat v19) (0 : Int)), v6) :: [])).drop (0 : Nat)).take (1 : Nat))).length) < bigL)) (
 needC (rng .i64 (v19 + (1 : Int))) (
 some (.inl ((nv5 + ((((((((v17).getD (Int.toNat v19) (0 : Int)), v6) :: [])).drop (0 : Nat)).take (1 : Nat))).length), (v6, (v10, (v11, (v12, (v17, (v18, ((v19 + (1 : Int)), (c0_0c0, (c0_0c1, (((((b1).drop (0 : Nat)).take nv5) ++ (((((((v17).getD (Int.toNat v19) (0 : Int)), v6) :: [])).drop (0 : Nat)).take (1 : Nat))), ())))))))))))))))) (
 some (.inr (nv5, (v10, (v11, (v12, (c0_0c0, (c0_0c1, (b1, ())))))))))
theorem Cg58_v1_1_le (nv5 : Nat) (v6 : Int) (v10 : List (List Int)) (v11 : Int) (v12 : Int) (v17 : List Int) (v18 : Int) (v19 : Int) (c0_0c0 : Int) (c0_0c1 : Int) (b1 : List (Int × Int)) : Le (Cg58_v1_1 nv5 v6 v10 v11 v12 v17 v18 v19 c0_0c0 c0_0c1 b1) (g58_v1_1 nv5 v6 v10 v11 v12 v17 v18 v19 c0_0c0 c0_0c1 b1) := (Le.br (Le.nd (Le.nd (Le.nd Le.r))) Le.r)
noncomputable def L58_v1_1 : LoopS prog 36 none 0 := mkLoop mixed cx58_v1 cx58_v1_ok [] rfl p58_v1_1 x58_v1_1 rfl (b58_v1_1) (fun x => g58_v1_1 x.1 x.2.1 x.2.2.1 x.2.2.2.1 x.2.2.2.2.1 x.2.2.2.2.2.1 x.2.2.2.2.2.2.1 x.2.2.2.2.2.2.2.1 x.2.2.2.2.2.2.2.2.1 x.2.2.2.2.2.2.2.2.2.1 x.2.2.2.2.2.2.2.2.2.2.1) (by intro x; kernel_rfl)
@[reducible] def p58_v1_0 : Pat := Pat.mk [(3, .c (.ptr 0 0)), (5, .c (.sl0 1 (.prod (.int .i64) (.int .i64)))), (10, hzM), (11, hzI), (12, hzI)] [(0, .cells [.fn 78 .nil (.cons (.ipc (.int .i64)) (.cons (.ipc (.int .i64)) .nil))] false), (1, .arr (.prod (.int .i64) (.int .i64)) false)] [.slot 3, .slot 5] []
@[reducible] def x58_v1_0 : Outs := [(.exit 0, Pat.mk [(3, .c (.ptr 0 0)), (5, .c (.sl0 1 (.prod (.int .i64) (.int .i64))))] [(0, .cells [.fn 78 .nil (.cons (.ipc (.int .i64)) (.cons (.ipc (.int .i64)) .nil))] false), (1, .arr (.prod (.int .i64) (.int .i64)) false)] [.slot 3, .slot 5] [])]
noncomputable def b58_v1_0 : D prog 36 none 0 := (.seq (.reg [oo 13 (.bin .lss (.t 12) (.t 11))]) (.seq (.cond ( .t 13) .skip (.exit 0)) (.seq (.block 1 (.seq (.reg [om 14 12, oo 15 (.idx 1 (.t 10) (.t 12)), ol 16 15, om 6 14, om 7 16]) (.seq (.reg [om 17 7, oo 18 (.len (.t 17)), oo 19 (.mv (ki 0))]) (.block 2 (.loop L58_v1_1))))) (.reg [oo 30 (.bin .add (.t 12) (ki 1)), om 12 30]))))
noncomputable def g58_v1_0 (nv5 : Nat) (v10 : List (List Int)) (v11 : Int) (v12 : Int) (c0_0c0 : Int) (c0_0c1 : Int) (b1 : List (Int × Int)) : Option ((Nat × List (List Int) × Int × Int × Int × Int × (List (Int × Int)) × Unit) ⊕ ((Nat × Int × Int × (List (Int × Int)) × Unit))) :=
 brO (decide (v12 < v11)) (
 need (inb v12 (((v10).length : Nat) : Int)) (
 bindO (iter (fun x => g58_v1_1 x.1 x.2.1 x.2.2.1 x.2.2.2.1 x.2.2.2.2.1 x.2.2.2.2.2.1 x.2.2.2.2.2.2.1 x.2.2.2.2.2.2.2.1 x.2.2.2.2.2.2.2.2.1 x.2.2.2.2.2.2.2.2.2.1 x.2.2.2.2.2.2.2.2.2.2.1) (nv5, (v12, (v10, (v11, (v12, (((v10).getD (Int.toNat v12) []), ((((((v10).getD (Int.toNat v12) [])).length : Nat) : Int), ((0 : Int), (c0_0c0, (c0_0c1, (b1, ())))))))))))) fun z0 =>
 need (rng .i64 (z0.2.2.2.1 + (1 : Int))) (
 some (.inl (z0.1, (z0.2.1, (z0.2.2.1, ((z0.2.2.2.1 + (1 : Int)), (z0.2.2.2.2.1, (z0.2.2.2.2.2.1, (z0.2.2.2.2.2.2.1, ()))))))))))) (
 some (.inr (nv5, (c0_0c0, (c0_0c1, (b1, ()))))))
def Cg58_v1_0 (nv5 : Nat) (v10 : List (List Int)) (v11 : Int) (v12 : Int) (c0_0c0 : Int) (c0_0c1 : Int) (b1 : List (Int × Int)) : Option ((Nat × List (List Int) × Int × Int × Int × Int × (List (Int × Int)) × Unit) ⊕ ((Nat × Int × Int × (List (Int × Int)) × Unit))) :=
 brC (decide (v12 < v11)) (
 needC (inb v12 (((v10).length : Nat) : Int)) (
 bindC (iterF (fun x => Cg58_v1_1 x.1 x.2.1 x.2.2.1 x.2.2.2.1 x.2.2.2.2.1 x.2.2.2.2.2.1 x.2.2.2.2.2.2.1 x.2.2.2.2.2.2.2.1 x.2.2.2.2.2.2.2.2.1 x.2.2.2.2.2.2.2.2.2.1 x.2.2.2.2.2.2.2.2.2.2.1) 1000000 (nv5, (v12, (v10, (v11, (v12, (((v10).getD (Int.toNat v12) []), ((((((v10).getD (Int.toNat v12) [])).length : Nat) : Int), ((0 : Int), (c0_0c0, (c0_0c1, (b1, ())))))))))))) fun z0 =>
 needC (rng .i64 (z0.2.2.2.1 + (1 : Int))) (
 some (.inl (z0.1, (z0.2.1, (z0.2.2.1, ((z0.2.2.2.1 + (1 : Int)), (z0.2.2.2.2.1, (z0.2.2.2.2.2.1, (z0.2.2.2.2.2.2.1, ()))))))))))) (
 some (.inr (nv5, (c0_0c0, (c0_0c1, (b1, ()))))))
theorem Cg58_v1_0_le (nv5 : Nat) (v10 : List (List Int)) (v11 : Int) (v12 : Int) (c0_0c0 : Int) (c0_0c1 : Int) (b1 : List (Int × Int)) : Le (Cg58_v1_0 nv5 v10 v11 v12 c0_0c0 c0_0c1 b1) (g58_v1_0 nv5 v10 v11 v12 c0_0c0 c0_0c1 b1) := (Le.br (Le.nd (Le.bd (Le.iter fun x => Cg58_v1_1_le ..) fun z0 => (Le.nd Le.r))) Le.r)
noncomputable def L58_v1_0 : LoopS prog 36 none 0 := mkLoop mixed cx58_v1 cx58_v1_ok [] rfl p58_v1_0 x58_v1_0 rfl (b58_v1_0) (fun x => g58_v1_0 x.1 x.2.1 x.2.2.1 x.2.2.2.1 x.2.2.2.2.1 x.2.2.2.2.2.1 x.2.2.2.2.2.2.1) (by intro x; kernel_rfl)
noncomputable def dd58_v1 : D prog 36 none 0 := (.seq (.reg [oo 3 (.box (.t 1)), oo 4 (.mv (.c .nilfn))]) (.seq (.reg [oo 5 (.mv (.c .nsl))]) (.seq (.seq (.reg [om 10 0, oo 11 (.len (.t 10)), oo 12 (.mv (ki 0))]) (.block 0 (.loop L58_v1_0))) (.seq (.reg [om 31 5, oo 32 (.mkfn 75 [] [.t 3]), .call (some 33) none (.c (.fn 74 [] [])) [.t 31, .t 32] [some (.list (.prod (.int .i64) (.int .i64))), none]]) (.seq (.reg [om 34 5, .call (some 35) none (.c (.fn 77 [] [])) [.t 34] [some (.list (.prod (.int .i64) (.int .i64)))], om 4 35]) .ret)))))
noncomputable def F58_v1 (a0 : List (List Int)) (a1_0 : Int) (a1_1 : Int) : Option ((List (Int × Int)) × Unit) :=
 bindO (iter (fun x => g58_v1_0 x.1 x.2.1 x.2.2.1 x.2.2.2.1 x.2.2.2.2.1 x.2.2.2.2.2.1 x.2.2.2.2.2.2.1) ((0 : Nat), (a0, ((((a0).length : Nat) : Int), ((0 : Int), (a1_0, (a1_1, ([], ())))))))) fun z1 =>
 bindO (FH74_v3 z1.1 z1.2.2.2.1 z1.2.1 z1.2.2.1) fun y2 =>
 bindO (F77 (((y2.2.2.1).drop (0 : Nat)).take z1.1)) fun y3 =>
 some (y3.1, ())
def CF58_v1 (a0 : List (List Int)) (a1_0 : Int) (a1_1 : Int) : Option ((List (Int × Int)) × Unit) :=
 bindC (iterF (fun x => Cg58_v1_0 x.1 x.2.1 x.2.2.1 x.2.2.2.1 x.2.2.2.2.1 x.2.2.2.2.2.1 x.2.2.2.2.2.2.1) 1000000 ((0 : Nat), (a0, ((((a0).length : Nat) : Int), ((0 : Int), (a1_0, (a1_1, ([], ())))))))) fun z1 =>
 bindC (CFH74_v3 z1.1 z1.2.2.2.1 z1.2.1 z1.2.2.1) fun y2 =>
 bindC (CF77 (((y2.2.2.1).drop (0 : Nat)).take z1.1)) fun y3 =>
 some (y3.1, ())
theorem CF58_v1_le (a0 : List (List Int)) (a1_0 : Int) (a1_1 : Int) : Le (CF58_v1 a0 a1_0 a1_1) (F58_v1 a0 a1_0 a1_1) := (Le.bd (Le.iter fun x => Cg58_v1_0_le ..) fun z1 => (Le.bd (CFH74_v3_le ..) fun y2 => (Le.bd (CF77_le ..) fun y3 => Le.r)))
theorem c58_v1_ok : trF prog f58 = some ⟨36, 2, dd58_v1.er, [.t 4], [none]⟩ := by kernel_rfl
noncomputable def ct58_v1 : Ct := ⟨58, [.c (.hole (.list (.list (.int .i64)))), .fn 78 [] [.ipc (.int .i64), .ipc (.int .i64)]], .fn 80 [] [.ipc (.list (.prod (.int .i64) (.int .i64)))], fun x => F58_v1 x.1 x.2.1 x.2.2.1⟩
theorem ct58_v1_ok : ct58_v1.Ok prog := ct_ok mixed cx58_v1_ok func58 c58_v1_ok (enters_of func58 rfl rfl) dd58_v1 rfl rfl (fun x => by kernel_rfl)

/- 67 -/
noncomputable def cx67 : Cx := mkCxH [ct58_v1] []
theorem cx67_ok : cx67.Ok prog := mkCxH_ok ⟨ct58_v1_ok, trivial⟩ trivial
noncomputable def ad67_0 : D prog 35 (some 5) 7 := (.reg [.op (some 10) none (.alloc [.int .i64 (Int.ofNat 0), .int .i64 (Int.ofNat 0)]), .op none none (.store 2 (.t 10) (.t 14))])
noncomputable def bd67_0 : D prog 35 (some 5) 7 := (.block 1 (.seq (.seq (.reg [.op (some 15) none (.load false 1 (.t 6)), .op (some 16) none (.bin .eql (.t 15) (.c (.int .i64 (Int.ofNat 0))))]) (.cond ( .t 16) (.exit 0) .skip)) (.seq (.reg [.op (some 17) none (.load false 1 (.t 6)), .op (some 18) none (.bin .sub (.t 17) (.c (.int .i64 (Int.ofNat 1)))), .op none none (.store 1 (.t 6) (.t 18))]) (.seq (.reg [.op (some 19) none (.fld 1 [true] (.t 10)), .op (some 20) none (.load false 1 (.t 19)), .op (some 21) none (.load false 1 (.t 5)), .op (some 22) none (.bin .eql (.t 20) (.t 21)), .op (some 23) none (.mv (.t 22)), .op (some 24) (some (23, true)) (.load false 1 (.t 7)), .op (some 25) (some (23, true)) (.bin .gtr (.t 24) (.c (.int .i64 (Int.ofNat 0)))), .op (some 26) (some (23, true)) (.mv (.t 25)), .op (some 27) (some (26, false)) (.fld 0 [false] (.t 10)), .op (some 28) (some (26, false)) (.load false 1 (.t 27)), .op (some 29) (some (26, false)) (.bin .gtr (.t 28) (.c (.int .i64 (Int.ofNat 0)))), .op (some 30) (some (23, true)) (.pick (.t 26) (.c (.tf true)) (.t 29)), .op (some 31) none (.pick (.t 23) (.t 30) (.c (.tf false)))]) (.cond ( .t 31) (.reg [.op (some 32) none (.load false 1 (.t 9)), .op (some 33) none (.bin .add (.t 32) (.c (.int .i64 (Int.ofNat 1)))), .op none none (.store 1 (.t 9) (.t 33))]) .skip)))))
noncomputable def cx67_0i : Cx := itCx cx67 (fun kz => rdK kz cx67 ar0 5 7 [14] (ad67_0) (bd67_0))
theorem cx67_0i_ok : (cx67_0i).Ok prog := itCx_ok cx67_ok (fun h => rdK_ok mixed cx67_ok h)
@[reducible] def p67_0i_0 : Pat := Pat.mk [(0, .c (.yl 5)), (5, .c (.hole (.list (.prod (.int .i64) (.int .i64))))), (6, hzI), (7, hzI)] [(5, .loop .ready none 4 [(5, .c (.ptr 0 0)), (6, .c (.ptr 1 0)), (7, .c (.ptr 2 0)), (8, hzI), (9, .c (.ptr 3 0)), (13, .fn 80 [] [.ipc (.list (.prod (.int .i64) (.int .i64)))])] [14] (.reg [.op (some 10) none (.alloc [.int .i64 (Int.ofNat 0), .int .i64 (Int.ofNat 0)]), .op none none (.store 2 (.t 10) (.t 14))]) (.block 1 (.seq (.seq (.reg [.op (some 15) none (.load false 1 (.t 6)), .op (some 16) none (.bin .eql (.t 15) (.c (.int .i64 (Int.ofNat 0))))]) (.cond (.t 16) (.exit 0) .skip)) (.seq (.reg [.op (some 17) none (.load false 1 (.t 6)), .op (some 18) none (.bin .sub (.t 17) (.c (.int .i64 (Int.ofNat 1)))), .op none none (.store 1 (.t 6) (.t 18))]) (.seq (.reg [.op (some 19) none (.fld 1 [true] (.t 10)), .op (some 20) none (.load false 1 (.t 19)), .op (some 21) none (.load false 1 (.t 5)), .op (some 22) none (.bin .eql (.t 20) (.t 21)), .op (some 23) none (.mv (.t 22)), .op (some 24) (some (23, true)) (.load false 1 (.t 7)), .op (some 25) (some (23, true)) (.bin .gtr (.t 24) (.c (.int .i64 (Int.ofNat 0)))), .op (some 26) (some (23, true)) (.mv (.t 25)), .op (some 27) (some (26, false)) (.fld 0 [false] (.t 10)), .op (some 28) (some (26, false)) (.load false 1 (.t 27)), .op (some 29) (some (26, false)) (.bin .gtr (.t 28) (.c (.int .i64 (Int.ofNat 0)))), .op (some 30) (some (23, true)) (.pick (.t 26) (.c (.tf true)) (.t 29)), .op (some 31) none (.pick (.t 23) (.t 30) (.c (.tf false)))]) (.cond (.t 31) (.reg [.op (some 32) none (.load false 1 (.t 9)), .op (some 33) none (.bin .add (.t 32) (.c (.int .i64 (Int.ofNat 1)))), .op none none (.store 1 (.t 9) (.t 33))]) .skip))))) 35), (4, .dfr), (0, .cells [.hole (.int .i64)] true), (1, .cells [.hole (.int .i64)] false), (2, .cells [.hole (.int .i64)] true), (3, .cells [.hole (.int .i64)] false)] [] []
@[reducible] def x67_0i_0 : Outs := [(.ret, Pat.mk [] [(0, .cells [.hole (.int .i64)] true), (1, .cells [.hole (.int .i64)] false), (2, .cells [.hole (.int .i64)] true), (3, .cells [.hole (.int .i64)] false), (4, .dfr), (5, .loop .done (some (.exit 0)) 4 [(5, .c (.ptr 0 0)), (6, .c (.ptr 1 0)), (7, .c (.ptr 2 0)), (8, hzI), (9, .c (.ptr 3 0)), (13, .fn 80 [] [.ipc (.list (.prod (.int .i64) (.int .i64)))])] [14] (.reg [.op (some 10) none (.alloc [.int .i64 (Int.ofNat 0), .int .i64 (Int.ofNat 0)]), .op none none (.store 2 (.t 10) (.t 14))]) (.block 1 (.seq (.seq (.reg [.op (some 15) none (.load false 1 (.t 6)), .op (some 16) none (.bin .eql (.t 15) (.c (.int .i64 (Int.ofNat 0))))]) (.cond (.t 16) (.exit 0) .skip)) (.seq (.reg [.op (some 17) none (.load false 1 (.t 6)), .op (some 18) none (.bin .sub (.t 17) (.c (.int .i64 (Int.ofNat 1)))), .op none none (.store 1 (.t 6) (.t 18))]) (.seq (.reg [.op (some 19) none (.fld 1 [true] (.t 10)), .op (some 20) none (.load false 1 (.t 19)), .op (some 21) none (.load false 1 (.t 5)), .op (some 22) none (.bin .eql (.t 20) (.t 21)), .op (some 23) none (.mv (.t 22)), .op (some 24) (some (23, true)) (.load false 1 (.t 7)), .op (some 25) (some (23, true)) (.bin .gtr (.t 24) (.c (.int .i64 (Int.ofNat 0)))), .op (some 26) (some (23, true)) (.mv (.t 25)), .op (some 27) (some (26, false)) (.fld 0 [false] (.t 10)), .op (some 28) (some (26, false)) (.load false 1 (.t 27)), .op (some 29) (some (26, false)) (.bin .gtr (.t 28) (.c (.int .i64 (Int.ofNat 0)))), .op (some 30) (some (23, true)) (.pick (.t 26) (.c (.tf true)) (.t 29)), .op (some 31) none (.pick (.t 23) (.t 30) (.c (.tf false)))]) (.cond (.t 31) (.reg [.op (some 32) none (.load false 1 (.t 9)), .op (some 33) none (.bin .add (.t 32) (.c (.int .i64 (Int.ofNat 1)))), .op none none (.store 1 (.t 9) (.t 33))]) .skip))))) 35)] [] []), (.exit 0, Pat.mk [] [(0, .cells [.hole (.int .i64)] true), (1, .cells [.hole (.int .i64)] false), (2, .cells [.hole (.int .i64)] true), (3, .cells [.hole (.int .i64)] false), (4, .dfr), (5, .loop .ready none 4 [(5, .c (.ptr 0 0)), (6, .c (.ptr 1 0)), (7, .c (.ptr 2 0)), (8, hzI), (9, .c (.ptr 3 0)), (13, .fn 80 [] [.ipc (.list (.prod (.int .i64) (.int .i64)))])] [14] (.reg [.op (some 10) none (.alloc [.int .i64 (Int.ofNat 0), .int .i64 (Int.ofNat 0)]), .op none none (.store 2 (.t 10) (.t 14))]) (.block 1 (.seq (.seq (.reg [.op (some 15) none (.load false 1 (.t 6)), .op (some 16) none (.bin .eql (.t 15) (.c (.int .i64 (Int.ofNat 0))))]) (.cond (.t 16) (.exit 0) .skip)) (.seq (.reg [.op (some 17) none (.load false 1 (.t 6)), .op (some 18) none (.bin .sub (.t 17) (.c (.int .i64 (Int.ofNat 1)))), .op none none (.store 1 (.t 6) (.t 18))]) (.seq (.reg [.op (some 19) none (.fld 1 [true] (.t 10)), .op (some 20) none (.load false 1 (.t 19)), .op (some 21) none (.load false 1 (.t 5)), .op (some 22) none (.bin .eql (.t 20) (.t 21)), .op (some 23) none (.mv (.t 22)), .op (some 24) (some (23, true)) (.load false 1 (.t 7)), .op (some 25) (some (23, true)) (.bin .gtr (.t 24) (.c (.int .i64 (Int.ofNat 0)))), .op (some 26) (some (23, true)) (.mv (.t 25)), .op (some 27) (some (26, false)) (.fld 0 [false] (.t 10)), .op (some 28) (some (26, false)) (.load false 1 (.t 27)), .op (some 29) (some (26, false)) (.bin .gtr (.t 28) (.c (.int .i64 (Int.ofNat 0)))), .op (some 30) (some (23, true)) (.pick (.t 26) (.c (.tf true)) (.t 29)), .op (some 31) none (.pick (.t 23) (.t 30) (.c (.tf false)))]) (.cond (.t 31) (.reg [.op (some 32) none (.load false 1 (.t 9)), .op (some 33) none (.bin .add (.t 32) (.c (.int .i64 (Int.ofNat 1)))), .op none none (.store 1 (.t 9) (.t 33))]) .skip))))) 35)] [] [])]
noncomputable def b67_0i_0 : D prog 16 none 6 := (.seq (.reg [oo 8 (.bin .lss (.t 7) (.t 6))]) (.seq (.cond ( .t 8) .skip (.exit 0)) (.seq (.block 1 (.seq (.reg [oo 9 (.idx 2 (.t 5) (.t 7)), oo 10 (.load true 2 (.t 9)), oo 4 (.alloc [.int .i64 (Int.ofNat 0), .int .i64 (Int.ofNat 0)]), .op none none (.store 2 (.t 4) (.t 10))]) (.seq (.reg [om 11 0, oo 12 (.load true 2 (.t 4)), .call (some 13) none (.t 11) [.t 12] [some (.prod (.int .i64) (.int .i64))], oo 14 (.not (.t 13))]) (.cond ( .t 14) .ret .skip)))) (.reg [oo 15 (.bin .add (.t 7) (ki 1)), om 7 15]))))
noncomputable def g67_0i_0 (v5 : List (Int × Int)) (v6 : Int) (v7 : Int) (w8 : Int) (w13_0 : List (Int × Int)) (c0_0 : Int) (c1_0 : Int) (c2_0 : Int) (c3_0 : Int) : Option (((List (Int × Int)) × Int × Int × Int × (List (Int × Int)) × Int × Int × Int × Int × Unit) ⊕ ((Int × Int × Int × Int × Int × (List (Int × Int)) × Unit) ⊕ ((Int × Int × Int × Int × Int × (List (Int × Int)) × Unit)))) :=
 brO (decide (v7 < v6)) (
 need (inb v7 (((v5).length : Nat) : Int)) (
 brO (c1_0 == (0 : Int)) (
 some (.inr <| .inl <| (c0_0, (c1_0, (c2_0, (c3_0, (w8, (w13_0, ())))))))) (
 need (rng .i64 (c1_0 - (1 : Int))) (
 brO (((v5).getD (Int.toNat v7) ((0 : Int), (0 : Int))).2 == c0_0) (
 brO (decide ((0 : Int) < c2_0)) (
 need (rng .i64 (c3_0 + (1 : Int))) (
 need (rng .i64 (v7 + (1 : Int))) (
 some (.inl (v5, (v6, ((v7 + (1 : Int)), (w8, (w13_0, (c0_0, ((c1_0 - (1 : Int)), (c2_0, ((c3_0 + (1 : Int)), ()))))))))))))) (
 brO (decide ((0 : Int) < ((v5).getD (Int.toNat v7) ((0 : Int), (0 : Int))).1)) (
 need (rng .i64 (c3_0 + (1 : Int))) (
 need (rng .i64 (v7 + (1 : Int))) (
 some (.inl (v5, (v6, ((v7 + (1 : Int)), (w8, (w13_0, (c0_0, ((c1_0 - (1 : Int)), (c2_0, ((c3_0 + (1 : Int)), ()))))))))))))) (
 need (rng .i64 (v7 + (1 : Int))) (
 some (.inl (v5, (v6, ((v7 + (1 : Int)), (w8, (w13_0, (c0_0, ((c1_0 - (1 : Int)), (c2_0, (c3_0, ())))))))))))))) (
 need (rng .i64 (v7 + (1 : Int))) (
 some (.inl (v5, (v6, ((v7 + (1 : Int)), (w8, (w13_0, (c0_0, ((c1_0 - (1 : Int)), (c2_0, (c3_0, ())))))))))))))))) (
 some (.inr <| .inr <| (c0_0, (c1_0, (c2_0, (c3_0, (w8, (w13_0, ()))))))))
def Cg67_0i_0 (v5 : List (Int × Int)) (v6 : Int) (v7 : Int) (w8 : Int) (w13_0 : List (Int × Int)) (c0_0 : Int) (c1_0 : Int) (c2_0 : Int) (c3_0 : Int) : Option (((List (Int × Int)) × Int × Int × Int × (List (Int × Int)) × Int × Int × Int × Int × Unit) ⊕ ((Int × Int × Int × Int × Int × (List (Int × Int)) × Unit) ⊕ ((Int × Int × Int × Int × Int × (List (Int × Int)) × Unit)))) :=
 brC (decide (v7 < v6)) (
 needC (inb v7 (((v5).length : Nat) : Int)) (
 brC (c1_0 == (0 : Int)) (
 some (.inr <| .inl <| (c0_0, (c1_0, (c2_0, (c3_0, (w8, (w13_0, ())))))))) (
 needC (rng .i64 (c1_0 - (1 : Int))) (
 brC (((v5).getD (Int.toNat v7) ((0 : Int), (0 : Int))).2 == c0_0) (
 brC (decide ((0 : Int) < c2_0)) (
 needC (rng .i64 (c3_0 + (1 : Int))) (
 needC (rng .i64 (v7 + (1 : Int))) (
 some (.inl (v5, (v6, ((v7 + (1 : Int)), (w8, (w13_0, (c0_0, ((c1_0 - (1 : Int)), (c2_0, ((c3_0 + (1 : Int)), ()))))))))))))) (
 brC (decide ((0 : Int) < ((v5).getD (Int.toNat v7) ((0 : Int), (0 : Int))).1)) (
 needC (rng .i64 (c3_0 + (1 : Int))) (
 needC (rng .i64 (v7 + (1 : Int))) (
 some (.inl (v5, (v6, ((v7 + (1 : Int)), (w8, (w13_0, (c0_0, ((c1_0 - (1 : Int)), (c2_0, ((c3_0 + (1 : Int)), ()))))))))))))) (
 needC (rng .i64 (v7 + (1 : Int))) (
 some (.inl (v5, (v6, ((v7 + (1 : Int)), (w8, (w13_0, (c0_0, ((c1_0 - (1 : Int)), (c2_0, (c3_0, ())))))))))))))) (
 needC (rng .i64 (v7 + (1 : Int))) (
 some (.inl (v5, (v6, ((v7 + (1 : Int)), (w8, (w13_0, (c0_0, ((c1_0 - (1 : Int)), (c2_0, (c3_0, ())))))))))))))))) (
 some (.inr <| .inr <| (c0_0, (c1_0, (c2_0, (c3_0, (w8, (w13_0, ()))))))))
theorem Cg67_0i_0_le (v5 : List (Int × Int)) (v6 : Int) (v7 : Int) (w8 : Int) (w13_0 : List (Int × Int)) (c0_0 : Int) (c1_0 : Int) (c2_0 : Int) (c3_0 : Int) : Le (Cg67_0i_0 v5 v6 v7 w8 w13_0 c0_0 c1_0 c2_0 c3_0) (g67_0i_0 v5 v6 v7 w8 w13_0 c0_0 c1_0 c2_0 c3_0) := (Le.br (Le.nd (Le.br Le.r (Le.nd (Le.br (Le.br (Le.nd (Le.nd Le.r)) (Le.br (Le.nd (Le.nd Le.r)) (Le.nd Le.r))) (Le.nd Le.r))))) Le.r)
noncomputable def L67_0i_0 : LoopS prog 16 none 6 := mkLoop mixed cx67_0i cx67_0i_ok [0, 1, 2, 3, 4, 5] rfl p67_0i_0 x67_0i_0 rfl (b67_0i_0) (fun x => g67_0i_0 x.1 x.2.1 x.2.2.1 x.2.2.2.1 x.2.2.2.2.1 x.2.2.2.2.2.1 x.2.2.2.2.2.2.1 x.2.2.2.2.2.2.2.1 x.2.2.2.2.2.2.2.2.1) (by intro x; kernel_rfl)
@[reducible] def p67_0 : Pat := Pat.mk [(5, .c (.ptr 0 0)), (6, .c (.ptr 1 0)), (7, .c (.ptr 2 0)), (8, hzI), (9, .c (.ptr 3 0)), (13, .fn 80 [] [.ipc (.list (.prod (.int .i64) (.int .i64)))])] [(0, .cells [.hole (.int .i64)] true), (1, .cells [.hole (.int .i64)] false), (2, .cells [.hole (.int .i64)] true), (3, .cells [.hole (.int .i64)] false)] [.slot 5, .slot 6, .slot 7, .slot 9] []
@[reducible] def x67_0 : Outs := [(.exit 0, Pat.mk [(9, .c (.ptr 0 0))] [(0, .cells [.hole (.int .i64)] false), (1, .dfr)] [.slot 9, .mark 0] [1]), (.normal, Pat.mk [(9, .c (.ptr 0 0))] [(0, .cells [.hole (.int .i64)] false), (1, .dfr)] [.slot 9, .mark 0] [1])]
noncomputable def b67_0i : D prog 16 none 6 := (.seq (.reg [ol 5 1, oo 6 (.len (.t 5)), oo 7 (.mv (ki 0))]) (.block 0 (.loop L67_0i_0)))
theorem ci67_0 : trF prog f80 = some ⟨16, 2, (b67_0i).er, [], []⟩ := by kernel_rfl
noncomputable def g67_0 (v8 : Int) (v13_0 : List (Int × Int)) (c0_0 : Int) (c1_0 : Int) (c2_0 : Int) (c3_0 : Int) : Option ((Int × Unit) ⊕ ((Int × Unit))) :=
 bindO (iter (fun x => g67_0i_0 x.1 x.2.1 x.2.2.1 x.2.2.2.1 x.2.2.2.2.1 x.2.2.2.2.2.1 x.2.2.2.2.2.2.1 x.2.2.2.2.2.2.2.1 x.2.2.2.2.2.2.2.2.1) (v13_0, ((((v13_0).length : Nat) : Int), ((0 : Int), (v8, (v13_0, (c0_0, (c1_0, (c2_0, (c3_0, ())))))))))) fun z1 =>
 match z1 with
 | .inl z2 =>
 some (.inl <| (z2.2.2.2.1, ()))
 | .inr z3 =>
 some (.inr <| (z3.2.2.2.1, ()))
def Cg67_0 (v8 : Int) (v13_0 : List (Int × Int)) (c0_0 : Int) (c1_0 : Int) (c2_0 : Int) (c3_0 : Int) : Option ((Int × Unit) ⊕ ((Int × Unit))) :=
 bindC (iterF (fun x => Cg67_0i_0 x.1 x.2.1 x.2.2.1 x.2.2.2.1 x.2.2.2.2.1 x.2.2.2.2.2.1 x.2.2.2.2.2.2.1 x.2.2.2.2.2.2.2.1 x.2.2.2.2.2.2.2.2.1) 1000000 (v13_0, ((((v13_0).length : Nat) : Int), ((0 : Int), (v8, (v13_0, (c0_0, (c1_0, (c2_0, (c3_0, ())))))))))) fun z1 =>
 match z1 with
 | .inl z2 =>
 some (.inl <| (z2.2.2.2.1, ()))
 | .inr z3 =>
 some (.inr <| (z3.2.2.2.1, ()))
theorem Cg67_0_le (v8 : Int) (v13_0 : List (Int × Int)) (c0_0 : Int) (c1_0 : Int) (c2_0 : Int) (c3_0 : Int) : Le (Cg67_0 v8 v13_0 c0_0 c1_0 c2_0 c3_0) (g67_0 v8 v13_0 c0_0 c1_0 c2_0 c3_0) := (Le.bd (Le.iter fun x => Cg67_0i_0_le ..) fun z1 => (match z1 with | .inl z2 => Le.r | .inr z3 => Le.r))
theorem s67_0 : ∀ x, rangeE (N := 35) (out := none) (base := 0) (kzO x67_0.T) cx67_0i ar0 [] p67_0 x67_0 ( .t 13) [14] (ad67_0).er (bd67_0).er [] 2 80 (b67_0i) some x = g67_0 x.1 x.2.1 x.2.2.1 x.2.2.2.1 x.2.2.2.2.1 x.2.2.2.2.2.1 := by intro x; kernel_rfl
noncomputable def R67_0 : RangeS prog 35 none 0 := mkRange mixed cx67_0i cx67_0i_ok [] rfl p67_0 x67_0 ( .t 13) [14] rfl (ad67_0).er (bd67_0).er 80 func80 (ci67_0) (enters_of func80 rfl rfl) 6 rfl (b67_0i) rfl (fun x => g67_0 x.1 x.2.1 x.2.2.1 x.2.2.2.1 x.2.2.2.2.1 x.2.2.2.2.2.1) (s67_0)
noncomputable def dd67 : D prog 35 none 0 := (.seq (.reg [oo 5 (.box (.t 1)), oo 6 (.box (.t 2)), oo 7 (.box (.t 3)), oo 8 (.mv (ki 0))]) (.seq (.reg [oo 9 (.alloc [.int .i64 (Int.ofNat 0)]), .op none none (.store 1 (.t 9) (ki 0))]) (.seq (.seq (.reg [om 11 0, oo 12 (.mkfn 78 [] [.t 5, .t 7]), .call (some 13) none (.c (.fn 58 [] [])) [.t 11, .t 12] [some (.list (.list (.int .i64))), none]]) (.block 0 (.rangeF R67_0))) (.seq (.reg [ol 34 9, om 8 34]) .ret))))
noncomputable def F67 (a0 : List (List Int)) (a1 : Int) (a2 : Int) (a3 : Int) : Option (Int × Unit) :=
 bindO (F58_v1 a0 a1 a3) fun y0 =>
 bindO (g67_0 (0 : Int) y0.1 a1 a2 a3 (0 : Int)) fun z4 =>
 match z4 with
 | .inl z5 =>
 some (z5.1, ())
 | .inr z6 =>
 some (z6.1, ())
def CF67 (a0 : List (List Int)) (a1 : Int) (a2 : Int) (a3 : Int) : Option (Int × Unit) :=
 bindC (CF58_v1 a0 a1 a3) fun y0 =>
 bindC (Cg67_0 (0 : Int) y0.1 a1 a2 a3 (0 : Int)) fun z4 =>
 match z4 with
 | .inl z5 =>
 some (z5.1, ())
 | .inr z6 =>
 some (z6.1, ())
theorem CF67_le (a0 : List (List Int)) (a1 : Int) (a2 : Int) (a3 : Int) : Le (CF67 a0 a1 a2 a3) (F67 a0 a1 a2 a3) := (Le.bd (CF58_v1_le ..) fun y0 => (Le.bd (Cg67_0_le ..) fun z4 => (match z4 with | .inl z5 => Le.r | .inr z6 => Le.r)))
theorem c67_ok : trF prog f67 = some ⟨35, 4, dd67.er, [.t 8], [some (.int .i64)]⟩ := by kernel_rfl
noncomputable def ct67 : Ct := ⟨67, [.c (.hole (.list (.list (.int .i64)))), .c (.hole (.int .i64)), .c (.hole (.int .i64)), .c (.hole (.int .i64))], .c (.hole (.int .i64)), fun x => F67 x.1 x.2.1 x.2.2.1 x.2.2.2.1⟩
theorem ct67_ok : ct67.Ok prog := ct_ok mixed cx67_ok func67 c67_ok (enters_of func67 rfl rfl) dd67 rfl rfl (fun x => by kernel_rfl)

/- 68 -/
noncomputable def cx68 : Cx := mkCxH [] []
theorem cx68_ok : cx68.Ok prog := mkCxH_ok trivial trivial
noncomputable def dd68 : D prog 7 none 0 := (.seq (.reg [oo 3 (.box (.t 1)), oo 4 (.mv (ki 0))]) (.seq (.reg [oo 5 (.fld 0 [false] (.t 3)), ol 6 5, om 4 6]) .ret))
noncomputable def F68 (a0 : Int) (a1 : Int × Int) : Option (Int × Unit) :=
 some (a1.1, ())
def CF68 (a0 : Int) (a1 : Int × Int) : Option (Int × Unit) :=
 some (a1.1, ())
theorem CF68_le (a0 : Int) (a1 : Int × Int) : Le (CF68 a0 a1) (F68 a0 a1) := Le.r
theorem c68_ok : trF prog f68 = some ⟨7, 2, dd68.er, [.t 4], [some (.int .i64)]⟩ := by kernel_rfl
noncomputable def ct68 : Ct := ⟨68, [.c (.hole (.int .i64)), .c (.hole (.prod (.int .i64) (.int .i64)))], .c (.hole (.int .i64)), fun x => F68 x.1 x.2.1⟩
theorem ct68_ok : ct68.Ok prog := ct_ok mixed cx68_ok func68 c68_ok (enters_of func68 rfl rfl) dd68 rfl rfl (fun x => by kernel_rfl)

/- 64 -/
noncomputable def cx64_v2 : Cx := mkCxH [ct68] []
theorem cx64_v2_ok : cx64_v2.Ok prog := mkCxH_ok ⟨ct68_ok, trivial⟩ trivial
@[reducible] def p64_v2_1 : Pat := Pat.mk [(1, .c (.fn0 68)), (5, .c (.sl0 0 (.list (.int .i64)))), (6, hzI), (8, .c (.sl0 1 (.int .i64))), (11, .c (.hole (.list (.list (.prod (.int .i64) (.int .i64)))))), (12, hzI), (13, hzI), (19, .c (.hole (.list (.prod (.int .i64) (.int .i64))))), (20, hzI), (21, hzI)] [(0, .arr (.list (.int .i64)) false), (1, .arr (.int .i64) false)] [.slot 5, .slot 8] []
@[reducible] def x64_v2_1 : Outs := [(.exit 2, Pat.mk [(1, .c (.fn0 68)), (5, .c (.sl0 0 (.list (.int .i64)))), (8, .c (.sl0 1 (.int .i64))), (11, .c (.hole (.list (.list (.prod (.int .i64) (.int .i64)))))), (12, hzI), (13, hzI)] [(0, .arr (.list (.int .i64)) false), (1, .arr (.int .i64) false)] [.slot 5, .slot 8] [])]
noncomputable def b64_v2_1 : D prog 39 none 0 := (.seq (.reg [oo 22 (.bin .lss (.t 21) (.t 20))]) (.seq (.cond ( .t 22) .skip (.exit 2)) (.seq (.block 3 (.seq (.reg [oo 23 (.idx 2 (.t 19) (.t 21)), oo 24 (.load true 2 (.t 23)), oo 10 (.alloc [.int .i64 (Int.ofNat 0), .int .i64 (Int.ofNat 0)]), .op none none (.store 2 (.t 10) (.t 24))]) (.reg [om 25 8, om 26 1, om 27 6, oo 28 (.load true 2 (.t 10)), .call (some 29) none (.t 26) [.t 27, .t 28] [some (.int .i64), some (.prod (.int .i64) (.int .i64))], oo 30 (.bslice (.int .i64) [.t 29]), oo 31 (.append 1 (.t 25) (.t 30)), om 8 31]))) (.reg [oo 32 (.bin .add (.t 21) (ki 1)), om 21 32]))))
noncomputable def g64_v2_1 (nv5 : Nat) (v6 : Int) (nv8 : Nat) (v11 : List (List (Int × Int))) (v12 : Int) (v13 : Int) (v19 : List (Int × Int)) (v20 : Int) (v21 : Int) (b0 : List (List Int)) (b1 : List Int) : Option ((Nat × Int × Nat × (List (List (Int × Int))) × Int × Int × (List (Int × Int)) × Int × Int × List (List Int) × List Int × Unit) ⊕ ((Nat × Nat × (List (List (Int × Int))) × Int × Int × List (List Int) × List Int × Unit))) :=
 brO (decide (v21 < v20)) (
 need (inb v21 (((v19).length : Nat) : Int)) (
 bindO (F68 v6 (((v19).getD (Int.toNat v21) ((0 : Int), (0 : Int))).1, ((v19).getD (Int.toNat v21) ((0 : Int), (0 : Int))).2)) fun y0 =>
 need (decide ((nv8 + (((((y0.1 :: [])).drop (0 : Nat)).take (1 : Nat))).length) < bigL)) (
 need (rng .i64 (v21 + (1 : Int))) (
 some (.inl (nv5, (v6, ((nv8 + (((((y0.1 :: [])).drop (0 : Nat)).take (1 : Nat))).length), (v11, (v12, (v13, (v19, (v20, ((v21 + (1 : Int)), (b0, (((((b1).drop (0 : Nat)).take nv8) ++ ((((y0.1 :: [])).drop (0 : Nat)).take (1 : Nat))), ())))))))))))))))) (
 some (.inr (nv5, (nv8, (v11, (v12, (v13, (b0, (b1, ())))))))))
def Cg64_v2_1 (nv5 : Nat) (v6 : Int) (nv8 : Nat) (v11 : List (List (Int × Int))) (v12 : Int) (v13 : Int) (v19 : List (Int × Int)) (v20 : Int) (v21 : Int) (b0 : List (List Int)) (b1 : List Int) : Option ((Nat × Int × Nat × (List (List (Int × Int))) × Int × Int × (List (Int × Int)) × Int × Int × List (List Int) × List Int × Unit) ⊕ ((Nat × Nat × (List (List (Int × Int))) × Int × Int × List (List Int) × List Int × Unit))) :=
 brC (decide (v21 < v20)) (
 needC (inb v21 (((v19).length : Nat) : Int)) (
 bindC (CF68 v6 (((v19).getD (Int.toNat v21) ((0 : Int), (0 : Int))).1, ((v19).getD (Int.toNat v21) ((0 : Int), (0 : Int))).2)) fun y0 =>
 needC (decide ((nv8 + (((((y0.1 :: [])).drop (0 : Nat)).take (1 : Nat))).length) < bigL)) (
 needC (rng .i64 (v21 + (1 : Int))) (
 some (.inl (nv5, (v6, ((nv8 + (((((y0.1 :: [])).drop (0 : Nat)).take (1 : Nat))).length), (v11, (v12, (v13, (v19, (v20, ((v21 + (1 : Int)), (b0, (((((b1).drop (0 : Nat)).take nv8) ++ ((((y0.1 :: [])).drop (0 : Nat)).take (1 : Nat))), ())))))))))))))))) (
 some (.inr (nv5, (nv8, (v11, (v12, (v13, (b0, (b1, ())))))))))
theorem Cg64_v2_1_le (nv5 : Nat) (v6 : Int) (nv8 : Nat) (v11 : List (List (Int × Int))) (v12 : Int) (v13 : Int) (v19 : List (Int × Int)) (v20 : Int) (v21 : Int) (b0 : List (List Int)) (b1 : List Int) : Le (Cg64_v2_1 nv5 v6 nv8 v11 v12 v13 v19 v20 v21 b0 b1) (g64_v2_1 nv5 v6 nv8 v11 v12 v13 v19 v20 v21 b0 b1) := (Le.br (Le.nd (Le.bd (CF68_le ..) fun y0 => (Le.nd (Le.nd Le.r)))) Le.r)
noncomputable def L64_v2_1 : LoopS prog 39 none 0 := mkLoop mixed cx64_v2 cx64_v2_ok [] rfl p64_v2_1 x64_v2_1 rfl (b64_v2_1) (fun x => g64_v2_1 x.1 x.2.1 x.2.2.1 x.2.2.2.1 x.2.2.2.2.1 x.2.2.2.2.2.1 x.2.2.2.2.2.2.1 x.2.2.2.2.2.2.2.1 x.2.2.2.2.2.2.2.2.1 x.2.2.2.2.2.2.2.2.2.1 x.2.2.2.2.2.2.2.2.2.2.1) (by intro x; kernel_rfl)
@[reducible] def p64_v2_0 : Pat := Pat.mk [(1, .c (.fn0 68)), (5, .c (.sl0 0 (.list (.int .i64)))), (11, .c (.hole (.list (.list (.prod (.int .i64) (.int .i64)))))), (12, hzI), (13, hzI)] [(0, .arr (.list (.int .i64)) false)] [.slot 5] []
@[reducible] def x64_v2_0 : Outs := [(.exit 0, Pat.mk [(5, .c (.sl0 0 (.list (.int .i64))))] [(0, .arr (.list (.int .i64)) false)] [.slot 5] [])]
noncomputable def b64_v2_0 : D prog 39 none 0 := (.seq (.reg [oo 14 (.bin .lss (.t 13) (.t 12))]) (.seq (.cond ( .t 14) .skip (.exit 0)) (.seq (.block 1 (.seq (.reg [om 15 13, oo 16 (.idx 1 (.t 11) (.t 13)), ol 17 16, om 6 15, om 7 17]) (.seq (.reg [oo 18 (.bslice (.int .i64) []), om 8 18]) (.seq (.seq (.reg [om 19 7, oo 20 (.len (.t 19)), oo 21 (.mv (ki 0))]) (.block 2 (.loop L64_v2_1))) (.reg [om 33 5, om 34 8, oo 35 (.bslice (.list (.int .i64)) [.t 34]), oo 36 (.append 1 (.t 33) (.t 35)), om 5 36]))))) (.reg [oo 37 (.bin .add (.t 13) (ki 1)), om 13 37]))))
noncomputable def g64_v2_0 (nv5 : Nat) (v11 : List (List (Int × Int))) (v12 : Int) (v13 : Int) (b0 : List (List Int)) : Option ((Nat × (List (List (Int × Int))) × Int × Int × List (List Int) × Unit) ⊕ ((Nat × List (List Int) × Unit))) :=
 brO (decide (v13 < v12)) (
 need (inb v13 (((v11).length : Nat) : Int)) (
 bindO (iter (fun x => g64_v2_1 x.1 x.2.1 x.2.2.1 x.2.2.2.1 x.2.2.2.2.1 x.2.2.2.2.2.1 x.2.2.2.2.2.2.1 x.2.2.2.2.2.2.2.1 x.2.2.2.2.2.2.2.2.1 x.2.2.2.2.2.2.2.2.2.1 x.2.2.2.2.2.2.2.2.2.2.1) (nv5, (v13, ((0 : Nat), (v11, (v12, (v13, (((v11).getD (Int.toNat v13) []), ((((((v11).getD (Int.toNat v13) [])).length : Nat) : Int), ((0 : Int), (b0, ([], ())))))))))))) fun z1 =>
 need (decide ((z1.1 + ((((((((z1.2.2.2.2.2.2.1).drop (0 : Nat)).take z1.2.1) :: [])).drop (0 : Nat)).take (1 : Nat))).length) < bigL)) (
 need (rng .i64 (z1.2.2.2.2.1 + (1 : Int))) (
 some (.inl ((z1.1 + ((((((((z1.2.2.2.2.2.2.1).drop (0 : Nat)).take z1.2.1) :: [])).drop (0 : Nat)).take (1 : Nat))).length), (z1.2.2.1, (z1.2.2.2.1, ((z1.2.2.2.2.1 + (1 : Int)), (((((z1.2.2.2.2.2.1).drop (0 : Nat)).take z1.1) ++ (((((((z1.2.2.2.2.2.2.1).drop (0 : Nat)).take z1.2.1) :: [])).drop (0 : Nat)).take (1 : Nat))), ())))))))))) (
 some (.inr (nv5, (b0, ()))))
def Cg64_v2_0 (nv5 : Nat) (v11 : List (List (Int × Int))) (v12 : Int) (v13 : Int) (b0 : List (List Int)) : Option ((Nat × (List (List (Int × Int))) × Int × Int × List (List Int) × Unit) ⊕ ((Nat × List (List Int) × Unit))) :=
 brC (decide (v13 < v12)) (
 needC (inb v13 (((v11).length : Nat) : Int)) (
 bindC (iterF (fun x => Cg64_v2_1 x.1 x.2.1 x.2.2.1 x.2.2.2.1 x.2.2.2.2.1 x.2.2.2.2.2.1 x.2.2.2.2.2.2.1 x.2.2.2.2.2.2.2.1 x.2.2.2.2.2.2.2.2.1 x.2.2.2.2.2.2.2.2.2.1 x.2.2.2.2.2.2.2.2.2.2.1) 1000000 (nv5, (v13, ((0 : Nat), (v11, (v12, (v13, (((v11).getD (Int.toNat v13) []), ((((((v11).getD (Int.toNat v13) [])).length : Nat) : Int), ((0 : Int), (b0, ([], ())))))))))))) fun z1 =>
 needC (decide ((z1.1 + ((((((((z1.2.2.2.2.2.2.1).drop (0 : Nat)).take z1.2.1) :: [])).drop (0 : Nat)).take (1 : Nat))).length) < bigL)) (
 needC (rng .i64 (z1.2.2.2.2.1 + (1 : Int))) (
 some (.inl ((z1.1 + ((((((((z1.2.2.2.2.2.2.1).drop (0 : Nat)).take z1.2.1) :: [])).drop (0 : Nat)).take (1 : Nat))).length), (z1.2.2.1, (z1.2.2.2.1, ((z1.2.2.2.2.1 + (1 : Int)), (((((z1.2.2.2.2.2.1).drop (0 : Nat)).take z1.1) ++ (((((((z1.2.2.2.2.2.2.1).drop (0 : Nat)).take z1.2.1) :: [])).drop (0 : Nat)).take (1 : Nat))), ())))))))))) (
 some (.inr (nv5, (b0, ()))))
theorem Cg64_v2_0_le (nv5 : Nat) (v11 : List (List (Int × Int))) (v12 : Int) (v13 : Int) (b0 : List (List Int)) : Le (Cg64_v2_0 nv5 v11 v12 v13 b0) (g64_v2_0 nv5 v11 v12 v13 b0) := (Le.br (Le.nd (Le.bd (Le.iter fun x => Cg64_v2_1_le ..) fun z1 => (Le.nd (Le.nd Le.r)))) Le.r)
noncomputable def L64_v2_0 : LoopS prog 39 none 0 := mkLoop mixed cx64_v2 cx64_v2_ok [] rfl p64_v2_0 x64_v2_0 rfl (b64_v2_0) (fun x => g64_v2_0 x.1 x.2.1 x.2.2.1 x.2.2.2.1 x.2.2.2.2.1) (by intro x; kernel_rfl)
noncomputable def dd64_v2 : D prog 39 none 0 := (.seq (.reg [oo 4 (.mv (.c .nsl))]) (.seq (.reg [oo 5 (.mv (.c .nsl))]) (.seq (.seq (.reg [om 11 0, oo 12 (.len (.t 11)), oo 13 (.mv (ki 0))]) (.block 0 (.loop L64_v2_0))) (.seq (.reg [om 38 5, om 4 38]) .ret))))
noncomputable def F64_v2 (a0 : List (List (Int × Int))) : Option (List (List Int) × Unit) :=
 bindO (iter (fun x => g64_v2_0 x.1 x.2.1 x.2.2.1 x.2.2.2.1 x.2.2.2.2.1) ((0 : Nat), (a0, ((((a0).length : Nat) : Int), ((0 : Int), ([], ())))))) fun z2 =>
 some ((((z2.2.1).drop (0 : Nat)).take z2.1), ())
def CF64_v2 (a0 : List (List (Int × Int))) : Option (List (List Int) × Unit) :=
 bindC (iterF (fun x => Cg64_v2_0 x.1 x.2.1 x.2.2.1 x.2.2.2.1 x.2.2.2.2.1) 1000000 ((0 : Nat), (a0, ((((a0).length : Nat) : Int), ((0 : Int), ([], ())))))) fun z2 =>
 some ((((z2.2.1).drop (0 : Nat)).take z2.1), ())
theorem CF64_v2_le (a0 : List (List (Int × Int))) : Le (CF64_v2 a0) (F64_v2 a0) := (Le.bd (Le.iter fun x => Cg64_v2_0_le ..) fun z2 => Le.r)
theorem c64_v2_ok : trF prog f64 = some ⟨39, 2, dd64_v2.er, [.t 4], [some (.list (.list (.int .i64)))]⟩ := by kernel_rfl
noncomputable def ct64_v2 : Ct := ⟨64, [.c (.hole (.list (.list (.prod (.int .i64) (.int .i64))))), .c (.fn0 68)], .c (.hole (.list (.list (.int .i64)))), fun x => F64_v2 x.1⟩
theorem ct64_v2_ok : ct64_v2.Ok prog := ct_ok mixed cx64_v2_ok func64 c64_v2_ok (enters_of func64 rfl rfl) dd64_v2 rfl rfl (fun x => by kernel_rfl)

/- 69 -/
noncomputable def cx69 : Cx := mkCxH [] []
theorem cx69_ok : cx69.Ok prog := mkCxH_ok trivial trivial
noncomputable def dd69 : D prog 7 none 0 := (.seq (.reg [oo 3 (.box (.t 1)), oo 4 (.mv (ki 0))]) (.seq (.reg [oo 5 (.fld 1 [true] (.t 3)), ol 6 5, om 4 6]) .ret))
noncomputable def F69 (a0 : Int) (a1 : Int × Int) : Option (Int × Unit) :=
 some (a1.2, ())
def CF69 (a0 : Int) (a1 : Int × Int) : Option (Int × Unit) :=
 some (a1.2, ())
theorem CF69_le (a0 : Int) (a1 : Int × Int) : Le (CF69 a0 a1) (F69 a0 a1) := Le.r
theorem c69_ok : trF prog f69 = some ⟨7, 2, dd69.er, [.t 4], [some (.int .i64)]⟩ := by kernel_rfl
noncomputable def ct69 : Ct := ⟨69, [.c (.hole (.int .i64)), .c (.hole (.prod (.int .i64) (.int .i64)))], .c (.hole (.int .i64)), fun x => F69 x.1 x.2.1⟩
theorem ct69_ok : ct69.Ok prog := ct_ok mixed cx69_ok func69 c69_ok (enters_of func69 rfl rfl) dd69 rfl rfl (fun x => by kernel_rfl)

/- 64 -/
noncomputable def cx64_v3 : Cx := mkCxH [ct69] []
theorem cx64_v3_ok : cx64_v3.Ok prog := mkCxH_ok ⟨ct69_ok, trivial⟩ trivial
@[reducible] def p64_v3_1 : Pat := Pat.mk [(1, .c (.fn0 69)), (5, .c (.sl0 0 (.list (.int .i64)))), (6, hzI), (8, .c (.sl0 1 (.int .i64))), (11, .c (.hole (.list (.list (.prod (.int .i64) (.int .i64)))))), (12, hzI), (13, hzI), (19, .c (.hole (.list (.prod (.int .i64) (.int .i64))))), (20, hzI), (21, hzI)] [(0, .arr (.list (.int .i64)) false), (1, .arr (.int .i64) false)] [.slot 5, .slot 8] []
@[reducible] def x64_v3_1 : Outs := [(.exit 2, Pat.mk [(1, .c (.fn0 69)), (5, .c (.sl0 0 (.list (.int .i64)))), (8, .c (.sl0 1 (.int .i64))), (11, .c (.hole (.list (.list (.prod (.int .i64) (.int .i64)))))), (12, hzI), (13, hzI)] [(0, .arr (.list (.int .i64)) false), (1, .arr (.int .i64) false)] [.slot 5, .slot 8] [])]
noncomputable def b64_v3_1 : D prog 39 none 0 := (.seq (.reg [oo 22 (.bin .lss (.t 21) (.t 20))]) (.seq (.cond ( .t 22) .skip (.exit 2)) (.seq (.block 3 (.seq (.reg [oo 23 (.idx 2 (.t 19) (.t 21)), oo 24 (.load true 2 (.t 23)), oo 10 (.alloc [.int .i64 (Int.ofNat 0), .int .i64 (Int.ofNat 0)]), .op none none (.store 2 (.t 10) (.t 24))]) (.reg [om 25 8, om 26 1, om 27 6, oo 28 (.load true 2 (.t 10)), .call (some 29) none (.t 26) [.t 27, .t 28] [some (.int .i64), some (.prod (.int .i64) (.int .i64))], oo 30 (.bslice (.int .i64) [.t 29]), oo 31 (.append 1 (.t 25) (.t 30)), om 8 31]))) (.reg [oo 32 (.bin .add (.t 21) (ki 1)), om 21 32]))))
noncomputable def g64_v3_1 (nv5 : Nat) (v6 : Int) (nv8 : Nat) (v11 : List (List (Int × Int))) (v12 : Int) (v13 : Int) (v19 : List (Int × Int)) (v20 : Int) (v21 : Int) (b0 : List (List Int)) (b1 : List Int) : Option ((Nat × Int × Nat × (List (List (Int × Int))) × Int × Int × (List (Int × Int)) × Int × Int × List (List Int) × List Int × Unit) ⊕ ((Nat × Nat × (List (List (Int × Int))) × Int × Int × List (List Int) × List Int × Unit))) :=
 brO (decide (v21 < v20)) (
 need (inb v21 (((v19).length : Nat) : Int)) (
 bindO (F69 v6 (((v19).getD (Int.toNat v21) ((0 : Int), (0 : Int))).1, ((v19).getD (Int.toNat v21) ((0 : Int), (0 : Int))).2)) fun y0 =>
 need (decide ((nv8 + (((((y0.1 :: [])).drop (0 : Nat)).take (1 : Nat))).length) < bigL)) (
 need (rng .i64 (v21 + (1 : Int))) (
 some (.inl (nv5, (v6, ((nv8 + (((((y0.1 :: [])).drop (0 : Nat)).take (1 : Nat))).length), (v11, (v12, (v13, (v19, (v20, ((v21 + (1 : Int)), (b0, (((((b1).drop (0 : Nat)).take nv8) ++ ((((y0.1 :: [])).drop (0 : Nat)).take (1 : Nat))), ())))))))))))))))) (
 some (.inr (nv5, (nv8, (v11, (v12, (v13, (b0, (b1, ())))))))))
def Cg64_v3_1 (nv5 : Nat) (v6 : Int) (nv8 : Nat) (v11 : List (List (Int × Int))) (v12 : Int) (v13 : Int) (v19 : List (Int × Int)) (v20 : Int) (v21 : Int) (b0 : List (List Int)) (b1 : List Int) : Option ((Nat × Int × Nat × (List (List (Int × Int))) × Int × Int × (List (Int × Int)) × Int × Int × List (List Int) × List Int × Unit) ⊕ ((Nat × Nat × (List (List (Int × Int))) × Int × Int × List (List Int) × List Int × Unit))) :=
 brC (decide (v21 < v20)) (
 needC (inb v21 (((v19).length : Nat) : Int)) (
 bindC (CF69 v6 (((v19).getD (Int.toNat v21) ((0 : Int), (0 : Int))).1, ((v19).getD (Int.toNat v21) ((0 : Int), (0 : Int))).2)) fun y0 =>
 needC (decide ((nv8 + (((((y0.1 :: [])).drop (0 : Nat)).take (1 : Nat))).length) < bigL)) (
 needC (rng .i64 (v21 + (1 : Int))) (
 some (.inl (nv5, (v6, ((nv8 + (((((y0.1 :: [])).drop (0 : Nat)).take (1 : Nat))).length), (v11, (v12, (v13, (v19, (v20, ((v21 + (1 : Int)), (b0, (((((b1).drop (0 : Nat)).take nv8) ++ ((((y0.1 :: [])).drop (0 : Nat)).take (1 : Nat))), ())))))))))))))))) (
 some (.inr (nv5, (nv8, (v11, (v12, (v13, (b0, (b1, ())))))))))
theorem Cg64_v3_1_le (nv5 : Nat) (v6 : Int) (nv8 : Nat) (v11 : List (List (Int × Int))) (v12 : Int) (v13 : Int) (v19 : List (Int × Int)) (v20 : Int) (v21 : Int) (b0 : List (List Int)) (b1 : List Int) : Le (Cg64_v3_1 nv5 v6 nv8 v11 v12 v13 v19 v20 v21 b0 b1) (g64_v3_1 nv5 v6 nv8 v11 v12 v13 v19 v20 v21 b0 b1) := (Le.br (Le.nd (Le.bd (CF69_le ..) fun y0 => (Le.nd (Le.nd Le.r)))) Le.r)
noncomputable def L64_v3_1 : LoopS prog 39 none 0 := mkLoop mixed cx64_v3 cx64_v3_ok [] rfl p64_v3_1 x64_v3_1 rfl (b64_v3_1) (fun x => g64_v3_1 x.1 x.2.1 x.2.2.1 x.2.2.2.1 x.2.2.2.2.1 x.2.2.2.2.2.1 x.2.2.2.2.2.2.1 x.2.2.2.2.2.2.2.1 x.2.2.2.2.2.2.2.2.1 x.2.2.2.2.2.2.2.2.2.1 x.2.2.2.2.2.2.2.2.2.2.1) (by intro x; kernel_rfl)
@[reducible] def p64_v3_0 : Pat := Pat.mk [(1, .c (.fn0 69)), (5, .c (.sl0 0 (.list (.int .i64)))), (11, .c (.hole (.list (.list (.prod (.int .i64) (.int .i64)))))), (12, hzI), (13, hzI)] [(0, .arr (.list (.int .i64)) false)] [.slot 5] []
@[reducible] def x64_v3_0 : Outs := [(.exit 0, Pat.mk [(5, .c (.sl0 0 (.list (.int .i64))))] [(0, .arr (.list (.int .i64)) false)] [.slot 5] [])]
noncomputable def b64_v3_0 : D prog 39 none 0 := (.seq (.reg [oo 14 (.bin .lss (.t 13) (.t 12))]) (.seq (.cond ( .t 14) .skip (.exit 0)) (.seq (.block 1 (.seq (.reg [om 15 13, oo 16 (.idx 1 (.t 11) (.t 13)), ol 17 16, om 6 15, om 7 17]) (.seq (.reg [oo 18 (.bslice (.int .i64) []), om 8 18]) (.seq (.seq (.reg [om 19 7, oo 20 (.len (.t 19)), oo 21 (.mv (ki 0))]) (.block 2 (.loop L64_v3_1))) (.reg [om 33 5, om 34 8, oo 35 (.bslice (.list (.int .i64)) [.t 34]), oo 36 (.append 1 (.t 33) (.t 35)), om 5 36]))))) (.reg [oo 37 (.bin .add (.t 13) (ki 1)), om 13 37]))))
noncomputable def g64_v3_0 (nv5 : Nat) (v11 : List (List (Int × Int))) (v12 : Int) (v13 : Int) (b0 : List (List Int)) : Option ((Nat × (List (List (Int × Int))) × Int × Int × List (List Int) × Unit) ⊕ ((Nat × List (List Int) × Unit))) :=
 brO (decide (v13 < v12)) (
 need (inb v13 (((v11).length : Nat) : Int)) (
 bindO (iter (fun x => g64_v3_1 x.1 x.2.1 x.2.2.1 x.2.2.2.1 x.2.2.2.2.1 x.2.2.2.2.2.1 x.2.2.2.2.2.2.1 x.2.2.2.2.2.2.2.1 x.2.2.2.2.2.2.2.2.1 x.2.2.2.2.2.2.2.2.2.1 x.2.2.2.2.2.2.2.2.2.2.1) (nv5, (v13, ((0 : Nat), (v11, (v12, (v13, (((v11).getD (Int.toNat v13) []), ((((((v11).getD (Int.toNat v13) [])).length : Nat) : Int), ((0 : Int), (b0, ([], ())))))))))))) fun z1 =>
 need (decide ((z1.1 + ((((((((z1.2.2.2.2.2.2.1).drop (0 : Nat)).take z1.2.1) :: [])).drop (0 : Nat)).take (1 : Nat))).length) < bigL)) (
 need (rng .i64 (z1.2.2.2.2.1 + (1 : Int))) (
 some (.inl ((z1.1 + ((((((((z1.2.2.2.2.2.2.1).drop (0 : Nat)).take z1.2.1) :: [])).drop (0 : Nat)).take (1 : Nat))).length), (z1.2.2.1, (z1.2.2.2.1, ((z1.2.2.2.2.1 + (1 : Int)), (((((z1.2.2.2.2.2.1).drop (0 : Nat)).take z1.1) ++ (((((((z1.2.2.2.2.2.2.1).drop (0 : Nat)).take z1.2.1) :: [])).drop (0 : Nat)).take (1 : Nat))), ())))))))))) (
 some (.inr (nv5, (b0, ()))))
def Cg64_v3_0 (nv5 : Nat) (v11 : List (List (Int × Int))) (v12 : Int) (v13 : Int) (b0 : List (List Int)) : Option ((Nat × (List (List (Int × Int))) × Int × Int × List (List Int) × Unit) ⊕ ((Nat × List (List Int) × Unit))) :=
 brC (decide (v13 < v12)) (
 needC (inb v13 (((v11).length : Nat) : Int)) (
 bindC (iterF (fun x => Cg64_v3_1 x.1 x.2.1 x.2.2.1 x.2.2.2.1 x.2.2.2.2.1 x.2.2.2.2.2.1 x.2.2.2.2.2.2.1 x.2.2.2.2.2.2.2.1 x.2.2.2.2.2.2.2.2.1 x.2.2.2.2.2.2.2.2.2.1 x.2.2.2.2.2.2.2.2.2.2.1) 1000000 (nv5, (v13, ((0 : Nat), (v11, (v12, (v13, (((v11).getD (Int.toNat v13) []), ((((((v11).getD (Int.toNat v13) [])).length : Nat) : Int), ((0 : Int), (b0, ([], ())))))))))))) fun z1 =>
 needC (decide ((z1.1 + ((((((((z1.2.2.2.2.2.2.1).drop (0 : Nat)).take z1.2.1) :: [])).drop (0 : Nat)).take (1 : Nat))).length) < bigL)) (
 needC (rng .i64 (z1.2.2.2.2.1 + (1 : Int))) (
 some (.inl ((z1.1 + ((((((((z1.2.2.2.2.2.2.1).drop (0 : Nat)).take z1.2.1) :: [])).drop (0 : Nat)).take (1 : Nat))).length), (z1.2.2.1, (z1.2.2.2.1, ((z1.2.2.2.2.1 + (1 : Int)), (((((z1.2.2.2.2.2.1).drop (0 : Nat)).take z1.1) ++ (((((((z1.2.2.2.2.2.2.1).drop (0 : Nat)).take z1.2.1) :: [])).drop (0 : Nat)).take (1 : Nat))), ())))))))))) (
 some (.inr (nv5, (b0, ()))))
theorem Cg64_v3_0_le (nv5 : Nat) (v11 : List (List (Int × Int))) (v12 : Int) (v13 : Int) (b0 : List (List Int)) : Le (Cg64_v3_0 nv5 v11 v12 v13 b0) (g64_v3_0 nv5 v11 v12 v13 b0) := (Le.br (Le.nd (Le.bd (Le.iter fun x => Cg64_v3_1_le ..) fun z1 => (Le.nd (Le.nd Le.r)))) Le.r)
noncomputable def L64_v3_0 : LoopS prog 39 none 0 := mkLoop mixed cx64_v3 cx64_v3_ok [] rfl p64_v3_0 x64_v3_0 rfl (b64_v3_0) (fun x => g64_v3_0 x.1 x.2.1 x.2.2.1 x.2.2.2.1 x.2.2.2.2.1) (by intro x; kernel_rfl)
noncomputable def dd64_v3 : D prog 39 none 0 := (.seq (.reg [oo 4 (.mv (.c .nsl))]) (.seq (.reg [oo 5 (.mv (.c .nsl))]) (.seq (.seq (.reg [om 11 0, oo 12 (.len (.t 11)), oo 13 (.mv (ki 0))]) (.block 0 (.loop L64_v3_0))) (.seq (.reg [om 38 5, om 4 38]) .ret))))
noncomputable def F64_v3 (a0 : List (List (Int × Int))) : Option (List (List Int) × Unit) :=
 bindO (iter (fun x => g64_v3_0 x.1 x.2.1 x.2.2.1 x.2.2.2.1 x.2.2.2.2.1) ((0 : Nat), (a0, ((((a0).length : Nat) : Int), ((0 : Int), ([], ())))))) fun z2 =>
 some ((((z2.2.1).drop (0 : Nat)).take z2.1), ())
def CF64_v3 (a0 : List (List (Int × Int))) : Option (List (List Int) × Unit) :=
 bindC (iterF (fun x => Cg64_v3_0 x.1 x.2.1 x.2.2.1 x.2.2.2.1 x.2.2.2.2.1) 1000000 ((0 : Nat), (a0, ((((a0).length : Nat) : Int), ((0 : Int), ([], ())))))) fun z2 =>
 some ((((z2.2.1).drop (0 : Nat)).take z2.1), ())
theorem CF64_v3_le (a0 : List (List (Int × Int))) : Le (CF64_v3 a0) (F64_v3 a0) := (Le.bd (Le.iter fun x => Cg64_v3_0_le ..) fun z2 => Le.r)
theorem c64_v3_ok : trF prog f64 = some ⟨39, 2, dd64_v3.er, [.t 4], [some (.list (.list (.int .i64)))]⟩ := by kernel_rfl
noncomputable def ct64_v3 : Ct := ⟨64, [.c (.hole (.list (.list (.prod (.int .i64) (.int .i64))))), .c (.fn0 69)], .c (.hole (.list (.list (.int .i64)))), fun x => F64_v3 x.1⟩
theorem ct64_v3_ok : ct64_v3.Ok prog := ct_ok mixed cx64_v3_ok func64 c64_v3_ok (enters_of func64 rfl rfl) dd64_v3 rfl rfl (fun x => by kernel_rfl)

/- 35 -/
noncomputable def cx35 : Cx := mkCxH [ct62, ct48, ct64, ct64_v1, ct67, ct64_v2, ct56, ct64_v3] []
theorem cx35_ok : cx35.Ok prog := mkCxH_ok ⟨ct62_ok, ct48_ok, ct64_ok, ct64_v1_ok, ct67_ok, ct64_v2_ok, ct56_ok, ct64_v3_ok, trivial⟩ trivial
@[reducible] def p35_0 : Pat := Pat.mk [(0, .c (.hole (.list (.list (.prod (.int .i64) (.int .i64)))))), (1, hzI), (4, .c (.sl0 0 (.prod (.int .i64) (.int .i64)))), (5, .c (.ptr 1 0)), (24, hzI), (25, hzI)] [(0, .arr (.prod (.int .i64) (.int .i64)) false), (1, .cells [.hole (.int .i64), .hole (.int .i64)] false)] [.slot 4, .slot 5] []
@[reducible] def x35_0 : Outs := [(.exit 0, Pat.mk [(0, .c (.hole (.list (.list (.prod (.int .i64) (.int .i64)))))), (1, hzI), (4, .c (.sl0 0 (.prod (.int .i64) (.int .i64)))), (5, .c (.ptr 1 0))] [(0, .arr (.prod (.int .i64) (.int .i64)) false), (1, .cells [.hole (.int .i64), .hole (.int .i64)] false)] [.slot 4, .slot 5] [])]
noncomputable def b35_0 : D prog 65 none 0 := (.seq (.reg [oo 26 (.bin .lss (.t 25) (.t 24))]) (.seq (.cond ( .t 26) .skip (.exit 0)) (.seq (.block 1 (.seq (.reg [om 27 25, oo 9 (.alloc [.int .i64 (Int.ofNat 0)]), .op none none (.store 1 (.t 9) (.t 27))]) (.seq (.reg [om 28 0, oo 29 (.mkfn 65 [] [.t 9]), .call (some 30) none (.c (.fn 64 [] [])) [.t 28, .t 29] [some (.list (.list (.prod (.int .i64) (.int .i64)))), none], om 10 30]) (.seq (.reg [om 31 0, oo 32 (.mkfn 66 [] [.t 9]), .call (some 33) none (.c (.fn 64 [] [])) [.t 31, .t 32] [some (.list (.list (.prod (.int .i64) (.int .i64)))), none], om 11 33]) (.draw [[], [], [], [], [1, 2, 3], [], [], [], [1, 2, 3, 4, 5, 6, 7], [1, 2, 3, 4, 5, 6, 7, 8], [1, 2, 3, 4, 5, 6, 7, 8, 9], [0, 1, 2, 3, 4, 5, 6, 7, 8, 9, 10], [0, 1, 2, 3, 4, 5, 6, 7, 8, 9, 10, 11]] [om 34 4, om 35 10, ol 36 9, om 37 1, .call (some 38) none (.c (.fn 67 [] [])) [.t 35, .t 36, .t 37, .c (.int .i64 (Int.negSucc 0))] [some (.list (.list (.int .i64))), some (.int .i64), some (.int .i64), some (.int .i64)], om 39 11, ol 40 9, om 41 1, .call (some 42) none (.c (.fn 67 [] [])) [.t 39, .t 40, .t 41, ki 1] [some (.list (.list (.int .i64))), some (.int .i64), some (.int .i64), some (.int .i64)], oo 43 (.build [.int .i64 (Int.ofNat 0), .int .i64 (Int.ofNat 0)] [(0, 1, .t 38), (1, 1, .t 42)]), oo 44 (.bslice (.prod (.int .i64) (.int .i64)) [.t 43]), oo 45 (.append 2 (.t 34) (.t 44)), om 4 45]))))) (.reg [oo 46 (.bin .add (.t 25) (ki 1)), om 25 46]))))
noncomputable def g35_0 (v0 : List (List (Int × Int))) (v1 : Int) (nv4 : Nat) (v24 : Int) (v25 : Int) (b0 : List (Int × Int)) (c1_0 : Int) (c1_1 : Int) : Option (((List (List (Int × Int))) × Int × Nat × Int × Int × (List (Int × Int)) × Int × Int × Unit) ⊕ (((List (List (Int × Int))) × Int × Nat × (List (Int × Int)) × Int × Int × Unit))) :=
 brO (decide (v25 < v24)) (
 bindO (F64 v0 v25) fun y2 =>
 bindO (F64_v1 v0 v25) fun y3 =>
 bindO (F67 y2.1 v25 v1 (-1 : Int)) fun y4 =>
 bindO (F67 y3.1 v25 v1 (1 : Int)) fun y5 =>
 need (decide ((nv4 + ((((((y4.1, y5.1) :: [])).drop (0 : Nat)).take (1 : Nat))).length) < bigL)) (
 need (rng .i64 (v25 + (1 : Int))) (
 some (.inl (v0, (v1, ((nv4 + ((((((y4.1, y5.1) :: [])).drop (0 : Nat)).take (1 : Nat))).length), (v24, ((v25 + (1 : Int)), (((((b0).drop (0 : Nat)).take nv4) ++ (((((y4.1, y5.1) :: [])).drop (0 : Nat)).take (1 : Nat))), (c1_0, (c1_1, ())))))))))))) (
 some (.inr (v0, (v1, (nv4, (b0, (c1_0, (c1_1, ()))))))))
def Cg35_0 (v0 : List (List (Int × Int))) (v1 : Int) (nv4 : Nat) (v24 : Int) (v25 : Int) (b0 : List (Int × Int)) (c1_0 : Int) (c1_1 : Int) : Option (((List (List (Int × Int))) × Int × Nat × Int × Int × (List (Int × Int)) × Int × Int × Unit) ⊕ (((List (List (Int × Int))) × Int × Nat × (List (Int × Int)) × Int × Int × Unit))) :=
 brC (decide (v25 < v24)) (
 bindC (CF64 v0 v25) fun y2 =>
 bindC (CF64_v1 v0 v25) fun y3 =>
 bindC (CF67 y2.1 v25 v1 (-1 : Int)) fun y4 =>
 bindC (CF67 y3.1 v25 v1 (1 : Int)) fun y5 =>
 needC (decide ((nv4 + ((((((y4.1, y5.1) :: [])).drop (0 : Nat)).take (1 : Nat))).length) < bigL)) (
 needC (rng .i64 (v25 + (1 : Int))) (
 some (.inl (v0, (v1, ((nv4 + ((((((y4.1, y5.1) :: [])).drop (0 : Nat)).take (1 : Nat))).length), (v24, ((v25 + (1 : Int)), (((((b0).drop (0 : Nat)).take nv4) ++ (((((y4.1, y5.1) :: [])).drop (0 : Nat)).take (1 : Nat))), (c1_0, (c1_1, ())))))))))))) (
 some (.inr (v0, (v1, (nv4, (b0, (c1_0, (c1_1, ()))))))))
theorem Cg35_0_le (v0 : List (List (Int × Int))) (v1 : Int) (nv4 : Nat) (v24 : Int) (v25 : Int) (b0 : List (Int × Int)) (c1_0 : Int) (c1_1 : Int) : Le (Cg35_0 v0 v1 nv4 v24 v25 b0 c1_0 c1_1) (g35_0 v0 v1 nv4 v24 v25 b0 c1_0 c1_1) := (Le.br (Le.bd (CF64_le ..) fun y2 => (Le.bd (CF64_v1_le ..) fun y3 => (Le.bd (CF67_le ..) fun y4 => (Le.bd (CF67_le ..) fun y5 => (Le.nd (Le.nd Le.r)))))) Le.r)
noncomputable def L35_0 : LoopS prog 65 none 0 := mkLoop mixed cx35 cx35_ok [] rfl p35_0 x35_0 rfl (b35_0) (fun x => g35_0 x.1 x.2.1 x.2.2.1 x.2.2.2.1 x.2.2.2.2.1 x.2.2.2.2.2.1 x.2.2.2.2.2.2.1 x.2.2.2.2.2.2.2.1) (by intro x; kernel_rfl)
noncomputable def dd35 : D prog 65 none 0 := (.seq (.reg [oo 4 (.mv (.c .nsl)), oo 5 (.alloc [.int .i64 (Int.ofNat 0), .int .i64 (Int.ofNat 0)]), oo 6 (.mv (ki 0))]) (.seq (.reg [oo 7 (.mv (.c (.fn 61 [] [])))]) (.seq (.seq (.reg [om 12 0, om 13 7, .call (some 14) none (.c (.fn 62 [] [])) [.t 12, .t 13, .c (.fn 63 [] [])] [some (.list (.list (.prod (.int .i64) (.int .i64)))), none, none], om 8 14]) (.seq (.reg [om 15 8, oo 16 (.bin .neq (.t 15) (ki 0))]) (.cond ( .t 16) (.seq (.reg [oo 17 (.build [.int .i64 (Int.ofNat 0), .int .i64 (Int.ofNat 0)] []), om 18 8, oo 4 (.mv (.c .nsl)), .op none none (.store 2 (.t 5) (.t 17)), om 6 18]) .ret) .skip))) (.seq (.seq (.reg [om 19 1, .call (some 20) none (.c (.fn 48 [] [])) [ki 0, .t 19, ki 200] [some (.int .i64), some (.int .i64), some (.int .i64)], oo 21 (.not (.t 20))]) (.cond ( .t 21) (.seq (.reg [oo 22 (.build [.int .i64 (Int.ofNat 0), .int .i64 (Int.ofNat 0)] []), oo 4 (.mv (.c .nsl)), .op none none (.store 2 (.t 5) (.t 22)), oo 6 (.mv (ki 2))]) .ret) .skip)) (.seq (.seq (.reg [om 23 0, oo 24 (.len (.t 23)), oo 25 (.mv (ki 0))]) (.block 0 (.loop L35_0))) (.seq (.reg [om 48 0, .call (some 49) none (.c (.fn 64 [] [])) [.t 48, .c (.fn 68 [] [])] [some (.list (.list (.prod (.int .i64) (.int .i64)))), none], om 50 1, .call (some 51) none (.c (.fn 56 [] [])) [.t 49, .t 50] [some (.list (.list (.int .i64))), some (.int .i64)], om 47 51, oo 52 (.ext 0 (.t 47)), oo 53 (.ext 1 (.t 47)), oo 54 (.fld 0 [false] (.t 5)), .op none none (.store 1 (.t 54) (.t 53))]) (.seq (.reg [om 56 0, .call (some 57) none (.c (.fn 64 [] [])) [.t 56, .c (.fn 69 [] [])] [some (.list (.list (.prod (.int .i64) (.int .i64)))), none], om 58 1, .call (some 59) none (.c (.fn 56 [] [])) [.t 57, .t 58] [some (.list (.list (.int .i64))), some (.int .i64)], om 55 59, oo 60 (.ext 0 (.t 55)), oo 61 (.ext 1 (.t 55)), oo 62 (.fld 1 [true] (.t 5)), .op none none (.store 1 (.t 62) (.t 61))]) (.seq (.draw [[], [], [0], [0, 1, 2], [0, 1, 2, 3]] [om 63 4, oo 64 (.load true 2 (.t 5)), om 4 63, .op none none (.store 2 (.t 5) (.t 64)), oo 6 (.mv (ki 0))]) .ret))))))))
noncomputable def F35 (a0 : List (List (Int × Int))) (a1 : Int) : Option ((List (Int × Int)) × (Int × Int) × Int × Unit) :=
 bindO (F62 a0) fun y0 =>
 brO (!(y0.1 == (0 : Int))) (
 some ([], (((0 : Int), (0 : Int)), (y0.1, ())))) (
 bindO (F48 (0 : Int) a1 (200 : Int)) fun y1 =>
 brO (!y1.1) (
 some ([], (((0 : Int), (0 : Int)), ((2 : Int), ())))) (
 bindO (iter (fun x => g35_0 x.1 x.2.1 x.2.2.1 x.2.2.2.1 x.2.2.2.2.1 x.2.2.2.2.2.1 x.2.2.2.2.2.2.1 x.2.2.2.2.2.2.2.1) (a0, (a1, ((0 : Nat), ((((a0).length : Nat) : Int), ((0 : Int), ([], ((0 : Int), ((0 : Int), ()))))))))) fun z6 =>
 bindO (F64_v2 z6.1) fun y7 =>
 bindO (F56 y7.1 z6.2.1) fun y8 =>
 bindO (F64_v3 z6.1) fun y9 =>
 bindO (F56 y9.1 z6.2.1) fun y10 =>
 some ((((z6.2.2.2.1).drop (0 : Nat)).take z6.2.2.1), ((y8.2.1, y10.2.1), ((0 : Int), ())))))
def CF35 (a0 : List (List (Int × Int))) (a1 : Int) : Option ((List (Int × Int)) × (Int × Int) × Int × Unit) :=
 bindC (CF62 a0) fun y0 =>
 brC (!(y0.1 == (0 : Int))) (
 some ([], (((0 : Int), (0 : Int)), (y0.1, ())))) (
 bindC (CF48 (0 : Int) a1 (200 : Int)) fun y1 =>
 brC (!y1.1) (
 some ([], (((0 : Int), (0 : Int)), ((2 : Int), ())))) (
 bindC (iterF (fun x => Cg35_0 x.1 x.2.1 x.2.2.1 x.2.2.2.1 x.2.2.2.2.1 x.2.2.2.2.2.1 x.2.2.2.2.2.2.1 x.2.2.2.2.2.2.2.1) 1000000 (a0, (a1, ((0 : Nat), ((((a0).length : Nat) : Int), ((0 : Int), ([], ((0 : Int), ((0 : Int), ()))))))))) fun z6 =>
 bindC (CF64_v2 z6.1) fun y7 =>
 bindC (CF56 y7.1 z6.2.1) fun y8 =>
 bindC (CF64_v3 z6.1) fun y9 =>
 bindC (CF56 y9.1 z6.2.1) fun y10 =>
 some ((((z6.2.2.2.1).drop (0 : Nat)).take z6.2.2.1), ((y8.2.1, y10.2.1), ((0 : Int), ())))))
theorem CF35_le (a0 : List (List (Int × Int))) (a1 : Int) : Le (CF35 a0 a1) (F35 a0 a1) := (Le.bd (CF62_le ..) fun y0 => (Le.br Le.r (Le.bd (CF48_le ..) fun y1 => (Le.br Le.r (Le.bd (Le.iter fun x => Cg35_0_le ..) fun z6 => (Le.bd (CF64_v2_le ..) fun y7 => (Le.bd (CF56_le ..) fun y8 => (Le.bd (CF64_v3_le ..) fun y9 => (Le.bd (CF56_le ..) fun y10 => Le.r)))))))))
theorem c35_ok : trF prog f35 = some ⟨65, 2, dd35.er, [.t 4, .cell 5 true 2, .t 6], [some (.list (.prod (.int .i64) (.int .i64))), some (.prod (.int .i64) (.int .i64)), some (.int .i64)]⟩ := by kernel_rfl
noncomputable def ct35 : Ct := ⟨35, [.c (.hole (.list (.list (.prod (.int .i64) (.int .i64))))), .c (.hole (.int .i64))], .tup [.hole (.list (.prod (.int .i64) (.int .i64))), .hole (.prod (.int .i64) (.int .i64)), .hole (.int .i64)], fun x => F35 x.1 x.2.1⟩
theorem ct35_ok : ct35.Ok prog := ct_ok mixed cx35_ok func35 c35_ok (enters_of func35 rfl rfl) dd35 rfl rfl (fun x => by kernel_rfl)

/- 38 -/
noncomputable def cx38 : Cx := mkCxH [] []
theorem cx38_ok : cx38.Ok prog := mkCxH_ok trivial trivial
@[reducible] def p38_0 : Pat := Pat.mk [(0, .c (.hole (.list (.prod (.int .i64) (.int .i64))))), (1, .c (.hole (.list (.prod (.int .i64) (.int .i64))))), (5, hzI)] [] [] []
@[reducible] def x38_0 : Outs := [(.ret, Pat.mk [(4, .c (.tf false))] [] [] []), (.exit 0, Pat.mk [] [] [] [])]
noncomputable def b38_0 : D prog 26 none 0 := (.seq (.seq (.reg [om 11 5, om 12 0, oo 13 (.len (.t 12)), oo 14 (.bin .lss (.t 11) (.t 13))]) (.cond ( .t 14) .skip (.exit 0))) (.seq (.block 1 (.seq (.draw [[], [], [0, 1], [0, 1, 2], [], [], [4, 5], [4, 5, 6], [0, 1, 2, 3, 4, 5, 6, 7]] [om 17 0, om 18 5, oo 19 (.idx 2 (.t 17) (.t 18)), oo 20 (.load true 2 (.t 19)), om 21 1, om 22 5, oo 23 (.idx 2 (.t 21) (.t 22)), oo 24 (.load true 2 (.t 23)), oo 25 (.eqs true [.i, .i] (.t 20) (.t 24))]) (.cond ( .t 25) (.seq (.reg [oo 4 (.mv (.c (.tf false)))]) .ret) .skip))) (.reg [om 15 5, oo 16 (.bin .add (.t 15) (ki 1)), om 5 16])))
noncomputable def g38_0 (v0 : List (Int × Int)) (v1 : List (Int × Int)) (v5 : Int) : Option (((List (Int × Int)) × (List (Int × Int)) × Int × Unit) ⊕ ((Unit) ⊕ ((Unit)))) :=
 brO (decide (v5 < (((v0).length : Nat) : Int))) (
 need (inb v5 (((v0).length : Nat) : Int)) (
 need (inb v5 (((v1).length : Nat) : Int)) (
 brO (!((((v0).getD (Int.toNat v5) ((0 : Int), (0 : Int))).1 == ((v1).getD (Int.toNat v5) ((0 : Int), (0 : Int))).1) && ((((v0).getD (Int.toNat v5) ((0 : Int), (0 : Int))).2 == ((v1).getD (Int.toNat v5) ((0 : Int), (0 : Int))).2) && true))) (
 some (.inr <| .inl <| ())) (
 need (rng .i64 (v5 + (1 : Int))) (
 some (.inl (v0, (v1, ((v5 + (1 : Int)), ()))))))))) (
 some (.inr <| .inr <| ()))
def Cg38_0 (v0 : List (Int × Int)) (v1 : List (Int × Int)) (v5 : Int) : Option (((List (Int × Int)) × (List (Int × Int)) × Int × Unit) ⊕ ((Unit) ⊕ ((Unit)))) :=
 brC (decide (v5 < (((v0).length : Nat) : Int))) (
 needC (inb v5 (((v0).length : Nat) : Int)) (
 needC (inb v5 (((v1).length : Nat) : Int)) (
 brC (!((((v0).getD (Int.toNat v5) ((0 : Int), (0 : Int))).1 == ((v1).getD (Int.toNat v5) ((0 : Int), (0 : Int))).1) && ((((v0).getD (Int.toNat v5) ((0 : Int), (0 : Int))).2 == ((v1).getD (Int.toNat v5) ((0 : Int), (0 : Int))).2) && true))) (
 some (.inr <| .inl <| ())) (
 needC (rng .i64 (v5 + (1 : Int))) (
 some (.inl (v0, (v1, ((v5 + (1 : Int)), ()))))))))) (
 some (.inr <| .inr <| ()))
theorem Cg38_0_le (v0 : List (Int × Int)) (v1 : List (Int × Int)) (v5 : Int) : Le (Cg38_0 v0 v1 v5) (g38_0 v0 v1 v5) := (Le.br (Le.nd (Le.nd (Le.br Le.r (Le.nd Le.r)))) Le.r)
noncomputable def L38_0 : LoopS prog 26 none 0 := mkLoop mixed cx38 cx38_ok [] rfl p38_0 x38_0 rfl (b38_0) (fun x => g38_0 x.1 x.2.1 x.2.2.1) (by intro x; kernel_rfl)
noncomputable def dd38 : D prog 26 none 0 := (.seq (.reg [oo 4 (.mv (.c (.tf false)))]) (.seq (.seq (.reg [om 6 0, oo 7 (.len (.t 6)), om 8 1, oo 9 (.len (.t 8)), oo 10 (.bin .neq (.t 7) (.t 9))]) (.cond ( .t 10) (.seq (.reg [oo 4 (.mv (.c (.tf false)))]) .ret) .skip)) (.seq (.seq (.reg [oo 5 (.mv (ki 0))]) (.block 0 (.loop L38_0))) (.seq (.reg [oo 4 (.mv (.c (.tf true)))]) .ret))))
noncomputable def F38 (a0 : List (Int × Int)) (a1 : List (Int × Int)) : Option (Bool × Unit) :=
 brO (!((((a0).length : Nat) : Int) == (((a1).length : Nat) : Int))) (
 some (false, ())) (
 bindO (iter (fun x => g38_0 x.1 x.2.1 x.2.2.1) (a0, (a1, ((0 : Int), ())))) fun z0 =>
 match z0 with
 | .inl z1 =>
 some (false, ())
 | .inr z2 =>
 some (true, ()))
def CF38 (a0 : List (Int × Int)) (a1 : List (Int × Int)) : Option (Bool × Unit) :=
 brC (!((((a0).length : Nat) : Int) == (((a1).length : Nat) : Int))) (
 some (false, ())) (
 bindC (iterF (fun x => Cg38_0 x.1 x.2.1 x.2.2.1) 1000000 (a0, (a1, ((0 : Int), ())))) fun z0 =>
 match z0 with
 | .inl z1 =>
 some (false, ())
 | .inr z2 =>
 some (true, ()))
theorem CF38_le (a0 : List (Int × Int)) (a1 : List (Int × Int)) : Le (CF38 a0 a1) (F38 a0 a1) := (Le.br Le.r (Le.bd (Le.iter fun x => Cg38_0_le ..) fun z0 => (match z0 with | .inl z1 => Le.r | .inr z2 => Le.r)))
theorem c38_ok : trF prog f38 = some ⟨26, 2, dd38.er, [.t 4], [some .bool]⟩ := by kernel_rfl
noncomputable def ct38 : Ct := ⟨38, [.c (.hole (.list (.prod (.int .i64) (.int .i64)))), .c (.hole (.list (.prod (.int .i64) (.int .i64))))], .c (.hole .bool), fun x => F38 x.1 x.2.1⟩
theorem ct38_ok : ct38.Ok prog := ct_ok mixed cx38_ok func38 c38_ok (enters_of func38 rfl rfl) dd38 rfl rfl (fun x => by kernel_rfl)

/- 31 -/
noncomputable def cx31 : Cx := mkCxH [ct27] []
theorem cx31_ok : cx31.Ok prog := mkCxH_ok ⟨ct27_ok, trivial⟩ trivial
noncomputable def dd31 : D prog 29 none 0 := (.seq (.reg [oo 8 (.mv (ki 0))]) (.seq (.reg [om 12 0, om 13 1, om 14 2, .call (some 15) none (.c (.fn 27 [] [])) [.t 12, .t 13, .t 14] [some (.list (.list (.int .i64))), some (.int .i64), some (.int .i64)], om 11 15, oo 16 (.ext 0 (.t 11)), oo 17 (.ext 1 (.t 11)), om 9 16, om 10 17]) (.seq (.block 0 (.seq (.reg [om 19 10, oo 20 (.bin .neq (.t 19) (ki 0)), om 18 20]) (.cond ( .t 18) (.seq (.reg [om 21 10, om 8 21]) .ret) (.seq (.reg [om 23 3, oo 24 (.bin .lss (.t 23) (ki 0)), om 22 24]) (.cond ( .t 22) (.seq (.reg [oo 8 (.mv (ki 2))]) .ret) (.seq (.reg [om 26 9, om 27 3, oo 28 (.bin .gtr (.t 26) (.t 27)), om 25 28]) (.cond ( .t 25) (.seq (.reg [oo 8 (.mv (ki 11))]) .ret) .skip))))))) (.seq (.reg [oo 8 (.mv (ki 0))]) .ret))))
noncomputable def F31 (a0 : List (List Int)) (a1 : Int) (a2 : Int) (a3 : Int) : Option (Int × Unit) :=
 bindO (F27 a0 a1 a2) fun y0 =>
 brO (!(y0.2.1 == (0 : Int))) (
 some (y0.2.1, ())) (
 brO (decide (a3 < (0 : Int))) (
 some ((2 : Int), ())) (
 brO (decide (a3 < y0.1)) (
 some ((11 : Int), ())) (
 some ((0 : Int), ()))))
def CF31 (a0 : List (List Int)) (a1 : Int) (a2 : Int) (a3 : Int) : Option (Int × Unit) :=
 bindC (CF27 a0 a1 a2) fun y0 =>
 brC (!(y0.2.1 == (0 : Int))) (
 some (y0.2.1, ())) (
 brC (decide (a3 < (0 : Int))) (
 some ((2 : Int), ())) (
 brC (decide (a3 < y0.1)) (
 some ((11 : Int), ())) (
 some ((0 : Int), ()))))
theorem CF31_le (a0 : List (List Int)) (a1 : Int) (a2 : Int) (a3 : Int) : Le (CF31 a0 a1 a2 a3) (F31 a0 a1 a2 a3) := (Le.bd (CF27_le ..) fun y0 => (Le.br Le.r (Le.br Le.r (Le.br Le.r Le.r))))
theorem c31_ok : trF prog f31 = some ⟨29, 4, dd31.er, [.t 8], [some (.int .i64)]⟩ := by kernel_rfl
noncomputable def ct31 : Ct := ⟨31, [.c (.hole (.list (.list (.int .i64)))), .c (.hole (.int .i64)), .c (.hole (.int .i64)), .c (.hole (.int .i64))], .c (.hole (.int .i64)), fun x => F31 x.1 x.2.1 x.2.2.1 x.2.2.2.1⟩
theorem ct31_ok : ct31.Ok prog := ct_ok mixed cx31_ok func31 c31_ok (enters_of func31 rfl rfl) dd31 rfl rfl (fun x => by kernel_rfl)

/- 16 -/
noncomputable def cx16 : Cx := mkCxH [ct46, ct22, ct18, ct24, ct29, ct27, ct26, ct33, ct47, ct35, ct38, ct31] []
theorem cx16_ok : cx16.Ok prog := mkCxH_ok ⟨ct46_ok, ct22_ok, ct18_ok, ct24_ok, ct29_ok, ct27_ok, ct26_ok, ct33_ok, ct47_ok, ct35_ok, ct38_ok, ct31_ok, trivial⟩ trivial
noncomputable def dd16 : D prog 158 none 0 := (.seq (.reg [oo 0 (.mv (.c (.tf false)))]) (.seq (.reg [.call (some 19) none (.c (.fn 46 [] [])) [] [], .call (some 20) none (.c (.fn 22 [] [])) [.t 19, ki 4] [some (.list (.list (.int .i64))), some (.int .i64)], om 18 20, oo 21 (.ext 0 (.t 18)), oo 22 (.ext 1 (.t 18)), oo 23 (.ext 2 (.t 18)), om 1 21, om 2 22, om 3 23]) (.seq (.reg [.call (some 25) none (.c (.fn 46 [] [])) [] [], om 26 1, .call (some 27) none (.c (.fn 18 [] [])) [.t 25, .t 26] [some (.list (.list (.int .i64))), some (.list (.int .i64))], om 24 27, oo 28 (.ext 0 (.t 24)), oo 29 (.ext 1 (.t 24)), oo 30 (.ext 2 (.t 24)), om 4 28, om 5 29, om 6 30]) (.seq (.reg [.call (some 32) none (.c (.fn 46 [] [])) [] [], .call (some 33) none (.c (.fn 24 [] [])) [.t 32] [some (.list (.list (.int .i64)))], om 31 33, oo 34 (.ext 0 (.t 31)), oo 35 (.ext 1 (.t 31)), om 7 34, om 8 35]) (.seq (.reg [.call (some 37) none (.c (.fn 46 [] [])) [] [], .call (some 38) none (.c (.fn 29 [] [])) [.t 37, ki 3] [some (.list (.list (.int .i64))), some (.int .i64)], om 36 38, oo 39 (.ext 0 (.t 36)), oo 40 (.ext 1 (.t 36)), oo 9 (.alloc [.int .i64 (Int.ofNat 0), .int .i64 (Int.ofNat 0)]), .op none none (.store 2 (.t 9) (.t 39)), om 10 40]) (.seq (.reg [.call (some 42) none (.c (.fn 46 [] [])) [] [], .call (some 43) none (.c (.fn 27 [] [])) [.t 42, ki 4, ki 7] [some (.list (.list (.int .i64))), some (.int .i64), some (.int .i64)], om 41 43, oo 44 (.ext 0 (.t 41)), oo 45 (.ext 1 (.t 41)), om 11 44, om 12 45]) (.seq (.seq (.reg [om 46 3, oo 47 (.bin .neq (.t 46) (ki 0)), om 48 47, og 49 48 false (.mv (.t 6)), og 50 48 false (.bin .neq (.t 49) (ki 0)), oo 51 (.pick (.t 48) (.c (.tf true)) (.t 50)), om 52 51, og 53 52 false (.mv (.t 8)), og 54 52 false (.bin .neq (.t 53) (ki 0)), oo 55 (.pick (.t 52) (.c (.tf true)) (.t 54)), om 56 55, og 57 56 false (.mv (.t 10)), og 58 56 false (.bin .neq (.t 57) (ki 0)), oo 59 (.pick (.t 56) (.c (.tf true)) (.t 58)), om 60 59, og 61 60 false (.mv (.t 12)), og 62 60 false (.bin .neq (.t 61) (ki 0)), oo 63 (.pick (.t 60) (.c (.tf true)) (.t 62)), om 64 63, og 65 64 false (.mv (.t 2)), og 66 64 false (.bin .neq (.t 65) (ki 29)), oo 67 (.pick (.t 64) (.c (.tf true)) (.t 66)), om 68 67, og 69 68 false (.mv (.t 5)), og 70 68 false (.bin .neq (.t 69) (ki 29)), oo 71 (.pick (.t 68) (.c (.tf true)) (.t 70)), om 72 71, og 73 72 false (.mv (.t 4)), og 74 72 false (.bin .gtr (.t 73) (ki 4)), oo 75 (.pick (.t 72) (.c (.tf true)) (.t 74)), om 76 75, og 77 76 false (.mv (.t 7)), og 78 76 false (.bslice (.int .i64) [ki 0, ki 9, ki 17, ki 24, ki 29, ki 34, ki 39, ki 42, ki 44]), .call (some 79) (some (76, false)) (.c (.fn 26 [] [])) [.t 77, .t 78] [some (.list (.int .i64)), some (.list (.int .i64))], og 80 76 false (.not (.t 79)), oo 81 (.pick (.t 76) (.c (.tf true)) (.t 80)), om 82 81, og 83 82 false (.load true 2 (.t 9)), og 84 82 false (.build [.int .i64 (Int.ofNat 0), .int .i64 (Int.ofNat 0)] [(0, 1, ki 5), (1, 1, ki 7)]), og 85 82 false (.eqs true [.i, .i] (.t 83) (.t 84)), oo 86 (.pick (.t 82) (.c (.tf true)) (.t 85)), om 87 86, og 88 87 false (.mv (.t 11)), og 89 87 false (.bin .neq (.t 88) (ki 31)), oo 90 (.pick (.t 87) (.c (.tf true)) (.t 89))]) (.cond ( .t 90) (.seq (.reg [oo 0 (.mv (.c (.tf false)))]) .ret) .skip)) (.seq (.reg [.call (some 92) none (.c (.fn 46 [] [])) [] [], oo 93 (.bslice (.int .i64) [ki 3, ki 0, ki 1]), .call (some 94) none (.c (.fn 33 [] [])) [.t 92, ki 4, .t 93] [some (.list (.list (.int .i64))), some (.int .i64), some (.list (.int .i64))], om 91 94, oo 95 (.ext 0 (.t 91)), oo 96 (.ext 1 (.t 91)), oo 97 (.ext 2 (.t 91)), oo 98 (.ext 3 (.t 91)), om 13 95, om 14 96, om 15 97, om 3 98]) (.seq (.reg [.call (some 100) none (.c (.fn 46 [] [])) [] [], oo 101 (.bslice (.int .i64) [ki 2, ki 1, ki 1]), .call (some 102) none (.c (.fn 33 [] [])) [.t 100, ki 4, .t 101] [some (.list (.list (.int .i64))), some (.int .i64), some (.list (.int .i64))], om 99 102, oo 103 (.ext 0 (.t 99)), oo 104 (.ext 1 (.t 99)), oo 105 (.ext 2 (.t 99)), oo 106 (.ext 3 (.t 99)), om 6 106]) (.seq (.reg [.call (some 108) none (.c (.fn 47 [] [])) [] [], .call (some 109) none (.c (.fn 35 [] [])) [.t 108, ki 2] [some (.list (.list (.prod (.int .i64) (.int .i64)))), some (.int .i64)], om 107 109, oo 110 (.ext 0 (.t 107)), oo 111 (.ext 1 (.t 107)), oo 112 (.ext 2 (.t 107)), oo 17 (.alloc [.int .i64 (Int.ofNat 0), .int .i64 (Int.ofNat 0)]), om 16 110, .op none none (.store 2 (.t 17) (.t 111)), om 8 112]) (.seq (.reg [om 113 3, oo 114 (.bin .eql (.t 113) (ki 0)), om 115 114, og 116 115 true (.mv (.t 6)), og 117 115 true (.bin .eql (.t 116) (ki 5)), oo 118 (.pick (.t 115) (.t 117) (.c (.tf false))), om 119 118, og 120 119 true (.mv (.t 8)), og 121 119 true (.bin .eql (.t 120) (ki 0)), oo 122 (.pick (.t 119) (.t 121) (.c (.tf false))), om 123 122, og 124 123 true (.mv (.t 13)), og 125 123 true (.bin .eql (.t 124) (ki 0)), oo 126 (.pick (.t 123) (.t 125) (.c (.tf false))), om 127 126, og 128 127 true (.mv (.t 14)), og 129 127 true (.bin .eql (.t 128) (ki 1)), oo 130 (.pick (.t 127) (.t 129) (.c (.tf false))), om 131 130, og 132 131 true (.mv (.t 15)), og 133 131 true (.bin .eql (.t 132) (ki 6)), oo 134 (.pick (.t 131) (.t 133) (.c (.tf false))), om 135 134, og 136 135 true (.mv (.t 16)), og 137 135 true (.build [.int .i64 (Int.ofNat 0), .int .i64 (Int.ofNat 0)] [(0, 1, ki 1), (1, 1, ki 2)]), og 138 135 true (.build [.int .i64 (Int.ofNat 0), .int .i64 (Int.ofNat 0)] [(0, 1, ki 0), (1, 1, ki 1)]), og 139 135 true (.build [.int .i64 (Int.ofNat 0), .int .i64 (Int.ofNat 0)] [(0, 1, ki 0), (1, 1, ki 1)]), og 140 135 true (.bslice (.prod (.int .i64) (.int .i64)) [.t 137, .t 138, .t 139]), .call (some 141) (some (135, true)) (.c (.fn 38 [] [])) [.t 136, .t 140] [some (.list (.prod (.int .i64) (.int .i64))), some (.list (.prod (.int .i64) (.int .i64)))], oo 142 (.pick (.t 135) (.t 141) (.c (.tf false))), om 143 142, og 144 143 true (.load true 2 (.t 17)), og 145 143 true (.build [.int .i64 (Int.ofNat 0), .int .i64 (Int.ofNat 0)] [(0, 1, ki 14), (1, 1, ki 17)]), og 146 143 true (.eqs false [.i, .i] (.t 144) (.t 145)), oo 147 (.pick (.t 143) (.t 146) (.c (.tf false))), om 148 147, .call (some 149) (some (148, true)) (.c (.fn 46 [] [])) [] [], .call (some 150) (some (148, true)) (.c (.fn 31 [] [])) [.t 149, ki 4, ki 5, ki 29] [some (.list (.list (.int .i64))), some (.int .i64), some (.int .i64), some (.int .i64)], og 151 148 true (.bin .eql (.t 150) (ki 0)), oo 152 (.pick (.t 148) (.t 151) (.c (.tf false))), om 153 152, .call (some 154) (some (153, true)) (.c (.fn 46 [] [])) [] [], .call (some 155) (some (153, true)) (.c (.fn 31 [] [])) [.t 154, ki 4, ki 5, ki 28] [some (.list (.list (.int .i64))), some (.int .i64), some (.int .i64), some (.int .i64)], og 156 153 true (.bin .eql (.t 155) (ki 11)), oo 157 (.pick (.t 153) (.t 156) (.c (.tf false))), om 0 157]) .ret)))))))))))
noncomputable def F16 : Option (Bool × Unit) :=
 bindO (F46) fun y0 =>
 bindO (F22 y0.1 (4 : Int)) fun y1 =>
 bindO (F46) fun y2 =>
 bindO (F18 y2.1 y1.1) fun y3 =>
 bindO (F46) fun y4 =>
 bindO (F24 y4.1) fun y5 =>
 bindO (F46) fun y6 =>
 bindO (F29 y6.1 (3 : Int)) fun y7 =>
 bindO (F46) fun y8 =>
 bindO (F27 y8.1 (4 : Int) (7 : Int)) fun y9 =>
 brO (!(y1.2.2.1 == (0 : Int))) (
 some (false, ())) (
 brO (!(y3.2.2.1 == (0 : Int))) (
 some (false, ())) (
 brO (!(y5.2.1 == (0 : Int))) (
 some (false, ())) (
 brO (!(y7.2.1 == (0 : Int))) (
 some (false, ())) (
 brO (!(y9.2.1 == (0 : Int))) (
 some (false, ())) (
 brO (!(y1.2.1 == (29 : Int))) (
 some (false, ())) (
 brO (!(y3.2.1 == (29 : Int))) (
 some (false, ())) (
 brO (decide ((4 : Int) < y3.1)) (
 some (false, ())) (
 bindO (F26 y5.1 (((((0 : Int) :: ((9 : Int) :: ((17 : Int) :: ((24 : Int) :: ((29 : Int) :: ((34 : Int) :: ((39 : Int) :: ((42 : Int) :: ((44 : Int) :: [])))))))))).drop (0 : Nat)).take (9 : Nat))) fun y10 =>
 brO (!y10.1) (
 some (false, ())) (
 brO (!((y7.1.1 == (5 : Int)) && ((y7.1.2 == (7 : Int)) && true))) (
 some (false, ())) (
 brO (!(y9.1 == (31 : Int))) (
 some (false, ())) (
 bindO (F46) fun y11 =>
 bindO (F33 y11.1 (4 : Int) (((((3 : Int) :: ((0 : Int) :: ((1 : Int) :: [])))).drop (0 : Nat)).take (3 : Nat))) fun y12 =>
 bindO (F46) fun y13 =>
 bindO (F33 y13.1 (4 : Int) (((((2 : Int) :: ((1 : Int) :: ((1 : Int) :: [])))).drop (0 : Nat)).take (3 : Nat))) fun y14 =>
 bindO (F47) fun y15 =>
 bindO (F35 y15.1 (2 : Int)) fun y16 =>
 brO (y12.2.2.2.1 == (0 : Int)) (
 brO (y14.2.2.2.1 == (5 : Int)) (
 brO (y16.2.2.1 == (0 : Int)) (
 brO (y12.1 == (0 : Int)) (
 brO (y12.2.1 == (1 : Int)) (
 brO (y12.2.2.1 == (6 : Int)) (
 bindO (F38 y16.1 ((((((1 : Int), (2 : Int)) :: (((0 : Int), (1 : Int)) :: (((0 : Int), (1 : Int)) :: [])))).drop (0 : Nat)).take (3 : Nat))) fun y17 =>
 brO y17.1 (
 brO ((y16.2.1.1 == (14 : Int)) && ((y16.2.1.2 == (17 : Int)) && true)) (
 bindO (F46) fun y18 =>
 bindO (F31 y18.1 (4 : Int) (5 : Int) (29 : Int)) fun y19 =>
 brO (y19.1 == (0 : Int)) (
 bindO (F46) fun y20 =>
 bindO (F31 y20.1 (4 : Int) (5 : Int) (28 : Int)) fun y21 =>
 some ((y21.1 == (11 : Int)), ())) (
 some (false, ()))) (
 some (false, ()))) (
 some (false, ()))) (
 some (false, ()))) (
 some (false, ()))) (
 some (false, ()))) (
 some (false, ()))) (
 some (false, ()))) (
 some (false, ())))))))))))))
def CF16 : Option (Bool × Unit) :=
 bindC (CF46) fun y0 =>
 bindC (CF22 y0.1 (4 : Int)) fun y1 =>
 bindC (CF46) fun y2 =>
 bindC (CF18 y2.1 y1.1) fun y3 =>
 bindC (CF46) fun y4 =>
 bindC (CF24 y4.1) fun y5 =>
 bindC (CF46) fun y6 =>
 bindC (CF29 y6.1 (3 : Int)) fun y7 =>
 bindC (CF46) fun y8 =>
 bindC (CF27 y8.1 (4 : Int) (7 : Int)) fun y9 =>
 brC (!(y1.2.2.1 == (0 : Int))) (
 some (false, ())) (
 brC (!(y3.2.2.1 == (0 : Int))) (
 some (false, ())) (
 brC (!(y5.2.1 == (0 : Int))) (
 some (false, ())) (
 brC (!(y7.2.1 == (0 : Int))) (
 some (false, ())) (
 brC (!(y9.2.1 == (0 : Int))) (
 some (false, ())) (
 brC (!(y1.2.1 == (29 : Int))) (
 some (false, ())) (
 brC (!(y3.2.1 == (29 : Int))) (
 some (false, ())) (
 brC (decide ((4 : Int) < y3.1)) (
 some (false, ())) (
 bindC (CF26 y5.1 (((((0 : Int) :: ((9 : Int) :: ((17 : Int) :: ((24 : Int) :: ((29 : Int) :: ((34 : Int) :: ((39 : Int) :: ((42 : Int) :: ((44 : Int) :: [])))))))))).drop (0 : Nat)).take (9 : Nat))) fun y10 =>
 brC (!y10.1) (
 some (false, ())) (
 brC (!((y7.1.1 == (5 : Int)) && ((y7.1.2 == (7 : Int)) && true))) (
 some (false, ())) (
 brC (!(y9.1 == (31 : Int))) (
 some (false, ())) (
 bindC (CF46) fun y11 =>
 bindC (CF33 y11.1 (4 : Int) (((((3 : Int) :: ((0 : Int) :: ((1 : Int) :: [])))).drop (0 : Nat)).take (3 : Nat))) fun y12 =>
 bindC (CF46) fun y13 =>
 bindC (CF33 y13.1 (4 : Int) (((((2 : Int) :: ((1 : Int) :: ((1 : Int) :: [])))).drop (0 : Nat)).take (3 : Nat))) fun y14 =>
 bindC (CF47) fun y15 =>
 bindC (CF35 y15.1 (2 : Int)) fun y16 =>
 brC (y12.2.2.2.1 == (0 : Int)) (
 brC (y14.2.2.2.1 == (5 : Int)) (
 brC (y16.2.2.1 == (0 : Int)) (
 brC (y12.1 == (0 : Int)) (
 brC (y12.2.1 == (1 : Int)) (
 brC (y12.2.2.1 == (6 : Int)) (
 bindC (CF38 y16.1 ((((((1 : Int), (2 : Int)) :: (((0 : Int), (1 : Int)) :: (((0 : Int), (1 : Int)) :: [])))).drop (0 : Nat)).take (3 : Nat))) fun y17 =>
 brC y17.1 (
 brC ((y16.2.1.1 == (14 : Int)) && ((y16.2.1.2 == (17 : Int)) && true)) (
 bindC (CF46) fun y18 =>
 bindC (CF31 y18.1 (4 : Int) (5 : Int) (29 : Int)) fun y19 =>
 brC (y19.1 == (0 : Int)) (
 bindC (CF46) fun y20 =>
 bindC (CF31 y20.1 (4 : Int) (5 : Int) (28 : Int)) fun y21 =>
 some ((y21.1 == (11 : Int)), ())) (
 some (false, ()))) (
 some (false, ()))) (
 some (false, ()))) (
 some (false, ()))) (
 some (false, ()))) (
 some (false, ()))) (
 some (false, ()))) (
 some (false, ()))) (
 some (false, ())))))))))))))
theorem CF16_le : Le (CF16) (F16) := (Le.bd (CF46_le ..) fun y0 => (Le.bd (CF22_le ..) fun y1 => (Le.bd (CF46_le ..) fun y2 => (Le.bd (CF18_le ..) fun y3 => (Le.bd (CF46_le ..) fun y4 => (Le.bd (CF24_le ..) fun y5 => (Le.bd (CF46_le ..) fun y6 => (Le.bd (CF29_le ..) fun y7 => (Le.bd (CF46_le ..) fun y8 => (Le.bd (CF27_le ..) fun y9 => (Le.br Le.r (Le.br Le.r (Le.br Le.r (Le.br Le.r (Le.br Le.r (Le.br Le.r (Le.br Le.r (Le.br Le.r (Le.bd (CF26_le ..) fun y10 => (Le.br Le.r (Le.br Le.r (Le.br Le.r (Le.bd (CF46_le ..) fun y11 => (Le.bd (CF33_le ..) fun y12 => (Le.bd (CF46_le ..) fun y13 => (Le.bd (CF33_le ..) fun y14 => (Le.bd (CF47_le ..) fun y15 => (Le.bd (CF35_le ..) fun y16 => (Le.br (Le.br (Le.br (Le.br (Le.br (Le.br (Le.bd (CF38_le ..) fun y17 => (Le.br (Le.br (Le.bd (CF46_le ..) fun y18 => (Le.bd (CF31_le ..) fun y19 => (Le.br (Le.bd (CF46_le ..) fun y20 => (Le.bd (CF31_le ..) fun y21 => Le.r)) Le.r))) Le.r) Le.r)) Le.r) Le.r) Le.r) Le.r) Le.r) Le.r)))))))))))))))))))))))))))))
theorem c16_ok : trF prog f16 = some ⟨158, 0, dd16.er, [.t 0], [some .bool]⟩ := by kernel_rfl
noncomputable def ct16 : Ct := ⟨16, [], .c (.hole .bool), fun x => F16⟩
theorem ct16_ok : ct16.Ok prog := ct_ok mixed cx16_ok func16 c16_ok (enters_of func16 rfl rfl) dd16 rfl rfl (fun x => by kernel_rfl)

/- 15 -/
noncomputable def cx15 : Cx := mkCxH [] []
theorem cx15_ok : cx15.Ok prog := mkCxH_ok trivial trivial
@[reducible] def p15_0 : Pat := Pat.mk [(0, hzM), (3, hzI)] [] [] []
@[reducible] def x15_0 : Outs := [(.ret, Pat.mk [(2, .c (.tf true))] [] [] []), (.exit 0, Pat.mk [] [] [] [])]
noncomputable def b15_0 : D prog 19 none 0 := (.seq (.seq (.reg [om 7 3, om 8 0, oo 9 (.len (.t 8)), oo 10 (.bin .lss (.t 7) (.t 9))]) (.cond ( .t 10) .skip (.exit 0))) (.seq (.block 1 (.seq (.reg [om 13 0, om 14 3, oo 15 (.idx 1 (.t 13) (.t 14)), ol 16 15, oo 17 (.len (.t 16)), oo 18 (.bin .gtr (.t 17) (ki 30))]) (.cond ( .t 18) (.seq (.reg [oo 2 (.mv (.c (.tf true)))]) .ret) .skip))) (.reg [om 11 3, oo 12 (.bin .add (.t 11) (ki 1)), om 3 12])))
noncomputable def g15_0 (v0 : List (List Int)) (v3 : Int) : Option ((List (List Int) × Int × Unit) ⊕ ((Unit) ⊕ ((Unit)))) :=
 brO (decide (v3 < (((v0).length : Nat) : Int))) (
 need (inb v3 (((v0).length : Nat) : Int)) (
 brO (decide ((30 : Int) < (((((v0).getD (Int.toNat v3) [])).length : Nat) : Int))) (
 some (.inr <| .inl <| ())) (
 need (rng .i64 (v3 + (1 : Int))) (
 some (.inl (v0, ((v3 + (1 : Int)), ()))))))) (
 some (.inr <| .inr <| ()))
noncomputable def L15_0 : LoopS prog 19 none 0 := mkLoop mixed cx15 cx15_ok [] rfl p15_0 x15_0 rfl (b15_0) (fun x => g15_0 x.1 x.2.1) (by intro x; kernel_rfl)
noncomputable def dd15 : D prog 19 none 0 := (.seq (.reg [oo 2 (.mv (.c (.tf false)))]) (.seq (.seq (.reg [om 4 0, oo 5 (.len (.t 4)), oo 6 (.bin .gtr (.t 5) (ki 30))]) (.cond ( .t 6) (.seq (.reg [oo 2 (.mv (.c (.tf true)))]) .ret) .skip)) (.seq (.seq (.reg [oo 3 (.mv (ki 0))]) (.block 0 (.loop L15_0))) (.seq (.reg [oo 2 (.mv (.c (.tf false)))]) .ret))))
noncomputable def F15 (a0 : List (List Int)) : Option (Bool × Unit) :=
 brO (decide ((30 : Int) < (((a0).length : Nat) : Int))) (
 some (true, ())) (
 bindO (iter (fun x => g15_0 x.1 x.2.1) (a0, ((0 : Int), ()))) fun z0 =>
 match z0 with
 | .inl z1 =>
 some (true, ())
 | .inr z2 =>
 some (false, ()))
theorem c15_ok : trF prog f15 = some ⟨19, 1, dd15.er, [.t 2], [some .bool]⟩ := by kernel_rfl
noncomputable def ct15 : Ct := ⟨15, [.c (.hole (.list (.list (.int .i64))))], .c (.hole .bool), fun x => F15 x.1⟩
theorem ct15_ok : ct15.Ok prog := ct_ok mixed cx15_ok func15 c15_ok (enters_of func15 rfl rfl) dd15 rfl rfl (fun x => by kernel_rfl)

/- 17 -/
noncomputable def cx17 : Cx := mkCxH [] []
theorem cx17_ok : cx17.Ok prog := mkCxH_ok trivial trivial
@[reducible] def p17_0 : Pat := Pat.mk [(0, hzM), (3, .c (.sl0 0 (.list (.int .i64)))), (4, hzI)] [(0, .arr (.list (.int .i64)) false)] [.slot 3] []
@[reducible] def x17_0 : Outs := [(.exit 0, Pat.mk [(3, .c (.sl0 0 (.list (.int .i64))))] [(0, .arr (.list (.int .i64)) false)] [.slot 3] [])]
noncomputable def b17_0 : D prog 19 none 0 := (.seq (.seq (.reg [om 5 4, om 6 0, oo 7 (.len (.t 6)), oo 8 (.bin .lss (.t 5) (.t 7))]) (.cond ( .t 8) .skip (.exit 0))) (.seq (.block 1 (.reg [om 11 3, om 12 0, om 13 4, oo 14 (.idx 1 (.t 12) (.t 13)), ol 15 14, oo 16 (.bslice (.list (.int .i64)) [.t 15]), oo 17 (.append 1 (.t 11) (.t 16)), om 3 17])) (.reg [om 9 4, oo 10 (.bin .add (.t 9) (ki 1)), om 4 10])))
noncomputable def g17_0 (v0 : List (List Int)) (nv3 : Nat) (v4 : Int) (b0 : List (List Int)) : Option ((List (List Int) × Nat × Int × List (List Int) × Unit) ⊕ ((Nat × List (List Int) × Unit))) :=
 brO (decide (v4 < (((v0).length : Nat) : Int))) (
 need (inb v4 (((v0).length : Nat) : Int)) (
 need (decide ((nv3 + (((((((v0).getD (Int.toNat v4) []) :: [])).drop (0 : Nat)).take (1 : Nat))).length) < bigL)) (
 need (rng .i64 (v4 + (1 : Int))) (
 some (.inl (v0, ((nv3 + (((((((v0).getD (Int.toNat v4) []) :: [])).drop (0 : Nat)).take (1 : Nat))).length), ((v4 + (1 : Int)), (((((b0).drop (0 : Nat)).take nv3) ++ ((((((v0).getD (Int.toNat v4) []) :: [])).drop (0 : Nat)).take (1 : Nat))), ()))))))))) (
 some (.inr (nv3, (b0, ()))))
noncomputable def L17_0 : LoopS prog 19 none 0 := mkLoop mixed cx17 cx17_ok [] rfl p17_0 x17_0 rfl (b17_0) (fun x => g17_0 x.1 x.2.1 x.2.2.1 x.2.2.2.1) (by intro x; kernel_rfl)
noncomputable def dd17 : D prog 19 none 0 := (.seq (.reg [oo 2 (.mv (.c .nsl))]) (.seq (.reg [oo 3 (.mv (.c .nsl))]) (.seq (.seq (.reg [oo 4 (.mv (ki 0))]) (.block 0 (.loop L17_0))) (.seq (.reg [om 18 3, om 2 18]) .ret))))
noncomputable def F17 (a0 : List (List Int)) : Option (List (List Int) × Unit) :=
 bindO (iter (fun x => g17_0 x.1 x.2.1 x.2.2.1 x.2.2.2.1) (a0, ((0 : Nat), ((0 : Int), ([], ()))))) fun z0 =>
 some ((((z0.2.1).drop (0 : Nat)).take z0.1), ())
theorem c17_ok : trF prog f17 = some ⟨19, 1, dd17.er, [.t 2], [some (.list (.list (.int .i64)))]⟩ := by kernel_rfl
noncomputable def ct17 : Ct := ⟨17, [.c (.hole (.list (.list (.int .i64))))], .c (.hole (.list (.list (.int .i64)))), fun x => F17 x.1⟩
theorem ct17_ok : ct17.Ok prog := ct_ok mixed cx17_ok func17 c17_ok (enters_of func17 rfl rfl) dd17 rfl rfl (fun x => by kernel_rfl)

/- 73 -/
noncomputable def cx73 : Cx := mkCxH [] []
theorem cx73_ok : cx73.Ok prog := mkCxH_ok trivial trivial
noncomputable def dd73 : D prog 15 none 0 := (.seq (.reg [oo 6 (.mv (.c (.tf false)))]) (.seq (.reg [om 7 0, om 8 1, oo 9 (.bin .geq (.t 7) (.t 8)), om 10 9, og 11 10 true (.mv (.t 0)), og 12 10 true (.mv (.t 2)), og 13 10 true (.bin .leq (.t 11) (.t 12)), oo 14 (.pick (.t 10) (.t 13) (.c (.tf false))), om 6 14]) .ret))
noncomputable def F73 (a0 : Int) (a1 : Int) (a2 : Int) : Option (Bool × Unit) :=
 brO (decide (a1 ≤ a0)) (
 some ((decide (a0 ≤ a2)), ())) (
 some (false, ()))
theorem c73_ok : trF prog f73 = some ⟨15, 3, dd73.er, [.t 6], [some .bool]⟩ := by kernel_rfl
noncomputable def ct73 : Ct := ⟨73, [.c (.hole (.int .i64)), .c (.hole (.int .i64)), .c (.hole (.int .i64))], .c (.hole .bool), fun x => F73 x.1 x.2.1 x.2.2.1⟩
theorem ct73_ok : ct73.Ok prog := ct_ok mixed cx73_ok func73 c73_ok (enters_of func73 rfl rfl) dd73 rfl rfl (fun x => by kernel_rfl)

/- 50 -/
noncomputable def cx50 : Cx := mkCxH [ct73] []
theorem cx50_ok : cx50.Ok prog := mkCxH_ok ⟨ct73_ok, trivial⟩ trivial
noncomputable def dd50 : D prog 11 none 0 := (.seq (.reg [oo 6 (.mv (.c (.tf false)))]) (.seq (.reg [om 7 0, om 8 1, om 9 2, .call (some 10) none (.c (.fn 73 [] [])) [.t 7, .t 8, .t 9] [some (.int .i64), some (.int .i64), some (.int .i64)], om 6 10]) .ret))
noncomputable def F50 (a0 : Int) (a1 : Int) (a2 : Int) : Option (Bool × Unit) :=
 bindO (F73 a0 a1 a2) fun y0 =>
 some (y0.1, ())
theorem c50_ok : trF prog f50 = some ⟨11, 3, dd50.er, [.t 6], [some .bool]⟩ := by kernel_rfl
noncomputable def ct50 : Ct := ⟨50, [.c (.hole (.int .i64)), .c (.hole (.int .i64)), .c (.hole (.int .i64))], .c (.hole .bool), fun x => F50 x.1 x.2.1 x.2.2.1⟩
theorem ct50_ok : ct50.Ok prog := ct_ok mixed cx50_ok func50 c50_ok (enters_of func50 rfl rfl) dd50 rfl rfl (fun x => by kernel_rfl)

/- 21 -/
noncomputable def cx21 : Cx := mkCxH [ct50] []
theorem cx21_ok : cx21.Ok prog := mkCxH_ok ⟨ct50_ok, trivial⟩ trivial
@[reducible] def p21_1 : Pat := Pat.mk [(0, hzM), (3, hzI), (4, hzI)] [] [] []
@[reducible] def x21_1 : Outs := [(.ret, Pat.mk [(2, hzI)] [] [] []), (.exit 2, Pat.mk [(0, hzM), (3, hzI)] [] [] [])]
noncomputable def b21_1 : D prog 58 none 0 := (.seq (.seq (.reg [om 20 4, om 21 0, om 22 3, oo 23 (.idx 1 (.t 21) (.t 22)), ol 24 23, oo 25 (.len (.t 24)), oo 26 (.bin .lss (.t 20) (.t 25))]) (.cond ( .t 26) .skip (.exit 2))) (.seq (.block 3 (.seq (.seq (.reg [om 29 0, om 30 3, oo 31 (.idx 1 (.t 29) (.t 30)), ol 32 31, om 33 4, oo 34 (.idx 1 (.t 32) (.t 33)), ol 35 34, .call (some 36) none (.c (.fn 50 [] [])) [.t 35, ki 0, ki 1000000] [some (.int .i64), some (.int .i64), some (.int .i64)], oo 37 (.not (.t 36))]) (.cond ( .t 37) (.seq (.reg [oo 2 (.mv (ki 2))]) .ret) .skip)) (.seq (.draw [[], [0], [0, 1], [0, 1, 2], [0, 1, 2], [0, 1, 2, 3, 4], [0, 1, 2, 3, 4, 5], [0, 1, 2], [0, 1, 2, 3, 4, 5, 6, 7], [0, 1, 2, 3, 4, 5, 6, 7, 8], [0, 1, 2], [0, 1, 2], [0, 1, 2, 10, 11], [0, 1, 2, 10, 11, 12], [0, 1, 2], [0, 1, 2, 14], [0, 1, 2, 10, 11, 12, 13, 14, 15], [0, 1, 2, 10, 11, 12, 13, 14, 15, 16], [0, 1, 2, 3, 4, 5, 6, 7, 8, 9, 10, 11, 12, 13, 14, 15, 16, 17], [0, 1, 2, 3, 4, 5, 6, 7, 8, 9, 10, 11, 12, 13, 14, 15, 16, 17, 18]] [om 38 4, oo 39 (.bin .gtr (.t 38) (ki 0)), om 40 39, og 41 40 true (.mv (.t 0)), og 42 40 true (.mv (.t 3)), og 43 40 true (.idx 1 (.t 41) (.t 42)), og 44 40 true (.load false 1 (.t 43)), og 45 40 true (.mv (.t 4)), og 46 40 true (.idx 1 (.t 44) (.t 45)), og 47 40 true (.load false 1 (.t 46)), og 48 40 true (.mv (.t 0)), og 49 40 true (.mv (.t 3)), og 50 40 true (.idx 1 (.t 48) (.t 49)), og 51 40 true (.load false 1 (.t 50)), og 52 40 true (.mv (.t 4)), og 53 40 true (.bin .sub (.t 52) (ki 1)), og 54 40 true (.idx 1 (.t 51) (.t 53)), og 55 40 true (.load false 1 (.t 54)), og 56 40 true (.bin .gtr (.t 47) (.t 55)), oo 57 (.pick (.t 40) (.t 56) (.c (.tf false)))]) (.cond ( .t 57) (.seq (.reg [oo 2 (.mv (ki 7))]) .ret) .skip)))) (.reg [om 27 4, oo 28 (.bin .add (.t 27) (ki 1)), om 4 28])))
noncomputable def g21_1 (v0 : List (List Int)) (v3 : Int) (v4 : Int) : Option ((List (List Int) × Int × Int × Unit) ⊕ ((Int × Unit) ⊕ ((List (List Int) × Int × Unit)))) :=
 need (inb v3 (((v0).length : Nat) : Int)) (
 brO (decide (v4 < (((((v0).getD (Int.toNat v3) [])).length : Nat) : Int))) (
 need (inb v3 (((v0).length : Nat) : Int)) (
 need (inb v4 (((((v0).getD (Int.toNat v3) [])).length : Nat) : Int)) (
 bindO (F50 ((((v0).getD (Int.toNat v3) [])).getD (Int.toNat v4) (0 : Int)) (0 : Int) (1000000 : Int)) fun y0 =>
 brO (!y0.1) (
 some (.inr <| .inl <| ((2 : Int), ()))) (
 brO (decide ((0 : Int) < v4)) (
 need (inb v3 (((v0).length : Nat) : Int)) (
 need (inb v4 (((((v0).getD (Int.toNat v3) [])).length : Nat) : Int)) (
 need (inb v3 (((v0).length : Nat) : Int)) (
 need (rng .i64 (v4 - (1 : Int))) (
 need (inb (v4 - (1 : Int)) (((((v0).getD (Int.toNat v3) [])).length : Nat) : Int)) (
 brO (decide (((((v0).getD (Int.toNat v3) [])).getD (Int.toNat (v4 - (1 : Int))) (0 : Int)) < ((((v0).getD (Int.toNat v3) [])).getD (Int.toNat v4) (0 : Int)))) (
 some (.inr <| .inl <| ((7 : Int), ()))) (
 need (rng .i64 (v4 + (1 : Int))) (
 some (.inl (v0, (v3, ((v4 + (1 : Int)), ())))))))))))) (
 need (rng .i64 (v4 + (1 : Int))) (
 some (.inl (v0, (v3, ((v4 + (1 : Int)), ())))))))))) (
 some (.inr <| .inr <| (v0, (v3, ())))))
noncomputable def L21_1 : LoopS prog 58 none 0 := mkLoop mixed cx21 cx21_ok [] rfl p21_1 x21_1 rfl (b21_1) (fun x => g21_1 x.1 x.2.1 x.2.2.1) (by intro x; kernel_rfl)
@[reducible] def p21_0 : Pat := Pat.mk [(0, hzM), (3, hzI)] [] [] []
@[reducible] def x21_0 : Outs := [(.ret, Pat.mk [(2, hzI)] [] [] []), (.exit 0, Pat.mk [] [] [] [])]
noncomputable def b21_0 : D prog 58 none 0 := (.seq (.seq (.reg [om 8 3, om 9 0, oo 10 (.len (.t 9)), oo 11 (.bin .lss (.t 8) (.t 10))]) (.cond ( .t 11) .skip (.exit 0))) (.seq (.block 1 (.seq (.seq (.reg [om 14 0, om 15 3, oo 16 (.idx 1 (.t 14) (.t 15)), ol 17 16, oo 18 (.len (.t 17)), oo 19 (.bin .gtr (.t 18) (ki 10))]) (.cond ( .t 19) (.seq (.reg [oo 2 (.mv (ki 1))]) .ret) .skip)) (.seq (.reg [oo 4 (.mv (ki 0))]) (.block 2 (.loop L21_1))))) (.reg [om 12 3, oo 13 (.bin .add (.t 12) (ki 1)), om 3 13])))
noncomputable def g21_0 (v0 : List (List Int)) (v3 : Int) : Option ((List (List Int) × Int × Unit) ⊕ ((Int × Unit) ⊕ ((Unit)))) :=
 brO (decide (v3 < (((v0).length : Nat) : Int))) (
 need (inb v3 (((v0).length : Nat) : Int)) (
 brO (decide ((10 : Int) < (((((v0).getD (Int.toNat v3) [])).length : Nat) : Int))) (
 some (.inr <| .inl <| ((1 : Int), ()))) (
 bindO (iter (fun x => g21_1 x.1 x.2.1 x.2.2.1) (v0, (v3, ((0 : Int), ())))) fun z1 =>
 match z1 with
 | .inl z2 =>
 some (.inr <| .inl <| (z2.1, ()))
 | .inr z3 =>
 need (rng .i64 (z3.2.1 + (1 : Int))) (
 some (.inl (z3.1, ((z3.2.1 + (1 : Int)), ()))))))) (
 some (.inr <| .inr <| ()))
noncomputable def L21_0 : LoopS prog 58 none 0 := mkLoop mixed cx21 cx21_ok [] rfl p21_0 x21_0 rfl (b21_0) (fun x => g21_0 x.1 x.2.1) (by intro x; kernel_rfl)
noncomputable def dd21 : D prog 58 none 0 := (.seq (.reg [oo 2 (.mv (ki 0))]) (.seq (.seq (.reg [om 5 0, oo 6 (.len (.t 5)), oo 7 (.bin .gtr (.t 6) (ki 12))]) (.cond ( .t 7) (.seq (.reg [oo 2 (.mv (ki 1))]) .ret) .skip)) (.seq (.seq (.reg [oo 3 (.mv (ki 0))]) (.block 0 (.loop L21_0))) (.seq (.reg [oo 2 (.mv (ki 0))]) .ret))))
noncomputable def F21 (a0 : List (List Int)) : Option (Int × Unit) :=
 brO (decide ((12 : Int) < (((a0).length : Nat) : Int))) (
 some ((1 : Int), ())) (
 bindO (iter (fun x => g21_0 x.1 x.2.1) (a0, ((0 : Int), ()))) fun z4 =>
 match z4 with
 | .inl z5 =>
 some (z5.1, ())
 | .inr z6 =>
 some ((0 : Int), ()))
theorem c21_ok : trF prog f21 = some ⟨58, 1, dd21.er, [.t 2], [some (.int .i64)]⟩ := by kernel_rfl
noncomputable def ct21 : Ct := ⟨21, [.c (.hole (.list (.list (.int .i64))))], .c (.hole (.int .i64)), fun x => F21 x.1⟩
theorem ct21_ok : ct21.Ok prog := ct_ok mixed cx21_ok func21 c21_ok (enters_of func21 rfl rfl) dd21 rfl rfl (fun x => by kernel_rfl)

/- 51 -/
noncomputable def cx51 : Cx := mkCxH [] []
theorem cx51_ok : cx51.Ok prog := mkCxH_ok trivial trivial
@[reducible] def p51_0 : Pat := Pat.mk [(0, hzL), (1, hzI), (5, hzI), (6, hzI)] [] [] []
@[reducible] def x51_0 : Outs := [(.exit 0, Pat.mk [(5, hzI)] [] [] [])]
noncomputable def b51_0 : D prog 19 none 0 := (.seq (.seq (.reg [om 7 6, om 8 1, oo 9 (.bin .lss (.t 7) (.t 8))]) (.cond ( .t 9) .skip (.exit 0))) (.seq (.block 1 (.reg [om 12 5, om 13 0, om 14 6, oo 15 (.idx 1 (.t 13) (.t 14)), ol 16 15, oo 17 (.bin .add (.t 12) (.t 16)), om 5 17])) (.reg [om 10 6, oo 11 (.bin .add (.t 10) (ki 1)), om 6 11])))
noncomputable def g51_0 (v0 : List Int) (v1 : Int) (v5 : Int) (v6 : Int) : Option ((List Int × Int × Int × Int × Unit) ⊕ ((Int × Unit))) :=
 brO (decide (v6 < v1)) (
 need (inb v6 (((v0).length : Nat) : Int)) (
 need (rng .i64 (v5 + ((v0).getD (Int.toNat v6) (0 : Int)))) (
 need (rng .i64 (v6 + (1 : Int))) (
 some (.inl (v0, (v1, ((v5 + ((v0).getD (Int.toNat v6) (0 : Int))), ((v6 + (1 : Int)), ()))))))))) (
 some (.inr (v5, ())))
noncomputable def L51_0 : LoopS prog 19 none 0 := mkLoop mixed cx51 cx51_ok [] rfl p51_0 x51_0 rfl (b51_0) (fun x => g51_0 x.1 x.2.1 x.2.2.1 x.2.2.2.1) (by intro x; kernel_rfl)
noncomputable def dd51 : D prog 19 none 0 := (.seq (.reg [oo 4 (.mv (ki 0))]) (.seq (.reg [oo 5 (.mv (ki 0))]) (.seq (.seq (.reg [oo 6 (.mv (ki 0))]) (.block 0 (.loop L51_0))) (.seq (.reg [om 18 5, om 4 18]) .ret))))
noncomputable def F51 (a0 : List Int) (a1 : Int) : Option (Int × Unit) :=
 bindO (iter (fun x => g51_0 x.1 x.2.1 x.2.2.1 x.2.2.2.1) (a0, (a1, ((0 : Int), ((0 : Int), ()))))) fun z0 =>
 some (z0.1, ())
theorem c51_ok : trF prog f51 = some ⟨19, 2, dd51.er, [.t 4], [some (.int .i64)]⟩ := by kernel_rfl
noncomputable def ct51 : Ct := ⟨51, [.c (.hole (.list (.int .i64))), .c (.hole (.int .i64))], .c (.hole (.int .i64)), fun x => F51 x.1 x.2.1⟩
theorem ct51_ok : ct51.Ok prog := ct_ok mixed cx51_ok func51 c51_ok (enters_of func51 rfl rfl) dd51 rfl rfl (fun x => by kernel_rfl)

/- 19 -/
noncomputable def cx19 : Cx := mkCxH [ct21, ct50, ct51] []
theorem cx19_ok : cx19.Ok prog := mkCxH_ok ⟨ct21_ok, ct50_ok, ct51_ok, trivial⟩ trivial
@[reducible] def p19_0 : Pat := Pat.mk [(0, hzM), (1, hzL), (8, hzI), (9, hzI), (10, hzI)] [] [] []
@[reducible] def x19_0 : Outs := [(.ret, Pat.mk [(4, hzI), (5, hzI), (6, hzI)] [] [] []), (.exit 0, Pat.mk [(8, hzI), (9, hzI)] [] [] [])]
noncomputable def b19_0 : D prog 57 none 0 := (.seq (.seq (.reg [om 21 10, om 22 1, oo 23 (.len (.t 22)), oo 24 (.bin .lss (.t 21) (.t 23))]) (.cond ( .t 24) .skip (.exit 0))) (.seq (.block 1 (.seq (.seq (.draw [[], [], [0, 1], [0, 1, 2], [], [], [4, 5], [4, 5, 6], [4, 5, 6, 7], [0, 1, 2, 3, 4, 5, 6, 7, 8], [0, 1, 2, 3, 4, 5, 6, 7, 8, 9]] [om 27 1, om 28 10, oo 29 (.idx 1 (.t 27) (.t 28)), ol 30 29, om 31 0, om 32 10, oo 33 (.idx 1 (.t 31) (.t 32)), ol 34 33, oo 35 (.len (.t 34)), .call (some 36) none (.c (.fn 50 [] [])) [.t 30, ki 0, .t 35] [some (.int .i64), some (.int .i64), some (.int .i64)], oo 37 (.not (.t 36))]) (.cond ( .t 37) (.seq (.reg [oo 4 (.mv (ki 0)), oo 5 (.mv (ki 0)), oo 6 (.mv (ki 10))]) .ret) .skip)) (.draw [[], [], [], [1, 2], [1, 2, 3], [0, 1, 2, 3, 4], [], [], [], [7, 8], [7, 8, 9], [], [], [11, 12], [11, 12, 13], [7, 8, 9, 10, 11, 12, 13, 14], [6, 7, 8, 9, 10, 11, 12, 13, 14, 15], [0, 1, 2, 3, 4, 5, 7, 8, 9, 10, 11, 12, 13, 14, 15], [0, 1, 2, 3, 4, 5, 6, 7, 8, 9, 10, 11, 12, 13, 14, 15, 16, 17]] [om 38 8, om 39 1, om 40 10, oo 41 (.idx 1 (.t 39) (.t 40)), ol 42 41, oo 43 (.bin .add (.t 38) (.t 42)), om 44 9, om 45 0, om 46 10, oo 47 (.idx 1 (.t 45) (.t 46)), ol 48 47, om 49 1, om 50 10, oo 51 (.idx 1 (.t 49) (.t 50)), ol 52 51, .call (some 53) none (.c (.fn 51 [] [])) [.t 48, .t 52] [some (.list (.int .i64)), some (.int .i64)], oo 54 (.bin .add (.t 44) (.t 53)), om 8 43, om 9 54]))) (.reg [om 25 10, oo 26 (.bin .add (.t 25) (ki 1)), om 10 26])))
noncomputable def g19_0 (v0 : List (List Int)) (v1 : List Int) (v8 : Int) (v9 : Int) (v10 : Int) : Option ((List (List Int) × List Int × Int × Int × Int × Unit) ⊕ ((Int × Int × Int × Unit) ⊕ ((Int × Int × Unit)))) :=
 brO (decide (v10 < (((v1).length : Nat) : Int))) (
 need (inb v10 (((v1).length : Nat) : Int)) (
 need (inb v10 (((v0).length : Nat) : Int)) (
 bindO (F50 ((v1).getD (Int.toNat v10) (0 : Int)) (0 : Int) (((((v0).getD (Int.toNat v10) [])).length : Nat) : Int)) fun y1 =>
 brO (!y1.1) (
 some (.inr <| .inl <| ((0 : Int), ((0 : Int), ((10 : Int), ()))))) (
 need (inb v10 (((v1).length : Nat) : Int)) (
 need (rng .i64 (v8 + ((v1).getD (Int.toNat v10) (0 : Int)))) (
 need (inb v10 (((v0).length : Nat) : Int)) (
 need (inb v10 (((v1).length : Nat) : Int)) (
 bindO (F51 ((v0).getD (Int.toNat v10) []) ((v1).getD (Int.toNat v10) (0 : Int))) fun y2 =>
 need (rng .i64 (v9 + y2.1)) (
 need (rng .i64 (v10 + (1 : Int))) (
 some (.inl (v0, (v1, ((v8 + ((v1).getD (Int.toNat v10) (0 : Int))), ((v9 + y2.1), ((v10 + (1 : Int)), ())))))))))))))))) (
 some (.inr <| .inr <| (v8, (v9, ()))))
noncomputable def L19_0 : LoopS prog 57 none 0 := mkLoop mixed cx19 cx19_ok [] rfl p19_0 x19_0 rfl (b19_0) (fun x => g19_0 x.1 x.2.1 x.2.2.1 x.2.2.2.1 x.2.2.2.2.1) (by intro x; kernel_rfl)
noncomputable def dd19 : D prog 57 none 0 := (.seq (.reg [oo 4 (.mv (ki 0)), oo 5 (.mv (ki 0)), oo 6 (.mv (ki 0))]) (.seq (.reg [om 11 0, .call (some 12) none (.c (.fn 21 [] [])) [.t 11] [some (.list (.list (.int .i64)))], om 7 12]) (.seq (.seq (.reg [om 13 7, oo 14 (.bin .neq (.t 13) (ki 0))]) (.cond ( .t 14) (.seq (.reg [om 15 7, oo 4 (.mv (ki 0)), oo 5 (.mv (ki 0)), om 6 15]) .ret) .skip)) (.seq (.seq (.reg [om 16 1, oo 17 (.len (.t 16)), om 18 0, oo 19 (.len (.t 18)), oo 20 (.bin .neq (.t 17) (.t 19))]) (.cond ( .t 20) (.seq (.reg [oo 4 (.mv (ki 0)), oo 5 (.mv (ki 0)), oo 6 (.mv (ki 3))]) .ret) .skip)) (.seq (.reg [oo 8 (.mv (ki 0)), oo 9 (.mv (ki 0))]) (.seq (.seq (.reg [oo 10 (.mv (ki 0))]) (.block 0 (.loop L19_0))) (.seq (.reg [om 55 8, om 56 9, om 4 55, om 5 56, oo 6 (.mv (ki 0))]) .ret)))))))
noncomputable def F19 (a0 : List (List Int)) (a1 : List Int) : Option (Int × Int × Int × Unit) :=
 bindO (F21 a0) fun y0 =>
 brO (!(y0.1 == (0 : Int))) (
 some ((0 : Int), ((0 : Int), (y0.1, ())))) (
 brO (!((((a1).length : Nat) : Int) == (((a0).length : Nat) : Int))) (
 some ((0 : Int), ((0 : Int), ((3 : Int), ())))) (
 bindO (iter (fun x => g19_0 x.1 x.2.1 x.2.2.1 x.2.2.2.1 x.2.2.2.2.1) (a0, (a1, ((0 : Int), ((0 : Int), ((0 : Int), ())))))) fun z3 =>
 match z3 with
 | .inl z4 =>
 some (z4.1, (z4.2.1, (z4.2.2.1, ())))
 | .inr z5 =>
 some (z5.1, (z5.2.1, ((0 : Int), ())))))
theorem c19_ok : trF prog f19 = some ⟨57, 2, dd19.er, [.t 4, .t 5, .t 6], [some (.int .i64), some (.int .i64), some (.int .i64)]⟩ := by kernel_rfl
noncomputable def ct19 : Ct := ⟨19, [.c (.hole (.list (.list (.int .i64)))), .c (.hole (.list (.int .i64)))], .tup [.hole (.int .i64), .hole (.int .i64), .hole (.int .i64)], fun x => F19 x.1 x.2.1⟩
theorem ct19_ok : ct19.Ok prog := ct_ok mixed cx19_ok func19 c19_ok (enters_of func19 rfl rfl) dd19 rfl rfl (fun x => by kernel_rfl)

/- 57 -/
noncomputable def cx57 : Cx := mkCxH [ct51] []
theorem cx57_ok : cx57.Ok prog := mkCxH_ok ⟨ct51_ok, trivial⟩ trivial
@[reducible] def p57_2 : Pat := Pat.mk [(0, hzM), (1, hzI), (6, .c (.sl0 0 (.list (.int .i64)))), (7, .c (.sl0 1 (.int .i64))), (8, hzI), (9, .c (.sl0 2 (.list (.int .i64)))), (10, .c (.sl0 3 (.int .i64))), (11, hzI), (12, hzI)] [(0, .arr (.list (.int .i64)) false), (1, .arr (.int .i64) false), (2, .arr (.list (.int .i64)) false), (3, .arr (.int .i64) false)] [.slot 6, .slot 7, .slot 9, .slot 10] []
@[reducible] def x57_2 : Outs := [(.exit 4, Pat.mk [(0, hzM), (1, hzI), (6, .c (.sl0 0 (.list (.int .i64)))), (7, .c (.sl0 1 (.int .i64))), (8, hzI), (9, .c (.sl0 2 (.list (.int .i64)))), (10, .c (.sl0 3 (.int .i64))), (11, hzI)] [(0, .arr (.list (.int .i64)) false), (1, .arr (.int .i64) false), (2, .arr (.list (.int .i64)) false), (3, .arr (.int .i64) false)] [.slot 6, .slot 7, .slot 9, .slot 10] [])]
noncomputable def b57_2 : D prog 101 none 0 := (.seq (.seq (.reg [om 40 12, om 41 0, om 42 8, oo 43 (.idx 1 (.t 41) (.t 42)), ol 44 43, oo 45 (.len (.t 44)), oo 46 (.bin .leq (.t 40) (.t 45)), om 47 46, og 48 47 true (.mv (.t 12)), og 49 47 true (.mv (.t 11)), og 50 47 true (.bin .leq (.t 48) (.t 49)), oo 51 (.pick (.t 47) (.t 50) (.c (.tf false)))]) (.cond ( .t 51) .skip (.exit 4))) (.seq (.block 5 (.seq (.draw [[], [], [], [1, 2], [0, 1, 2, 3], [0, 1, 2, 3, 4], [], [], [6, 7], [6, 7, 8], [], [6, 7, 8, 9, 10], [0, 1, 2, 3, 4, 5, 6, 7, 8, 9, 10, 11], [0, 1, 2, 3, 4, 5, 6, 7, 8, 9, 10, 11, 12]] [om 54 7, om 55 11, om 56 12, oo 57 (.bin .sub (.t 55) (.t 56)), oo 58 (.idx 1 (.t 54) (.t 57)), ol 59 58, om 60 0, om 61 8, oo 62 (.idx 1 (.t 60) (.t 61)), ol 63 62, om 64 12, .call (some 65) none (.c (.fn 51 [] [])) [.t 63, .t 64] [some (.list (.int .i64)), some (.int .i64)], oo 66 (.bin .add (.t 59) (.t 65)), om 13 66]) (.seq (.reg [om 67 13, om 68 10, om 69 11, oo 70 (.idx 1 (.t 68) (.t 69)), ol 71 70, oo 72 (.bin .gtr (.t 67) (.t 71))]) (.cond ( .t 72) (.reg [om 73 9, om 74 11, om 75 10, om 76 11, oo 77 (.bslice (.int .i64) []), om 78 6, om 79 11, om 80 12, oo 81 (.bin .sub (.t 79) (.t 80)), oo 82 (.idx 1 (.t 78) (.t 81)), ol 83 82, oo 84 (.append 1 (.t 77) (.t 83)), om 85 12, oo 86 (.bslice (.int .i64) [.t 85]), oo 87 (.append 1 (.t 84) (.t 86)), om 88 13, oo 89 (.idx 1 (.t 73) (.t 74)), .op none none (.store 1 (.t 89) (.t 87)), oo 90 (.idx 1 (.t 75) (.t 76)), .op none none (.store 1 (.t 90) (.t 88))]) .skip)))) (.reg [om 52 12, oo 53 (.bin .add (.t 52) (ki 1)), om 12 53])))
noncomputable def g57_2 (v0 : List (List Int)) (v1 : Int) (nv6 : Nat) (nv7 : Nat) (v8 : Int) (nv9 : Nat) (nv10 : Nat) (v11 : Int) (v12 : Int) (b0 : List (List Int)) (b1 : List Int) (b2 : List (List Int)) (b3 : List Int) : Option ((List (List Int) × Int × Nat × Nat × Int × Nat × Nat × Int × Int × List (List Int) × List Int × List (List Int) × List Int × Unit) ⊕ ((List (List Int) × Int × Nat × Nat × Int × Nat × Nat × Int × List (List Int) × List Int × List (List Int) × List Int × Unit))) :=
 need (inb v8 (((v0).length : Nat) : Int)) (
 brO (decide (v12 ≤ (((((v0).getD (Int.toNat v8) [])).length : Nat) : Int))) (
 brO (decide (v12 ≤ v11)) (
 need (rng .i64 (v11 - v12)) (
 need (inb (v11 - v12) ((nv7 : Nat) : Int)) (
 need (decide (((0 : Nat) + (Int.toNat (v11 - v12))) < (b1).length)) (
 need (inb v8 (((v0).length : Nat) : Int)) (
 bindO (F51 ((v0).getD (Int.toNat v8) []) v12) fun y0 =>
 need (rng .i64 (((b1).getD ((0 : Nat) + (Int.toNat (v11 - v12))) (0 : Int)) + y0.1)) (
 need (inb v11 ((nv10 : Nat) : Int)) (
 need (decide (((0 : Nat) + (Int.toNat v11)) < (b3).length)) (
 brO (decide (((b3).getD ((0 : Nat) + (Int.toNat v11)) (0 : Int)) < (((b1).getD ((0 : Nat) + (Int.toNat (v11 - v12))) (0 : Int)) + y0.1))) (
 need (rng .i64 (v11 - v12)) (
 need (inb (v11 - v12) ((nv6 : Nat) : Int)) (
 need (decide (((0 : Nat) + (Int.toNat (v11 - v12))) < (b0).length)) (
 need (decide (((0 : Nat) + (((b0).getD ((0 : Nat) + (Int.toNat (v11 - v12))) [])).length) < bigL)) (
 need (decide ((((0 : Nat) + (((b0).getD ((0 : Nat) + (Int.toNat (v11 - v12))) [])).length) + (((((v12 :: [])).drop (0 : Nat)).take (1 : Nat))).length) < bigL)) (
 need (inb v11 ((nv9 : Nat) : Int)) (
 need (decide (((0 : Nat) + (Int.toNat v11)) < (b2).length)) (
 need (inb v11 ((nv10 : Nat) : Int)) (
 need (decide (((0 : Nat) + (Int.toNat v11)) < (b3).length)) (
 need (rng .i64 (v12 + (1 : Int))) (
 some (.inl (v0, (v1, (nv6, (nv7, (v8, (nv9, (nv10, (v11, ((v12 + (1 : Int)), (b0, (b1, (((b2).set ((0 : Nat) + (Int.toNat v11)) ((((((((((([]).drop (0 : Nat)).take (0 : Nat)) ++ ((b0).getD ((0 : Nat) + (Int.toNat (v11 - v12))) []))).drop (0 : Nat)).take ((0 : Nat) + (((b0).getD ((0 : Nat) + (Int.toNat (v11 - v12))) [])).length)) ++ ((((v12 :: [])).drop (0 : Nat)).take (1 : Nat)))).drop (0 : Nat)).take (((0 : Nat) + (((b0).getD ((0 : Nat) + (Int.toNat (v11 - v12))) [])).length) + (((((v12 :: [])).drop (0 : Nat)).take (1 : Nat))).length))), (((b3).set ((0 : Nat) + (Int.toNat v11)) (((b1).getD ((0 : Nat) + (Int.toNat (v11 - v12))) (0 : Int)) + y0.1)), ()))))))))))))))))))))))))) (
 need (rng .i64 (v12 + (1 : Int))) (
 some (.inl (v0, (v1, (nv6, (nv7, (v8, (nv9, (nv10, (v11, ((v12 + (1 : Int)), (b0, (b1, (b2, (b3, ())))))))))))))))))))))))) (
 some (.inr (v0, (v1, (nv6, (nv7, (v8, (nv9, (nv10, (v11, (b0, (b1, (b2, (b3, ()))))))))))))))) (
 some (.inr (v0, (v1, (nv6, (nv7, (v8, (nv9, (nv10, (v11, (b0, (b1, (b2, (b3, ())))))))))))))))
noncomputable def L57_2 : LoopS prog 101 none 0 := mkLoop mixed cx57 cx57_ok [] rfl p57_2 x57_2 rfl (b57_2) (fun x => g57_2 x.1 x.2.1 x.2.2.1 x.2.2.2.1 x.2.2.2.2.1 x.2.2.2.2.2.1 x.2.2.2.2.2.2.1 x.2.2.2.2.2.2.2.1 x.2.2.2.2.2.2.2.2.1 x.2.2.2.2.2.2.2.2.2.1 x.2.2.2.2.2.2.2.2.2.2.1 x.2.2.2.2.2.2.2.2.2.2.2.1 x.2.2.2.2.2.2.2.2.2.2.2.2.1) (by intro x; kernel_rfl)
@[reducible] def p57_1 : Pat := Pat.mk [(0, hzM), (1, hzI), (6, .c (.sl0 0 (.list (.int .i64)))), (7, .c (.sl0 1 (.int .i64))), (8, hzI), (9, .c (.sl0 2 (.list (.int .i64)))), (10, .c (.sl0 3 (.int .i64))), (11, hzI)] [(0, .arr (.list (.int .i64)) false), (1, .arr (.int .i64) false), (2, .arr (.list (.int .i64)) false), (3, .arr (.int .i64) false)] [.slot 6, .slot 7, .slot 9, .slot 10] []
@[reducible] def x57_1 : Outs := [(.exit 2, Pat.mk [(0, hzM), (1, hzI), (8, hzI), (9, .c (.sl0 0 (.list (.int .i64)))), (10, .c (.sl0 1 (.int .i64)))] [(0, .arr (.list (.int .i64)) false), (1, .arr (.int .i64) false)] [.slot 9, .slot 10] [])]
noncomputable def b57_1 : D prog 101 none 0 := (.seq (.seq (.reg [om 32 11, om 33 1, oo 34 (.bin .leq (.t 32) (.t 33))]) (.cond ( .t 34) .skip (.exit 2))) (.seq (.block 3 (.seq (.reg [om 37 10, om 38 11, oo 39 (.idx 1 (.t 37) (.t 38)), .op none none (.store 1 (.t 39) (.c (.int .i64 (Int.negSucc 0))))]) (.seq (.reg [oo 12 (.mv (ki 0))]) (.block 4 (.loop L57_2))))) (.reg [om 35 11, oo 36 (.bin .add (.t 35) (ki 1)), om 11 36])))
noncomputable def g57_1 (v0 : List (List Int)) (v1 : Int) (nv6 : Nat) (nv7 : Nat) (v8 : Int) (nv9 : Nat) (nv10 : Nat) (v11 : Int) (b0 : List (List Int)) (b1 : List Int) (b2 : List (List Int)) (b3 : List Int) : Option ((List (List Int) × Int × Nat × Nat × Int × Nat × Nat × Int × List (List Int) × List Int × List (List Int) × List Int × Unit) ⊕ ((List (List Int) × Int × Int × Nat × Nat × List (List Int) × List Int × Unit))) :=
 brO (decide (v11 ≤ v1)) (
 need (inb v11 ((nv10 : Nat) : Int)) (
 need (decide (((0 : Nat) + (Int.toNat v11)) < (b3).length)) (
 bindO (iter (fun x => g57_2 x.1 x.2.1 x.2.2.1 x.2.2.2.1 x.2.2.2.2.1 x.2.2.2.2.2.1 x.2.2.2.2.2.2.1 x.2.2.2.2.2.2.2.1 x.2.2.2.2.2.2.2.2.1 x.2.2.2.2.2.2.2.2.2.1 x.2.2.2.2.2.2.2.2.2.2.1 x.2.2.2.2.2.2.2.2.2.2.2.1 x.2.2.2.2.2.2.2.2.2.2.2.2.1) (v0, (v1, (nv6, (nv7, (v8, (nv9, (nv10, (v11, ((0 : Int), (b0, (b1, (b2, (((b3).set ((0 : Nat) + (Int.toNat v11)) (-1 : Int)), ())))))))))))))) fun z1 =>
 need (rng .i64 (z1.2.2.2.2.2.2.2.1 + (1 : Int))) (
 some (.inl (z1.1, (z1.2.1, (z1.2.2.1, (z1.2.2.2.1, (z1.2.2.2.2.1, (z1.2.2.2.2.2.1, (z1.2.2.2.2.2.2.1, ((z1.2.2.2.2.2.2.2.1 + (1 : Int)), (z1.2.2.2.2.2.2.2.2.1, (z1.2.2.2.2.2.2.2.2.2.1, (z1.2.2.2.2.2.2.2.2.2.2.1, (z1.2.2.2.2.2.2.2.2.2.2.2.1, ()))))))))))))))))) (
 some (.inr (v0, (v1, (v8, (nv9, (nv10, (b2, (b3, ())))))))))
noncomputable def L57_1 : LoopS prog 101 none 0 := mkLoop mixed cx57 cx57_ok [] rfl p57_1 x57_1 rfl (b57_1) (fun x => g57_1 x.1 x.2.1 x.2.2.1 x.2.2.2.1 x.2.2.2.2.1 x.2.2.2.2.2.1 x.2.2.2.2.2.2.1 x.2.2.2.2.2.2.2.1 x.2.2.2.2.2.2.2.2.1 x.2.2.2.2.2.2.2.2.2.1 x.2.2.2.2.2.2.2.2.2.2.1 x.2.2.2.2.2.2.2.2.2.2.2.1) (by intro x; kernel_rfl)
@[reducible] def p57_0 : Pat := Pat.mk [(0, hzM), (1, hzI), (6, .c (.sl0 0 (.list (.int .i64)))), (7, .c (.sl0 1 (.int .i64))), (8, hzI)] [(0, .arr (.list (.int .i64)) false), (1, .arr (.int .i64) false)] [.slot 6, .slot 7] []
@[reducible] def x57_0 : Outs := [(.exit 0, Pat.mk [(1, hzI), (6, .c (.sl0 0 (.list (.int .i64)))), (7, .c (.sl0 1 (.int .i64)))] [(0, .arr (.list (.int .i64)) false), (1, .arr (.int .i64) false)] [.slot 6, .slot 7] [])]
noncomputable def b57_0 : D prog 101 none 0 := (.seq (.seq (.reg [om 20 8, om 21 0, oo 22 (.len (.t 21)), oo 23 (.bin .lss (.t 20) (.t 22))]) (.cond ( .t 23) .skip (.exit 0))) (.seq (.block 1 (.seq (.draw [[], [0], [0, 1], [], [3], [3, 4], [0, 1, 2], [0, 1, 2, 3, 4, 5, 6]] [om 26 1, oo 27 (.bin .add (.t 26) (ki 1)), oo 28 (.mkslice (.list (.int .i64)) (.t 27)), om 29 1, oo 30 (.bin .add (.t 29) (ki 1)), oo 31 (.mkslice (.int .i64) (.t 30)), om 9 28, om 10 31]) (.seq (.seq (.reg [oo 11 (.mv (ki 0))]) (.block 2 (.loop L57_1))) (.reg [om 91 9, om 92 10, om 6 91, om 7 92])))) (.reg [om 24 8, oo 25 (.bin .add (.t 24) (ki 1)), om 8 25])))
noncomputable def g57_0 (v0 : List (List Int)) (v1 : Int) (nv6 : Nat) (nv7 : Nat) (v8 : Int) (b0 : List (List Int)) (b1 : List Int) : Option ((List (List Int) × Int × Nat × Nat × Int × List (List Int) × List Int × Unit) ⊕ ((Int × Nat × Nat × List (List Int) × List Int × Unit))) :=
 brO (decide (v8 < (((v0).length : Nat) : Int))) (
 need (rng .i64 (v1 + (1 : Int))) (
 need (inb (v1 + (1 : Int)) ((bigL : Nat) : Int)) (
 need (rng .i64 (v1 + (1 : Int))) (
 need (inb (v1 + (1 : Int)) ((bigL : Nat) : Int)) (
 bindO (iter (fun x => g57_1 x.1 x.2.1 x.2.2.1 x.2.2.2.1 x.2.2.2.2.1 x.2.2.2.2.2.1 x.2.2.2.2.2.2.1 x.2.2.2.2.2.2.2.1 x.2.2.2.2.2.2.2.2.1 x.2.2.2.2.2.2.2.2.2.1 x.2.2.2.2.2.2.2.2.2.2.1 x.2.2.2.2.2.2.2.2.2.2.2.1) (v0, (v1, (nv6, (nv7, (v8, ((Int.toNat (v1 + (1 : Int))), ((Int.toNat (v1 + (1 : Int))), ((0 : Int), (b0, (b1, ((List.replicate (Int.toNat (v1 + (1 : Int))) []), ((List.replicate (Int.toNat (v1 + (1 : Int))) (0 : Int)), ()))))))))))))) fun z2 =>
 need (rng .i64 (z2.2.2.1 + (1 : Int))) (
 some (.inl (z2.1, (z2.2.1, (z2.2.2.2.1, (z2.2.2.2.2.1, ((z2.2.2.1 + (1 : Int)), (z2.2.2.2.2.2.1, (z2.2.2.2.2.2.2.1, ())))))))))))))) (
 some (.inr (v1, (nv6, (nv7, (b0, (b1, ())))))))
noncomputable def L57_0 : LoopS prog 101 none 0 := mkLoop mixed cx57 cx57_ok [] rfl p57_0 x57_0 rfl (b57_0) (fun x => g57_0 x.1 x.2.1 x.2.2.1 x.2.2.2.1 x.2.2.2.2.1 x.2.2.2.2.2.1 x.2.2.2.2.2.2.1) (by intro x; kernel_rfl)
noncomputable def dd57 : D prog 101 none 0 := (.seq (.reg [oo 4 (.mv (.c .nsl)), oo 5 (.mv (ki 0))]) (.seq (.reg [om 14 1, oo 15 (.bin .add (.t 14) (ki 1)), oo 16 (.mkslice (.list (.int .i64)) (.t 15)), om 6 16]) (.seq (.reg [om 17 1, oo 18 (.bin .add (.t 17) (ki 1)), oo 19 (.mkslice (.int .i64) (.t 18)), om 7 19]) (.seq (.seq (.reg [oo 8 (.mv (ki 0))]) (.block 0 (.loop L57_0))) (.seq (.draw [[], [], [0, 1], [0, 1, 2], [], [], [4, 5], [4, 5, 6], [0, 1, 2, 3], [0, 1, 2, 3, 4, 5, 6, 7, 8]] [om 93 6, om 94 1, oo 95 (.idx 1 (.t 93) (.t 94)), ol 96 95, om 97 7, om 98 1, oo 99 (.idx 1 (.t 97) (.t 98)), ol 100 99, om 4 96, om 5 100]) .ret)))))
noncomputable def F57 (a0 : List (List Int)) (a1 : Int) : Option (List Int × Int × Unit) :=
 need (rng .i64 (a1 + (1 : Int))) (
 need (inb (a1 + (1 : Int)) ((bigL : Nat) : Int)) (
 need (rng .i64 (a1 + (1 : Int))) (
 need (inb (a1 + (1 : Int)) ((bigL : Nat) : Int)) (
 bindO (iter (fun x => g57_0 x.1 x.2.1 x.2.2.1 x.2.2.2.1 x.2.2.2.2.1 x.2.2.2.2.2.1 x.2.2.2.2.2.2.1) (a0, (a1, ((Int.toNat (a1 + (1 : Int))), ((Int.toNat (a1 + (1 : Int))), ((0 : Int), ((List.replicate (Int.toNat (a1 + (1 : Int))) []), ((List.replicate (Int.toNat (a1 + (1 : Int))) (0 : Int)), ())))))))) fun z3 =>
 need (inb z3.1 ((z3.2.1 : Nat) : Int)) (
 need (decide (((0 : Nat) + (Int.toNat z3.1)) < (z3.2.2.2.1).length)) (
 need (inb z3.1 ((z3.2.2.1 : Nat) : Int)) (
 need (decide (((0 : Nat) + (Int.toNat z3.1)) < (z3.2.2.2.2.1).length)) (
 some (((z3.2.2.2.1).getD ((0 : Nat) + (Int.toNat z3.1)) []), (((z3.2.2.2.2.1).getD ((0 : Nat) + (Int.toNat z3.1)) (0 : Int)), ()))))))))))
theorem c57_ok : trF prog f57 = some ⟨101, 2, dd57.er, [.t 4, .t 5], [some (.list (.int .i64)), some (.int .i64)]⟩ := by kernel_rfl
noncomputable def ct57 : Ct := ⟨57, [.c (.hole (.list (.list (.int .i64)))), .c (.hole (.int .i64))], .tup [.hole (.list (.int .i64)), .hole (.int .i64)], fun x => F57 x.1 x.2.1⟩
theorem ct57_ok : ct57.Ok prog := ct_ok mixed cx57_ok func57 c57_ok (enters_of func57 rfl rfl) dd57 rfl rfl (fun x => by kernel_rfl)

/- 23 -/
noncomputable def cx23 : Cx := mkCxH [ct21, ct50, ct57] []
theorem cx23_ok : cx23.Ok prog := mkCxH_ok ⟨ct21_ok, ct50_ok, ct57_ok, trivial⟩ trivial
noncomputable def dd23 : D prog 30 none 0 := (.seq (.reg [oo 4 (.mv (.c .nsl)), oo 5 (.mv (ki 0)), oo 6 (.mv (ki 0))]) (.seq (.reg [om 10 0, .call (some 11) none (.c (.fn 21 [] [])) [.t 10] [some (.list (.list (.int .i64)))], om 7 11]) (.seq (.seq (.reg [om 12 7, oo 13 (.bin .eql (.t 12) (ki 0)), om 14 13, og 15 14 true (.mv (.t 1)), .call (some 16) (some (14, true)) (.c (.fn 50 [] [])) [.t 15, ki 0, ki 200] [some (.int .i64), some (.int .i64), some (.int .i64)], og 17 14 true (.not (.t 16)), oo 18 (.pick (.t 14) (.t 17) (.c (.tf false)))]) (.cond ( .t 18) (.reg [oo 7 (.mv (ki 2))]) .skip)) (.seq (.seq (.reg [om 19 7, oo 20 (.bin .neq (.t 19) (ki 0))]) (.cond ( .t 20) (.seq (.reg [om 21 7, oo 4 (.mv (.c .nsl)), oo 5 (.mv (ki 0)), om 6 21]) .ret) .skip)) (.seq (.reg [om 23 0, om 24 1, .call (some 25) none (.c (.fn 57 [] [])) [.t 23, .t 24] [some (.list (.list (.int .i64))), some (.int .i64)], om 22 25, oo 26 (.ext 0 (.t 22)), oo 27 (.ext 1 (.t 22)), om 8 26, om 9 27]) (.seq (.reg [om 28 8, om 29 9, om 4 28, om 5 29, oo 6 (.mv (ki 0))]) .ret))))))
noncomputable def F23 (a0 : List (List Int)) (a1 : Int) : Option (List Int × Int × Int × Unit) :=
 bindO (F21 a0) fun y0 =>
 brO (y0.1 == (0 : Int)) (
 bindO (F50 a1 (0 : Int) (200 : Int)) fun y1 =>
 brO (!y1.1) (
 brO (!((2 : Int) == (0 : Int))) (
 some ([], ((0 : Int), ((2 : Int), ())))) (
 bindO (F57 a0 a1) fun y2 =>
 some (y2.1, (y2.2.1, ((0 : Int), ()))))) (
 brO (!(y0.1 == (0 : Int))) (
 some ([], ((0 : Int), (y0.1, ())))) (
 bindO (F57 a0 a1) fun y3 =>
 some (y3.1, (y3.2.1, ((0 : Int), ())))))) (
 brO (!(y0.1 == (0 : Int))) (
 some ([], ((0 : Int), (y0.1, ())))) (
 bindO (F57 a0 a1) fun y4 =>
 some (y4.1, (y4.2.1, ((0 : Int), ())))))
theorem c23_ok : trF prog f23 = some ⟨30, 2, dd23.er, [.t 4, .t 5, .t 6], [some (.list (.int .i64)), some (.int .i64), some (.int .i64)]⟩ := by kernel_rfl
noncomputable def ct23 : Ct := ⟨23, [.c (.hole (.list (.list (.int .i64)))), .c (.hole (.int .i64))], .tup [.hole (.list (.int .i64)), .hole (.int .i64), .hole (.int .i64)], fun x => F23 x.1 x.2.1⟩
theorem ct23_ok : ct23.Ok prog := ct_ok mixed cx23_ok func23 c23_ok (enters_of func23 rfl rfl) dd23 rfl rfl (fun x => by kernel_rfl)

/- 3 -/
noncomputable def cx3 : Cx := mkCxH [ct15, ct16, ct17, ct18, ct19, ct20, ct21, ct22, ct23] []
theorem cx3_ok : cx3.Ok prog := mkCxH_ok ⟨ct15_ok, ct16_ok, ct17_ok, ct18_ok, ct19_ok, ct20_ok, ct21_ok, ct22_ok, ct23_ok, trivial⟩ trivial
noncomputable def dd3 : D prog 116 none 0 := (.seq (.reg [oo 6 (.mv (.c (.tf false)))]) (.seq (.seq (.reg [om 20 0, .call (some 21) none (.c (.fn 15 [] [])) [.t 20] [some (.list (.list (.int .i64)))], om 22 21, og 23 22 false (.mv (.t 1)), og 24 22 false (.len (.t 23)), og 25 22 false (.bin .gtr (.t 24) (ki 30)), oo 26 (.pick (.t 22) (.c (.tf true)) (.t 25))]) (.cond ( .t 26) (.seq (.reg [.call (some 27) none (.c (.fn 16 [] [])) [] [], om 6 27]) .ret) .skip)) (.seq (.reg [om 28 0, .call (some 29) none (.c (.fn 17 [] [])) [.t 28] [some (.list (.list (.int .i64)))], om 7 29]) (.seq (.reg [om 31 0, om 32 1, .call (some 33) none (.c (.fn 18 [] [])) [.t 31, .t 32] [some (.list (.list (.int .i64))), some (.list (.int .i64))], om 30 33, oo 34 (.ext 0 (.t 30)), oo 35 (.ext 1 (.t 30)), oo 36 (.ext 2 (.t 30)), om 8 34, om 9 35, om 10 36]) (.seq (.reg [om 38 7, om 39 1, .call (some 40) none (.c (.fn 19 [] [])) [.t 38, .t 39] [some (.list (.list (.int .i64))), some (.list (.int .i64))], om 37 40, oo 41 (.ext 0 (.t 37)), oo 42 (.ext 1 (.t 37)), oo 43 (.ext 2 (.t 37)), om 11 41, om 12 42, om 13 43]) (.seq (.seq (.reg [om 44 8, om 45 11, oo 46 (.bin .neq (.t 44) (.t 45)), om 47 46, og 48 47 false (.mv (.t 9)), og 49 47 false (.mv (.t 12)), og 50 47 false (.bin .neq (.t 48) (.t 49)), oo 51 (.pick (.t 47) (.c (.tf true)) (.t 50)), om 52 51, og 53 52 false (.mv (.t 10)), og 54 52 false (.mv (.t 13)), og 55 52 false (.bin .neq (.t 53) (.t 54)), oo 56 (.pick (.t 52) (.c (.tf true)) (.t 55)), om 57 56, og 58 57 false (.mv (.t 0)), .call (some 59) (some (57, false)) (.c (.fn 20 [] [])) [.t 58] [some (.list (.list (.int .i64)))], og 60 57 false (.mv (.t 7)), .call (some 61) (some (57, false)) (.c (.fn 21 [] [])) [.t 60] [some (.list (.list (.int .i64)))], og 62 57 false (.bin .neq (.t 59) (.t 61)), oo 63 (.pick (.t 57) (.c (.tf true)) (.t 62))]) (.cond ( .t 63) (.seq (.reg [oo 6 (.mv (.c (.tf false)))]) .ret) .skip)) (.seq (.reg [om 65 0, om 66 2, .call (some 67) none (.c (.fn 22 [] [])) [.t 65, .t 66] [some (.list (.list (.int .i64))), some (.int .i64)], om 64 67, oo 68 (.ext 0 (.t 64)), oo 69 (.ext 1 (.t 64)), oo 70 (.ext 2 (.t 64)), om 14 68, om 15 69, om 10 70]) (.seq (.reg [om 72 7, om 73 2, .call (some 74) none (.c (.fn 23 [] [])) [.t 72, .t 73] [some (.list (.list (.int .i64))), some (.int .i64)], om 71 74, oo 75 (.ext 0 (.t 71)), oo 76 (.ext 1 (.t 71)), oo 77 (.ext 2 (.t 71)), om 16 75, om 17 76, om 13 77]) (.seq (.seq (.reg [om 78 15, om 79 17, oo 80 (.bin .neq (.t 78) (.t 79)), om 81 80, og 82 81 false (.mv (.t 10)), og 83 81 false (.mv (.t 13)), og 84 81 false (.bin .neq (.t 82) (.t 83)), oo 85 (.pick (.t 81) (.c (.tf true)) (.t 84))]) (.cond ( .t 85) (.seq (.reg [oo 6 (.mv (.c (.tf false)))]) .ret) .skip)) (.seq (.seq (.reg [om 86 10, oo 87 (.bin .neq (.t 86) (ki 0))]) (.cond ( .t 87) (.seq (.reg [om 88 14, oo 89 (.len (.t 88)), oo 90 (.bin .eql (.t 89) (ki 0)), om 91 90, .call (some 92) (some (91, true)) (.c (.fn 16 [] [])) [] [], oo 93 (.pick (.t 91) (.t 92) (.c (.tf false))), om 6 93]) .ret) .skip)) (.seq (.reg [om 95 7, om 96 14, .call (some 97) none (.c (.fn 19 [] [])) [.t 95, .t 96] [some (.list (.list (.int .i64))), some (.list (.int .i64))], om 94 97, oo 98 (.ext 0 (.t 94)), oo 99 (.ext 1 (.t 94)), oo 100 (.ext 2 (.t 94)), om 18 98, om 19 99, om 10 100]) (.seq (.reg [om 101 10, oo 102 (.bin .eql (.t 101) (ki 0)), om 103 102, og 104 103 true (.mv (.t 18)), og 105 103 true (.mv (.t 2)), og 106 103 true (.bin .leq (.t 104) (.t 105)), oo 107 (.pick (.t 103) (.t 106) (.c (.tf false))), om 108 107, og 109 108 true (.mv (.t 19)), og 110 108 true (.mv (.t 17)), og 111 108 true (.bin .eql (.t 109) (.t 110)), oo 112 (.pick (.t 108) (.t 111) (.c (.tf false))), om 113 112, .call (some 114) (some (113, true)) (.c (.fn 16 [] [])) [] [], oo 115 (.pick (.t 113) (.t 114) (.c (.tf false))), om 6 115]) .ret))))))))))))
noncomputable def F3 (a0 : List (List Int)) (a1 : List Int) (a2 : Int) : Option (Bool × Unit) :=
 bindO (F15 a0) fun y0 =>
 brO y0.1 (
 bindO (F16) fun y1 =>
 some (y1.1, ())) (
 brO (decide ((30 : Int) < (((a1).length : Nat) : Int))) (
 bindO (F16) fun y2 =>
 some (y2.1, ())) (
 bindO (F17 a0) fun y3 =>
 bindO (F18 a0 a1) fun y4 =>
 bindO (F19 y3.1 a1) fun y5 =>
 brO (!(y4.1 == y5.1)) (
 some (false, ())) (
 brO (!(y4.2.1 == y5.2.1)) (
 some (false, ())) (
 brO (!(y4.2.2.1 == y5.2.2.1)) (
 some (false, ())) (
 bindO (F20 a0) fun y6 =>
 bindO (F21 y3.1) fun y7 =>
 brO (!(y6.1 == y7.1)) (
 some (false, ())) (
 bindO (F22 a0 a2) fun y8 =>
 bindO (F23 y3.1 a2) fun y9 =>
 brO (!(y8.2.1 == y9.2.1)) (
 some (false, ())) (
 brO (!(y8.2.2.1 == y9.2.2.1)) (
 some (false, ())) (
 brO (!(y8.2.2.1 == (0 : Int))) (
 brO ((((y8.1).length : Nat) : Int) == (0 : Int)) (
 bindO (F16) fun y10 =>
 some (y10.1, ())) (
 some (false, ()))) (
 bindO (F19 y3.1 y8.1) fun y11 =>
 brO (y11.2.2.1 == (0 : Int)) (
 brO (decide (y11.1 ≤ a2)) (
 brO (y11.2.1 == y9.2.1) (
 bindO (F16) fun y12 =>
 some (y12.1, ())) (
 some (false, ()))) (
 some (false, ()))) (
 some (false, ())))))))))))
theorem c3_ok : trF prog f3 = some ⟨116, 3, dd3.er, [.t 6], [some .bool]⟩ := by kernel_rfl
noncomputable def ct3 : Ct := ⟨3, [.c (.hole (.list (.list (.int .i64)))), .c (.hole (.list (.int .i64))), .c (.hole (.int .i64))], .c (.hole .bool), fun x => F3 x.1 x.2.1 x.2.2.1⟩
theorem ct3_ok : ct3.Ok prog := ct_ok mixed cx3_ok func3 c3_ok (enters_of func3 rfl rfl) dd3 rfl rfl (fun x => by kernel_rfl)

/- 39 -/
noncomputable def cx39 : Cx := mkCxH [] []
theorem cx39_ok : cx39.Ok prog := mkCxH_ok trivial trivial
@[reducible] def p39_1 : Pat := Pat.mk [(0, .c (.hole (.list (.list (.int .u8))))), (3, .c (.sl0 0 (.list (.int .i64)))), (4, hzI), (5, hzI), (6, .c (.sl0 1 (.int .i64))), (7, hzI), (13, hzI), (14, .c (.hole .bool))] [(0, .arr (.list (.int .i64)) false), (1, .arr (.int .i64) false)] [.slot 3, .slot 6] []
@[reducible] def x39_1 : Outs := [(.exit 2, Pat.mk [(0, .c (.hole (.list (.list (.int .u8))))), (3, .c (.sl0 0 (.list (.int .i64)))), (4, hzI), (6, .c (.sl0 1 (.int .i64))), (13, hzI), (14, .c (.hole .bool))] [(0, .arr (.list (.int .i64)) false), (1, .arr (.int .i64) false)] [.slot 3, .slot 6] [])]
noncomputable def b39_1 : D prog 52 none 0 := (.seq (.seq (.reg [om 19 7, om 20 0, om 21 4, oo 22 (.idx 1 (.t 20) (.t 21)), ol 23 22, oo 24 (.len (.t 23)), oo 25 (.bin .lss (.t 19) (.t 24)), om 26 25, og 27 26 true (.mv (.t 7)), og 28 26 true (.bin .lss (.t 27) (ki 4)), oo 29 (.pick (.t 26) (.t 28) (.c (.tf false)))]) (.cond ( .t 29) .skip (.exit 2))) (.seq (.block 3 (.seq (.reg [om 32 5, om 33 0, om 34 4, oo 35 (.idx 1 (.t 33) (.t 34)), ol 36 35, om 37 7, oo 38 (.idx 1 (.t 36) (.t 37)), ol 39 38, oo 40 (.conv .i64 (.t 39)), oo 41 (.bin .sub (.t 32) (.t 40)), oo 42 (.minmax true (ki 0) [.t 41]), om 5 42]) (.reg [om 43 6, om 44 5, oo 45 (.bslice (.int .i64) [.t 44]), oo 46 (.append 1 (.t 43) (.t 45)), om 6 46]))) (.reg [om 30 7, oo 31 (.bin .add (.t 30) (ki 1)), om 7 31])))
noncomputable def g39_1 (v0 : List (List Int)) (nv3 : Nat) (v4 : Int) (v5 : Int) (nv6 : Nat) (v7 : Int) (v13 : Int) (v14 : Bool) (b0 : List (List Int)) (b1 : List Int) : Option ((List (List Int) × Nat × Int × Int × Nat × Int × Int × Bool × List (List Int) × List Int × Unit) ⊕ ((List (List Int) × Nat × Int × Nat × Int × Bool × List (List Int) × List Int × Unit))) :=
 need (inb v4 (((v0).length : Nat) : Int)) (
 brO (decide (v7 < (((((v0).getD (Int.toNat v4) [])).length : Nat) : Int))) (
 brO (decide (v7 < (4 : Int))) (
 need (inb v4 (((v0).length : Nat) : Int)) (
 need (inb v7 (((((v0).getD (Int.toNat v4) [])).length : Nat) : Int)) (
 need (rng .i64 ((((v0).getD (Int.toNat v4) [])).getD (Int.toNat v7) (0 : Int))) (
 need (rng .i64 (v5 - ((((v0).getD (Int.toNat v4) [])).getD (Int.toNat v7) (0 : Int)))) (
 need (decide ((nv6 + ((((((imax (0 : Int) (v5 - ((((v0).getD (Int.toNat v4) [])).getD (Int.toNat v7) (0 : Int)))) :: [])).drop (0 : Nat)).take (1 : Nat))).length) < bigL)) (
 need (rng .i64 (v7 + (1 : Int))) (
 some (.inl (v0, (nv3, (v4, ((imax (0 : Int) (v5 - ((((v0).getD (Int.toNat v4) [])).getD (Int.toNat v7) (0 : Int)))), ((nv6 + ((((((imax (0 : Int) (v5 - ((((v0).getD (Int.toNat v4) [])).getD (Int.toNat v7) (0 : Int)))) :: [])).drop (0 : Nat)).take (1 : Nat))).length), ((v7 + (1 : Int)), (v13, (v14, (b0, (((((b1).drop (0 : Nat)).take nv6) ++ (((((imax (0 : Int) (v5 - ((((v0).getD (Int.toNat v4) [])).getD (Int.toNat v7) (0 : Int)))) :: [])).drop (0 : Nat)).take (1 : Nat))), ())))))))))))))))))) (
 some (.inr (v0, (nv3, (v4, (nv6, (v13, (v14, (b0, (b1, ()))))))))))) (
 some (.inr (v0, (nv3, (v4, (nv6, (v13, (v14, (b0, (b1, ())))))))))))
noncomputable def L39_1 : LoopS prog 52 none 0 := mkLoop mixed cx39 cx39_ok [] rfl p39_1 x39_1 rfl (b39_1) (fun x => g39_1 x.1 x.2.1 x.2.2.1 x.2.2.2.1 x.2.2.2.2.1 x.2.2.2.2.2.1 x.2.2.2.2.2.2.1 x.2.2.2.2.2.2.2.1 x.2.2.2.2.2.2.2.2.1 x.2.2.2.2.2.2.2.2.2.1) (by intro x; kernel_rfl)
@[reducible] def p39_0 : Pat := Pat.mk [(0, .c (.hole (.list (.list (.int .u8))))), (3, .c (.sl0 0 (.list (.int .i64)))), (4, hzI)] [(0, .arr (.list (.int .i64)) false)] [.slot 3] []
@[reducible] def x39_0 : Outs := [(.exit 0, Pat.mk [(3, .c (.sl0 0 (.list (.int .i64))))] [(0, .arr (.list (.int .i64)) false)] [.slot 3] [])]
noncomputable def b39_0 : D prog 52 none 0 := (.seq (.seq (.reg [om 8 4, om 9 0, oo 10 (.len (.t 9)), oo 11 (.bin .lss (.t 8) (.t 10)), om 12 11, og 13 12 true (.mv (.t 4)), og 14 12 true (.bin .lss (.t 13) (ki 4)), oo 15 (.pick (.t 12) (.t 14) (.c (.tf false)))]) (.cond ( .t 15) .skip (.exit 0))) (.seq (.block 1 (.seq (.reg [oo 5 (.mv (ki 300))]) (.seq (.reg [oo 18 (.bslice (.int .i64) []), om 6 18]) (.seq (.seq (.reg [oo 7 (.mv (ki 0))]) (.block 2 (.loop L39_1))) (.reg [om 47 3, om 48 6, oo 49 (.bslice (.list (.int .i64)) [.t 48]), oo 50 (.append 1 (.t 47) (.t 49)), om 3 50]))))) (.reg [om 16 4, oo 17 (.bin .add (.t 16) (ki 1)), om 4 17])))
noncomputable def g39_0 (v0 : List (List Int)) (nv3 : Nat) (v4 : Int) (b0 : List (List Int)) : Option ((List (List Int) × Nat × Int × List (List Int) × Unit) ⊕ ((Nat × List (List Int) × Unit))) :=
 brO (decide (v4 < (((v0).length : Nat) : Int))) (
 brO (decide (v4 < (4 : Int))) (
 bindO (iter (fun x => g39_1 x.1 x.2.1 x.2.2.1 x.2.2.2.1 x.2.2.2.2.1 x.2.2.2.2.2.1 x.2.2.2.2.2.2.1 x.2.2.2.2.2.2.2.1 x.2.2.2.2.2.2.2.2.1 x.2.2.2.2.2.2.2.2.2.1) (v0, (nv3, (v4, ((300 : Int), ((0 : Nat), ((0 : Int), (v4, ((decide (v4 < (4 : Int))), (b0, ([], ()))))))))))) fun z0 =>
 need (decide ((z0.2.1 + ((((((((z0.2.2.2.2.2.2.2.1).drop (0 : Nat)).take z0.2.2.2.1) :: [])).drop (0 : Nat)).take (1 : Nat))).length) < bigL)) (
 need (rng .i64 (z0.2.2.1 + (1 : Int))) (
 some (.inl (z0.1, ((z0.2.1 + ((((((((z0.2.2.2.2.2.2.2.1).drop (0 : Nat)).take z0.2.2.2.1) :: [])).drop (0 : Nat)).take (1 : Nat))).length), ((z0.2.2.1 + (1 : Int)), (((((z0.2.2.2.2.2.2.1).drop (0 : Nat)).take z0.2.1) ++ (((((((z0.2.2.2.2.2.2.2.1).drop (0 : Nat)).take z0.2.2.2.1) :: [])).drop (0 : Nat)).take (1 : Nat))), ())))))))) (
 some (.inr (nv3, (b0, ()))))) (
 some (.inr (nv3, (b0, ()))))
noncomputable def L39_0 : LoopS prog 52 none 0 := mkLoop mixed cx39 cx39_ok [] rfl p39_0 x39_0 rfl (b39_0) (fun x => g39_0 x.1 x.2.1 x.2.2.1 x.2.2.2.1) (by intro x; kernel_rfl)
noncomputable def dd39 : D prog 52 none 0 := (.seq (.reg [oo 2 (.mv (.c .nsl))]) (.seq (.reg [oo 3 (.mv (.c .nsl))]) (.seq (.seq (.reg [oo 4 (.mv (ki 0))]) (.block 0 (.loop L39_0))) (.seq (.reg [om 51 3, om 2 51]) .ret))))
noncomputable def F39 (a0 : List (List Int)) : Option (List (List Int) × Unit) :=
 bindO (iter (fun x => g39_0 x.1 x.2.1 x.2.2.1 x.2.2.2.1) (a0, ((0 : Nat), ((0 : Int), ([], ()))))) fun z1 =>
 some ((((z1.2.1).drop (0 : Nat)).take z1.1), ())
theorem c39_ok : trF prog f39 = some ⟨52, 1, dd39.er, [.t 2], [some (.list (.list (.int .i64)))]⟩ := by kernel_rfl
noncomputable def ct39 : Ct := ⟨39, [.c (.hole (.list (.list (.int .u8))))], .c (.hole (.list (.list (.int .i64)))), fun x => F39 x.1⟩
theorem ct39_ok : ct39.Ok prog := ct_ok mixed cx39_ok func39 c39_ok (enters_of func39 rfl rfl) dd39 rfl rfl (fun x => by kernel_rfl)

end Go.Proofs.Try

