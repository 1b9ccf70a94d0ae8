/- Functions of the program as functions of data, part 3; printed by a program of mine. -/
import Derived.Test.YtigglifniejbpaaW51
import Derived.Test.YtigglifniejbpaaProg
set_option linter.unusedVariables false
set_option linter.unusedSimpArgs false
open Go.AM
namespace Go.Proofs.Try
set_option maxRecDepth 100000


/- 19 -/
noncomputable def cx19 : Cx := mkCxH [ct21, ct50, ct51] []
theorem cx19_ok : cx19.Ok prog := mkCxH_ok ⟨ct21_ok, ct50_ok, ct51_ok, trivial⟩ trivial
@[reducible] def p19_0 : Pat := Pat.mk [(0, .c (.hole (.list (.list (.int .i64))))), (1, .c (.hole (.list (.int .i64)))), (8, .c (.hole (.int .i64))), (9, .c (.hole (.int .i64))), (10, .c (.hole (.int .i64)))] [] [] []
@[reducible] def x19_0 : Outs := [(.ret, Pat.mk [(4, .c (.hole (.int .i64))), (5, .c (.hole (.int .i64))), (6, .c (.hole (.int .i64)))] [] [] []), (.exit 0, Pat.mk [(8, .c (.hole (.int .i64))), (9, .c (.hole (.int .i64)))] [] [] [])]
noncomputable def b19_0 : D prog 57 none 0 := (.seq (.seq (.reg [.op (some 21) none (.mv (.t 10)), .op (some 22) none (.mv (.t 1)), .op (some 23) none (.len (.t 22)), .op (some 24) none (.bin .lss (.t 21) (.t 23))]) (.cond ( .t 24) .skip (.exit 0))) (.seq (.block 1 (.seq (.seq (.draw [[], [], [0, 1], [0, 1, 2], [], [], [4, 5], [4, 5, 6], [4, 5, 6, 7], [0, 1, 2, 3, 4, 5, 6, 7, 8], [0, 1, 2, 3, 4, 5, 6, 7, 8, 9]] [.op (some 27) none (.mv (.t 1)), .op (some 28) none (.mv (.t 10)), .op (some 29) none (.idx 1 (.t 27) (.t 28)), .op (some 30) none (.load false 1 (.t 29)), .op (some 31) none (.mv (.t 0)), .op (some 32) none (.mv (.t 10)), .op (some 33) none (.idx 1 (.t 31) (.t 32)), .op (some 34) none (.load false 1 (.t 33)), .op (some 35) none (.len (.t 34)), .call (some 36) none (.c (.fn 50 [] [])) [.t 30, .c (.int .i64 (Int.ofNat 0)), .t 35] [some (.int .i64), some (.int .i64), some (.int .i64)], .op (some 37) none (.not (.t 36))]) (.cond ( .t 37) (.seq (.reg [.op (some 4) none (.mv (.c (.int .i64 (Int.ofNat 0)))), .op (some 5) none (.mv (.c (.int .i64 (Int.ofNat 0)))), .op (some 6) none (.mv (.c (.int .i64 (Int.ofNat 10))))]) .ret) .skip)) (.draw [[], [], [], [1, 2], [1, 2, 3], [0, 1, 2, 3, 4], [], [], [], [7, 8], [7, 8, 9], [], [], [11, 12], [11, 12, 13], [7, 8, 9, 10, 11, 12, 13, 14], [6, 7, 8, 9, 10, 11, 12, 13, 14, 15], [0, 1, 2, 3, 4, 5, 7, 8, 9, 10, 11, 12, 13, 14, 15], [0, 1, 2, 3, 4, 5, 6, 7, 8, 9, 10, 11, 12, 13, 14, 15, 16, 17]] [.op (some 38) none (.mv (.t 8)), .op (some 39) none (.mv (.t 1)), .op (some 40) none (.mv (.t 10)), .op (some 41) none (.idx 1 (.t 39) (.t 40)), .op (some 42) none (.load false 1 (.t 41)), .op (some 43) none (.bin .add (.t 38) (.t 42)), .op (some 44) none (.mv (.t 9)), .op (some 45) none (.mv (.t 0)), .op (some 46) none (.mv (.t 10)), .op (some 47) none (.idx 1 (.t 45) (.t 46)), .op (some 48) none (.load false 1 (.t 47)), .op (some 49) none (.mv (.t 1)), .op (some 50) none (.mv (.t 10)), .op (some 51) none (.idx 1 (.t 49) (.t 50)), .op (some 52) none (.load false 1 (.t 51)), .call (some 53) none (.c (.fn 51 [] [])) [.t 48, .t 52] [some (.list (.int .i64)), some (.int .i64)], .op (some 54) none (.bin .add (.t 44) (.t 53)), .op (some 8) none (.mv (.t 43)), .op (some 9) none (.mv (.t 54))]))) (.reg [.op (some 25) none (.mv (.t 10)), .op (some 26) none (.bin .add (.t 25) (.c (.int .i64 (Int.ofNat 1)))), .op (some 10) none (.mv (.t 26))])))
noncomputable def g19_0 (v0 : List (List Int)) (v1 : List Int) (v8 : Int) (v9 : Int) (v10 : Int) : Option ((List (List Int) × List Int × Int × Int × Int × Unit) ⊕ ((Int × Int × Int × Unit) ⊕ ((Int × Int × Unit)))) :=
  brO (decide (v10 < (((v1).length : Nat) : Int))) (
    need (inb v10 (((v1).length : Nat) : Int)) (
    need (inb v10 (((v0).length : Nat) : Int)) (
    bindO (F50 ((v1).getD (Int.toNat v10) (0 : Int)) (0 : Int) (((((v0).getD (Int.toNat v10) [])).length : Nat) : Int)) fun y1 =>
    brO (!y1.1) (
      some (.inr <| .inl <| ((0 : Int), ((0 : Int), ((10 : Int), ()))))) (
      need (inb v10 (((v1).length : Nat) : Int)) (
      need (rng .i64 (v8 + ((v1).getD (Int.toNat v10) (0 : Int)))) (
      need (inb v10 (((v0).length : Nat) : Int)) (
      need (inb v10 (((v1).length : Nat) : Int)) (
      bindO (F51 ((v0).getD (Int.toNat v10) []) ((v1).getD (Int.toNat v10) (0 : Int))) fun y2 =>
      need (rng .i64 (v9 + y2.1)) (
      need (rng .i64 (v10 + (1 : Int))) (
      some (.inl (v0, (v1, ((v8 + ((v1).getD (Int.toNat v10) (0 : Int))), ((v9 + y2.1), ((v10 + (1 : Int)), ())))))))))))))))) (
    some (.inr <| .inr <| (v8, (v9, ()))))
def Cg19_0 (v0 : List (List Int)) (v1 : List Int) (v8 : Int) (v9 : Int) (v10 : Int) : Option ((List (List Int) × List Int × Int × Int × Int × Unit) ⊕ ((Int × Int × Int × Unit) ⊕ ((Int × Int × Unit)))) :=
  brC (decide (v10 < (((v1).length : Nat) : Int))) (
    needC (inb v10 (((v1).length : Nat) : Int)) (
    needC (inb v10 (((v0).length : Nat) : Int)) (
    bindC (CF50 ((v1).getD (Int.toNat v10) (0 : Int)) (0 : Int) (((((v0).getD (Int.toNat v10) [])).length : Nat) : Int)) fun y1 =>
    brC (!y1.1) (
      some (.inr <| .inl <| ((0 : Int), ((0 : Int), ((10 : Int), ()))))) (
      needC (inb v10 (((v1).length : Nat) : Int)) (
      needC (rng .i64 (v8 + ((v1).getD (Int.toNat v10) (0 : Int)))) (
      needC (inb v10 (((v0).length : Nat) : Int)) (
      needC (inb v10 (((v1).length : Nat) : Int)) (
      bindC (CF51 ((v0).getD (Int.toNat v10) []) ((v1).getD (Int.toNat v10) (0 : Int))) fun y2 =>
      needC (rng .i64 (v9 + y2.1)) (
      needC (rng .i64 (v10 + (1 : Int))) (
      some (.inl (v0, (v1, ((v8 + ((v1).getD (Int.toNat v10) (0 : Int))), ((v9 + y2.1), ((v10 + (1 : Int)), ())))))))))))))))) (
    some (.inr <| .inr <| (v8, (v9, ()))))
theorem Cg19_0_le (v0 : List (List Int)) (v1 : List Int) (v8 : Int) (v9 : Int) (v10 : Int) : Le (Cg19_0 v0 v1 v8 v9 v10) (g19_0 v0 v1 v8 v9 v10) := (Le.br (Le.nd (Le.nd (Le.bd (CF50_le ..) fun y1 => (Le.br Le.r (Le.nd (Le.nd (Le.nd (Le.nd (Le.bd (CF51_le ..) fun y2 => (Le.nd (Le.nd Le.r))))))))))) Le.r)
theorem s19_0 : ∀ x, roundE (kzO (p19_0.T ⊕ x19_0.T)) cx19 ar0 [] p19_0 x19_0 (b19_0) (fun y => some (.inl y)) (fun b => some (.inr b)) x = g19_0 x.1 x.2.1 x.2.2.1 x.2.2.2.1 x.2.2.2.2.1 := by intro x; kernel_rfl
noncomputable def L19_0 : LoopS prog 57 none 0 := mkLoop mixed cx19 cx19_ok [] rfl p19_0 x19_0 rfl (b19_0) (fun x => g19_0 x.1 x.2.1 x.2.2.1 x.2.2.2.1 x.2.2.2.2.1) (s19_0)
noncomputable def dd19 : D prog 57 none 0 := (.seq (.reg [.op (some 4) none (.mv (.c (.int .i64 (Int.ofNat 0)))), .op (some 5) none (.mv (.c (.int .i64 (Int.ofNat 0)))), .op (some 6) none (.mv (.c (.int .i64 (Int.ofNat 0))))]) (.seq (.reg [.op (some 11) none (.mv (.t 0)), .call (some 12) none (.c (.fn 21 [] [])) [.t 11] [some (.list (.list (.int .i64)))], .op (some 7) none (.mv (.t 12))]) (.seq (.seq (.reg [.op (some 13) none (.mv (.t 7)), .op (some 14) none (.bin .neq (.t 13) (.c (.int .i64 (Int.ofNat 0))))]) (.cond ( .t 14) (.seq (.reg [.op (some 15) none (.mv (.t 7)), .op (some 4) none (.mv (.c (.int .i64 (Int.ofNat 0)))), .op (some 5) none (.mv (.c (.int .i64 (Int.ofNat 0)))), .op (some 6) none (.mv (.t 15))]) .ret) .skip)) (.seq (.seq (.reg [.op (some 16) none (.mv (.t 1)), .op (some 17) none (.len (.t 16)), .op (some 18) none (.mv (.t 0)), .op (some 19) none (.len (.t 18)), .op (some 20) none (.bin .neq (.t 17) (.t 19))]) (.cond ( .t 20) (.seq (.reg [.op (some 4) none (.mv (.c (.int .i64 (Int.ofNat 0)))), .op (some 5) none (.mv (.c (.int .i64 (Int.ofNat 0)))), .op (some 6) none (.mv (.c (.int .i64 (Int.ofNat 3))))]) .ret) .skip)) (.seq (.reg [.op (some 8) none (.mv (.c (.int .i64 (Int.ofNat 0)))), .op (some 9) none (.mv (.c (.int .i64 (Int.ofNat 0))))]) (.seq (.seq (.reg [.op (some 10) none (.mv (.c (.int .i64 (Int.ofNat 0))))]) (.block 0 (.loop L19_0))) (.seq (.reg [.op (some 55) none (.mv (.t 8)), .op (some 56) none (.mv (.t 9)), .op (some 4) none (.mv (.t 55)), .op (some 5) none (.mv (.t 56)), .op (some 6) none (.mv (.c (.int .i64 (Int.ofNat 0))))]) .ret)))))))
noncomputable def F19 (a0 : List (List Int)) (a1 : List Int) : Option (Int × Int × Int × Unit) :=
  bindO (F21 a0) fun y0 =>
  brO (!(y0.1 == (0 : Int))) (
    some ((0 : Int), ((0 : Int), (y0.1, ())))) (
    brO (!((((a1).length : Nat) : Int) == (((a0).length : Nat) : Int))) (
      some ((0 : Int), ((0 : Int), ((3 : Int), ())))) (
      bindO (iter (fun x => g19_0 x.1 x.2.1 x.2.2.1 x.2.2.2.1 x.2.2.2.2.1) (a0, (a1, ((0 : Int), ((0 : Int), ((0 : Int), ())))))) fun z3 =>
      match z3 with
      | .inl z4 =>
        some (z4.1, (z4.2.1, (z4.2.2.1, ())))
      | .inr z5 =>
        some (z5.1, (z5.2.1, ((0 : Int), ())))))
def CF19 (a0 : List (List Int)) (a1 : List Int) : Option (Int × Int × Int × Unit) :=
  bindC (CF21 a0) fun y0 =>
  brC (!(y0.1 == (0 : Int))) (
    some ((0 : Int), ((0 : Int), (y0.1, ())))) (
    brC (!((((a1).length : Nat) : Int) == (((a0).length : Nat) : Int))) (
      some ((0 : Int), ((0 : Int), ((3 : Int), ())))) (
      bindC (iterF (fun x => Cg19_0 x.1 x.2.1 x.2.2.1 x.2.2.2.1 x.2.2.2.2.1) 1000000 (a0, (a1, ((0 : Int), ((0 : Int), ((0 : Int), ())))))) fun z3 =>
      match z3 with
      | .inl z4 =>
        some (z4.1, (z4.2.1, (z4.2.2.1, ())))
      | .inr z5 =>
        some (z5.1, (z5.2.1, ((0 : Int), ())))))
theorem CF19_le (a0 : List (List Int)) (a1 : List Int) : Le (CF19 a0 a1) (F19 a0 a1) := (Le.bd (CF21_le ..) fun y0 => (Le.br Le.r (Le.br Le.r (Le.bd (Le.iter fun x => Cg19_0_le ..) fun z3 => (match z3 with | .inl z4 => Le.r | .inr z5 => Le.r)))))
theorem c19_ok : trF prog f19 = some ⟨57, 2, dd19.er, [.t 4, .t 5, .t 6], [some (.int .i64), some (.int .i64), some (.int .i64)]⟩ := by kernel_rfl
noncomputable def ct19 : Ct := ⟨19, [.c (.hole (.list (.list (.int .i64)))), .c (.hole (.list (.int .i64)))], .tup [.hole (.int .i64), .hole (.int .i64), .hole (.int .i64)], fun x => F19 x.1 x.2.1⟩
theorem ct19_ok : ct19.Ok prog := ct_ok mixed cx19_ok func19 c19_ok (enters_of func19 rfl rfl) dd19 rfl rfl (fun x => by kernel_rfl)

/- 57 -/
noncomputable def cx57 : Cx := mkCxH [ct51] []
theorem cx57_ok : cx57.Ok prog := mkCxH_ok ⟨ct51_ok, trivial⟩ trivial
@[reducible] def p57_2 : Pat := Pat.mk [(0, .c (.hole (.list (.list (.int .i64))))), (1, .c (.hole (.int .i64))), (6, .c (.sl0 0 (.list (.int .i64)))), (7, .c (.sl0 1 (.int .i64))), (8, .c (.hole (.int .i64))), (9, .c (.sl0 2 (.list (.int .i64)))), (10, .c (.sl0 3 (.int .i64))), (11, .c (.hole (.int .i64))), (12, .c (.hole (.int .i64)))] [(0, .arr (.list (.int .i64)) false), (1, .arr (.int .i64) false), (2, .arr (.list (.int .i64)) false), (3, .arr (.int .i64) false)] [.slot 6, .slot 7, .slot 9, .slot 10] []
@[reducible] def x57_2 : Outs := [(.exit 4, Pat.mk [(0, .c (.hole (.list (.list (.int .i64))))), (1, .c (.hole (.int .i64))), (6, .c (.sl0 0 (.list (.int .i64)))), (7, .c (.sl0 1 (.int .i64))), (8, .c (.hole (.int .i64))), (9, .c (.sl0 2 (.list (.int .i64)))), (10, .c (.sl0 3 (.int .i64))), (11, .c (.hole (.int .i64)))] [(0, .arr (.list (.int .i64)) false), (1, .arr (.int .i64) false), (2, .arr (.list (.int .i64)) false), (3, .arr (.int .i64) false)] [.slot 6, .slot 7, .slot 9, .slot 10] [])]
noncomputable def b57_2 : D prog 101 none 0 := (.seq (.seq (.reg [.op (some 40) none (.mv (.t 12)), .op (some 41) none (.mv (.t 0)), .op (some 42) none (.mv (.t 8)), .op (some 43) none (.idx 1 (.t 41) (.t 42)), .op (some 44) none (.load false 1 (.t 43)), .op (some 45) none (.len (.t 44)), .op (some 46) none (.bin .leq (.t 40) (.t 45)), .op (some 47) none (.mv (.t 46)), .op (some 48) (some (47, true)) (.mv (.t 12)), .op (some 49) (some (47, true)) (.mv (.t 11)), .op (some 50) (some (47, true)) (.bin .leq (.t 48) (.t 49)), .op (some 51) none (.pick (.t 47) (.t 50) (.c (.tf false)))]) (.cond ( .t 51) .skip (.exit 4))) (.seq (.block 5 (.seq (.draw [[], [], [], [1, 2], [0, 1, 2, 3], [0, 1, 2, 3, 4], [], [], [6, 7], [6, 7, 8], [], [6, 7, 8, 9, 10], [0, 1, 2, 3, 4, 5, 6, 7, 8, 9, 10, 11], [0, 1, 2, 3, 4, 5, 6, 7, 8, 9, 10, 11, 12]] [.op (some 54) none (.mv (.t 7)), .op (some 55) none (.mv (.t 11)), .op (some 56) none (.mv (.t 12)), .op (some 57) none (.bin .sub (.t 55) (.t 56)), .op (some 58) none (.idx 1 (.t 54) (.t 57)), .op (some 59) none (.load false 1 (.t 58)), .op (some 60) none (.mv (.t 0)), .op (some 61) none (.mv (.t 8)), .op (some 62) none (.idx 1 (.t 60) (.t 61)), .op (some 63) none (.load false 1 (.t 62)), .op (some 64) none (.mv (.t 12)), .call (some 65) none (.c (.fn 51 [] [])) [.t 63, .t 64] [some (.list (.int .i64)), some (.int .i64)], .op (some 66) none (.bin .add (.t 59) (.t 65)), .op (some 13) none (.mv (.t 66))]) (.seq (.reg [.op (some 67) none (.mv (.t 13)), .op (some 68) none (.mv (.t 10)), .op (some 69) none (.mv (.t 11)), .op (some 70) none (.idx 1 (.t 68) (.t 69)), .op (some 71) none (.load false 1 (.t 70)), .op (some 72) none (.bin .gtr (.t 67) (.t 71))]) (.cond ( .t 72) (.reg [.op (some 73) none (.mv (.t 9)), .op (some 74) none (.mv (.t 11)), .op (some 75) none (.mv (.t 10)), .op (some 76) none (.mv (.t 11)), .op (some 77) none (.bslice (.int .i64) []), .op (some 78) none (.mv (.t 6)), .op (some 79) none (.mv (.t 11)), .op (some 80) none (.mv (.t 12)), .op (some 81) none (.bin .sub (.t 79) (.t 80)), .op (some 82) none (.idx 1 (.t 78) (.t 81)), .op (some 83) none (.load false 1 (.t 82)), .op (some 84) none (.append 1 (.t 77) (.t 83)), .op (some 85) none (.mv (.t 12)), .op (some 86) none (.bslice (.int .i64) [.t 85]), .op (some 87) none (.append 1 (.t 84) (.t 86)), .op (some 88) none (.mv (.t 13)), .op (some 89) none (.idx 1 (.t 73) (.t 74)), .op none none (.store 1 (.t 89) (.t 87)), .op (some 90) none (.idx 1 (.t 75) (.t 76)), .op none none (.store 1 (.t 90) (.t 88))]) .skip)))) (.reg [.op (some 52) none (.mv (.t 12)), .op (some 53) none (.bin .add (.t 52) (.c (.int .i64 (Int.ofNat 1)))), .op (some 12) none (.mv (.t 53))])))
noncomputable def g57_2 (v0 : List (List Int)) (v1 : Int) (nv6 : Nat) (nv7 : Nat) (v8 : Int) (nv9 : Nat) (nv10 : Nat) (v11 : Int) (v12 : Int) (b0 : List (List Int)) (b1 : List Int) (b2 : List (List Int)) (b3 : List Int) : Option ((List (List Int) × Int × Nat × Nat × Int × Nat × Nat × Int × Int × List (List Int) × List Int × List (List Int) × List Int × Unit) ⊕ ((List (List Int) × Int × Nat × Nat × Int × Nat × Nat × Int × List (List Int) × List Int × List (List Int) × List Int × Unit))) :=
  need (inb v8 (((v0).length : Nat) : Int)) (
  brO (decide (v12 ≤ (((((v0).getD (Int.toNat v8) [])).length : Nat) : Int))) (
    brO (decide (v12 ≤ v11)) (
      need (rng .i64 (v11 - v12)) (
      need (inb (v11 - v12) ((nv7 : Nat) : Int)) (
      need (decide (((0 : Nat) + (Int.toNat (v11 - v12))) < (b1).length)) (
      need (inb v8 (((v0).length : Nat) : Int)) (
      bindO (F51 ((v0).getD (Int.toNat v8) []) v12) fun y0 =>
      need (rng .i64 (((b1).getD ((0 : Nat) + (Int.toNat (v11 - v12))) (0 : Int)) + y0.1)) (
      need (inb v11 ((nv10 : Nat) : Int)) (
      need (decide (((0 : Nat) + (Int.toNat v11)) < (b3).length)) (
      brO (decide (((b3).getD ((0 : Nat) + (Int.toNat v11)) (0 : Int)) < (((b1).getD ((0 : Nat) + (Int.toNat (v11 - v12))) (0 : Int)) + y0.1))) (
        need (rng .i64 (v11 - v12)) (
        need (inb (v11 - v12) ((nv6 : Nat) : Int)) (
        need (decide (((0 : Nat) + (Int.toNat (v11 - v12))) < (b0).length)) (
        need (decide (((0 : Nat) + (((b0).getD ((0 : Nat) + (Int.toNat (v11 - v12))) [])).length) < bigL)) (
        need (decide ((((0 : Nat) + (((b0).getD ((0 : Nat) + (Int.toNat (v11 - v12))) [])).length) + (((((v12 :: [])).drop (0 : Nat)).take (1 : Nat))).length) < bigL)) (
        need (inb v11 ((nv9 : Nat) : Int)) (
        need (decide (((0 : Nat) + (Int.toNat v11)) < (b2).length)) (
        need (inb v11 ((nv10 : Nat) : Int)) (
        need (decide (((0 : Nat) + (Int.toNat v11)) < (b3).length)) (
        need (rng .i64 (v12 + (1 : Int))) (
        some (.inl (v0, (v1, (nv6, (nv7, (v8, (nv9, (nv10, (v11, ((v12 + (1 : Int)), (b0, (b1, (((b2).set ((0 : Nat) + (Int.toNat v11)) ((((((((((([]).drop (0 : Nat)).take (0 : Nat)) ++ ((b0).getD ((0 : Nat) + (Int.toNat (v11 - v12))) []))).drop (0 : Nat)).take ((0 : Nat) + (((b0).getD ((0 : Nat) + (Int.toNat (v11 - v12))) [])).length)) ++ ((((v12 :: [])).drop (0 : Nat)).take (1 : Nat)))).drop (0 : Nat)).take (((0 : Nat) + (((b0).getD ((0 : Nat) + (Int.toNat (v11 - v12))) [])).length) + (((((v12 :: [])).drop (0 : Nat)).take (1 : Nat))).length))), (((b3).set ((0 : Nat) + (Int.toNat v11)) (((b1).getD ((0 : Nat) + (Int.toNat (v11 - v12))) (0 : Int)) + y0.1)), ()))))))))))))))))))))))))) (
        need (rng .i64 (v12 + (1 : Int))) (
        some (.inl (v0, (v1, (nv6, (nv7, (v8, (nv9, (nv10, (v11, ((v12 + (1 : Int)), (b0, (b1, (b2, (b3, ())))))))))))))))))))))))) (
      some (.inr (v0, (v1, (nv6, (nv7, (v8, (nv9, (nv10, (v11, (b0, (b1, (b2, (b3, ()))))))))))))))) (
    some (.inr (v0, (v1, (nv6, (nv7, (v8, (nv9, (nv10, (v11, (b0, (b1, (b2, (b3, ())))))))))))))))
def Cg57_2 (v0 : List (List Int)) (v1 : Int) (nv6 : Nat) (nv7 : Nat) (v8 : Int) (nv9 : Nat) (nv10 : Nat) (v11 : Int) (v12 : Int) (b0 : List (List Int)) (b1 : List Int) (b2 : List (List Int)) (b3 : List Int) : Option ((List (List Int) × Int × Nat × Nat × Int × Nat × Nat × Int × Int × List (List Int) × List Int × List (List Int) × List Int × Unit) ⊕ ((List (List Int) × Int × Nat × Nat × Int × Nat × Nat × Int × List (List Int) × List Int × List (List Int) × List Int × Unit))) :=
  needC (inb v8 (((v0).length : Nat) : Int)) (
  brC (decide (v12 ≤ (((((v0).getD (Int.toNat v8) [])).length : Nat) : Int))) (
    brC (decide (v12 ≤ v11)) (
      needC (rng .i64 (v11 - v12)) (
      needC (inb (v11 - v12) ((nv7 : Nat) : Int)) (
      needC (decide (((0 : Nat) + (Int.toNat (v11 - v12))) < (b1).length)) (
      needC (inb v8 (((v0).length : Nat) : Int)) (
      bindC (CF51 ((v0).getD (Int.toNat v8) []) v12) fun y0 =>
      needC (rng .i64 (((b1).getD ((0 : Nat) + (Int.toNat (v11 - v12))) (0 : Int)) + y0.1)) (
      needC (inb v11 ((nv10 : Nat) : Int)) (
      needC (decide (((0 : Nat) + (Int.toNat v11)) < (b3).length)) (
      brC (decide (((b3).getD ((0 : Nat) + (Int.toNat v11)) (0 : Int)) < (((b1).getD ((0 : Nat) + (Int.toNat (v11 - v12))) (0 : Int)) + y0.1))) (
        needC (rng .i64 (v11 - v12)) (
        needC (inb (v11 - v12) ((nv6 : Nat) : Int)) (
        needC (decide (((0 : Nat) + (Int.toNat (v11 - v12))) < (b0).length)) (
        needC (decide (((0 : Nat) + (((b0).getD ((0 : Nat) + (Int.toNat (v11 - v12))) [])).length) < bigL)) (
        needC (decide ((((0 : Nat) + (((b0).getD ((0 : Nat) + (Int.toNat (v11 - v12))) [])).length) + (((((v12 :: [])).drop (0 : Nat)).take (1 : Nat))).length) < bigL)) (
        needC (inb v11 ((nv9 : Nat) : Int)) (
        needC (decide (((0 : Nat) + (Int.toNat v11)) < (b2).length)) (
        needC (inb v11 ((nv10 : Nat) : Int)) (
        needC (decide (((0 : Nat) + (Int.toNat v11)) < (b3).length)) (
        needC (rng .i64 (v12 + (1 : Int))) (
        some (.inl (v0, (v1, (nv6, (nv7, (v8, (nv9, (nv10, (v11, ((v12 + (1 : Int)), (b0, (b1, (((b2).set ((0 : Nat) + (Int.toNat v11)) ((((((((((([]).drop (0 : Nat)).take (0 : Nat)) ++ ((b0).getD ((0 : Nat) + (Int.toNat (v11 - v12))) []))).drop (0 : Nat)).take ((0 : Nat) + (((b0).getD ((0 : Nat) + (Int.toNat (v11 - v12))) [])).length)) ++ ((((v12 :: [])).drop (0 : Nat)).take (1 : Nat)))).drop (0 : Nat)).take (((0 : Nat) + (((b0).getD ((0 : Nat) + (Int.toNat (v11 - v12))) [])).length) + (((((v12 :: [])).drop (0 : Nat)).take (1 : Nat))).length))), (((b3).set ((0 : Nat) + (Int.toNat v11)) (((b1).getD ((0 : Nat) + (Int.toNat (v11 - v12))) (0 : Int)) + y0.1)), ()))))))))))))))))))))))))) (
        needC (rng .i64 (v12 + (1 : Int))) (
        some (.inl (v0, (v1, (nv6, (nv7, (v8, (nv9, (nv10, (v11, ((v12 + (1 : Int)), (b0, (b1, (b2, (b3, ())))))))))))))))))))))))) (
      some (.inr (v0, (v1, (nv6, (nv7, (v8, (nv9, (nv10, (v11, (b0, (b1, (b2, (b3, ()))))))))))))))) (
    some (.inr (v0, (v1, (nv6, (nv7, (v8, (nv9, (nv10, (v11, (b0, (b1, (b2, (b3, ())))))))))))))))
theorem Cg57_2_le (v0 : List (List Int)) (v1 : Int) (nv6 : Nat) (nv7 : Nat) (v8 : Int) (nv9 : Nat) (nv10 : Nat) (v11 : Int) (v12 : Int) (b0 : List (List Int)) (b1 : List Int) (b2 : List (List Int)) (b3 : List Int) : Le (Cg57_2 v0 v1 nv6 nv7 v8 nv9 nv10 v11 v12 b0 b1 b2 b3) (g57_2 v0 v1 nv6 nv7 v8 nv9 nv10 v11 v12 b0 b1 b2 b3) := (Le.nd (Le.br (Le.br (Le.nd (Le.nd (Le.nd (Le.nd (Le.bd (CF51_le ..) fun y0 => (Le.nd (Le.nd (Le.nd (Le.br (Le.nd (Le.nd (Le.nd (Le.nd (Le.nd (Le.nd (Le.nd (Le.nd (Le.nd (Le.nd Le.r)))))))))) (Le.nd Le.r)))))))))) Le.r) Le.r))
theorem s57_2 : ∀ x, roundE (kzO (p57_2.T ⊕ x57_2.T)) cx57 ar0 [] p57_2 x57_2 (b57_2) (fun y => some (.inl y)) (fun b => some (.inr b)) x = g57_2 x.1 x.2.1 x.2.2.1 x.2.2.2.1 x.2.2.2.2.1 x.2.2.2.2.2.1 x.2.2.2.2.2.2.1 x.2.2.2.2.2.2.2.1 x.2.2.2.2.2.2.2.2.1 x.2.2.2.2.2.2.2.2.2.1 x.2.2.2.2.2.2.2.2.2.2.1 x.2.2.2.2.2.2.2.2.2.2.2.1 x.2.2.2.2.2.2.2.2.2.2.2.2.1 := by intro x; kernel_rfl
noncomputable def L57_2 : LoopS prog 101 none 0 := mkLoop mixed cx57 cx57_ok [] rfl p57_2 x57_2 rfl (b57_2) (fun x => g57_2 x.1 x.2.1 x.2.2.1 x.2.2.2.1 x.2.2.2.2.1 x.2.2.2.2.2.1 x.2.2.2.2.2.2.1 x.2.2.2.2.2.2.2.1 x.2.2.2.2.2.2.2.2.1 x.2.2.2.2.2.2.2.2.2.1 x.2.2.2.2.2.2.2.2.2.2.1 x.2.2.2.2.2.2.2.2.2.2.2.1 x.2.2.2.2.2.2.2.2.2.2.2.2.1) (s57_2)
@[reducible] def p57_1 : Pat := Pat.mk [(0, .c (.hole (.list (.list (.int .i64))))), (1, .c (.hole (.int .i64))), (6, .c (.sl0 0 (.list (.int .i64)))), (7, .c (.sl0 1 (.int .i64))), (8, .c (.hole (.int .i64))), (9, .c (.sl0 2 (.list (.int .i64)))), (10, .c (.sl0 3 (.int .i64))), (11, .c (.hole (.int .i64)))] [(0, .arr (.list (.int .i64)) false), (1, .arr (.int .i64) false), (2, .arr (.list (.int .i64)) false), (3, .arr (.int .i64) false)] [.slot 6, .slot 7, .slot 9, .slot 10] []
@[reducible] def x57_1 : Outs := [(.exit 2, Pat.mk [(0, .c (.hole (.list (.list (.int .i64))))), (1, .c (.hole (.int .i64))), (8, .c (.hole (.int .i64))), (9, .c (.sl0 0 (.list (.int .i64)))), (10, .c (.sl0 1 (.int .i64)))] [(0, .arr (.list (.int .i64)) false), (1, .arr (.int .i64) false)] [.slot 9, .slot 10] [])]
noncomputable def b57_1 : D prog 101 none 0 := (.seq (.seq (.reg [.op (some 32) none (.mv (.t 11)), .op (some 33) none (.mv (.t 1)), .op (some 34) none (.bin .leq (.t 32) (.t 33))]) (.cond ( .t 34) .skip (.exit 2))) (.seq (.block 3 (.seq (.reg [.op (some 37) none (.mv (.t 10)), .op (some 38) none (.mv (.t 11)), .op (some 39) none (.idx 1 (.t 37) (.t 38)), .op none none (.store 1 (.t 39) (.c (.int .i64 (Int.negSucc 0))))]) (.seq (.reg [.op (some 12) none (.mv (.c (.int .i64 (Int.ofNat 0))))]) (.block 4 (.loop L57_2))))) (.reg [.op (some 35) none (.mv (.t 11)), .op (some 36) none (.bin .add (.t 35) (.c (.int .i64 (Int.ofNat 1)))), .op (some 11) none (.mv (.t 36))])))
noncomputable def g57_1 (v0 : List (List Int)) (v1 : Int) (nv6 : Nat) (nv7 : Nat) (v8 : Int) (nv9 : Nat) (nv10 : Nat) (v11 : Int) (b0 : List (List Int)) (b1 : List Int) (b2 : List (List Int)) (b3 : List Int) : Option ((List (List Int) × Int × Nat × Nat × Int × Nat × Nat × Int × List (List Int) × List Int × List (List Int) × List Int × Unit) ⊕ ((List (List Int) × Int × Int × Nat × Nat × List (List Int) × List Int × Unit))) :=
  brO (decide (v11 ≤ v1)) (
    need (inb v11 ((nv10 : Nat) : Int)) (
    need (decide (((0 : Nat) + (Int.toNat v11)) < (b3).length)) (
    bindO (iter (fun x => g57_2 x.1 x.2.1 x.2.2.1 x.2.2.2.1 x.2.2.2.2.1 x.2.2.2.2.2.1 x.2.2.2.2.2.2.1 x.2.2.2.2.2.2.2.1 x.2.2.2.2.2.2.2.2.1 x.2.2.2.2.2.2.2.2.2.1 x.2.2.2.2.2.2.2.2.2.2.1 x.2.2.2.2.2.2.2.2.2.2.2.1 x.2.2.2.2.2.2.2.2.2.2.2.2.1) (v0, (v1, (nv6, (nv7, (v8, (nv9, (nv10, (v11, ((0 : Int), (b0, (b1, (b2, (((b3).set ((0 : Nat) + (Int.toNat v11)) (-1 : Int)), ())))))))))))))) fun z1 =>
    need (rng .i64 (z1.2.2.2.2.2.2.2.1 + (1 : Int))) (
    some (.inl (z1.1, (z1.2.1, (z1.2.2.1, (z1.2.2.2.1, (z1.2.2.2.2.1, (z1.2.2.2.2.2.1, (z1.2.2.2.2.2.2.1, ((z1.2.2.2.2.2.2.2.1 + (1 : Int)), (z1.2.2.2.2.2.2.2.2.1, (z1.2.2.2.2.2.2.2.2.2.1, (z1.2.2.2.2.2.2.2.2.2.2.1, (z1.2.2.2.2.2.2.2.2.2.2.2.1, ()))))))))))))))))) (
    some (.inr (v0, (v1, (v8, (nv9, (nv10, (b2, (b3, ())))))))))
def Cg57_1 (v0 : List (List Int)) (v1 : Int) (nv6 : Nat) (nv7 : Nat) (v8 : Int) (nv9 : Nat) (nv10 : Nat) (v11 : Int) (b0 : List (List Int)) (b1 : List Int) (b2 : List (List Int)) (b3 : List Int) : Option ((List (List Int) × Int × Nat × Nat × Int × Nat × Nat × Int × List (List Int) × List Int × List (List Int) × List Int × Unit) ⊕ ((List (List Int) × Int × Int × Nat × Nat × List (List Int) × List Int × Unit))) :=
  brC (decide (v11 ≤ v1)) (
    needC (inb v11 ((nv10 : Nat) : Int)) (
    needC (decide (((0 : Nat) + (Int.toNat v11)) < (b3).length)) (
    bindC (iterF (fun x => Cg57_2 x.1 x.2.1 x.2.2.1 x.2.2.2.1 x.2.2.2.2.1 x.2.2.2.2.2.1 x.2.2.2.2.2.2.1 x.2.2.2.2.2.2.2.1 x.2.2.2.2.2.2.2.2.1 x.2.2.2.2.2.2.2.2.2.1 x.2.2.2.2.2.2.2.2.2.2.1 x.2.2.2.2.2.2.2.2.2.2.2.1 x.2.2.2.2.2.2.2.2.2.2.2.2.1) 1000000 (v0, (v1, (nv6, (nv7, (v8, (nv9, (nv10, (v11, ((0 : Int), (b0, (b1, (b2, (((b3).set ((0 : Nat) + (Int.toNat v11)) (-1 : Int)), ())))))))))))))) fun z1 =>
    needC (rng .i64 (z1.2.2.2.2.2.2.2.1 + (1 : Int))) (
    some (.inl (z1.1, (z1.2.1, (z1.2.2.1, (z1.2.2.2.1, (z1.2.2.2.2.1, (z1.2.2.2.2.2.1, (z1.2.2.2.2.2.2.1, ((z1.2.2.2.2.2.2.2.1 + (1 : Int)), (z1.2.2.2.2.2.2.2.2.1, (z1.2.2.2.2.2.2.2.2.2.1, (z1.2.2.2.2.2.2.2.2.2.2.1, (z1.2.2.2.2.2.2.2.2.2.2.2.1, ()))))))))))))))))) (
    some (.inr (v0, (v1, (v8, (nv9, (nv10, (b2, (b3, ())))))))))
theorem Cg57_1_le (v0 : List (List Int)) (v1 : Int) (nv6 : Nat) (nv7 : Nat) (v8 : Int) (nv9 : Nat) (nv10 : Nat) (v11 : Int) (b0 : List (List Int)) (b1 : List Int) (b2 : List (List Int)) (b3 : List Int) : Le (Cg57_1 v0 v1 nv6 nv7 v8 nv9 nv10 v11 b0 b1 b2 b3) (g57_1 v0 v1 nv6 nv7 v8 nv9 nv10 v11 b0 b1 b2 b3) := (Le.br (Le.nd (Le.nd (Le.bd (Le.iter fun x => Cg57_2_le ..) fun z1 => (Le.nd Le.r)))) Le.r)
theorem s57_1 : ∀ x, roundE (kzO (p57_1.T ⊕ x57_1.T)) cx57 ar0 [] p57_1 x57_1 (b57_1) (fun y => some (.inl y)) (fun b => some (.inr b)) x = g57_1 x.1 x.2.1 x.2.2.1 x.2.2.2.1 x.2.2.2.2.1 x.2.2.2.2.2.1 x.2.2.2.2.2.2.1 x.2.2.2.2.2.2.2.1 x.2.2.2.2.2.2.2.2.1 x.2.2.2.2.2.2.2.2.2.1 x.2.2.2.2.2.2.2.2.2.2.1 x.2.2.2.2.2.2.2.2.2.2.2.1 := by intro x; kernel_rfl
noncomputable def L57_1 : LoopS prog 101 none 0 := mkLoop mixed cx57 cx57_ok [] rfl p57_1 x57_1 rfl (b57_1) (fun x => g57_1 x.1 x.2.1 x.2.2.1 x.2.2.2.1 x.2.2.2.2.1 x.2.2.2.2.2.1 x.2.2.2.2.2.2.1 x.2.2.2.2.2.2.2.1 x.2.2.2.2.2.2.2.2.1 x.2.2.2.2.2.2.2.2.2.1 x.2.2.2.2.2.2.2.2.2.2.1 x.2.2.2.2.2.2.2.2.2.2.2.1) (s57_1)
@[reducible] def p57_0 : Pat := Pat.mk [(0, .c (.hole (.list (.list (.int .i64))))), (1, .c (.hole (.int .i64))), (6, .c (.sl0 0 (.list (.int .i64)))), (7, .c (.sl0 1 (.int .i64))), (8, .c (.hole (.int .i64)))] [(0, .arr (.list (.int .i64)) false), (1, .arr (.int .i64) false)] [.slot 6, .slot 7] []
@[reducible] def x57_0 : Outs := [(.exit 0, Pat.mk [(1, .c (.hole (.int .i64))), (6, .c (.sl0 0 (.list (.int .i64)))), (7, .c (.sl0 1 (.int .i64)))] [(0, .arr (.list (.int .i64)) false), (1, .arr (.int .i64) false)] [.slot 6, .slot 7] [])]
noncomputable def b57_0 : D prog 101 none 0 := (.seq (.seq (.reg [.op (some 20) none (.mv (.t 8)), .op (some 21) none (.mv (.t 0)), .op (some 22) none (.len (.t 21)), .op (some 23) none (.bin .lss (.t 20) (.t 22))]) (.cond ( .t 23) .skip (.exit 0))) (.seq (.block 1 (.seq (.draw [[], [0], [0, 1], [], [3], [3, 4], [0, 1, 2], [0, 1, 2, 3, 4, 5, 6]] [.op (some 26) none (.mv (.t 1)), .op (some 27) none (.bin .add (.t 26) (.c (.int .i64 (Int.ofNat 1)))), .op (some 28) none (.mkslice (.list (.int .i64)) (.t 27)), .op (some 29) none (.mv (.t 1)), .op (some 30) none (.bin .add (.t 29) (.c (.int .i64 (Int.ofNat 1)))), .op (some 31) none (.mkslice (.int .i64) (.t 30)), .op (some 9) none (.mv (.t 28)), .op (some 10) none (.mv (.t 31))]) (.seq (.seq (.reg [.op (some 11) none (.mv (.c (.int .i64 (Int.ofNat 0))))]) (.block 2 (.loop L57_1))) (.reg [.op (some 91) none (.mv (.t 9)), .op (some 92) none (.mv (.t 10)), .op (some 6) none (.mv (.t 91)), .op (some 7) none (.mv (.t 92))])))) (.reg [.op (some 24) none (.mv (.t 8)), .op (some 25) none (.bin .add (.t 24) (.c (.int .i64 (Int.ofNat 1)))), .op (some 8) none (.mv (.t 25))])))
noncomputable def g57_0 (v0 : List (List Int)) (v1 : Int) (nv6 : Nat) (nv7 : Nat) (v8 : Int) (b0 : List (List Int)) (b1 : List Int) : Option ((List (List Int) × Int × Nat × Nat × Int × List (List Int) × List Int × Unit) ⊕ ((Int × Nat × Nat × List (List Int) × List Int × Unit))) :=
  brO (decide (v8 < (((v0).length : Nat) : Int))) (
    need (rng .i64 (v1 + (1 : Int))) (
    need (inb (v1 + (1 : Int)) ((bigL : Nat) : Int)) (
    need (rng .i64 (v1 + (1 : Int))) (
    need (inb (v1 + (1 : Int)) ((bigL : Nat) : Int)) (
    bindO (iter (fun x => g57_1 x.1 x.2.1 x.2.2.1 x.2.2.2.1 x.2.2.2.2.1 x.2.2.2.2.2.1 x.2.2.2.2.2.2.1 x.2.2.2.2.2.2.2.1 x.2.2.2.2.2.2.2.2.1 x.2.2.2.2.2.2.2.2.2.1 x.2.2.2.2.2.2.2.2.2.2.1 x.2.2.2.2.2.2.2.2.2.2.2.1) (v0, (v1, (nv6, (nv7, (v8, ((Int.toNat (v1 + (1 : Int))), ((Int.toNat (v1 + (1 : Int))), ((0 : Int), (b0, (b1, ((List.replicate (Int.toNat (v1 + (1 : Int))) []), ((List.replicate (Int.toNat (v1 + (1 : Int))) (0 : Int)), ()))))))))))))) fun z2 =>
    need (rng .i64 (z2.2.2.1 + (1 : Int))) (
    some (.inl (z2.1, (z2.2.1, (z2.2.2.2.1, (z2.2.2.2.2.1, ((z2.2.2.1 + (1 : Int)), (z2.2.2.2.2.2.1, (z2.2.2.2.2.2.2.1, ())))))))))))))) (
    some (.inr (v1, (nv6, (nv7, (b0, (b1, ())))))))
def Cg57_0 (v0 : List (List Int)) (v1 : Int) (nv6 : Nat) (nv7 : Nat) (v8 : Int) (b0 : List (List Int)) (b1 : List Int) : Option ((List (List Int) × Int × Nat × Nat × Int × List (List Int) × List Int × Unit) ⊕ ((Int × Nat × Nat × List (List Int) × List Int × Unit))) :=
  brC (decide (v8 < (((v0).length : Nat) : Int))) (
    needC (rng .i64 (v1 + (1 : Int))) (
    needC (inb (v1 + (1 : Int)) ((bigL : Nat) : Int)) (
    needC (rng .i64 (v1 + (1 : Int))) (
    needC (inb (v1 + (1 : Int)) ((bigL : Nat) : Int)) (
    bindC (iterF (fun x => Cg57_1 x.1 x.2.1 x.2.2.1 x.2.2.2.1 x.2.2.2.2.1 x.2.2.2.2.2.1 x.2.2.2.2.2.2.1 x.2.2.2.2.2.2.2.1 x.2.2.2.2.2.2.2.2.1 x.2.2.2.2.2.2.2.2.2.1 x.2.2.2.2.2.2.2.2.2.2.1 x.2.2.2.2.2.2.2.2.2.2.2.1) 1000000 (v0, (v1, (nv6, (nv7, (v8, ((Int.toNat (v1 + (1 : Int))), ((Int.toNat (v1 + (1 : Int))), ((0 : Int), (b0, (b1, ((List.replicate (Int.toNat (v1 + (1 : Int))) []), ((List.replicate (Int.toNat (v1 + (1 : Int))) (0 : Int)), ()))))))))))))) fun z2 =>
    needC (rng .i64 (z2.2.2.1 + (1 : Int))) (
    some (.inl (z2.1, (z2.2.1, (z2.2.2.2.1, (z2.2.2.2.2.1, ((z2.2.2.1 + (1 : Int)), (z2.2.2.2.2.2.1, (z2.2.2.2.2.2.2.1, ())))))))))))))) (
    some (.inr (v1, (nv6, (nv7, (b0, (b1, ())))))))
theorem Cg57_0_le (v0 : List (List Int)) (v1 : Int) (nv6 : Nat) (nv7 : Nat) (v8 : Int) (b0 : List (List Int)) (b1 : List Int) : Le (Cg57_0 v0 v1 nv6 nv7 v8 b0 b1) (g57_0 v0 v1 nv6 nv7 v8 b0 b1) := (Le.br (Le.nd (Le.nd (Le.nd (Le.nd (Le.bd (Le.iter fun x => Cg57_1_le ..) fun z2 => (Le.nd Le.r)))))) Le.r)
theorem s57_0 : ∀ x, roundE (kzO (p57_0.T ⊕ x57_0.T)) cx57 ar0 [] p57_0 x57_0 (b57_0) (fun y => some (.inl y)) (fun b => some (.inr b)) x = g57_0 x.1 x.2.1 x.2.2.1 x.2.2.2.1 x.2.2.2.2.1 x.2.2.2.2.2.1 x.2.2.2.2.2.2.1 := by intro x; kernel_rfl
noncomputable def L57_0 : LoopS prog 101 none 0 := mkLoop mixed cx57 cx57_ok [] rfl p57_0 x57_0 rfl (b57_0) (fun x => g57_0 x.1 x.2.1 x.2.2.1 x.2.2.2.1 x.2.2.2.2.1 x.2.2.2.2.2.1 x.2.2.2.2.2.2.1) (s57_0)
noncomputable def dd57 : D prog 101 none 0 := (.seq (.reg [.op (some 4) none (.mv (.c .nsl)), .op (some 5) none (.mv (.c (.int .i64 (Int.ofNat 0))))]) (.seq (.reg [.op (some 14) none (.mv (.t 1)), .op (some 15) none (.bin .add (.t 14) (.c (.int .i64 (Int.ofNat 1)))), .op (some 16) none (.mkslice (.list (.int .i64)) (.t 15)), .op (some 6) none (.mv (.t 16))]) (.seq (.reg [.op (some 17) none (.mv (.t 1)), .op (some 18) none (.bin .add (.t 17) (.c (.int .i64 (Int.ofNat 1)))), .op (some 19) none (.mkslice (.int .i64) (.t 18)), .op (some 7) none (.mv (.t 19))]) (.seq (.seq (.reg [.op (some 8) none (.mv (.c (.int .i64 (Int.ofNat 0))))]) (.block 0 (.loop L57_0))) (.seq (.draw [[], [], [0, 1], [0, 1, 2], [], [], [4, 5], [4, 5, 6], [0, 1, 2, 3], [0, 1, 2, 3, 4, 5, 6, 7, 8]] [.op (some 93) none (.mv (.t 6)), .op (some 94) none (.mv (.t 1)), .op (some 95) none (.idx 1 (.t 93) (.t 94)), .op (some 96) none (.load false 1 (.t 95)), .op (some 97) none (.mv (.t 7)), .op (some 98) none (.mv (.t 1)), .op (some 99) none (.idx 1 (.t 97) (.t 98)), .op (some 100) none (.load false 1 (.t 99)), .op (some 4) none (.mv (.t 96)), .op (some 5) none (.mv (.t 100))]) .ret)))))
noncomputable def F57 (a0 : List (List Int)) (a1 : Int) : Option (List Int × Int × Unit) :=
  need (rng .i64 (a1 + (1 : Int))) (
  need (inb (a1 + (1 : Int)) ((bigL : Nat) : Int)) (
  need (rng .i64 (a1 + (1 : Int))) (
  need (inb (a1 + (1 : Int)) ((bigL : Nat) : Int)) (
  bindO (iter (fun x => g57_0 x.1 x.2.1 x.2.2.1 x.2.2.2.1 x.2.2.2.2.1 x.2.2.2.2.2.1 x.2.2.2.2.2.2.1) (a0, (a1, ((Int.toNat (a1 + (1 : Int))), ((Int.toNat (a1 + (1 : Int))), ((0 : Int), ((List.replicate (Int.toNat (a1 + (1 : Int))) []), ((List.replicate (Int.toNat (a1 + (1 : Int))) (0 : Int)), ())))))))) fun z3 =>
  need (inb z3.1 ((z3.2.1 : Nat) : Int)) (
  need (decide (((0 : Nat) + (Int.toNat z3.1)) < (z3.2.2.2.1).length)) (
  need (inb z3.1 ((z3.2.2.1 : Nat) : Int)) (
  need (decide (((0 : Nat) + (Int.toNat z3.1)) < (z3.2.2.2.2.1).length)) (
  some (((z3.2.2.2.1).getD ((0 : Nat) + (Int.toNat z3.1)) []), (((z3.2.2.2.2.1).getD ((0 : Nat) + (Int.toNat z3.1)) (0 : Int)), ()))))))))))
def CF57 (a0 : List (List Int)) (a1 : Int) : Option (List Int × Int × Unit) :=
  needC (rng .i64 (a1 + (1 : Int))) (
  needC (inb (a1 + (1 : Int)) ((bigL : Nat) : Int)) (
  needC (rng .i64 (a1 + (1 : Int))) (
  needC (inb (a1 + (1 : Int)) ((bigL : Nat) : Int)) (
  bindC (iterF (fun x => Cg57_0 x.1 x.2.1 x.2.2.1 x.2.2.2.1 x.2.2.2.2.1 x.2.2.2.2.2.1 x.2.2.2.2.2.2.1) 1000000 (a0, (a1, ((Int.toNat (a1 + (1 : Int))), ((Int.toNat (a1 + (1 : Int))), ((0 : Int), ((List.replicate (Int.toNat (a1 + (1 : Int))) []), ((List.replicate (Int.toNat (a1 + (1 : Int))) (0 : Int)), ())))))))) fun z3 =>
  needC (inb z3.1 ((z3.2.1 : Nat) : Int)) (
  needC (decide (((0 : Nat) + (Int.toNat z3.1)) < (z3.2.2.2.1).length)) (
  needC (inb z3.1 ((z3.2.2.1 : Nat) : Int)) (
  needC (decide (((0 : Nat) + (Int.toNat z3.1)) < (z3.2.2.2.2.1).length)) (
  some (((z3.2.2.2.1).getD ((0 : Nat) + (Int.toNat z3.1)) []), (((z3.2.2.2.2.1).getD ((0 : Nat) + (Int.toNat z3.1)) (0 : Int)), ()))))))))))
theorem CF57_le (a0 : List (List Int)) (a1 : Int) : Le (CF57 a0 a1) (F57 a0 a1) := (Le.nd (Le.nd (Le.nd (Le.nd (Le.bd (Le.iter fun x => Cg57_0_le ..) fun z3 => (Le.nd (Le.nd (Le.nd (Le.nd Le.r)))))))))
theorem c57_ok : trF prog f57 = some ⟨101, 2, dd57.er, [.t 4, .t 5], [some (.list (.int .i64)), some (.int .i64)]⟩ := by kernel_rfl
noncomputable def ct57 : Ct := ⟨57, [.c (.hole (.list (.list (.int .i64)))), .c (.hole (.int .i64))], .tup [.hole (.list (.int .i64)), .hole (.int .i64)], fun x => F57 x.1 x.2.1⟩
theorem ct57_ok : ct57.Ok prog := ct_ok mixed cx57_ok func57 c57_ok (enters_of func57 rfl rfl) dd57 rfl rfl (fun x => by kernel_rfl)

/- 23 -/
noncomputable def cx23 : Cx := mkCxH [ct21, ct50, ct57] []
theorem cx23_ok : cx23.Ok prog := mkCxH_ok ⟨ct21_ok, ct50_ok, ct57_ok, trivial⟩ trivial
noncomputable def dd23 : D prog 30 none 0 := (.seq (.reg [.op (some 4) none (.mv (.c .nsl)), .op (some 5) none (.mv (.c (.int .i64 (Int.ofNat 0)))), .op (some 6) none (.mv (.c (.int .i64 (Int.ofNat 0))))]) (.seq (.reg [.op (some 10) none (.mv (.t 0)), .call (some 11) none (.c (.fn 21 [] [])) [.t 10] [some (.list (.list (.int .i64)))], .op (some 7) none (.mv (.t 11))]) (.seq (.seq (.reg [.op (some 12) none (.mv (.t 7)), .op (some 13) none (.bin .eql (.t 12) (.c (.int .i64 (Int.ofNat 0)))), .op (some 14) none (.mv (.t 13)), .op (some 15) (some (14, true)) (.mv (.t 1)), .call (some 16) (some (14, true)) (.c (.fn 50 [] [])) [.t 15, .c (.int .i64 (Int.ofNat 0)), .c (.int .i64 (Int.ofNat 200))] [some (.int .i64), some (.int .i64), some (.int .i64)], .op (some 17) (some (14, true)) (.not (.t 16)), .op (some 18) none (.pick (.t 14) (.t 17) (.c (.tf false)))]) (.cond ( .t 18) (.reg [.op (some 7) none (.mv (.c (.int .i64 (Int.ofNat 2))))]) .skip)) (.seq (.seq (.reg [.op (some 19) none (.mv (.t 7)), .op (some 20) none (.bin .neq (.t 19) (.c (.int .i64 (Int.ofNat 0))))]) (.cond ( .t 20) (.seq (.reg [.op (some 21) none (.mv (.t 7)), .op (some 4) none (.mv (.c .nsl)), .op (some 5) none (.mv (.c (.int .i64 (Int.ofNat 0)))), .op (some 6) none (.mv (.t 21))]) .ret) .skip)) (.seq (.reg [.op (some 23) none (.mv (.t 0)), .op (some 24) none (.mv (.t 1)), .call (some 25) none (.c (.fn 57 [] [])) [.t 23, .t 24] [some (.list (.list (.int .i64))), some (.int .i64)], .op (some 22) none (.mv (.t 25)), .op (some 26) none (.ext 0 (.t 22)), .op (some 27) none (.ext 1 (.t 22)), .op (some 8) none (.mv (.t 26)), .op (some 9) none (.mv (.t 27))]) (.seq (.reg [.op (some 28) none (.mv (.t 8)), .op (some 29) none (.mv (.t 9)), .op (some 4) none (.mv (.t 28)), .op (some 5) none (.mv (.t 29)), .op (some 6) none (.mv (.c (.int .i64 (Int.ofNat 0))))]) .ret))))))
noncomputable def F23 (a0 : List (List Int)) (a1 : Int) : Option (List Int × Int × Int × Unit) :=
  bindO (F21 a0) fun y0 =>
  brO (y0.1 == (0 : Int)) (
    bindO (F50 a1 (0 : Int) (200 : Int)) fun y1 =>
    brO (!y1.1) (
      brO (!((2 : Int) == (0 : Int))) (
        some ([], ((0 : Int), ((2 : Int), ())))) (
        bindO (F57 a0 a1) fun y2 =>
        some (y2.1, (y2.2.1, ((0 : Int), ()))))) (
      brO (!(y0.1 == (0 : Int))) (
        some ([], ((0 : Int), (y0.1, ())))) (
        bindO (F57 a0 a1) fun y3 =>
        some (y3.1, (y3.2.1, ((0 : Int), ())))))) (
    brO (!(y0.1 == (0 : Int))) (
      some ([], ((0 : Int), (y0.1, ())))) (
      bindO (F57 a0 a1) fun y4 =>
      some (y4.1, (y4.2.1, ((0 : Int), ())))))
def CF23 (a0 : List (List Int)) (a1 : Int) : Option (List Int × Int × Int × Unit) :=
  bindC (CF21 a0) fun y0 =>
  brC (y0.1 == (0 : Int)) (
    bindC (CF50 a1 (0 : Int) (200 : Int)) fun y1 =>
    brC (!y1.1) (
      brC (!((2 : Int) == (0 : Int))) (
        some ([], ((0 : Int), ((2 : Int), ())))) (
        bindC (CF57 a0 a1) fun y2 =>
        some (y2.1, (y2.2.1, ((0 : Int), ()))))) (
      brC (!(y0.1 == (0 : Int))) (
        some ([], ((0 : Int), (y0.1, ())))) (
        bindC (CF57 a0 a1) fun y3 =>
        some (y3.1, (y3.2.1, ((0 : Int), ())))))) (
    brC (!(y0.1 == (0 : Int))) (
      some ([], ((0 : Int), (y0.1, ())))) (
      bindC (CF57 a0 a1) fun y4 =>
      some (y4.1, (y4.2.1, ((0 : Int), ())))))
theorem CF23_le (a0 : List (List Int)) (a1 : Int) : Le (CF23 a0 a1) (F23 a0 a1) := (Le.bd (CF21_le ..) fun y0 => (Le.br (Le.bd (CF50_le ..) fun y1 => (Le.br (Le.br Le.r (Le.bd (CF57_le ..) fun y2 => Le.r)) (Le.br Le.r (Le.bd (CF57_le ..) fun y3 => Le.r)))) (Le.br Le.r (Le.bd (CF57_le ..) fun y4 => Le.r))))
theorem c23_ok : trF prog f23 = some ⟨30, 2, dd23.er, [.t 4, .t 5, .t 6], [some (.list (.int .i64)), some (.int .i64), some (.int .i64)]⟩ := by kernel_rfl
noncomputable def ct23 : Ct := ⟨23, [.c (.hole (.list (.list (.int .i64)))), .c (.hole (.int .i64))], .tup [.hole (.list (.int .i64)), .hole (.int .i64), .hole (.int .i64)], fun x => F23 x.1 x.2.1⟩
theorem ct23_ok : ct23.Ok prog := ct_ok mixed cx23_ok func23 c23_ok (enters_of func23 rfl rfl) dd23 rfl rfl (fun x => by kernel_rfl)

/- 60 -/
noncomputable def cx60 : Cx := mkCxH [] []
theorem cx60_ok : cx60.Ok prog := mkCxH_ok trivial trivial
@[reducible] def p60_1 : Pat := Pat.mk [(0, .c (.hole (.list (.list (.int .i64))))), (2, .c (.hole (.int .i64))), (7, .c (.hole (.int .i64))), (8, .c (.hole (.int .i64))), (9, .c (.hole (.int .i64)))] [] [] []
@[reducible] def x60_1 : Outs := [(.exit 2, Pat.mk [(0, .c (.hole (.list (.list (.int .i64))))), (2, .c (.hole (.int .i64))), (7, .c (.hole (.int .i64))), (8, .c (.hole (.int .i64)))] [] [] [])]
noncomputable def b60_1 : D prog 41 none 0 := (.seq (.seq (.reg [.op (some 19) none (.mv (.t 9)), .op (some 20) none (.mv (.t 0)), .op (some 21) none (.mv (.t 8)), .op (some 22) none (.idx 1 (.t 20) (.t 21)), .op (some 23) none (.load false 1 (.t 22)), .op (some 24) none (.len (.t 23)), .op (some 25) none (.bin .lss (.t 19) (.t 24))]) (.cond ( .t 25) .skip (.exit 2))) (.seq (.block 3 (.reg [.op (some 28) none (.mv (.t 7)), .op (some 29) none (.mv (.t 0)), .op (some 30) none (.mv (.t 8)), .op (some 31) none (.idx 1 (.t 29) (.t 30)), .op (some 32) none (.load false 1 (.t 31)), .op (some 33) none (.mv (.t 9)), .op (some 34) none (.idx 1 (.t 32) (.t 33)), .op (some 35) none (.load false 1 (.t 34)), .op (some 36) none (.mv (.t 2)), .op (some 37) none (.bin .sub (.t 35) (.t 36)), .op (some 38) none (.minmax true (.c (.int .i64 (Int.ofNat 0))) [.t 37]), .op (some 39) none (.bin .add (.t 28) (.t 38)), .op (some 7) none (.mv (.t 39))])) (.reg [.op (some 26) none (.mv (.t 9)), .op (some 27) none (.bin .add (.t 26) (.c (.int .i64 (Int.ofNat 1)))), .op (some 9) none (.mv (.t 27))])))
noncomputable def g60_1 (v0 : List (List Int)) (v2 : Int) (v7 : Int) (v8 : Int) (v9 : Int) : Option ((List (List Int) × Int × Int × Int × Int × Unit) ⊕ ((List (List Int) × Int × Int × Int × Unit))) :=
  need (inb v8 (((v0).length : Nat) : Int)) (
  brO (decide (v9 < (((((v0).getD (Int.toNat v8) [])).length : Nat) : Int))) (
    need (inb v8 (((v0).length : Nat) : Int)) (
    need (inb v9 (((((v0).getD (Int.toNat v8) [])).length : Nat) : Int)) (
    need (rng .i64 (((((v0).getD (Int.toNat v8) [])).getD (Int.toNat v9) (0 : Int)) - v2)) (
    need (rng .i64 (v7 + (imax (0 : Int) (((((v0).getD (Int.toNat v8) [])).getD (Int.toNat v9) (0 : Int)) - v2)))) (
    need (rng .i64 (v9 + (1 : Int))) (
    some (.inl (v0, (v2, ((v7 + (imax (0 : Int) (((((v0).getD (Int.toNat v8) [])).getD (Int.toNat v9) (0 : Int)) - v2))), (v8, ((v9 + (1 : Int)), ())))))))))))) (
    some (.inr (v0, (v2, (v7, (v8, ())))))))
def Cg60_1 (v0 : List (List Int)) (v2 : Int) (v7 : Int) (v8 : Int) (v9 : Int) : Option ((List (List Int) × Int × Int × Int × Int × Unit) ⊕ ((List (List Int) × Int × Int × Int × Unit))) :=
  needC (inb v8 (((v0).length : Nat) : Int)) (
  brC (decide (v9 < (((((v0).getD (Int.toNat v8) [])).length : Nat) : Int))) (
    needC (inb v8 (((v0).length : Nat) : Int)) (
    needC (inb v9 (((((v0).getD (Int.toNat v8) [])).length : Nat) : Int)) (
    needC (rng .i64 (((((v0).getD (Int.toNat v8) [])).getD (Int.toNat v9) (0 : Int)) - v2)) (
    needC (rng .i64 (v7 + (imax (0 : Int) (((((v0).getD (Int.toNat v8) [])).getD (Int.toNat v9) (0 : Int)) - v2)))) (
    needC (rng .i64 (v9 + (1 : Int))) (
    some (.inl (v0, (v2, ((v7 + (imax (0 : Int) (((((v0).getD (Int.toNat v8) [])).getD (Int.toNat v9) (0 : Int)) - v2))), (v8, ((v9 + (1 : Int)), ())))))))))))) (
    some (.inr (v0, (v2, (v7, (v8, ())))))))
theorem Cg60_1_le (v0 : List (List Int)) (v2 : Int) (v7 : Int) (v8 : Int) (v9 : Int) : Le (Cg60_1 v0 v2 v7 v8 v9) (g60_1 v0 v2 v7 v8 v9) := (Le.nd (Le.br (Le.nd (Le.nd (Le.nd (Le.nd (Le.nd Le.r))))) Le.r))
theorem s60_1 : ∀ x, roundE (kzO (p60_1.T ⊕ x60_1.T)) cx60 ar0 [] p60_1 x60_1 (b60_1) (fun y => some (.inl y)) (fun b => some (.inr b)) x = g60_1 x.1 x.2.1 x.2.2.1 x.2.2.2.1 x.2.2.2.2.1 := by intro x; kernel_rfl
noncomputable def L60_1 : LoopS prog 41 none 0 := mkLoop mixed cx60 cx60_ok [] rfl p60_1 x60_1 rfl (b60_1) (fun x => g60_1 x.1 x.2.1 x.2.2.1 x.2.2.2.1 x.2.2.2.2.1) (s60_1)
@[reducible] def p60_0 : Pat := Pat.mk [(0, .c (.hole (.list (.list (.int .i64))))), (2, .c (.hole (.int .i64))), (7, .c (.hole (.int .i64))), (8, .c (.hole (.int .i64)))] [] [] []
@[reducible] def x60_0 : Outs := [(.exit 0, Pat.mk [(7, .c (.hole (.int .i64)))] [] [] [])]
noncomputable def b60_0 : D prog 41 none 0 := (.seq (.seq (.reg [.op (some 13) none (.mv (.t 8)), .op (some 14) none (.mv (.t 0)), .op (some 15) none (.len (.t 14)), .op (some 16) none (.bin .lss (.t 13) (.t 15))]) (.cond ( .t 16) .skip (.exit 0))) (.seq (.block 1 (.seq (.reg [.op (some 9) none (.mv (.c (.int .i64 (Int.ofNat 0))))]) (.block 2 (.loop L60_1)))) (.reg [.op (some 17) none (.mv (.t 8)), .op (some 18) none (.bin .add (.t 17) (.c (.int .i64 (Int.ofNat 1)))), .op (some 8) none (.mv (.t 18))])))
noncomputable def g60_0 (v0 : List (List Int)) (v2 : Int) (v7 : Int) (v8 : Int) : Option ((List (List Int) × Int × Int × Int × Unit) ⊕ ((Int × Unit))) :=
  brO (decide (v8 < (((v0).length : Nat) : Int))) (
    bindO (iter (fun x => g60_1 x.1 x.2.1 x.2.2.1 x.2.2.2.1 x.2.2.2.2.1) (v0, (v2, (v7, (v8, ((0 : Int), ())))))) fun z0 =>
    need (rng .i64 (z0.2.2.2.1 + (1 : Int))) (
    some (.inl (z0.1, (z0.2.1, (z0.2.2.1, ((z0.2.2.2.1 + (1 : Int)), ()))))))) (
    some (.inr (v7, ())))
def Cg60_0 (v0 : List (List Int)) (v2 : Int) (v7 : Int) (v8 : Int) : Option ((List (List Int) × Int × Int × Int × Unit) ⊕ ((Int × Unit))) :=
  brC (decide (v8 < (((v0).length : Nat) : Int))) (
    bindC (iterF (fun x => Cg60_1 x.1 x.2.1 x.2.2.1 x.2.2.2.1 x.2.2.2.2.1) 1000000 (v0, (v2, (v7, (v8, ((0 : Int), ())))))) fun z0 =>
    needC (rng .i64 (z0.2.2.2.1 + (1 : Int))) (
    some (.inl (z0.1, (z0.2.1, (z0.2.2.1, ((z0.2.2.2.1 + (1 : Int)), ()))))))) (
    some (.inr (v7, ())))
theorem Cg60_0_le (v0 : List (List Int)) (v2 : Int) (v7 : Int) (v8 : Int) : Le (Cg60_0 v0 v2 v7 v8) (g60_0 v0 v2 v7 v8) := (Le.br (Le.bd (Le.iter fun x => Cg60_1_le ..) fun z0 => (Le.nd Le.r)) Le.r)
theorem s60_0 : ∀ x, roundE (kzO (p60_0.T ⊕ x60_0.T)) cx60 ar0 [] p60_0 x60_0 (b60_0) (fun y => some (.inl y)) (fun b => some (.inr b)) x = g60_0 x.1 x.2.1 x.2.2.1 x.2.2.2.1 := by intro x; kernel_rfl
noncomputable def L60_0 : LoopS prog 41 none 0 := mkLoop mixed cx60 cx60_ok [] rfl p60_0 x60_0 rfl (b60_0) (fun x => g60_0 x.1 x.2.1 x.2.2.1 x.2.2.2.1) (s60_0)
noncomputable def dd60 : D prog 41 none 0 := (.seq (.reg [.op (some 6) none (.mv (.c (.int .i64 (Int.ofNat 0))))]) (.seq (.reg [.op (some 10) none (.mv (.t 2)), .op (some 11) none (.mv (.t 1)), .op (some 12) none (.bin .mul (.t 10) (.t 11)), .op (some 7) none (.mv (.t 12))]) (.seq (.seq (.reg [.op (some 8) none (.mv (.c (.int .i64 (Int.ofNat 0))))]) (.block 0 (.loop L60_0))) (.seq (.reg [.op (some 40) none (.mv (.t 7)), .op (some 6) none (.mv (.t 40))]) .ret))))
noncomputable def F60 (a0 : List (List Int)) (a1 : Int) (a2 : Int) : Option (Int × Unit) :=
  need (rng .i64 (a2 * a1)) (
  bindO (iter (fun x => g60_0 x.1 x.2.1 x.2.2.1 x.2.2.2.1) (a0, (a2, ((a2 * a1), ((0 : Int), ()))))) fun z1 =>
  some (z1.1, ()))
def CF60 (a0 : List (List Int)) (a1 : Int) (a2 : Int) : Option (Int × Unit) :=
  needC (rng .i64 (a2 * a1)) (
  bindC (iterF (fun x => Cg60_0 x.1 x.2.1 x.2.2.1 x.2.2.2.1) 1000000 (a0, (a2, ((a2 * a1), ((0 : Int), ()))))) fun z1 =>
  some (z1.1, ()))
theorem CF60_le (a0 : List (List Int)) (a1 : Int) (a2 : Int) : Le (CF60 a0 a1 a2) (F60 a0 a1 a2) := (Le.nd (Le.bd (Le.iter fun x => Cg60_0_le ..) fun z1 => Le.r))
theorem c60_ok : trF prog f60 = some ⟨41, 3, dd60.er, [.t 6], [some (.int .i64)]⟩ := by kernel_rfl
noncomputable def ct60 : Ct := ⟨60, [.c (.hole (.list (.list (.int .i64)))), .c (.hole (.int .i64)), .c (.hole (.int .i64))], .c (.hole (.int .i64)), fun x => F60 x.1 x.2.1 x.2.2.1⟩
theorem ct60_ok : ct60.Ok prog := ct_ok mixed cx60_ok func60 c60_ok (enters_of func60 rfl rfl) dd60 rfl rfl (fun x => by kernel_rfl)

/- 28 -/
noncomputable def cx28 : Cx := mkCxH [ct21, ct50, ct60] []
theorem cx28_ok : cx28.Ok prog := mkCxH_ok ⟨ct21_ok, ct50_ok, ct60_ok, trivial⟩ trivial
noncomputable def dd28 : D prog 30 none 0 := (.seq (.reg [.op (some 6) none (.mv (.c (.int .i64 (Int.ofNat 0)))), .op (some 7) none (.mv (.c (.int .i64 (Int.ofNat 0))))]) (.seq (.reg [.op (some 9) none (.mv (.t 0)), .call (some 10) none (.c (.fn 21 [] [])) [.t 9] [some (.list (.list (.int .i64)))], .op (some 8) none (.mv (.t 10))]) (.seq (.seq (.reg [.op (some 11) none (.mv (.t 8)), .op (some 12) none (.bin .eql (.t 11) (.c (.int .i64 (Int.ofNat 0)))), .op (some 13) none (.mv (.t 12)), .op (some 14) (some (13, true)) (.mv (.t 1)), .call (some 15) (some (13, true)) (.c (.fn 50 [] [])) [.t 14, .c (.int .i64 (Int.ofNat 0)), .c (.int .i64 (Int.ofNat 200))] [some (.int .i64), some (.int .i64), some (.int .i64)], .op (some 16) (some (13, true)) (.not (.t 15)), .op (some 17) (some (13, true)) (.mv (.t 16)), .op (some 18) (some (17, false)) (.mv (.t 2)), .call (some 19) (some (17, false)) (.c (.fn 50 [] [])) [.t 18, .c (.int .i64 (Int.ofNat 0)), .c (.int .i64 (Int.ofNat 1000000))] [some (.int .i64), some (.int .i64), some (.int .i64)], .op (some 20) (some (17, false)) (.not (.t 19)), .op (some 21) (some (13, true)) (.pick (.t 17) (.c (.tf true)) (.t 20)), .op (some 22) none (.pick (.t 13) (.t 21) (.c (.tf false)))]) (.cond ( .t 22) (.reg [.op (some 8) none (.mv (.c (.int .i64 (Int.ofNat 2))))]) .skip)) (.seq (.seq (.reg [.op (some 23) none (.mv (.t 8)), .op (some 24) none (.bin .neq (.t 23) (.c (.int .i64 (Int.ofNat 0))))]) (.cond ( .t 24) (.seq (.reg [.op (some 25) none (.mv (.t 8)), .op (some 6) none (.mv (.c (.int .i64 (Int.ofNat 0)))), .op (some 7) none (.mv (.t 25))]) .ret) .skip)) (.seq (.reg [.op (some 26) none (.mv (.t 0)), .op (some 27) none (.mv (.t 1)), .op (some 28) none (.mv (.t 2)), .call (some 29) none (.c (.fn 60 [] [])) [.t 26, .t 27, .t 28] [some (.list (.list (.int .i64))), some (.int .i64), some (.int .i64)], .op (some 6) none (.mv (.t 29)), .op (some 7) none (.mv (.c (.int .i64 (Int.ofNat 0))))]) .ret)))))
noncomputable def F28 (a0 : List (List Int)) (a1 : Int) (a2 : Int) : Option (Int × Int × Unit) :=
  bindO (F21 a0) fun y0 =>
  brO (y0.1 == (0 : Int)) (
    bindO (F50 a1 (0 : Int) (200 : Int)) fun y1 =>
    brO (!y1.1) (
      brO (!((2 : Int) == (0 : Int))) (
        some ((0 : Int), ((2 : Int), ()))) (
        bindO (F60 a0 a1 a2) fun y2 =>
        some (y2.1, ((0 : Int), ())))) (
      bindO (F50 a2 (0 : Int) (1000000 : Int)) fun y3 =>
      brO (!y3.1) (
        brO (!((2 : Int) == (0 : Int))) (
          some ((0 : Int), ((2 : Int), ()))) (
          bindO (F60 a0 a1 a2) fun y4 =>
          some (y4.1, ((0 : Int), ())))) (
        brO (!(y0.1 == (0 : Int))) (
          some ((0 : Int), (y0.1, ()))) (
          bindO (F60 a0 a1 a2) fun y5 =>
          some (y5.1, ((0 : Int), ())))))) (
    brO (!(y0.1 == (0 : Int))) (
      some ((0 : Int), (y0.1, ()))) (
      bindO (F60 a0 a1 a2) fun y6 =>
      some (y6.1, ((0 : Int), ()))))
def CF28 (a0 : List (List Int)) (a1 : Int) (a2 : Int) : Option (Int × Int × Unit) :=
  bindC (CF21 a0) fun y0 =>
  brC (y0.1 == (0 : Int)) (
    bindC (CF50 a1 (0 : Int) (200 : Int)) fun y1 =>
    brC (!y1.1) (
      brC (!((2 : Int) == (0 : Int))) (
        some ((0 : Int), ((2 : Int), ()))) (
        bindC (CF60 a0 a1 a2) fun y2 =>
        some (y2.1, ((0 : Int), ())))) (
      bindC (CF50 a2 (0 : Int) (1000000 : Int)) fun y3 =>
      brC (!y3.1) (
        brC (!((2 : Int) == (0 : Int))) (
          some ((0 : Int), ((2 : Int), ()))) (
          bindC (CF60 a0 a1 a2) fun y4 =>
          some (y4.1, ((0 : Int), ())))) (
        brC (!(y0.1 == (0 : Int))) (
          some ((0 : Int), (y0.1, ()))) (
          bindC (CF60 a0 a1 a2) fun y5 =>
          some (y5.1, ((0 : Int), ())))))) (
    brC (!(y0.1 == (0 : Int))) (
      some ((0 : Int), (y0.1, ()))) (
      bindC (CF60 a0 a1 a2) fun y6 =>
      some (y6.1, ((0 : Int), ()))))
theorem CF28_le (a0 : List (List Int)) (a1 : Int) (a2 : Int) : Le (CF28 a0 a1 a2) (F28 a0 a1 a2) := (Le.bd (CF21_le ..) fun y0 => (Le.br (Le.bd (CF50_le ..) fun y1 => (Le.br (Le.br Le.r (Le.bd (CF60_le ..) fun y2 => Le.r)) (Le.bd (CF50_le ..) fun y3 => (Le.br (Le.br Le.r (Le.bd (CF60_le ..) fun y4 => Le.r)) (Le.br Le.r (Le.bd (CF60_le ..) fun y5 => Le.r)))))) (Le.br Le.r (Le.bd (CF60_le ..) fun y6 => Le.r))))
theorem c28_ok : trF prog f28 = some ⟨30, 3, dd28.er, [.t 6, .t 7], [some (.int .i64), some (.int .i64)]⟩ := by kernel_rfl
noncomputable def ct28 : Ct := ⟨28, [.c (.hole (.list (.list (.int .i64)))), .c (.hole (.int .i64)), .c (.hole (.int .i64))], .tup [.hole (.int .i64), .hole (.int .i64)], fun x => F28 x.1 x.2.1 x.2.2.1⟩
theorem ct28_ok : ct28.Ok prog := ct_ok mixed cx28_ok func28 c28_ok (enters_of func28 rfl rfl) dd28 rfl rfl (fun x => by kernel_rfl)

/- 30 -/
noncomputable def cx30 : Cx := mkCxH [ct23, ct60] []
theorem cx30_ok : cx30.Ok prog := mkCxH_ok ⟨ct23_ok, ct60_ok, trivial⟩ trivial
@[reducible] def p30_0 : Pat := Pat.mk [(0, .c (.hole (.list (.list (.int .i64))))), (1, .c (.hole (.int .i64))), (4, .c (.ptr 0 0)), (7, .c (.hole (.int .i64))), (9, .c (.sl0 1 (.int .i64))), (10, .c (.hole (.int .i64)))] [(0, .cells [.hole (.int .i64), .hole (.int .i64)] false), (1, .arr (.int .i64) false)] [.slot 4, .slot 9] []
@[reducible] def x30_0 : Outs := [(.exit 0, Pat.mk [(0, .c (.hole (.list (.list (.int .i64))))), (1, .c (.hole (.int .i64))), (4, .c (.ptr 0 0)), (7, .c (.hole (.int .i64))), (9, .c (.sl0 1 (.int .i64)))] [(0, .cells [.hole (.int .i64), .hole (.int .i64)] false), (1, .arr (.int .i64) false)] [.slot 4, .slot 9] [])]
noncomputable def b30_0 : D prog 69 none 0 := (.seq (.seq (.reg [.op (some 25) none (.mv (.t 10)), .op (some 26) none (.mv (.t 0)), .op (some 27) none (.len (.t 26)), .op (some 28) none (.bin .lss (.t 25) (.t 27))]) (.cond ( .t 28) .skip (.exit 0))) (.seq (.block 1 (.reg [.op (some 31) none (.mv (.t 9)), .op (some 32) none (.mv (.t 0)), .op (some 33) none (.mv (.t 10)), .op (some 34) none (.idx 1 (.t 32) (.t 33)), .op (some 35) none (.load false 1 (.t 34)), .op (some 36) none (.append 1 (.t 31) (.t 35)), .op (some 9) none (.mv (.t 36))])) (.reg [.op (some 29) none (.mv (.t 10)), .op (some 30) none (.bin .add (.t 29) (.c (.int .i64 (Int.ofNat 1)))), .op (some 10) none (.mv (.t 30))])))
noncomputable def g30_0 (v0 : List (List Int)) (v1 : Int) (v7 : Int) (nv9 : Nat) (v10 : Int) (c0_0 : Int) (c0_1 : Int) (b1 : List Int) : Option ((List (List Int) × Int × Int × Nat × Int × Int × Int × List Int × Unit) ⊕ ((List (List Int) × Int × Int × Nat × Int × Int × List Int × Unit))) :=
  brO (decide (v10 < (((v0).length : Nat) : Int))) (
    need (inb v10 (((v0).length : Nat) : Int)) (
    need (decide ((nv9 + (((v0).getD (Int.toNat v10) [])).length) < bigL)) (
    need (rng .i64 (v10 + (1 : Int))) (
    some (.inl (v0, (v1, (v7, ((nv9 + (((v0).getD (Int.toNat v10) [])).length), ((v10 + (1 : Int)), (c0_0, (c0_1, (((((b1).drop (0 : Nat)).take nv9) ++ ((v0).getD (Int.toNat v10) [])), ()))))))))))))) (
    some (.inr (v0, (v1, (v7, (nv9, (c0_0, (c0_1, (b1, ())))))))))
def Cg30_0 (v0 : List (List Int)) (v1 : Int) (v7 : Int) (nv9 : Nat) (v10 : Int) (c0_0 : Int) (c0_1 : Int) (b1 : List Int) : Option ((List (List Int) × Int × Int × Nat × Int × Int × Int × List Int × Unit) ⊕ ((List (List Int) × Int × Int × Nat × Int × Int × List Int × Unit))) :=
  brC (decide (v10 < (((v0).length : Nat) : Int))) (
    needC (inb v10 (((v0).length : Nat) : Int)) (
    needC (decide ((nv9 + (((v0).getD (Int.toNat v10) [])).length) < bigL)) (
    needC (rng .i64 (v10 + (1 : Int))) (
    some (.inl (v0, (v1, (v7, ((nv9 + (((v0).getD (Int.toNat v10) [])).length), ((v10 + (1 : Int)), (c0_0, (c0_1, (((((b1).drop (0 : Nat)).take nv9) ++ ((v0).getD (Int.toNat v10) [])), ()))))))))))))) (
    some (.inr (v0, (v1, (v7, (nv9, (c0_0, (c0_1, (b1, ())))))))))
theorem Cg30_0_le (v0 : List (List Int)) (v1 : Int) (v7 : Int) (nv9 : Nat) (v10 : Int) (c0_0 : Int) (c0_1 : Int) (b1 : List Int) : Le (Cg30_0 v0 v1 v7 nv9 v10 c0_0 c0_1 b1) (g30_0 v0 v1 v7 nv9 v10 c0_0 c0_1 b1) := (Le.br (Le.nd (Le.nd (Le.nd Le.r))) Le.r)
theorem s30_0 : ∀ x, roundE (kzO (p30_0.T ⊕ x30_0.T)) cx30 ar0 [] p30_0 x30_0 (b30_0) (fun y => some (.inl y)) (fun b => some (.inr b)) x = g30_0 x.1 x.2.1 x.2.2.1 x.2.2.2.1 x.2.2.2.2.1 x.2.2.2.2.2.1 x.2.2.2.2.2.2.1 x.2.2.2.2.2.2.2.1 := by intro x; kernel_rfl
noncomputable def L30_0 : LoopS prog 69 none 0 := mkLoop mixed cx30 cx30_ok [] rfl p30_0 x30_0 rfl (b30_0) (fun x => g30_0 x.1 x.2.1 x.2.2.1 x.2.2.2.1 x.2.2.2.2.1 x.2.2.2.2.2.1 x.2.2.2.2.2.2.1 x.2.2.2.2.2.2.2.1) (s30_0)
@[reducible] def p30_1 : Pat := Pat.mk [(0, .c (.hole (.list (.list (.int .i64))))), (1, .c (.hole (.int .i64))), (4, .c (.ptr 0 0)), (7, .c (.hole (.int .i64))), (9, .c (.sl0 1 (.int .i64))), (11, .c (.ptr 2 0)), (12, .c (.hole (.int .i64)))] [(0, .cells [.hole (.int .i64), .hole (.int .i64)] false), (1, .arr (.int .i64) false), (2, .cells [.hole (.int .i64), .hole (.int .i64)] false)] [.slot 4, .slot 9, .slot 11] []
@[reducible] def x30_1 : Outs := [(.exit 2, Pat.mk [(4, .c (.ptr 0 0)), (11, .c (.ptr 1 0))] [(0, .cells [.hole (.int .i64), .hole (.int .i64)] false), (1, .cells [.hole (.int .i64), .hole (.int .i64)] false)] [.slot 4, .slot 11] [])]
noncomputable def b30_1 : D prog 69 none 0 := (.seq (.seq (.reg [.op (some 38) none (.mv (.t 12)), .op (some 39) none (.mv (.t 9)), .op (some 40) none (.len (.t 39)), .op (some 41) none (.bin .lss (.t 38) (.t 40))]) (.cond ( .t 41) .skip (.exit 2))) (.seq (.block 3 (.seq (.reg [.op (some 44) none (.mv (.t 0)), .op (some 45) none (.mv (.t 1)), .op (some 46) none (.mv (.t 9)), .op (some 47) none (.mv (.t 12)), .op (some 48) none (.idx 1 (.t 46) (.t 47)), .op (some 49) none (.load false 1 (.t 48)), .call (some 50) none (.c (.fn 60 [] [])) [.t 44, .t 45, .t 49] [some (.list (.list (.int .i64))), some (.int .i64), some (.int .i64)], .op (some 51) none (.mv (.t 7)), .op (some 52) none (.bin .eql (.t 50) (.t 51))]) (.cond ( .t 52) (.draw [[], [0], [], [], [2, 3], [2, 3, 4], [0, 1, 2, 3, 4, 5], [], [7], [], [], [9, 10], [9, 10, 11], [7, 8, 9, 10, 11, 12], [0, 1, 2, 3, 4, 5, 6, 7, 8, 9, 10, 11, 12, 13], [0, 1, 2, 3, 4, 5, 6, 7, 8, 9, 10, 11, 12, 13, 14]] [.op (some 53) none (.fld 0 [false] (.t 11)), .op (some 54) none (.load false 1 (.t 53)), .op (some 55) none (.mv (.t 9)), .op (some 56) none (.mv (.t 12)), .op (some 57) none (.idx 1 (.t 55) (.t 56)), .op (some 58) none (.load false 1 (.t 57)), .op (some 59) none (.minmax false (.t 54) [.t 58]), .op (some 60) none (.fld 1 [true] (.t 11)), .op (some 61) none (.load false 1 (.t 60)), .op (some 62) none (.mv (.t 9)), .op (some 63) none (.mv (.t 12)), .op (some 64) none (.idx 1 (.t 62) (.t 63)), .op (some 65) none (.load false 1 (.t 64)), .op (some 66) none (.minmax true (.t 61) [.t 65]), .op (some 67) none (.build [.int .i64 (Int.ofNat 0), .int .i64 (Int.ofNat 0)] [(0, 1, .t 59), (1, 1, .t 66)]), .op none none (.store 2 (.t 11) (.t 67))]) .skip))) (.reg [.op (some 42) none (.mv (.t 12)), .op (some 43) none (.bin .add (.t 42) (.c (.int .i64 (Int.ofNat 1)))), .op (some 12) none (.mv (.t 43))])))
noncomputable def g30_1 (v0 : List (List Int)) (v1 : Int) (v7 : Int) (nv9 : Nat) (v12 : Int) (c0_0 : Int) (c0_1 : Int) (b1 : List Int) (c2_0 : Int) (c2_1 : Int) : Option ((List (List Int) × Int × Int × Nat × Int × Int × Int × List Int × Int × Int × Unit) ⊕ ((Int × Int × Int × Int × Unit))) :=
  brO (decide (v12 < ((nv9 : Nat) : Int))) (
    need (inb v12 ((nv9 : Nat) : Int)) (
    need (decide (((0 : Nat) + (Int.toNat v12)) < (b1).length)) (
    bindO (F60 v0 v1 ((b1).getD ((0 : Nat) + (Int.toNat v12)) (0 : Int))) fun y2 =>
    brO (y2.1 == v7) (
      need (inb v12 ((nv9 : Nat) : Int)) (
      need (decide (((0 : Nat) + (Int.toNat v12)) < (b1).length)) (
      need (inb v12 ((nv9 : Nat) : Int)) (
      need (decide (((0 : Nat) + (Int.toNat v12)) < (b1).length)) (
      need (rng .i64 (v12 + (1 : Int))) (
      some (.inl (v0, (v1, (v7, (nv9, ((v12 + (1 : Int)), (c0_0, (c0_1, (b1, ((imin c2_0 ((b1).getD ((0 : Nat) + (Int.toNat v12)) (0 : Int))), ((imax c2_1 ((b1).getD ((0 : Nat) + (Int.toNat v12)) (0 : Int))), ()))))))))))))))))) (
      need (rng .i64 (v12 + (1 : Int))) (
      some (.inl (v0, (v1, (v7, (nv9, ((v12 + (1 : Int)), (c0_0, (c0_1, (b1, (c2_0, (c2_1, ())))))))))))))))) (
    some (.inr (c0_0, (c0_1, (c2_0, (c2_1, ()))))))
def Cg30_1 (v0 : List (List Int)) (v1 : Int) (v7 : Int) (nv9 : Nat) (v12 : Int) (c0_0 : Int) (c0_1 : Int) (b1 : List Int) (c2_0 : Int) (c2_1 : Int) : Option ((List (List Int) × Int × Int × Nat × Int × Int × Int × List Int × Int × Int × Unit) ⊕ ((Int × Int × Int × Int × Unit))) :=
  brC (decide (v12 < ((nv9 : Nat) : Int))) (
    needC (inb v12 ((nv9 : Nat) : Int)) (
    needC (decide (((0 : Nat) + (Int.toNat v12)) < (b1).length)) (
    bindC (CF60 v0 v1 ((b1).getD ((0 : Nat) + (Int.toNat v12)) (0 : Int))) fun y2 =>
    brC (y2.1 == v7) (
      needC (inb v12 ((nv9 : Nat) : Int)) (
      needC (decide (((0 : Nat) + (Int.toNat v12)) < (b1).length)) (
      needC (inb v12 ((nv9 : Nat) : Int)) (
      needC (decide (((0 : Nat) + (Int.toNat v12)) < (b1).length)) (
      needC (rng .i64 (v12 + (1 : Int))) (
      some (.inl (v0, (v1, (v7, (nv9, ((v12 + (1 : Int)), (c0_0, (c0_1, (b1, ((imin c2_0 ((b1).getD ((0 : Nat) + (Int.toNat v12)) (0 : Int))), ((imax c2_1 ((b1).getD ((0 : Nat) + (Int.toNat v12)) (0 : Int))), ()))))))))))))))))) (
      needC (rng .i64 (v12 + (1 : Int))) (
      some (.inl (v0, (v1, (v7, (nv9, ((v12 + (1 : Int)), (c0_0, (c0_1, (b1, (c2_0, (c2_1, ())))))))))))))))) (
    some (.inr (c0_0, (c0_1, (c2_0, (c2_1, ()))))))
theorem Cg30_1_le (v0 : List (List Int)) (v1 : Int) (v7 : Int) (nv9 : Nat) (v12 : Int) (c0_0 : Int) (c0_1 : Int) (b1 : List Int) (c2_0 : Int) (c2_1 : Int) : Le (Cg30_1 v0 v1 v7 nv9 v12 c0_0 c0_1 b1 c2_0 c2_1) (g30_1 v0 v1 v7 nv9 v12 c0_0 c0_1 b1 c2_0 c2_1) := (Le.br (Le.nd (Le.nd (Le.bd (CF60_le ..) fun y2 => (Le.br (Le.nd (Le.nd (Le.nd (Le.nd (Le.nd Le.r))))) (Le.nd Le.r))))) Le.r)
theorem s30_1 : ∀ x, roundE (kzO (p30_1.T ⊕ x30_1.T)) cx30 ar0 [] p30_1 x30_1 (b30_1) (fun y => some (.inl y)) (fun b => some (.inr b)) x = g30_1 x.1 x.2.1 x.2.2.1 x.2.2.2.1 x.2.2.2.2.1 x.2.2.2.2.2.1 x.2.2.2.2.2.2.1 x.2.2.2.2.2.2.2.1 x.2.2.2.2.2.2.2.2.1 x.2.2.2.2.2.2.2.2.2.1 := by intro x; kernel_rfl
noncomputable def L30_1 : LoopS prog 69 none 0 := mkLoop mixed cx30 cx30_ok [] rfl p30_1 x30_1 rfl (b30_1) (fun x => g30_1 x.1 x.2.1 x.2.2.1 x.2.2.2.1 x.2.2.2.2.1 x.2.2.2.2.2.1 x.2.2.2.2.2.2.1 x.2.2.2.2.2.2.2.1 x.2.2.2.2.2.2.2.2.1 x.2.2.2.2.2.2.2.2.2.1) (s30_1)
noncomputable def dd30 : D prog 69 none 0 := (.seq (.reg [.op (some 4) none (.alloc [.int .i64 (Int.ofNat 0), .int .i64 (Int.ofNat 0)]), .op (some 5) none (.mv (.c (.int .i64 (Int.ofNat 0))))]) (.seq (.reg [.op (some 14) none (.mv (.t 0)), .op (some 15) none (.mv (.t 1)), .call (some 16) none (.c (.fn 23 [] [])) [.t 14, .t 15] [some (.list (.list (.int .i64))), some (.int .i64)], .op (some 13) none (.mv (.t 16)), .op (some 17) none (.ext 0 (.t 13)), .op (some 18) none (.ext 1 (.t 13)), .op (some 19) none (.ext 2 (.t 13)), .op (some 6) none (.mv (.t 17)), .op (some 7) none (.mv (.t 18)), .op (some 8) none (.mv (.t 19))]) (.seq (.seq (.reg [.op (some 20) none (.mv (.t 8)), .op (some 21) none (.bin .neq (.t 20) (.c (.int .i64 (Int.ofNat 0))))]) (.cond ( .t 21) (.seq (.reg [.op (some 22) none (.build [.int .i64 (Int.ofNat 0), .int .i64 (Int.ofNat 0)] []), .op (some 23) none (.mv (.t 8)), .op none none (.store 2 (.t 4) (.t 22)), .op (some 5) none (.mv (.t 23))]) .ret) .skip)) (.seq (.reg [.op (some 24) none (.bslice (.int .i64) [.c (.int .i64 (Int.ofNat 0)), .c (.int .i64 (Int.ofNat 1000000))]), .op (some 9) none (.mv (.t 24))]) (.seq (.seq (.reg [.op (some 10) none (.mv (.c (.int .i64 (Int.ofNat 0))))]) (.block 0 (.loop L30_0))) (.seq (.reg [.op (some 37) none (.build [.int .i64 (Int.ofNat 0), .int .i64 (Int.ofNat 0)] [(0, 1, .c (.int .i64 (Int.ofNat 1000000))), (1, 1, .c (.int .i64 (Int.ofNat 0)))]), .op (some 11) none (.alloc [.int .i64 (Int.ofNat 0), .int .i64 (Int.ofNat 0)]), .op none none (.store 2 (.t 11) (.t 37))]) (.seq (.seq (.reg [.op (some 12) none (.mv (.c (.int .i64 (Int.ofNat 0))))]) (.block 2 (.loop L30_1))) (.seq (.reg [.op (some 68) none (.load true 2 (.t 11)), .op none none (.store 2 (.t 4) (.t 68)), .op (some 5) none (.mv (.c (.int .i64 (Int.ofNat 0))))]) .ret))))))))
noncomputable def F30 (a0 : List (List Int)) (a1 : Int) : Option ((Int × Int) × Int × Unit) :=
  bindO (F23 a0 a1) fun y0 =>
  brO (!(y0.2.2.1 == (0 : Int))) (
    some (((0 : Int), (0 : Int)), (y0.2.2.1, ()))) (
    bindO (iter (fun x => g30_0 x.1 x.2.1 x.2.2.1 x.2.2.2.1 x.2.2.2.2.1 x.2.2.2.2.2.1 x.2.2.2.2.2.2.1 x.2.2.2.2.2.2.2.1) (a0, (a1, (y0.2.1, ((2 : Nat), ((0 : Int), ((0 : Int), ((0 : Int), (((0 : Int) :: ((1000000 : Int) :: [])), ()))))))))) fun z1 =>
    bindO (iter (fun x => g30_1 x.1 x.2.1 x.2.2.1 x.2.2.2.1 x.2.2.2.2.1 x.2.2.2.2.2.1 x.2.2.2.2.2.2.1 x.2.2.2.2.2.2.2.1 x.2.2.2.2.2.2.2.2.1 x.2.2.2.2.2.2.2.2.2.1) (z1.1, (z1.2.1, (z1.2.2.1, (z1.2.2.2.1, ((0 : Int), (z1.2.2.2.2.1, (z1.2.2.2.2.2.1, (z1.2.2.2.2.2.2.1, ((1000000 : Int), ((0 : Int), ()))))))))))) fun z3 =>
    some ((z3.2.2.1, z3.2.2.2.1), ((0 : Int), ())))
def CF30 (a0 : List (List Int)) (a1 : Int) : Option ((Int × Int) × Int × Unit) :=
  bindC (CF23 a0 a1) fun y0 =>
  brC (!(y0.2.2.1 == (0 : Int))) (
    some (((0 : Int), (0 : Int)), (y0.2.2.1, ()))) (
    bindC (iterF (fun x => Cg30_0 x.1 x.2.1 x.2.2.1 x.2.2.2.1 x.2.2.2.2.1 x.2.2.2.2.2.1 x.2.2.2.2.2.2.1 x.2.2.2.2.2.2.2.1) 1000000 (a0, (a1, (y0.2.1, ((2 : Nat), ((0 : Int), ((0 : Int), ((0 : Int), (((0 : Int) :: ((1000000 : Int) :: [])), ()))))))))) fun z1 =>
    bindC (iterF (fun x => Cg30_1 x.1 x.2.1 x.2.2.1 x.2.2.2.1 x.2.2.2.2.1 x.2.2.2.2.2.1 x.2.2.2.2.2.2.1 x.2.2.2.2.2.2.2.1 x.2.2.2.2.2.2.2.2.1 x.2.2.2.2.2.2.2.2.2.1) 1000000 (z1.1, (z1.2.1, (z1.2.2.1, (z1.2.2.2.1, ((0 : Int), (z1.2.2.2.2.1, (z1.2.2.2.2.2.1, (z1.2.2.2.2.2.2.1, ((1000000 : Int), ((0 : Int), ()))))))))))) fun z3 =>
    some ((z3.2.2.1, z3.2.2.2.1), ((0 : Int), ())))
theorem CF30_le (a0 : List (List Int)) (a1 : Int) : Le (CF30 a0 a1) (F30 a0 a1) := (Le.bd (CF23_le ..) fun y0 => (Le.br Le.r (Le.bd (Le.iter fun x => Cg30_0_le ..) fun z1 => (Le.bd (Le.iter fun x => Cg30_1_le ..) fun z3 => Le.r))))
theorem c30_ok : trF prog f30 = some ⟨69, 2, dd30.er, [.cell 4 true 2, .t 5], [some (.prod (.int .i64) (.int .i64)), some (.int .i64)]⟩ := by kernel_rfl
noncomputable def ct30 : Ct := ⟨30, [.c (.hole (.list (.list (.int .i64)))), .c (.hole (.int .i64))], .tup [.hole (.prod (.int .i64) (.int .i64)), .hole (.int .i64)], fun x => F30 x.1 x.2.1⟩
theorem ct30_ok : ct30.Ok prog := ct_ok mixed cx30_ok func30 c30_ok (enters_of func30 rfl rfl) dd30 rfl rfl (fun x => by kernel_rfl)

/- 32 -/
noncomputable def cx32 : Cx := mkCxH [ct28] []
theorem cx32_ok : cx32.Ok prog := mkCxH_ok ⟨ct28_ok, trivial⟩ trivial
noncomputable def dd32 : D prog 26 none 0 := (.seq (.reg [.op (some 8) none (.mv (.c (.int .i64 (Int.ofNat 0))))]) (.seq (.reg [.op (some 12) none (.mv (.t 0)), .op (some 13) none (.mv (.t 1)), .op (some 14) none (.mv (.t 2)), .call (some 15) none (.c (.fn 28 [] [])) [.t 12, .t 13, .t 14] [some (.list (.list (.int .i64))), some (.int .i64), some (.int .i64)], .op (some 11) none (.mv (.t 15)), .op (some 16) none (.ext 0 (.t 11)), .op (some 17) none (.ext 1 (.t 11)), .op (some 9) none (.mv (.t 16)), .op (some 10) none (.mv (.t 17))]) (.seq (.seq (.reg [.op (some 18) none (.mv (.t 10)), .op (some 19) none (.bin .neq (.t 18) (.c (.int .i64 (Int.ofNat 0))))]) (.cond ( .t 19) (.seq (.reg [.op (some 20) none (.mv (.t 10)), .op (some 8) none (.mv (.t 20))]) .ret) .skip)) (.seq (.seq (.reg [.op (some 21) none (.mv (.t 3)), .op (some 22) none (.bin .lss (.t 21) (.c (.int .i64 (Int.ofNat 0))))]) (.cond ( .t 22) (.seq (.reg [.op (some 8) none (.mv (.c (.int .i64 (Int.ofNat 2))))]) .ret) .skip)) (.seq (.seq (.reg [.op (some 23) none (.mv (.t 9)), .op (some 24) none (.mv (.t 3)), .op (some 25) none (.bin .gtr (.t 23) (.t 24))]) (.cond ( .t 25) (.seq (.reg [.op (some 8) none (.mv (.c (.int .i64 (Int.ofNat 11))))]) .ret) .skip)) (.seq (.reg [.op (some 8) none (.mv (.c (.int .i64 (Int.ofNat 0))))]) .ret))))))
noncomputable def F32 (a0 : List (List Int)) (a1 : Int) (a2 : Int) (a3 : Int) : Option (Int × Unit) :=
  bindO (F28 a0 a1 a2) fun y0 =>
  brO (!(y0.2.1 == (0 : Int))) (
    some (y0.2.1, ())) (
    brO (decide (a3 < (0 : Int))) (
      some ((2 : Int), ())) (
      brO (decide (a3 < y0.1)) (
        some ((11 : Int), ())) (
        some ((0 : Int), ()))))
def CF32 (a0 : List (List Int)) (a1 : Int) (a2 : Int) (a3 : Int) : Option (Int × Unit) :=
  bindC (CF28 a0 a1 a2) fun y0 =>
  brC (!(y0.2.1 == (0 : Int))) (
    some (y0.2.1, ())) (
    brC (decide (a3 < (0 : Int))) (
      some ((2 : Int), ())) (
      brC (decide (a3 < y0.1)) (
        some ((11 : Int), ())) (
        some ((0 : Int), ()))))
theorem CF32_le (a0 : List (List Int)) (a1 : Int) (a2 : Int) (a3 : Int) : Le (CF32 a0 a1 a2 a3) (F32 a0 a1 a2 a3) := (Le.bd (CF28_le ..) fun y0 => (Le.br Le.r (Le.br Le.r (Le.br Le.r Le.r))))
theorem c32_ok : trF prog f32 = some ⟨26, 4, dd32.er, [.t 8], [some (.int .i64)]⟩ := by kernel_rfl
noncomputable def ct32 : Ct := ⟨32, [.c (.hole (.list (.list (.int .i64)))), .c (.hole (.int .i64)), .c (.hole (.int .i64)), .c (.hole (.int .i64))], .c (.hole (.int .i64)), fun x => F32 x.1 x.2.1 x.2.2.1 x.2.2.2.1⟩
theorem ct32_ok : ct32.Ok prog := ct_ok mixed cx32_ok func32 c32_ok (enters_of func32 rfl rfl) dd32 rfl rfl (fun x => by kernel_rfl)

/- 5 -/
noncomputable def cx5 : Cx := mkCxH [ct15, ct16, ct17, ct27, ct28, ct29, ct30, ct31, ct32] []
theorem cx5_ok : cx5.Ok prog := mkCxH_ok ⟨ct15_ok, ct16_ok, ct17_ok, ct27_ok, ct28_ok, ct29_ok, ct30_ok, ct31_ok, ct32_ok, trivial⟩ trivial
noncomputable def dd5 : D prog 83 none 0 := (.seq (.reg [.op (some 8) none (.mv (.c (.tf false)))]) (.seq (.seq (.reg [.op (some 18) none (.mv (.t 0)), .call (some 19) none (.c (.fn 15 [] [])) [.t 18] [some (.list (.list (.int .i64)))]]) (.cond ( .t 19) (.seq (.reg [.call (some 20) none (.c (.fn 16 [] [])) [] [], .op (some 8) none (.mv (.t 20))]) .ret) .skip)) (.seq (.reg [.op (some 21) none (.mv (.t 0)), .call (some 22) none (.c (.fn 17 [] [])) [.t 21] [some (.list (.list (.int .i64)))], .op (some 9) none (.mv (.t 22))]) (.seq (.reg [.op (some 24) none (.mv (.t 0)), .op (some 25) none (.mv (.t 1)), .op (some 26) none (.mv (.t 2)), .call (some 27) none (.c (.fn 27 [] [])) [.t 24, .t 25, .t 26] [some (.list (.list (.int .i64))), some (.int .i64), some (.int .i64)], .op (some 23) none (.mv (.t 27)), .op (some 28) none (.ext 0 (.t 23)), .op (some 29) none (.ext 1 (.t 23)), .op (some 10) none (.mv (.t 28)), .op (some 11) none (.mv (.t 29))]) (.seq (.reg [.op (some 31) none (.mv (.t 9)), .op (some 32) none (.mv (.t 1)), .op (some 33) none (.mv (.t 2)), .call (some 34) none (.c (.fn 28 [] [])) [.t 31, .t 32, .t 33] [some (.list (.list (.int .i64))), some (.int .i64), some (.int .i64)], .op (some 30) none (.mv (.t 34)), .op (some 35) none (.ext 0 (.t 30)), .op (some 36) none (.ext 1 (.t 30)), .op (some 12) none (.mv (.t 35)), .op (some 13) none (.mv (.t 36))]) (.seq (.reg [.op (some 38) none (.mv (.t 0)), .op (some 39) none (.mv (.t 1)), .call (some 40) none (.c (.fn 29 [] [])) [.t 38, .t 39] [some (.list (.list (.int .i64))), some (.int .i64)], .op (some 37) none (.mv (.t 40)), .op (some 41) none (.ext 0 (.t 37)), .op (some 42) none (.ext 1 (.t 37)), .op (some 14) none (.alloc [.int .i64 (Int.ofNat 0), .int .i64 (Int.ofNat 0)]), .op none none (.store 2 (.t 14) (.t 41)), .op (some 15) none (.mv (.t 42))]) (.seq (.reg [.op (some 44) none (.mv (.t 9)), .op (some 45) none (.mv (.t 1)), .call (some 46) none (.c (.fn 30 [] [])) [.t 44, .t 45] [some (.list (.list (.int .i64))), some (.int .i64)], .op (some 43) none (.mv (.t 46)), .op (some 47) none (.ext 0 (.t 43)), .op (some 48) none (.ext 1 (.t 43)), .op (some 16) none (.alloc [.int .i64 (Int.ofNat 0), .int .i64 (Int.ofNat 0)]), .op none none (.store 2 (.t 16) (.t 47)), .op (some 17) none (.mv (.t 48))]) (.seq (.reg [.op (some 49) none (.mv (.t 10)), .op (some 50) none (.mv (.t 12)), .op (some 51) none (.bin .eql (.t 49) (.t 50)), .op (some 52) none (.mv (.t 51)), .op (some 53) (some (52, true)) (.mv (.t 11)), .op (some 54) (some (52, true)) (.mv (.t 13)), .op (some 55) (some (52, true)) (.bin .eql (.t 53) (.t 54)), .op (some 56) none (.pick (.t 52) (.t 55) (.c (.tf false))), .op (some 57) none (.mv (.t 56)), .op (some 58) (some (57, true)) (.load true 2 (.t 14)), .op (some 59) (some (57, true)) (.load true 2 (.t 16)), .op (some 60) (some (57, true)) (.eqs false [.i, .i] (.t 58) (.t 59)), .op (some 61) none (.pick (.t 57) (.t 60) (.c (.tf false))), .op (some 62) none (.mv (.t 61)), .op (some 63) (some (62, true)) (.mv (.t 15)), .op (some 64) (some (62, true)) (.mv (.t 17)), .op (some 65) (some (62, true)) (.bin .eql (.t 63) (.t 64)), .op (some 66) none (.pick (.t 62) (.t 65) (.c (.tf false))), .op (some 67) none (.mv (.t 66)), .op (some 68) (some (67, true)) (.mv (.t 0)), .op (some 69) (some (67, true)) (.mv (.t 1)), .op (some 70) (some (67, true)) (.mv (.t 2)), .op (some 71) (some (67, true)) (.mv (.t 3)), .call (some 72) (some (67, true)) (.c (.fn 31 [] [])) [.t 68, .t 69, .t 70, .t 71] [some (.list (.list (.int .i64))), some (.int .i64), some (.int .i64), some (.int .i64)], .op (some 73) (some (67, true)) (.mv (.t 9)), .op (some 74) (some (67, true)) (.mv (.t 1)), .op (some 75) (some (67, true)) (.mv (.t 2)), .op (some 76) (some (67, true)) (.mv (.t 3)), .call (some 77) (some (67, true)) (.c (.fn 32 [] [])) [.t 73, .t 74, .t 75, .t 76] [some (.list (.list (.int .i64))), some (.int .i64), some (.int .i64), some (.int .i64)], .op (some 78) (some (67, true)) (.bin .eql (.t 72) (.t 77)), .op (some 79) none (.pick (.t 67) (.t 78) (.c (.tf false))), .op (some 80) none (.mv (.t 79)), .call (some 81) (some (80, true)) (.c (.fn 16 [] [])) [] [], .op (some 82) none (.pick (.t 80) (.t 81) (.c (.tf false))), .op (some 8) none (.mv (.t 82))]) .ret))))))))
noncomputable def F5 (a0 : List (List Int)) (a1 : Int) (a2 : Int) (a3 : Int) : Option (Bool × Unit) :=
  bindO (F15 a0) fun y0 =>
  brO y0.1 (
    bindO (F16) fun y1 =>
    some (y1.1, ())) (
    bindO (F17 a0) fun y2 =>
    bindO (F27 a0 a1 a2) fun y3 =>
    bindO (F28 y2.1 a1 a2) fun y4 =>
    bindO (F29 a0 a1) fun y5 =>
    bindO (F30 y2.1 a1) fun y6 =>
    brO (y3.1 == y4.1) (
      brO (y3.2.1 == y4.2.1) (
        brO ((y5.1.1 == y6.1.1) && ((y5.1.2 == y6.1.2) && true)) (
          brO (y5.2.1 == y6.2.1) (
            bindO (F31 a0 a1 a2 a3) fun y7 =>
            bindO (F32 y2.1 a1 a2 a3) fun y8 =>
            brO (y7.1 == y8.1) (
              bindO (F16) fun y9 =>
              some (y9.1, ())) (
              some (false, ()))) (
            some (false, ()))) (
          some (false, ()))) (
        some (false, ()))) (
      some (false, ())))
def CF5 (a0 : List (List Int)) (a1 : Int) (a2 : Int) (a3 : Int) : Option (Bool × Unit) :=
  bindC (CF15 a0) fun y0 =>
  brC y0.1 (
    bindC (CF16) fun y1 =>
    some (y1.1, ())) (
    bindC (CF17 a0) fun y2 =>
    bindC (CF27 a0 a1 a2) fun y3 =>
    bindC (CF28 y2.1 a1 a2) fun y4 =>
    bindC (CF29 a0 a1) fun y5 =>
    bindC (CF30 y2.1 a1) fun y6 =>
    brC (y3.1 == y4.1) (
      brC (y3.2.1 == y4.2.1) (
        brC ((y5.1.1 == y6.1.1) && ((y5.1.2 == y6.1.2) && true)) (
          brC (y5.2.1 == y6.2.1) (
            bindC (CF31 a0 a1 a2 a3) fun y7 =>
            bindC (CF32 y2.1 a1 a2 a3) fun y8 =>
            brC (y7.1 == y8.1) (
              bindC (CF16) fun y9 =>
              some (y9.1, ())) (
              some (false, ()))) (
            some (false, ()))) (
          some (false, ()))) (
        some (false, ()))) (
      some (false, ())))
theorem CF5_le (a0 : List (List Int)) (a1 : Int) (a2 : Int) (a3 : Int) : Le (CF5 a0 a1 a2 a3) (F5 a0 a1 a2 a3) := (Le.bd (CF15_le ..) fun y0 => (Le.br (Le.bd (CF16_le ..) fun y1 => Le.r) (Le.bd (CF17_le ..) fun y2 => (Le.bd (CF27_le ..) fun y3 => (Le.bd (CF28_le ..) fun y4 => (Le.bd (CF29_le ..) fun y5 => (Le.bd (CF30_le ..) fun y6 => (Le.br (Le.br (Le.br (Le.br (Le.bd (CF31_le ..) fun y7 => (Le.bd (CF32_le ..) fun y8 => (Le.br (Le.bd (CF16_le ..) fun y9 => Le.r) Le.r))) Le.r) Le.r) Le.r) Le.r))))))))
theorem c5_ok : trF prog f5 = some ⟨83, 4, dd5.er, [.t 8], [some .bool]⟩ := by kernel_rfl
noncomputable def ct5 : Ct := ⟨5, [.c (.hole (.list (.list (.int .i64)))), .c (.hole (.int .i64)), .c (.hole (.int .i64)), .c (.hole (.int .i64))], .c (.hole .bool), fun x => F5 x.1 x.2.1 x.2.2.1 x.2.2.2.1⟩
theorem ct5_ok : ct5.Ok prog := ct_ok mixed cx5_ok func5 c5_ok (enters_of func5 rfl rfl) dd5 rfl rfl (fun x => by kernel_rfl)

end Go.Proofs.Try

