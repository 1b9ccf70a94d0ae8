/- Functions of the program as functions of data, part 3; printed by a program of mine. -/
import Derived.Test.YtigglifniejbpaaW41
import Derived.Test.YtigglifniejbpaaProg
set_option linter.unusedVariables false
set_option linter.unusedSimpArgs false
open Go.AM
namespace Go.Proofs.Try
set_option maxRecDepth 100000


/- 19 -/
noncomputable def cx19 : Cx := mkCxH [ct21, ct50, ct51] []
theorem cx19_ok : cx19.Ok prog := mkCxH_ok ⟨ct21_ok, ct50_ok, ct51_ok, trivial⟩ trivial
@[reducible] def p19_0 : Pat := Pat.mk [(0, .c (.hole (.list (.list (.int .i64))))), (1, .c (.hole (.list (.int .i64)))), (8, .c (.hole (.int .i64))), (9, .c (.hole (.int .i64))), (10, .c (.hole (.int .i64)))] [] [] []
@[reducible] def x19_0 : Outs := [(.ret, Pat.mk [(4, .c (.hole (.int .i64))), (5, .c (.hole (.int .i64))), (6, .c (.hole (.int .i64)))] [] [] []), (.exit 0, Pat.mk [(8, .c (.hole (.int .i64))), (9, .c (.hole (.int .i64)))] [] [] [])]
noncomputable def b19_0 : D prog 57 none 0 := (.seq (.seq (.reg [.op (some 21) none (.mv (.t 10)), .op (some 22) none (.mv (.t 1)), .op (some 23) none (.len (.t 22)), .op (some 24) none (.bin .lss (.t 21) (.t 23))]) (.cond ( .t 24) .skip (.exit 0))) (.seq (.block 1 (.seq (.seq (.draw [[], [], [0, 1], [0, 1, 2], [], [], [4, 5], [4, 5, 6], [4, 5, 6, 7], [0, 1, 2, 3, 4, 5, 6, 7, 8], [0, 1, 2, 3, 4, 5, 6, 7, 8, 9]] [.op (some 27) none (.mv (.t 1)), .op (some 28) none (.mv (.t 10)), .op (some 29) none (.idx 1 (.t 27) (.t 28)), .op (some 30) none (.load false 1 (.t 29)), .op (some 31) none (.mv (.t 0)), .op (some 32) none (.mv (.t 10)), .op (some 33) none (.idx 1 (.t 31) (.t 32)), .op (some 34) none (.load false 1 (.t 33)), .op (some 35) none (.len (.t 34)), .call (some 36) none (.c (.fn 50 [] [])) [.t 30, .c (.int .i64 (Int.ofNat 0)), .t 35] [some (.int .i64), some (.int .i64), some (.int .i64)], .op (some 37) none (.not (.t 36))]) (.cond ( .t 37) (.seq (.reg [.op (some 4) none (.mv (.c (.int .i64 (Int.ofNat 0)))), .op (some 5) none (.mv (.c (.int .i64 (Int.ofNat 0)))), .op (some 6) none (.mv (.c (.int .i64 (Int.ofNat 10))))]) .ret) .skip)) (.draw [[], [], [], [1, 2], [1, 2, 3], [0, 1, 2, 3, 4], [], [], [], [7, 8], [7, 8, 9], [], [], [11, 12], [11, 12, 13], [7, 8, 9, 10, 11, 12, 13, 14], [6, 7, 8, 9, 10, 11, 12, 13, 14, 15], [0, 1, 2, 3, 4, 5, 7, 8, 9, 10, 11, 12, 13, 14, 15], [0, 1, 2, 3, 4, 5, 6, 7, 8, 9, 10, 11, 12, 13, 14, 15, 16, 17]] [.op (some 38) none (.mv (.t 8)), .op (some 39) none (.mv (.t 1)), .op (some 40) none (.mv (.t 10)), .op (some 41) none (.idx 1 (.t 39) (.t 40)), .op (some 42) none (.load false 1 (.t 41)), .op (some 43) none (.bin .add (.t 38) (.t 42)), .op (some 44) none (.mv (.t 9)), .op (some 45) none (.mv (.t 0)), .op (some 46) none (.mv (.t 10)), .op (some 47) none (.idx 1 (.t 45) (.t 46)), .op (some 48) none (.load false 1 (.t 47)), .op (some 49) none (.mv (.t 1)), .op (some 50) none (.mv (.t 10)), .op (some 51) none (.idx 1 (.t 49) (.t 50)), .op (some 52) none (.load false 1 (.t 51)), .call (some 53) none (.c (.fn 51 [] [])) [.t 48, .t 52] [some (.list (.int .i64)), some (.int .i64)], .op (some 54) none (.bin .add (.t 44) (.t 53)), .op (some 8) none (.mv (.t 43)), .op (some 9) none (.mv (.t 54))]))) (.reg [.op (some 25) none (.mv (.t 10)), .op (some 26) none (.bin .add (.t 25) (.c (.int .i64 (Int.ofNat 1)))), .op (some 10) none (.mv (.t 26))])))
noncomputable def g19_0 (v0 : List (List Int)) (v1 : List Int) (v8 : Int) (v9 : Int) (v10 : Int) : Option ((List (List Int) × List Int × Int × Int × Int × Unit) ⊕ ((Int × Int × Int × Unit) ⊕ ((Int × Int × Unit)))) :=
  brO (decide (v10 < (((v1).length : Nat) : Int))) (
    need (inb v10 (((v1).length : Nat) : Int)) (
    need (inb v10 (((v0).length : Nat) : Int)) (
    bindO (F50 ((v1).getD (Int.toNat v10) (0 : Int)) (0 : Int) (((((v0).getD (Int.toNat v10) [])).length : Nat) : Int)) fun y1 =>
    brO (!y1.1) (
      some (.inr <| .inl <| ((0 : Int), ((0 : Int), ((10 : Int), ()))))) (
      need (inb v10 (((v1).length : Nat) : Int)) (
      need (rng .i64 (v8 + ((v1).getD (Int.toNat v10) (0 : Int)))) (
      need (inb v10 (((v0).length : Nat) : Int)) (
      need (inb v10 (((v1).length : Nat) : Int)) (
      bindO (F51 ((v0).getD (Int.toNat v10) []) ((v1).getD (Int.toNat v10) (0 : Int))) fun y2 =>
      need (rng .i64 (v9 + y2.1)) (
      need (rng .i64 (v10 + (1 : Int))) (
      some (.inl (v0, (v1, ((v8 + ((v1).getD (Int.toNat v10) (0 : Int))), ((v9 + y2.1), ((v10 + (1 : Int)), ())))))))))))))))) (
    some (.inr <| .inr <| (v8, (v9, ()))))
def Cg19_0 (v0 : List (List Int)) (v1 : List Int) (v8 : Int) (v9 : Int) (v10 : Int) : Option ((List (List Int) × List Int × Int × Int × Int × Unit) ⊕ ((Int × Int × Int × Unit) ⊕ ((Int × Int × Unit)))) :=
  brC (decide (v10 < (((v1).length : Nat) : Int))) (
    needC (inb v10 (((v1).length : Nat) : Int)) (
    needC (inb v10 (((v0).length : Nat) : Int)) (
    bindC (CF50 ((v1).getD (Int.toNat v10) (0 : Int)) (0 : Int) (((((v0).getD (Int.toNat v10) [])).length : Nat) : Int)) fun y1 =>
    brC (!y1.1) (
      some (.inr <| .inl <| ((0 : Int), ((0 : Int), ((10 : Int), ()))))) (
      needC (inb v10 (((v1).length : Nat) : Int)) (
      needC (rng .i64 (v8 + ((v1).getD (Int.toNat v10) (0 : Int)))) (
      needC (inb v10 (((v0).length : Nat) : Int)) (
      needC (inb v10 (((v1).length : Nat) : Int)) (
      bindC (CF51 ((v0).getD (Int.toNat v10) []) ((v1).getD (Int.toNat v10) (0 : Int))) fun y2 =>
      needC (rng .i64 (v9 + y2.1)) (
      needC (rng .i64 (v10 + (1 : Int))) (
      some (.inl (v0, (v1, ((v8 + ((v1).getD (Int.toNat v10) (0 : Int))), ((v9 + y2.1), ((v10 + (1 : Int)), ())))))))))))))))) (
    some (.inr <| .inr <| (v8, (v9, ()))))
theorem Cg19_0_le (v0 : List (List Int)) (v1 : List Int) (v8 : Int) (v9 : Int) (v10 : Int) : Le (Cg19_0 v0 v1 v8 v9 v10) (g19_0 v0 v1 v8 v9 v10) := (Le.br (Le.nd (Le.nd (Le.bd (CF50_le ..) fun y1 => (Le.br Le.r (Le.nd (Le.nd (Le.nd (Le.nd (Le.bd (CF51_le ..) fun y2 => (Le.nd (Le.nd Le.r))))))))))) Le.r)
theorem s19_0 : ∀ x, roundE (kzO (p19_0.T ⊕ x19_0.T)) cx19 ar0 [] p19_0 x19_0 (b19_0) (fun y => some (.inl y)) (fun b => some (.inr b)) x = g19_0 x.1 x.2.1 x.2.2.1 x.2.2.2.1 x.2.2.2.2.1 := by intro x; kernel_rfl
noncomputable def L19_0 : LoopS prog 57 none 0 := mkLoop mixed cx19 cx19_ok [] rfl p19_0 x19_0 rfl (b19_0) (fun x => g19_0 x.1 x.2.1 x.2.2.1 x.2.2.2.1 x.2.2.2.2.1) (s19_0)
noncomputable def dd19 : D prog 57 none 0 := (.seq (.reg [.op (some 4) none (.mv (.c (.int .i64 (Int.ofNat 0)))), .op (some 5) none (.mv (.c (.int .i64 (Int.ofNat 0)))), .op (some 6) none (.mv (.c (.int .i64 (Int.ofNat 0))))]) (.seq (.reg [.op (some 11) none (.mv (.t 0)), .call (some 12) none (.c (.fn 21 [] [])) [.t 11] [some (.list (.list (.int .i64)))], .op (some 7) none (.mv (.t 12))]) (.seq (.seq (.reg [.op (some 13) none (.mv (.t 7)), .op (some 14) none (.bin .neq (.t 13) (.c (.int .i64 (Int.ofNat 0))))]) (.cond ( .t 14) (.seq (.reg [.op (some 15) none (.mv (.t 7)), .op (some 4) none (.mv (.c (.int .i64 (Int.ofNat 0)))), .op (some 5) none (.mv (.c (.int .i64 (Int.ofNat 0)))), .op (some 6) none (.mv (.t 15))]) .ret) .skip)) (.seq (.seq (.reg [.op (some 16) none (.mv (.t 1)), .op (some 17) none (.len (.t 16)), .op (some 18) none (.mv (.t 0)), .op (some 19) none (.len (.t 18)), .op (some 20) none (.bin .neq (.t 17) (.t 19))]) (.cond ( .t 20) (.seq (.reg [.op (some 4) none (.mv (.c (.int .i64 (Int.ofNat 0)))), .op (some 5) none (.mv (.c (.int .i64 (Int.ofNat 0)))), .op (some 6) none (.mv (.c (.int .i64 (Int.ofNat 3))))]) .ret) .skip)) (.seq (.reg [.op (some 8) none (.mv (.c (.int .i64 (Int.ofNat 0)))), .op (some 9) none (.mv (.c (.int .i64 (Int.ofNat 0))))]) (.seq (.seq (.reg [.op (some 10) none (.mv (.c (.int .i64 (Int.ofNat 0))))]) (.block 0 (.loop L19_0))) (.seq (.reg [.op (some 55) none (.mv (.t 8)), .op (some 56) none (.mv (.t 9)), .op (some 4) none (.mv (.t 55)), .op (some 5) none (.mv (.t 56)), .op (some 6) none (.mv (.c (.int .i64 (Int.ofNat 0))))]) .ret)))))))
noncomputable def F19 (a0 : List (List Int)) (a1 : List Int) : Option (Int × Int × Int × Unit) :=
  bindO (F21 a0) fun y0 =>
  brO (!(y0.1 == (0 : Int))) (
    some ((0 : Int), ((0 : Int), (y0.1, ())))) (
    brO (!((((a1).length : Nat) : Int) == (((a0).length : Nat) : Int))) (
      some ((0 : Int), ((0 : Int), ((3 : Int), ())))) (
      bindO (iter (fun x => g19_0 x.1 x.2.1 x.2.2.1 x.2.2.2.1 x.2.2.2.2.1) (a0, (a1, ((0 : Int), ((0 : Int), ((0 : Int), ())))))) fun z3 =>
      match z3 with
      | .inl z4 =>
        some (z4.1, (z4.2.1, (z4.2.2.1, ())))
      | .inr z5 =>
        some (z5.1, (z5.2.1, ((0 : Int), ())))))
def CF19 (a0 : List (List Int)) (a1 : List Int) : Option (Int × Int × Int × Unit) :=
  bindC (CF21 a0) fun y0 =>
  brC (!(y0.1 == (0 : Int))) (
    some ((0 : Int), ((0 : Int), (y0.1, ())))) (
    brC (!((((a1).length : Nat) : Int) == (((a0).length : Nat) : Int))) (
      some ((0 : Int), ((0 : Int), ((3 : Int), ())))) (
      bindC (iterF (fun x => Cg19_0 x.1 x.2.1 x.2.2.1 x.2.2.2.1 x.2.2.2.2.1) 1000000 (a0, (a1, ((0 : Int), ((0 : Int), ((0 : Int), ())))))) fun z3 =>
      match z3 with
      | .inl z4 =>
        some (z4.1, (z4.2.1, (z4.2.2.1, ())))
      | .inr z5 =>
        some (z5.1, (z5.2.1, ((0 : Int), ())))))
theorem CF19_le (a0 : List (List Int)) (a1 : List Int) : Le (CF19 a0 a1) (F19 a0 a1) := (Le.bd (CF21_le ..) fun y0 => (Le.br Le.r (Le.br Le.r (Le.bd (Le.iter fun x => Cg19_0_le ..) fun z3 => (match z3 with | .inl z4 => Le.r | .inr z5 => Le.r)))))
theorem c19_ok : trF prog f19 = some ⟨57, 2, dd19.er, [.t 4, .t 5, .t 6], [some (.int .i64), some (.int .i64), some (.int .i64)]⟩ := by kernel_rfl
noncomputable def ct19 : Ct := ⟨19, [.c (.hole (.list (.list (.int .i64)))), .c (.hole (.list (.int .i64)))], .tup [.hole (.int .i64), .hole (.int .i64), .hole (.int .i64)], fun x => F19 x.1 x.2.1⟩
theorem ct19_ok : ct19.Ok prog := ct_ok mixed cx19_ok func19 c19_ok (enters_of func19 rfl rfl) dd19 rfl rfl (fun x => by kernel_rfl)

/- 57 -/
noncomputable def cx57 : Cx := mkCxH [ct51] []
theorem cx57_ok : cx57.Ok prog := mkCxH_ok ⟨ct51_ok, trivial⟩ trivial
@[reducible] def p57_2 : Pat := Pat.mk [(0, .c (.hole (.list (.list (.int .i64))))), (1, .c (.hole (.int .i64))), (6, .c (.sl0 0 (.list (.int .i64)))), (7, .c (.sl0 1 (.int .i64))), (8, .c (.hole (.int .i64))), (9, .c (.sl0 2 (.list (.int .i64)))), (10, .c (.sl0 3 (.int .i64))), (11, .c (.hole (.int .i64))), (12, .c (.hole (.int .i64)))] [(0, .arr (.list (.int .i64)) false), (1, .arr (.int .i64) false), (2, .arr (.list (.int .i64)) false), (3, .arr (.int .i64) false)] [.slot 6, .slot 7, .slot 9, .slot 10] []
@[reducible] def x57_2 : Outs := [(.exit 4, Pat.mk [(0, .c (.hole (.list (.list (.int .i64))))), (1, .c (.hole (.int .i64))), (6, .c (.sl0 0 (.list (.int .i64)))), (7, .c (.sl0 1 (.int .i64))), (8, .c (.hole (.int .i64))), (9, .c (.sl0 2 (.list (.int .i64)))), (10, .c (.sl0 3 (.int .i64))), (11, .c (.hole (.int .i64)))] [(0, .arr (.list (.int .i64)) false), (1, .arr (.int .i64) false), (2, .arr (.list (.int .i64)) false), (3, .arr (.int .i64) false)] [.slot 6, .slot 7, .slot 9, .slot 10] [])]
noncomputable def b57_2 : D prog 101 none 0 := (.seq (.seq (.reg [.op (some 40) none (.mv (.t 12)), .op (some 41) none (.mv (.t 0)), .op (some 42) none (.mv (.t 8)), .op (some 43) none (.idx 1 (.t 41) (.t 42)), .op (some 44) none (.load false 1 (.t 43)), .op (some 45) none (.len (.t 44)), .op (some 46) none (.bin .leq (.t 40) (.t 45)), .op (some 47) none (.mv (.t 46)), .op (some 48) (some (47, true)) (.mv (.t 12)), .op (some 49) (some (47, true)) (.mv (.t 11)), .op (some 50) (some (47, true)) (.bin .leq (.t 48) (.t 49)), .op (some 51) none (.pick (.t 47) (.t 50) (.c (.tf false)))]) (.cond ( .t 51) .skip (.exit 4))) (.seq (.block 5 (.seq (.draw [[], [], [], [1, 2], [0, 1, 2, 3], [0, 1, 2, 3, 4], [], [], [6, 7], [6, 7, 8], [], [6, 7, 8, 9, 10], [0, 1, 2, 3, 4, 5, 6, 7, 8, 9, 10, 11], [0, 1, 2, 3, 4, 5, 6, 7, 8, 9, 10, 11, 12]] [.op (some 54) none (.mv (.t 7)), .op (some 55) none (.mv (.t 11)), .op (some 56) none (.mv (.t 12)), .op (some 57) none (.bin .sub (.t 55) (.t 56)), .op (some 58) none (.idx 1 (.t 54) (.t 57)), .op (some 59) none (.load false 1 (.t 58)), .op (some 60) none (.mv (.t 0)), .op (some 61) none (.mv (.t 8)), .op (some 62) none (.idx 1 (.t 60) (.t 61)), .op (some 63) none (.load false 1 (.t 62)), .op (some 64) none (.mv (.t 12)), .call (some 65) none (.c (.fn 51 [] [])) [.t 63, .t 64] [some (.list (.int .i64)), some (.int .i64)], .op (some 66) none (.bin .add (.t 59) (.t 65)), .op (some 13) none (.mv (.t 66))]) (.seq (.reg [.op (some 67) none (.mv (.t 13)), .op (some 68) none (.mv (.t 10)), .op (some 69) none (.mv (.t 11)), .op (some 70) none (.idx 1 (.t 68) (.t 69)), .op (some 71) none (.load false 1 (.t 70)), .op (some 72) none (.bin .gtr (.t 67) (.t 71))]) (.cond ( .t 72) (.reg [.op (some 73) none (.mv (.t 9)), .op (some 74) none (.mv (.t 11)), .op (some 75) none (.mv (.t 10)), .op (some 76) none (.mv (.t 11)), .op (some 77) none (.bslice (.int .i64) []), .op (some 78) none (.mv (.t 6)), .op (some 79) none (.mv (.t 11)), .op (some 80) none (.mv (.t 12)), .op (some 81) none (.bin .sub (.t 79) (.t 80)), .op (some 82) none (.idx 1 (.t 78) (.t 81)), .op (some 83) none (.load false 1 (.t 82)), .op (some 84) none (.append 1 (.t 77) (.t 83)), .op (some 85) none (.mv (.t 12)), .op (some 86) none (.bslice (.int .i64) [.t 85]), .op (some 87) none (.append 1 (.t 84) (.t 86)), .op (some 88) none (.mv (.t 13)), .op (some 89) none (.idx 1 (.t 73) (.t 74)), .op none none (.store 1 (.t 89) (.t 87)), .op (some 90) none (.idx 1 (.t 75) (.t 76)), .op none none (.store 1 (.t 90) (.t 88))]) .skip)))) (.reg [.op (some 52) none (.mv (.t 12)), .op (some 53) none (.bin .add (.t 52) (.c (.int .i64 (Int.ofNat 1)))), .op (some 12) none (.mv (.t 53))])))
noncomputable def g57_2 (v0 : List (List Int)) (v1 : Int) (nv6 : Nat) (nv7 : Nat) (v8 : Int) (nv9 : Nat) (nv10 : Nat) (v11 : Int) (v12 : Int) (b0 : List (List Int)) (b1 : List Int) (b2 : List (List Int)) (b3 : List Int) : Option ((List (List Int) × Int × Nat × Nat × Int × Nat × Nat × Int × Int × List (List Int) × List Int × List (List Int) × List Int × Unit) ⊕ ((List (List Int) × Int × Nat × Nat × Int × Nat × Nat × Int × List (List Int) × List Int × List (List Int) × List Int × Unit))) :=
  need (inb v8 (((v0).length : Nat) : Int)) (
  brO (decide (v12 ≤ (((((v0).getD (Int.toNat v8) [])).length : Nat) : Int))) (
    brO (decide (v12 ≤ v11)) (
      need (rng .i64 (v11 - v12)) (
      need (inb (v11 - v12) ((nv7 : Nat) : Int)) (
      need (decide (((0 : Nat) + (Int.toNat (v11 - v12))) < (b1).length)) (
      need (inb v8 (((v0).length : Nat) : Int)) (
      bindO (F51 ((v0).getD (Int.toNat v8) []) v12) fun y0 =>
      need (rng .i64 (((b1).getD ((0 : Nat) + (Int.toNat (v11 - v12))) (0 : Int)) + y0.1)) (
      need (inb v11 ((nv10 : Nat) : Int)) (
      need (decide (((0 : Nat) + (Int.toNat v11)) < (b3).length)) (
      brO (decide (((b3).getD ((0 : Nat) + (Int.toNat v11)) (0 : Int)) < (((b1).getD ((0 : Nat) + (Int.toNat (v11 - v12))) (0 : Int)) + y0.1))) (
        need (rng .i64 (v11 - v12)) (
        need (inb (v11 - v12) ((nv6 : Nat) : Int)) (
        need (decide (((0 : Nat) + (Int.toNat (v11 - v12))) < (b0).length)) (
        need (decide (((0 : Nat) + (((b0).getD ((0 : Nat) + (Int.toNat (v11 - v12))) [])).length) < bigL)) (
        need (decide ((((0 : Nat) + (((b0).getD ((0 : Nat) + (Int.toNat (v11 - v12))) [])).length) + (((((v12 :: [])).drop (0 : Nat)).take (1 : Nat))).length) < bigL)) (
        need (inb v11 ((nv9 : Nat) : Int)) (
        need (decide (((0 : Nat) + (Int.toNat v11)) < (b2).length)) (
        need (inb v11 ((nv10 : Nat) : Int)) (
        need (decide (((0 : Nat) + (Int.toNat v11)) < (b3).length)) (
        need (rng .i64 (v12 + (1 : Int))) (
        some (.inl (v0, (v1, (nv6, (nv7, (v8, (nv9, (nv10, (v11, ((v12 + (1 : Int)), (b0, (b1, (((b2).set ((0 : Nat) + (Int.toNat v11)) ((((((((((([]).drop (0 : Nat)).take (0 : Nat)) ++ ((b0).getD ((0 : Nat) + (Int.toNat (v11 - v12))) []))).drop (0 : Nat)).take ((0 : Nat) + (((b0).getD ((0 : Nat) + (Int.toNat (v11 - v12))) [])).length)) ++ ((((v12 :: [])).drop (0 : Nat)).take (1 : Nat)))).drop (0 : Nat)).take (((0 : Nat) + (((b0).getD ((0 : Nat) + (Int.toNat (v11 - v12))) [])).length) + (((((v12 :: [])).drop (0 : Nat)).take (1 : Nat))).length))), (((b3).set ((0 : Nat) + (Int.toNat v11)) (((b1).getD ((0 : Nat) + (Int.toNat (v11 - v12))) (0 : Int)) + y0.1)), ()))))))))))))))))))))))))) (
        need (rng .i64 (v12 + (1 : Int))) (
        some (.inl (v0, (v1, (nv6, (nv7, (v8, (nv9, (nv10, (v11, ((v12 + (1 : Int)), (b0, (b1, (b2, (b3, ())))))))))))))))))))))))) (
      some (.inr (v0, (v1, (nv6, (nv7, (v8, (nv9, (nv10, (v11, (b0, (b1, (b2, (b3, ()))))))))))))))) (
    some (.inr (v0, (v1, (nv6, (nv7, (v8, (nv9, (nv10, (v11, (b0, (b1, (b2, (b3, ())))))))))))))))
def Cg57_2 (v0 : List (List Int)) (v1 : Int) (nv6 : Nat) (nv7 : Nat) (v8 : Int) (nv9 : Nat) (nv10 : Nat) (v11 : Int) (v12 : Int) (b0 : List (List Int)) (b1 : List Int) (b2 : List (List Int)) (b3 : List Int) : Option ((List (List Int) × Int × Nat × Nat × Int × Nat × Nat × Int × Int × List (List Int) × List Int × List (List Int) × List Int × Unit) ⊕ ((List (List Int) × Int × Nat × Nat × Int × Nat × Nat × Int × List (List Int) × List Int × List (List Int) × List Int × Unit))) :=
  needC (inb v8 (((v0).length : Nat) : Int)) (
  brC (decide (v12 ≤ (((((v0).getD (Int.toNat v8) [])).length : Nat) : Int))) (
    brC (decide (v12 ≤ v11)) (
      needC (rng .i64 (v11 - v12)) (
      needC (inb (v11 - v12) ((nv7 : Nat) : Int)) (
      needC (decide (((0 : Nat) + (Int.toNat (v11 - v12))) < (b1).length)) (
      needC (inb v8 (((v0).length : Nat) : Int)) (
      bindC (CF51 ((v0).getD (Int.toNat v8) []) v12) fun y0 =>
      needC (rng .i64 (((b1).getD ((0 : Nat) + (Int.toNat (v11 - v12))) (0 : Int)) + y0.1)) (
      needC (inb v11 ((nv10 : Nat) : Int)) (
      needC (decide (((0 : Nat) + (Int.toNat v11)) < (b3).length)) (
      brC (decide (((b3).getD ((0 : Nat) + (Int.toNat v11)) (0 : Int)) < (((b1).getD ((0 : Nat) + (Int.toNat (v11 - v12))) (0 : Int)) + y0.1))) (
        needC (rng .i64 (v11 - v12)) (
        needC (inb (v11 - v12) ((nv6 : Nat) : Int)) (
        needC (decide (((0 : Nat) + (Int.toNat (v11 - v12))) < (b0).length)) (
        needC (decide (((0 : Nat) + (((b0).getD ((0 : Nat) + (Int.toNat (v11 - v12))) [])).length) < bigL)) (
        needC (decide ((((0 : Nat) + (((b0).getD ((0 : Nat) + (Int.toNat (v11 - v12))) [])).length) + (((((v12 :: [])).drop (0 : Nat)).take (1 : Nat))).length) < bigL)) (
        needC (inb v11 ((nv9 : Nat) : Int)) (
        needC (decide (((0 : Nat) + (Int.toNat v11)) < (b2).length)) (
        needC (inb v11 ((nv10 : Nat) : Int)) (
        needC (decide (((0 : Nat) + (Int.toNat v11)) < (b3).length)) (
        needC (rng .i64 (v12 + (1 : Int))) (
        some (.inl (v0, (v1, (nv6, (nv7, (v8, (nv9, (nv10, (v11, ((v12 + (1 : Int)), (b0, (b1, (((b2).set ((0 : Nat) + (Int.toNat v11)) ((((((((((([]).drop (0 : Nat)).take (0 : Nat)) ++ ((b0).getD ((0 : Nat) + (Int.toNat (v11 - v12))) []))).drop (0 : Nat)).take ((0 : Nat) + (((b0).getD ((0 : Nat) + (Int.toNat (v11 - v12))) [])).length)) ++ ((((v12 :: [])).drop (0 : Nat)).take (1 : Nat)))).drop (0 : Nat)).take (((0 : Nat) + (((b0).getD ((0 : Nat) + (Int.toNat (v11 - v12))) [])).length) + (((((v12 :: [])).drop (0 : Nat)).take (1 : Nat))).length))), (((b3).set ((0 : Nat) + (Int.toNat v11)) (((b1).getD ((0 : Nat) + (Int.toNat (v11 - v12))) (0 : Int)) + y0.1)), ()))))))))))))))))))))))))) (
        needC (rng .i64 (v12 + (1 : Int))) (
        some (.inl (v0, (v1, (nv6, (nv7, (v8, (nv9, (nv10, (v11, ((v12 + (1 : Int)), (b0, (b1, (b2, (b3, ())))))))))))))))))))))))) (
      some (.inr (v0, (v1, (nv6, (nv7, (v8, (nv9, (nv10, (v11, (b0, (b1, (b2, (b3, ()))))))))))))))) (
    some (.inr (v0, (v1, (nv6, (nv7, (v8, (nv9, (nv10, (v11, (b0, (b1, (b2, (b3, ())))))))))))))))
theorem Cg57_2_le (v0 : List (List Int)) (v1 : Int) (nv6 : Nat) (nv7 : Nat) (v8 : Int) (nv9 : Nat) (nv10 : Nat) (v11 : Int) (v12 : Int) (b0 : List (List Int)) (b1 : List Int) (b2 : List (List Int)) (b3 : List Int) : Le (Cg57_2 v0 v1 nv6 nv7 v8 nv9 nv10 v11 v12 b0 b1 b2 b3) (g57_2 v0 v1 nv6 nv7 v8 nv9 nv10 v11 v12 b0 b1 b2 b3) := (Le.nd (Le.br (Le.br (Le.nd (Le.nd (Le.nd (Le.nd (Le.bd (CF51_le ..) fun y0 => (Le.nd (Le.nd (Le.nd (Le.br (Le.nd (Le.nd (Le.nd (Le.nd (Le.nd (Le.nd (Le.nd (Le.nd (Le.nd (Le.nd Le.r)))))))))) (Le.nd Le.r)))))))))) Le.r) Le.r))
theorem s57_2 : ∀ x, roundE (kzO (p57_2.T ⊕ x57_2.T)) cx57 ar0 [] p57_2 x57_2 (b57_2) (fun y => some (.inl y)) (fun b => some (.inr b)) x = g57_2 x.1 x.2.1 x.2.2.1 x.2.2.2.1 x.2.2.2.2.1 x.2.2.2.2.2.1 x.2.2.2.2.2.2.1 x.2.2.2.2.2.2.2.1 x.2.2.2.2.2.2.2.2.1 x.2.2.2.2.2.2.2.2.2.1 x.2.2.2.2.2.2.2.2.2.2.1 x.2.2.2.2.2.2.2.2.2.2.2.1 x.2.2.2.2.2.2.2.2.2.2.2.2.1 := by intro x; kernel_rfl
noncomputable def L57_2 : LoopS prog 101 none 0 := mkLoop mixed cx57 cx57_ok [] rfl p57_2 x57_2 rfl (b57_2) (fun x => g57_2 x.1 x.2.1 x.2.2.1 x.2.2.2.1 x.2.2.2.2.1 x.2.2.2.2.2.1 x.2.2.2.2.2.2.1 x.2.2.2.2.2.2.2.1 x.2.2.2.2.2.2.2.2.1 x.2.2.2.2.2.2.2.2.2.1 x.2.2.2.2.2.2.2.2.2.2.1 x.2.2.2.2.2.2.2.2.2.2.2.1 x.2.2.2.2.2.2.2.2.2.2.2.2.1) (s57_2)
@[reducible] def p57_1 : Pat := Pat.mk [(0, .c (.hole (.list (.list (.int .i64))))), (1, .c (.hole (.int .i64))), (6, .c (.sl0 0 (.list (.int .i64)))), (7, .c (.sl0 1 (.int .i64))), (8, .c (.hole (.int .i64))), (9, .c (.sl0 2 (.list (.int .i64)))), (10, .c (.sl0 3 (.int .i64))), (11, .c (.hole (.int .i64)))] [(0, .arr (.list (.int .i64)) false), (1, .arr (.int .i64) false), (2, .arr (.list (.int .i64)) false), (3, .arr (.int .i64) false)] [.slot 6, .slot 7, .slot 9, .slot 10] []
@[reducible] def x57_1 : Outs := [(.exit 2, Pat.mk [(0, .c (.hole (.list (.list (.int .i64))))), (1, .c (.hole (.int .i64))), (8, .c (.hole (.int .i64))), (9, .c (.sl0 0 (.list (.int .i64)))), (10, .c (.sl0 1 (.int .i64)))] [(0, .arr (.list (.int .i64)) false), (1, .arr (.int .i64) false)] [.slot 9, .slot 10] [])]
noncomputable def b57_1 : D prog 101 none 0 := (.seq (.seq (.reg [.op (some 32) none (.mv (.t 11)), .op (some 33) none (.mv (.t 1)), .op (some 34) none (.bin .leq (.t 32) (.t 33))]) (.cond ( .t 34) .skip (.exit 2))) (.seq (.block 3 (.seq (.reg [.op (some 37) none (.mv (.t 10)), .op (some 38) none (.mv (.t 11)), .op (some 39) none (.idx 1 (.t 37) (.t 38)), .op none none (.store 1 (.t 39) (.c (.int .i64 (Int.negSucc 0))))]) (.seq (.reg [.op (some 12) none (.mv (.c (.int .i64 (Int.ofNat 0))))]) (.block 4 (.loop L57_2))))) (.reg [.op (some 35) none (.mv (.t 11)), .op (some 36) none (.bin .add (.t 35) (.c (.int .i64 (Int.ofNat 1)))), .op (some 11) none (.mv (.t 36))])))
noncomputable def g57_1 (v0 : List (List Int)) (v1 : Int) (nv6 : Nat) (nv7 : Nat) (v8 : Int) (nv9 : Nat) (nv10 : Nat) (v11 : Int) (b0 : List (List Int)) (b1 : List Int) (b2 : List (List Int)) (b3 : List Int) : Option ((List (List Int) × Int × Nat × Nat × Int × Nat × Nat × Int × List (List Int) × List Int × List (List Int) × List Int × Unit) ⊕ ((List (List Int) × Int × Int × Nat × Nat × List (List Int) × List Int × Unit))) :=
  brO (decide (v11 ≤ v1)) (
    need (inb v11 ((nv10 : Nat) : Int)) (
    need (decide (((0 : Nat) + (Int.toNat v11)) < (b3).length)) (
    bindO (iter (fun x => g57_2 x.1 x.2.1 x.2.2.1 x.2.2.2.1 x.2.2.2.2.1 x.2.2.2.2.2.1 x.2.2.2.2.2.2.1 x.2.2.2.2.2.2.2.1 x.2.2.2.2.2.2.2.2.1 x.2.2.2.2.2.2.2.2.2.1 x.2.2.2.2.2.2.2.2.2.2.1 x.2.2.2.2.2.2.2.2.2.2.2.1 x.2.2.2.2.2.2.2.2.2.2.2.2.1) (v0, (v1, (nv6, (nv7, (v8, (nv9, (nv10, (v11, ((0 : Int), (b0, (b1, (b2, (((b3).set ((0 : Nat) + (Int.toNat v11)) (-1 : Int)), ())))))))))))))) fun z1 =>
    need (rng .i64 (z1.2.2.2.2.2.2.2.1 + (1 : Int))) (
    some (.inl (z1.1, (z1.2.1, (z1.2.2.1, (z1.2.2.2.1, (z1.2.2.2.2.1, (z1.2.2.2.2.2.1, (z1.2.2.2.2.2.2.1, ((z1.2.2.2.2.2.2.2.1 + (1 : Int)), (z1.2.2.2.2.2.2.2.2.1, (z1.2.2.2.2.2.2.2.2.2.1, (z1.2.2.2.2.2.2.2.2.2.2.1, (z1.2.2.2.2.2.2.2.2.2.2.2.1, ()))))))))))))))))) (
    some (.inr (v0, (v1, (v8, (nv9, (nv10, (b2, (b3, ())))))))))
def Cg57_1 (v0 : List (List Int)) (v1 : Int) (nv6 : Nat) (nv7 : Nat) (v8 : Int) (nv9 : Nat) (nv10 : Nat) (v11 : Int) (b0 : List (List Int)) (b1 : List Int) (b2 : List (List Int)) (b3 : List Int) : Option ((List (List Int) × Int × Nat × Nat × Int × Nat × Nat × Int × List (List Int) × List Int × List (List Int) × List Int × Unit) ⊕ ((List (List Int) × Int × Int × Nat × Nat × List (List Int) × List Int × Unit))) :=
  brC (decide (v11 ≤ v1)) (
    needC (inb v11 ((nv10 : Nat) : Int)) (
    needC (decide (((0 : Nat) + (Int.toNat v11)) < (b3).length)) (
    bindC (iterF (fun x => Cg57_2 x.1 x.2.1 x.2.2.1 x.2.2.2.1 x.2.2.2.2.1 x.2.2.2.2.2.1 x.2.2.2.2.2.2.1 x.2.2.2.2.2.2.2.1 x.2.2.2.2.2.2.2.2.1 x.2.2.2.2.2.2.2.2.2.1 x.2.2.2.2.2.2.2.2.2.2.1 x.2.2.2.2.2.2.2.2.2.2.2.1 x.2.2.2.2.2.2.2.2.2.2.2.2.1) 1000000 (v0, (v1, (nv6, (nv7, (v8, (nv9, (nv10, (v11, ((0 : Int), (b0, (b1, (b2, (((b3).set ((0 : Nat) + (Int.toNat v11)) (-1 : Int)), ())))))))))))))) fun z1 =>
    needC (rng .i64 (z1.2.2.2.2.2.2.2.1 + (1 : Int))) (
    some (.inl (z1.1, (z1.2.1, (z1.2.2.1, (z1.2.2.2.1, (z1.2.2.2.2.1, (z1.2.2.2.2.2.1, (z1.2.2.2.2.2.2.1, ((z1.2.2.2.2.2.2.2.1 + (1 : Int)), (z1.2.2.2.2.2.2.2.2.1, (z1.2.2.2.2.2.2.2.2.2.1, (z1.2.2.2.2.2.2.2.2.2.2.1, (z1.2.2.2.2.2.2.2.2.2.2.2.1, ()))))))))))))))))) (
    some (.inr (v0, (v1, (v8, (nv9, (nv10, (b2, (b3, ())))))))))
theorem Cg57_1_le (v0 : List (List Int)) (v1 : Int) (nv6 : Nat) (nv7 : Nat) (v8 : Int) (nv9 : Nat) (nv10 : Nat) (v11 : Int) (b0 : List (List Int)) (b1 : List Int) (b2 : List (List Int)) (b3 : List Int) : Le (Cg57_1 v0 v1 nv6 nv7 v8 nv9 nv10 v11 b0 b1 b2 b3) (g57_1 v0 v1 nv6 nv7 v8 nv9 nv10 v11 b0 b1 b2 b3) := (Le.br (Le.nd (Le.nd (Le.bd (Le.iter fun x => Cg57_2_le ..) fun z1 => (Le.nd Le.r)))) Le.r)
theorem s57_1 : ∀ x, roundE (kzO (p57_1.T ⊕ x57_1.T)) cx57 ar0 [] p57_1 x57_1 (b57_1) (fun y => some (.inl y)) (fun b => some (.inr b)) x = g57_1 x.1 x.2.1 x.2.2.1 x.2.2.2.1 x.2.2.2.2.1 x.2.2.2.2.2.1 x.2.2.2.2.2.2.1 x.2.2.2.2.2.2.2.1 x.2.2.2.2.2.2.2.2.1 x.2.2.2.2.2.2.2.2.2.1 x.2.2.2.2.2.2.2.2.2.2.1 x.2.2.2.2.2.2.2.2.2.2.2.1 := by intro x; kernel_rfl
noncomputable def L57_1 : LoopS prog 101 none 0 := mkLoop mixed cx57 cx57_ok [] rfl p57_1 x57_1 rfl (b57_1) (fun x => g57_1 x.1 x.2.1 x.2.2.1 x.2.2.2.1 x.2.2.2.2.1 x.2.2.2.2.2.1 x.2.2.2.2.2.2.1 x.2.2.2.2.2.2.2.1 x.2.2.2.2.2.2.2.2.1 x.2.2.2.2.2.2.2.2.2.1 x.2.2.2.2.2.2.2.2.2.2.1 x.2.2.2.2.2.2.2.2.2.2.2.1) (s57_1)
@[reducible] def p57_0 : Pat := Pat.mk [(0, .c (.hole (.list (.list (.int .i64))))), (1, .c (.hole (.int .i64))), (6, .c (.sl0 0 (.list (.int .i64)))), (7, .c (.sl0 1 (.int .i64))), (8, .c (.hole (.int .i64)))] [(0, .arr (.list (.int .i64)) false), (1, .arr (.int .i64) false)] [.slot 6, .slot 7] []
@[reducible] def x57_0 : Outs := [(.exit 0, Pat.mk [(1, .c (.hole (.int .i64))), (6, .c (.sl0 0 (.list (.int .i64)))), (7, .c (.sl0 1 (.int .i64)))] [(0, .arr (.list (.int .i64)) false), (1, .arr (.int .i64) false)] [.slot 6, .slot 7] [])]
noncomputable def b57_0 : D prog 101 none 0 := (.seq (.seq (.reg [.op (some 20) none (.mv (.t 8)), .op (some 21) none (.mv (.t 0)), .op (some 22) none (.len (.t 21)), .op (some 23) none (.bin .lss (.t 20) (.t 22))]) (.cond ( .t 23) .skip (.exit 0))) (.seq (.block 1 (.seq (.draw [[], [0], [0, 1], [], [3], [3, 4], [0, 1, 2], [0, 1, 2, 3, 4, 5, 6]] [.op (some 26) none (.mv (.t 1)), .op (some 27) none (.bin .add (.t 26) (.c (.int .i64 (Int.ofNat 1)))), .op (some 28) none (.mkslice (.list (.int .i64)) (.t 27)), .op (some 29) none (.mv (.t 1)), .op (some 30) none (.bin .add (.t 29) (.c (.int .i64 (Int.ofNat 1)))), .op (some 31) none (.mkslice (.int .i64) (.t 30)), .op (some 9) none (.mv (.t 28)), .op (some 10) none (.mv (.t 31))]) (.seq (.seq (.reg [.op (some 11) none (.mv (.c (.int .i64 (Int.ofNat 0))))]) (.block 2 (.loop L57_1))) (.reg [.op (some 91) none (.mv (.t 9)), .op (some 92) none (.mv (.t 10)), .op (some 6) none (.mv (.t 91)), .op (some 7) none (.mv (.t 92))])))) (.reg [.op (some 24) none (.mv (.t 8)), .op (some 25) none (.bin .add (.t 24) (.c (.int .i64 (Int.ofNat 1)))), .op (some 8) none (.mv (.t 25))])))
noncomputable def g57_0 (v0 : List (List Int)) (v1 : Int) (nv6 : Nat) (nv7 : Nat) (v8 : Int) (b0 : List (List Int)) (b1 : List Int) : Option ((List (List Int) × Int × Nat × Nat × Int × List (List Int) × List Int × Unit) ⊕ ((Int × Nat × Nat × List (List Int) × List Int × Unit))) :=
  brO (decide (v8 < (((v0).length : Nat) : Int))) (
    need (rng .i64 (v1 + (1 : Int))) (
    need (inb (v1 + (1 : Int)) ((bigL : Nat) : Int)) (
    need (rng .i64 (v1 + (1 : Int))) (
    need (inb (v1 + (1 : Int)) ((bigL : Nat) : Int)) (
    bindO (iter (fun x => g57_1 x.1 x.2.1 x.2.2.1 x.2.2.2.1 x.2.2.2.2.1 x.2.2.2.2.2.1 x.2.2.2.2.2.2.1 x.2.2.2.2.2.2.2.1 x.2.2.2.2.2.2.2.2.1 x.2.2.2.2.2.2.2.2.2.1 x.2.2.2.2.2.2.2.2.2.2.1 x.2.2.2.2.2.2.2.2.2.2.2.1) (v0, (v1, (nv6, (nv7, (v8, ((Int.toNat (v1 + (1 : Int))), ((Int.toNat (v1 + (1 : Int))), ((0 : Int), (b0, (b1, ((List.replicate (Int.toNat (v1 + (1 : Int))) []), ((List.replicate (Int.toNat (v1 + (1 : Int))) (0 : Int)), ()))))))))))))) fun z2 =>
    need (rng .i64 (z2.2.2.1 + (1 : Int))) (
    some (.inl (z2.1, (z2.2.1, (z2.2.2.2.1, (z2.2.2.2.2.1, ((z2.2.2.1 + (1 : Int)), (z2.2.2.2.2.2.1, (z2.2.2.2.2.2.2.1, ())))))))))))))) (
    some (.inr (v1, (nv6, (nv7, (b0, (b1, ())))))))
def Cg57_0 (v0 : List (List Int)) (v1 : Int) (nv6 : Nat) (nv7 : Nat) (v8 : Int) (b0 : List (List Int)) (b1 : List Int) : Option ((List (List Int) × Int × Nat × Nat × Int × List (List Int) × List Int × Unit) ⊕ ((Int × Nat × Nat × List (List Int) × List Int × Unit))) :=
  brC (decide (v8 < (((v0).length : Nat) : Int))) (
    needC (rng .i64 (v1 + (1 : Int))) (
    needC (inb (v1 + (1 : Int)) ((bigL : Nat) : Int)) (
    needC (rng .i64 (v1 + (1 : Int))) (
    needC (inb (v1 + (1 : Int)) ((bigL : Nat) : Int)) (
    bindC (iterF (fun x => Cg57_1 x.1 x.2.1 x.2.2.1 x.2.2.2.1 x.2.2.2.2.1 x.2.2.2.2.2.1 x.2.2.2.2.2.2.1 x.2.2.2.2.2.2.2.1 x.2.2.2.2.2.2.2.2.1 x.2.2.2.2.2.2.2.2.2.1 x.2.2.2.2.2.2.2.2.2.2.1 x.2.2.2.2.2.2.2.2.2.2.2.1) 1000000 (v0, (v1, (nv6, (nv7, (v8, ((Int.toNat (v1 + (1 : Int))), ((Int.toNat (v1 + (1 : Int))), ((0 : Int), (b0, (b1, ((List.replicate (Int.toNat (v1 + (1 : Int))) []), ((List.replicate (Int.toNat (v1 + (1 : Int))) (0 : Int)), ()))))))))))))) fun z2 =>
    needC (rng .i64 (z2.2.2.1 + (1 : Int))) (
    some (.inl (z2.1, (z2.2.1, (z2.2.2.2.1, (z2.2.2.2.2.1, ((z2.2.2.1 + (1 : Int)), (z2.2.2.2.2.2.1, (z2.2.2.2.2.2.2.1, ())))))))))))))) (
    some (.inr (v1, (nv6, (nv7, (b0, (b1, ())))))))
theorem Cg57_0_le (v0 : List (List Int)) (v1 : Int) (nv6 : Nat) (nv7 : Nat) (v8 : Int) (b0 : List (List Int)) (b1 : List Int) : Le (Cg57_0 v0 v1 nv6 nv7 v8 b0 b1) (g57_0 v0 v1 nv6 nv7 v8 b0 b1) := (Le.br (Le.nd (Le.nd (Le.nd (Le.nd (Le.bd (Le.iter fun x => Cg57_1_le ..) fun z2 => (Le.nd Le.r)))))) Le.r)
theorem s57_0 : ∀ x, roundE (kzO (p57_0.T ⊕ x57_0.T)) cx57 ar0 [] p57_0 x57_0 (b57_0) (fun y => some (.inl y)) (fun b => some (.inr b)) x = g57_0 x.1 x.2.1 x.2.2.1 x.2.2.2.1 x.2.2.2.2.1 x.2.2.2.2.2.1 x.2.2.2.2.2.2.1 := by intro x; kernel_rfl
noncomputable def L57_0 : LoopS prog 101 none 0 := mkLoop mixed cx57 cx57_ok [] rfl p57_0 x57_0 rfl (b57_0) (fun x => g57_0 x.1 x.2.1 x.2.2.1 x.2.2.2.1 x.2.2.2.2.1 x.2.2.2.2.2.1 x.2.2.2.2.2.2.1) (s57_0)
noncomputable def dd57 : D prog 101 none 0 := (.seq (.reg [.op (some 4) none (.mv (.c .nsl)), .op (some 5) none (.mv (.c (.int .i64 (Int.ofNat 0))))]) (.seq (.reg [.op (some 14) none (.mv (.t 1)), .op (some 15) none (.bin .add (.t 14) (.c (.int .i64 (Int.ofNat 1)))), .op (some 16) none (.mkslice (.list (.int .i64)) (.t 15)), .op (some 6) none (.mv (.t 16))]) (.seq (.reg [.op (some 17) none (.mv (.t 1)), .op (some 18) none (.bin .add (.t 17) (.c (.int .i64 (Int.ofNat 1)))), .op (some 19) none (.mkslice (.int .i64) (.t 18)), .op (some 7) none (.mv (.t 19))]) (.seq (.seq (.reg [.op (some 8) none (.mv (.c (.int .i64 (Int.ofNat 0))))]) (.block 0 (.loop L57_0))) (.seq (.draw [[], [], [0, 1], [0, 1, 2], [], [], [4, 5], [4, 5, 6], [0, 1, 2, 3], [0, 1, 2, 3, 4, 5, 6, 7, 8]] [.op (some 93) none (.mv (.t 6)), .op (some 94) none (.mv (.t 1)), .op (some 95) none (.idx 1 (.t 93) (.t 94)), .op (some 96) none (.load false 1 (.t 95)), .op (some 97) none (.mv (.t 7)), .op (some 98) none (.mv (.t 1)), .op (some 99) none (.idx 1 (.t 97) (.t 98)), .op (some 100) none (.load false 1 (.t 99)), .op (some 4) none (.mv (.t 96)), .op (some 5) none (.mv (.t 100))]) .ret)))))
noncomputable def F57 (a0 : List (List Int)) (a1 : Int) : Option (List Int × Int × Unit) :=
  need (rng .i64 (a1 + (1 : Int))) (
  need (inb (a1 + (1 : Int)) ((bigL : Nat) : Int)) (
  need (rng .i64 (a1 + (1 : Int))) (
  need (inb (a1 + (1 : Int)) ((bigL : Nat) : Int)) (
  bindO (iter (fun x => g57_0 x.1 x.2.1 x.2.2.1 x.2.2.2.1 x.2.2.2.2.1 x.2.2.2.2.2.1 x.2.2.2.2.2.2.1) (a0, (a1, ((Int.toNat (a1 + (1 : Int))), ((Int.toNat (a1 + (1 : Int))), ((0 : Int), ((List.replicate (Int.toNat (a1 + (1 : Int))) []), ((List.replicate (Int.toNat (a1 + (1 : Int))) (0 : Int)), ())))))))) fun z3 =>
  need (inb z3.1 ((z3.2.1 : Nat) : Int)) (
  need (decide (((0 : Nat) + (Int.toNat z3.1)) < (z3.2.2.2.1).length)) (
  need (inb z3.1 ((z3.2.2.1 : Nat) : Int)) (
  need (decide (((0 : Nat) + (Int.toNat z3.1)) < (z3.2.2.2.2.1).length)) (
  some (((z3.2.2.2.1).getD ((0 : Nat) + (Int.toNat z3.1)) []), (((z3.2.2.2.2.1).getD ((0 : Nat) + (Int.toNat z3.1)) (0 : Int)), ()))))))))))
def CF57 (a0 : List (List Int)) (a1 : Int) : Option (List Int × Int × Unit) :=
  needC (rng .i64 (a1 + (1 : Int))) (
  needC (inb (a1 + (1 : Int)) ((bigL : Nat) : Int)) (
  needC (rng .i64 (a1 + (1 : Int))) (
  needC (inb (a1 + (1 : Int)) ((bigL : Nat) : Int)) (
  bindC (iterF (fun x => Cg57_0 x.1 x.2.1 x.2.2.1 x.2.2.2.1 x.2.2.2.2.1 x.2.2.2.2.2.1 x.2.2.2.2.2.2.1) 1000000 (a0, (a1, ((Int.toNat (a1 + (1 : Int))), ((Int.toNat (a1 + (1 : Int))), ((0 : Int), ((List.replicate (Int.toNat (a1 + (1 : Int))) []), ((List.replicate (Int.toNat (a1 + (1 : Int))) (0 : Int)), ())))))))) fun z3 =>
  needC (inb z3.1 ((z3.2.1 : Nat) : Int)) (
  needC (decide (((0 : Nat) + (Int.toNat z3.1)) < (z3.2.2.2.1).length)) (
  needC (inb z3.1 ((z3.2.2.1 : Nat) : Int)) (
  needC (decide (((0 : Nat) + (Int.toNat z3.1)) < (z3.2.2.2.2.1).length)) (
  some (((z3.2.2.2.1).getD ((0 : Nat) + (Int.toNat z3.1)) []), (((z3.2.2.2.2.1).getD ((0 : Nat) + (Int.toNat z3.1)) (0 : Int)), ()))))))))))
theorem CF57_le (a0 : List (List Int)) (a1 : Int) : Le (CF57 a0 a1) (F57 a0 a1) := (Le.nd (Le.nd (Le.nd (Le.nd (Le.bd (Le.iter fun x => Cg57_0_le ..) fun z3 => (Le.nd (Le.nd (Le.nd (Le.nd Le.r)))))))))
theorem c57_ok : trF prog f57 = some ⟨101, 2, dd57.er, [.t 4, .t 5], [some (.list (.int .i64)), some (.int .i64)]⟩ := by kernel_rfl
noncomputable def ct57 : Ct := ⟨57, [.c (.hole (.list (.list (.int .i64)))), .c (.hole (.int .i64))], .tup [.hole (.list (.int .i64)), .hole (.int .i64)], fun x => F57 x.1 x.2.1⟩
theorem ct57_ok : ct57.Ok prog := ct_ok mixed cx57_ok func57 c57_ok (enters_of func57 rfl rfl) dd57 rfl rfl (fun x => by kernel_rfl)

/- 23 -/
noncomputable def cx23 : Cx := mkCxH [ct21, ct50, ct57] []
theorem cx23_ok : cx23.Ok prog := mkCxH_ok ⟨ct21_ok, ct50_ok, ct57_ok, trivial⟩ trivial
noncomputable def dd23 : D prog 30 none 0 := (.seq (.reg [.op (some 4) none (.mv (.c .nsl)), .op (some 5) none (.mv (.c (.int .i64 (Int.ofNat 0)))), .op (some 6) none (.mv (.c (.int .i64 (Int.ofNat 0))))]) (.seq (.reg [.op (some 10) none (.mv (.t 0)), .call (some 11) none (.c (.fn 21 [] [])) [.t 10] [some (.list (.list (.int .i64)))], .op (some 7) none (.mv (.t 11))]) (.seq (.seq (.reg [.op (some 12) none (.mv (.t 7)), .op (some 13) none (.bin .eql (.t 12) (.c (.int .i64 (Int.ofNat 0)))), .op (some 14) none (.mv (.t 13)), .op (some 15) (some (14, true)) (.mv (.t 1)), .call (some 16) (some (14, true)) (.c (.fn 50 [] [])) [.t 15, .c (.int .i64 (Int.ofNat 0)), .c (.int .i64 (Int.ofNat 200))] [some (.int .i64), some (.int .i64), some (.int .i64)], .op (some 17) (some (14, true)) (.not (.t 16)), .op (some 18) none (.pick (.t 14) (.t 17) (.c (.tf false)))]) (.cond ( .t 18) (.reg [.op (some 7) none (.mv (.c (.int .i64 (Int.ofNat 2))))]) .skip)) (.seq (.seq (.reg [.op (some 19) none (.mv (.t 7)), .op (some 20) none (.bin .neq (.t 19) (.c (.int .i64 (Int.ofNat 0))))]) (.cond ( .t 20) (.seq (.reg [.op (some 21) none (.mv (.t 7)), .op (some 4) none (.mv (.c .nsl)), .op (some 5) none (.mv (.c (.int .i64 (Int.ofNat 0)))), .op (some 6) none (.mv (.t 21))]) .ret) .skip)) (.seq (.reg [.op (some 23) none (.mv (.t 0)), .op (some 24) none (.mv (.t 1)), .call (some 25) none (.c (.fn 57 [] [])) [.t 23, .t 24] [some (.list (.list (.int .i64))), some (.int .i64)], .op (some 22) none (.mv (.t 25)), .op (some 26) none (.ext 0 (.t 22)), .op (some 27) none (.ext 1 (.t 22)), .op (some 8) none (.mv (.t 26)), .op (some 9) none (.mv (.t 27))]) (.seq (.reg [.op (some 28) none (.mv (.t 8)), .op (some 29) none (.mv (.t 9)), .op (some 4) none (.mv (.t 28)), .op (some 5) none (.mv (.t 29)), .op (some 6) none (.mv (.c (.int .i64 (Int.ofNat 0))))]) .ret))))))
noncomputable def F23 (a0 : List (List Int)) (a1 : Int) : Option (List Int × Int × Int × Unit) :=
  bindO (F21 a0) fun y0 =>
  brO (y0.1 == (0 : Int)) (
    bindO (F50 a1 (0 : Int) (200 : Int)) fun y1 =>
    brO (!y1.1) (
      brO (!((2 : Int) == (0 : Int))) (
        some ([], ((0 : Int), ((2 : Int), ())))) (
        bindO (F57 a0 a1) fun y2 =>
        some (y2.1, (y2.2.1, ((0 : Int), ()))))) (
      brO (!(y0.1 == (0 : Int))) (
        some ([], ((0 : Int), (y0.1, ())))) (
        bindO (F57 a0 a1) fun y3 =>
        some (y3.1, (y3.2.1, ((0 : Int), ())))))) (
    brO (!(y0.1 == (0 : Int))) (
      some ([], ((0 : Int), (y0.1, ())))) (
      bindO (F57 a0 a1) fun y4 =>
      some (y4.1, (y4.2.1, ((0 : Int), ())))))
def CF23 (a0 : List (List Int)) (a1 : Int) : Option (List Int × Int × Int × Unit) :=
  bindC (CF21 a0) fun y0 =>
  brC (y0.1 == (0 : Int)) (
    bindC (CF50 a1 (0 : Int) (200 : Int)) fun y1 =>
    brC (!y1.1) (
      brC (!((2 : Int) == (0 : Int))) (
        some ([], ((0 : Int), ((2 : Int), ())))) (
        bindC (CF57 a0 a1) fun y2 =>
        some (y2.1, (y2.2.1, ((0 : Int), ()))))) (
      brC (!(y0.1 == (0 : Int))) (
        some ([], ((0 : Int), (y0.1, ())))) (
        bindC (CF57 a0 a1) fun y3 =>
        some (y3.1, (y3.2.1, ((0 : Int), ())))))) (
    brC (!(y0.1 == (0 : Int))) (
      some ([], ((0 : Int), (y0.1, ())))) (
      bindC (CF57 a0 a1) fun y4 =>
      some (y4.1, (y4.2.1, ((0 : Int), ())))))
theorem CF23_le (a0 : List (List Int)) (a1 : Int) : Le (CF23 a0 a1) (F23 a0 a1) := (Le.bd (CF21_le ..) fun y0 => (Le.br (Le.bd (CF50_le ..) fun y1 => (Le.br (Le.br Le.r (Le.bd (CF57_le ..) fun y2 => Le.r)) (Le.br Le.r (Le.bd (CF57_le ..) fun y3 => Le.r)))) (Le.br Le.r (Le.bd (CF57_le ..) fun y4 => Le.r))))
theorem c23_ok : trF prog f23 = some ⟨30, 2, dd23.er, [.t 4, .t 5, .t 6], [some (.list (.int .i64)), some (.int .i64), some (.int .i64)]⟩ := by kernel_rfl
noncomputable def ct23 : Ct := ⟨23, [.c (.hole (.list (.list (.int .i64)))), .c (.hole (.int .i64))], .tup [.hole (.list (.int .i64)), .hole (.int .i64), .hole (.int .i64)], fun x => F23 x.1 x.2.1⟩
theorem ct23_ok : ct23.Ok prog := ct_ok mixed cx23_ok func23 c23_ok (enters_of func23 rfl rfl) dd23 rfl rfl (fun x => by kernel_rfl)

/- 25 -/
noncomputable def cx25 : Cx := mkCxH [ct21, ct57] []
theorem cx25_ok : cx25.Ok prog := mkCxH_ok ⟨ct21_ok, ct57_ok, trivial⟩ trivial
@[reducible] def p25_0 : Pat := Pat.mk [(0, .c (.hole (.list (.list (.int .i64))))), (5, .c (.hole (.int .i64))), (6, .c (.hole (.int .i64)))] [] [] []
@[reducible] def x25_0 : Outs := [(.exit 0, Pat.mk [(0, .c (.hole (.list (.list (.int .i64))))), (5, .c (.hole (.int .i64)))] [] [] [])]
noncomputable def b25_0 : D prog 45 none 0 := (.seq (.seq (.reg [.op (some 16) none (.mv (.t 6)), .op (some 17) none (.mv (.t 0)), .op (some 18) none (.len (.t 17)), .op (some 19) none (.bin .lss (.t 16) (.t 18))]) (.cond ( .t 19) .skip (.exit 0))) (.seq (.block 1 (.reg [.op (some 22) none (.mv (.t 5)), .op (some 23) none (.mv (.t 0)), .op (some 24) none (.mv (.t 6)), .op (some 25) none (.idx 1 (.t 23) (.t 24)), .op (some 26) none (.load false 1 (.t 25)), .op (some 27) none (.len (.t 26)), .op (some 28) none (.bin .add (.t 22) (.t 27)), .op (some 5) none (.mv (.t 28))])) (.reg [.op (some 20) none (.mv (.t 6)), .op (some 21) none (.bin .add (.t 20) (.c (.int .i64 (Int.ofNat 1)))), .op (some 6) none (.mv (.t 21))])))
noncomputable def g25_0 (v0 : List (List Int)) (v5 : Int) (v6 : Int) : Option ((List (List Int) × Int × Int × Unit) ⊕ ((List (List Int) × Int × Unit))) :=
  brO (decide (v6 < (((v0).length : Nat) : Int))) (
    need (inb v6 (((v0).length : Nat) : Int)) (
    need (rng .i64 (v5 + (((((v0).getD (Int.toNat v6) [])).length : Nat) : Int))) (
    need (rng .i64 (v6 + (1 : Int))) (
    some (.inl (v0, ((v5 + (((((v0).getD (Int.toNat v6) [])).length : Nat) : Int)), ((v6 + (1 : Int)), ())))))))) (
    some (.inr (v0, (v5, ()))))
def Cg25_0 (v0 : List (List Int)) (v5 : Int) (v6 : Int) : Option ((List (List Int) × Int × Int × Unit) ⊕ ((List (List Int) × Int × Unit))) :=
  brC (decide (v6 < (((v0).length : Nat) : Int))) (
    needC (inb v6 (((v0).length : Nat) : Int)) (
    needC (rng .i64 (v5 + (((((v0).getD (Int.toNat v6) [])).length : Nat) : Int))) (
    needC (rng .i64 (v6 + (1 : Int))) (
    some (.inl (v0, ((v5 + (((((v0).getD (Int.toNat v6) [])).length : Nat) : Int)), ((v6 + (1 : Int)), ())))))))) (
    some (.inr (v0, (v5, ()))))
theorem Cg25_0_le (v0 : List (List Int)) (v5 : Int) (v6 : Int) : Le (Cg25_0 v0 v5 v6) (g25_0 v0 v5 v6) := (Le.br (Le.nd (Le.nd (Le.nd Le.r))) Le.r)
theorem s25_0 : ∀ x, roundE (kzO (p25_0.T ⊕ x25_0.T)) cx25 ar0 [] p25_0 x25_0 (b25_0) (fun y => some (.inl y)) (fun b => some (.inr b)) x = g25_0 x.1 x.2.1 x.2.2.1 := by intro x; kernel_rfl
noncomputable def L25_0 : LoopS prog 45 none 0 := mkLoop mixed cx25 cx25_ok [] rfl p25_0 x25_0 rfl (b25_0) (fun x => g25_0 x.1 x.2.1 x.2.2.1) (s25_0)
@[reducible] def p25_1 : Pat := Pat.mk [(0, .c (.hole (.list (.list (.int .i64))))), (5, .c (.hole (.int .i64))), (7, .c (.sl0 0 (.int .i64))), (8, .c (.hole (.int .i64)))] [(0, .arr (.int .i64) false)] [.slot 7] []
@[reducible] def x25_1 : Outs := [(.exit 2, Pat.mk [(7, .c (.sl0 0 (.int .i64)))] [(0, .arr (.int .i64) false)] [.slot 7] [])]
noncomputable def b25_1 : D prog 45 none 0 := (.seq (.seq (.reg [.op (some 29) none (.mv (.t 8)), .op (some 30) none (.mv (.t 5)), .op (some 31) none (.bin .leq (.t 29) (.t 30))]) (.cond ( .t 31) .skip (.exit 2))) (.seq (.block 3 (.seq (.reg [.op (some 35) none (.mv (.t 0)), .op (some 36) none (.mv (.t 8)), .call (some 37) none (.c (.fn 57 [] [])) [.t 35, .t 36] [some (.list (.list (.int .i64))), some (.int .i64)], .op (some 34) none (.mv (.t 37)), .op (some 38) none (.ext 0 (.t 34)), .op (some 39) none (.ext 1 (.t 34)), .op (some 9) none (.mv (.t 38)), .op (some 10) none (.mv (.t 39))]) (.reg [.op (some 40) none (.mv (.t 7)), .op (some 41) none (.mv (.t 10)), .op (some 42) none (.bslice (.int .i64) [.t 41]), .op (some 43) none (.append 1 (.t 40) (.t 42)), .op (some 7) none (.mv (.t 43))]))) (.reg [.op (some 32) none (.mv (.t 8)), .op (some 33) none (.bin .add (.t 32) (.c (.int .i64 (Int.ofNat 1)))), .op (some 8) none (.mv (.t 33))])))
noncomputable def g25_1 (v0 : List (List Int)) (v5 : Int) (nv7 : Nat) (v8 : Int) (b0 : List Int) : Option ((List (List Int) × Int × Nat × Int × List Int × Unit) ⊕ ((Nat × List Int × Unit))) :=
  brO (decide (v8 ≤ v5)) (
    bindO (F57 v0 v8) fun y2 =>
    need (decide ((nv7 + (((((y2.2.1 :: [])).drop (0 : Nat)).take (1 : Nat))).length) < bigL)) (
    need (rng .i64 (v8 + (1 : Int))) (
    some (.inl (v0, (v5, ((nv7 + (((((y2.2.1 :: [])).drop (0 : Nat)).take (1 : Nat))).length), ((v8 + (1 : Int)), (((((b0).drop (0 : Nat)).take nv7) ++ ((((y2.2.1 :: [])).drop (0 : Nat)).take (1 : Nat))), ()))))))))) (
    some (.inr (nv7, (b0, ()))))
def Cg25_1 (v0 : List (List Int)) (v5 : Int) (nv7 : Nat) (v8 : Int) (b0 : List Int) : Option ((List (List Int) × Int × Nat × Int × List Int × Unit) ⊕ ((Nat × List Int × Unit))) :=
  brC (decide (v8 ≤ v5)) (
    bindC (CF57 v0 v8) fun y2 =>
    needC (decide ((nv7 + (((((y2.2.1 :: [])).drop (0 : Nat)).take (1 : Nat))).length) < bigL)) (
    needC (rng .i64 (v8 + (1 : Int))) (
    some (.inl (v0, (v5, ((nv7 + (((((y2.2.1 :: [])).drop (0 : Nat)).take (1 : Nat))).length), ((v8 + (1 : Int)), (((((b0).drop (0 : Nat)).take nv7) ++ ((((y2.2.1 :: [])).drop (0 : Nat)).take (1 : Nat))), ()))))))))) (
    some (.inr (nv7, (b0, ()))))
theorem Cg25_1_le (v0 : List (List Int)) (v5 : Int) (nv7 : Nat) (v8 : Int) (b0 : List Int) : Le (Cg25_1 v0 v5 nv7 v8 b0) (g25_1 v0 v5 nv7 v8 b0) := (Le.br (Le.bd (CF57_le ..) fun y2 => (Le.nd (Le.nd Le.r))) Le.r)
theorem s25_1 : ∀ x, roundE (kzO (p25_1.T ⊕ x25_1.T)) cx25 ar0 [] p25_1 x25_1 (b25_1) (fun y => some (.inl y)) (fun b => some (.inr b)) x = g25_1 x.1 x.2.1 x.2.2.1 x.2.2.2.1 x.2.2.2.2.1 := by intro x; kernel_rfl
noncomputable def L25_1 : LoopS prog 45 none 0 := mkLoop mixed cx25 cx25_ok [] rfl p25_1 x25_1 rfl (b25_1) (fun x => g25_1 x.1 x.2.1 x.2.2.1 x.2.2.2.1 x.2.2.2.2.1) (s25_1)
noncomputable def dd25 : D prog 45 none 0 := (.seq (.reg [.op (some 2) none (.mv (.c .nsl)), .op (some 3) none (.mv (.c (.int .i64 (Int.ofNat 0))))]) (.seq (.reg [.op (some 11) none (.mv (.t 0)), .call (some 12) none (.c (.fn 21 [] [])) [.t 11] [some (.list (.list (.int .i64)))], .op (some 4) none (.mv (.t 12))]) (.seq (.seq (.reg [.op (some 13) none (.mv (.t 4)), .op (some 14) none (.bin .neq (.t 13) (.c (.int .i64 (Int.ofNat 0))))]) (.cond ( .t 14) (.seq (.reg [.op (some 15) none (.mv (.t 4)), .op (some 2) none (.mv (.c .nsl)), .op (some 3) none (.mv (.t 15))]) .ret) .skip)) (.seq (.reg [.op (some 5) none (.mv (.c (.int .i64 (Int.ofNat 0))))]) (.seq (.seq (.reg [.op (some 6) none (.mv (.c (.int .i64 (Int.ofNat 0))))]) (.block 0 (.loop L25_0))) (.seq (.reg [.op (some 7) none (.mv (.c .nsl))]) (.seq (.seq (.reg [.op (some 8) none (.mv (.c (.int .i64 (Int.ofNat 0))))]) (.block 2 (.loop L25_1))) (.seq (.reg [.op (some 44) none (.mv (.t 7)), .op (some 2) none (.mv (.t 44)), .op (some 3) none (.mv (.c (.int .i64 (Int.ofNat 0))))]) .ret))))))))
noncomputable def F25 (a0 : List (List Int)) : Option (List Int × Int × Unit) :=
  bindO (F21 a0) fun y0 =>
  brO (!(y0.1 == (0 : Int))) (
    some ([], (y0.1, ()))) (
    bindO (iter (fun x => g25_0 x.1 x.2.1 x.2.2.1) (a0, ((0 : Int), ((0 : Int), ())))) fun z1 =>
    bindO (iter (fun x => g25_1 x.1 x.2.1 x.2.2.1 x.2.2.2.1 x.2.2.2.2.1) (z1.1, (z1.2.1, ((0 : Nat), ((0 : Int), ([], ())))))) fun z3 =>
    some ((((z3.2.1).drop (0 : Nat)).take z3.1), ((0 : Int), ())))
def CF25 (a0 : List (List Int)) : Option (List Int × Int × Unit) :=
  bindC (CF21 a0) fun y0 =>
  brC (!(y0.1 == (0 : Int))) (
    some ([], (y0.1, ()))) (
    bindC (iterF (fun x => Cg25_0 x.1 x.2.1 x.2.2.1) 1000000 (a0, ((0 : Int), ((0 : Int), ())))) fun z1 =>
    bindC (iterF (fun x => Cg25_1 x.1 x.2.1 x.2.2.1 x.2.2.2.1 x.2.2.2.2.1) 1000000 (z1.1, (z1.2.1, ((0 : Nat), ((0 : Int), ([], ())))))) fun z3 =>
    some ((((z3.2.1).drop (0 : Nat)).take z3.1), ((0 : Int), ())))
theorem CF25_le (a0 : List (List Int)) : Le (CF25 a0) (F25 a0) := (Le.bd (CF21_le ..) fun y0 => (Le.br Le.r (Le.bd (Le.iter fun x => Cg25_0_le ..) fun z1 => (Le.bd (Le.iter fun x => Cg25_1_le ..) fun z3 => Le.r))))
theorem c25_ok : trF prog f25 = some ⟨45, 1, dd25.er, [.t 2, .t 3], [some (.list (.int .i64)), some (.int .i64)]⟩ := by kernel_rfl
noncomputable def ct25 : Ct := ⟨25, [.c (.hole (.list (.list (.int .i64))))], .tup [.hole (.list (.int .i64)), .hole (.int .i64)], fun x => F25 x.1⟩
theorem ct25_ok : ct25.Ok prog := ct_ok mixed cx25_ok func25 c25_ok (enters_of func25 rfl rfl) dd25 rfl rfl (fun x => by kernel_rfl)

/- 4 -/
noncomputable def cx4 : Cx := mkCxH [ct15, ct16, ct24, ct17, ct25, ct26] []
theorem cx4_ok : cx4.Ok prog := mkCxH_ok ⟨ct15_ok, ct16_ok, ct24_ok, ct17_ok, ct25_ok, ct26_ok, trivial⟩ trivial
noncomputable def dd4 : D prog 42 none 0 := (.seq (.reg [.op (some 2) none (.mv (.c (.tf false)))]) (.seq (.seq (.reg [.op (some 7) none (.mv (.t 0)), .call (some 8) none (.c (.fn 15 [] [])) [.t 7] [some (.list (.list (.int .i64)))], .op (some 9) none (.mv (.t 8)), .op (some 10) (some (9, false)) (.mv (.t 0)), .op (some 11) (some (9, false)) (.len (.t 10)), .op (some 12) (some (9, false)) (.bin .gtr (.t 11) (.c (.int .i64 (Int.ofNat 5)))), .op (some 13) (some (9, false)) (.mv (.t 12)), .op (some 14) (some (13, true)) (.mv (.t 0)), .op (some 15) (some (13, true)) (.len (.t 14)), .op (some 16) (some (13, true)) (.bin .leq (.t 15) (.c (.int .i64 (Int.ofNat 12)))), .op (some 17) (some (9, false)) (.pick (.t 13) (.t 16) (.c (.tf false))), .op (some 18) none (.pick (.t 9) (.c (.tf true)) (.t 17))]) (.cond ( .t 18) (.seq (.reg [.call (some 19) none (.c (.fn 16 [] [])) [] [], .op (some 2) none (.mv (.t 19))]) .ret) .skip)) (.seq (.reg [.op (some 21) none (.mv (.t 0)), .call (some 22) none (.c (.fn 24 [] [])) [.t 21] [some (.list (.list (.int .i64)))], .op (some 20) none (.mv (.t 22)), .op (some 23) none (.ext 0 (.t 20)), .op (some 24) none (.ext 1 (.t 20)), .op (some 3) none (.mv (.t 23)), .op (some 4) none (.mv (.t 24))]) (.seq (.reg [.op (some 26) none (.mv (.t 0)), .call (some 27) none (.c (.fn 17 [] [])) [.t 26] [some (.list (.list (.int .i64)))], .call (some 28) none (.c (.fn 25 [] [])) [.t 27] [some (.list (.list (.int .i64)))], .op (some 25) none (.mv (.t 28)), .op (some 29) none (.ext 0 (.t 25)), .op (some 30) none (.ext 1 (.t 25)), .op (some 5) none (.mv (.t 29)), .op (some 6) none (.mv (.t 30))]) (.seq (.reg [.op (some 31) none (.mv (.t 3)), .op (some 32) none (.mv (.t 5)), .call (some 33) none (.c (.fn 26 [] [])) [.t 31, .t 32] [some (.list (.int .i64)), some (.list (.int .i64))], .op (some 34) none (.mv (.t 33)), .op (some 35) (some (34, true)) (.mv (.t 4)), .op (some 36) (some (34, true)) (.mv (.t 6)), .op (some 37) (some (34, true)) (.bin .eql (.t 35) (.t 36)), .op (some 38) none (.pick (.t 34) (.t 37) (.c (.tf false))), .op (some 39) none (.mv (.t 38)), .call (some 40) (some (39, true)) (.c (.fn 16 [] [])) [] [], .op (some 41) none (.pick (.t 39) (.t 40) (.c (.tf false))), .op (some 2) none (.mv (.t 41))]) .ret)))))
noncomputable def F4 (a0 : List (List Int)) : Option (Bool × Unit) :=
  bindO (F15 a0) fun y0 =>
  brO y0.1 (
    bindO (F16) fun y1 =>
    some (y1.1, ())) (
    brO (decide ((5 : Int) < (((a0).length : Nat) : Int))) (
      brO (decide ((((a0).length : Nat) : Int) ≤ (12 : Int))) (
        bindO (F16) fun y2 =>
        some (y2.1, ())) (
        bindO (F24 a0) fun y3 =>
        bindO (F17 a0) fun y4 =>
        bindO (F25 y4.1) fun y5 =>
        bindO (F26 y3.1 y5.1) fun y6 =>
        brO y6.1 (
          brO (y3.2.1 == y5.2.1) (
            bindO (F16) fun y7 =>
            some (y7.1, ())) (
            some (false, ()))) (
          some (false, ())))) (
      bindO (F24 a0) fun y8 =>
      bindO (F17 a0) fun y9 =>
      bindO (F25 y9.1) fun y10 =>
      bindO (F26 y8.1 y10.1) fun y11 =>
      brO y11.1 (
        brO (y8.2.1 == y10.2.1) (
          bindO (F16) fun y12 =>
          some (y12.1, ())) (
          some (false, ()))) (
        some (false, ()))))
def CF4 (a0 : List (List Int)) : Option (Bool × Unit) :=
  bindC (CF15 a0) fun y0 =>
  brC y0.1 (
    bindC (CF16) fun y1 =>
    some (y1.1, ())) (
    brC (decide ((5 : Int) < (((a0).length : Nat) : Int))) (
      brC (decide ((((a0).length : Nat) : Int) ≤ (12 : Int))) (
        bindC (CF16) fun y2 =>
        some (y2.1, ())) (
        bindC (CF24 a0) fun y3 =>
        bindC (CF17 a0) fun y4 =>
        bindC (CF25 y4.1) fun y5 =>
        bindC (CF26 y3.1 y5.1) fun y6 =>
        brC y6.1 (
          brC (y3.2.1 == y5.2.1) (
            bindC (CF16) fun y7 =>
            some (y7.1, ())) (
            some (false, ()))) (
          some (false, ())))) (
      bindC (CF24 a0) fun y8 =>
      bindC (CF17 a0) fun y9 =>
      bindC (CF25 y9.1) fun y10 =>
      bindC (CF26 y8.1 y10.1) fun y11 =>
      brC y11.1 (
        brC (y8.2.1 == y10.2.1) (
          bindC (CF16) fun y12 =>
          some (y12.1, ())) (
          some (false, ()))) (
        some (false, ()))))
theorem CF4_le (a0 : List (List Int)) : Le (CF4 a0) (F4 a0) := (Le.bd (CF15_le ..) fun y0 => (Le.br (Le.bd (CF16_le ..) fun y1 => Le.r) (Le.br (Le.br (Le.bd (CF16_le ..) fun y2 => Le.r) (Le.bd (CF24_le ..) fun y3 => (Le.bd (CF17_le ..) fun y4 => (Le.bd (CF25_le ..) fun y5 => (Le.bd (CF26_le ..) fun y6 => (Le.br (Le.br (Le.bd (CF16_le ..) fun y7 => Le.r) Le.r) Le.r)))))) (Le.bd (CF24_le ..) fun y8 => (Le.bd (CF17_le ..) fun y9 => (Le.bd (CF25_le ..) fun y10 => (Le.bd (CF26_le ..) fun y11 => (Le.br (Le.br (Le.bd (CF16_le ..) fun y12 => Le.r) Le.r) Le.r))))))))
theorem c4_ok : trF prog f4 = some ⟨42, 1, dd4.er, [.t 2], [some .bool]⟩ := by kernel_rfl
noncomputable def ct4 : Ct := ⟨4, [.c (.hole (.list (.list (.int .i64))))], .c (.hole .bool), fun x => F4 x.1⟩
theorem ct4_ok : ct4.Ok prog := ct_ok mixed cx4_ok func4 c4_ok (enters_of func4 rfl rfl) dd4 rfl rfl (fun x => by kernel_rfl)

end Go.Proofs.Try

