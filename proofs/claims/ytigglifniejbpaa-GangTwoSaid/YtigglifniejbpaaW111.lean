/- Functions of the program as functions of data, part 2; printed by a program of mine. -/
import Derived.Test.YtigglifniejbpaaW110
import Derived.Test.YtigglifniejbpaaProg
set_option linter.unusedVariables false
set_option linter.unusedSimpArgs false
open Go.AM
namespace Go.Proofs.Try
set_option maxRecDepth 100000


/- 56 -/
noncomputable def cx56 : Cx := mkCxH [ct58] []
theorem cx56_ok : cx56.Ok prog := mkCxH_ok ⟨ct58_ok, trivial⟩ trivial
noncomputable def ad56_0 : D prog 30 (some 5) 8 := (.reg [.op (some 6) none (.alloc [.int .i64 (Int.ofNat 0), .int .i64 (Int.ofNat 0)]), .op none none (.store 2 (.t 6) (.t 12))])
noncomputable def bd56_0 : D prog 30 (some 5) 8 := (.block 1 (.seq (.seq (.reg [.op (some 13) none (.load false 1 (.t 3)), .op (some 14) none (.bin .eql (.t 13) (.c (.int .i64 (Int.ofNat 0))))]) (.cond ( .t 14) (.exit 0) .skip)) (.seq (.reg [.op (some 15) none (.load false 1 (.t 3)), .op (some 16) none (.bin .sub (.t 15) (.c (.int .i64 (Int.ofNat 1)))), .op none none (.store 1 (.t 3) (.t 16))]) (.seq (.reg [.op (some 17) none (.load false 1 (.t 4)), .op (some 18) none (.fld 1 [true] (.t 6)), .op (some 19) none (.load false 1 (.t 18)), .op (some 20) none (.idx 1 (.t 17) (.t 19)), .op (some 21) none (.load false 1 (.t 20)), .op (some 22) none (.bin .add (.t 21) (.c (.int .i64 (Int.ofNat 1)))), .op (some 23) none (.idx 1 (.t 17) (.t 19)), .op none none (.store 1 (.t 23) (.t 22))]) (.reg [.op (some 24) none (.load false 1 (.t 5)), .op (some 25) none (.fld 0 [false] (.t 6)), .op (some 26) none (.load false 1 (.t 25)), .op (some 27) none (.bin .add (.t 24) (.t 26)), .op none none (.store 1 (.t 5) (.t 27))])))))
noncomputable def cx56_0i : Cx := itCx cx56 (fun kz => rdK kz cx56 ar0 5 8 [12] (ad56_0) (bd56_0))
theorem cx56_0i_ok : (cx56_0i).Ok prog := itCx_ok cx56_ok (fun h => rdK_ok mixed cx56_ok h)
@[reducible] def p56_0i_0 : Pat := Pat.mk [(0, .c (.yl 5)), (5, .c (.hole (.list (.prod (.int .i64) (.int .i64))))), (6, .c (.hole (.int .i64))), (7, .c (.hole (.int .i64)))] [(5, .loop .ready none 4 [(3, .c (.ptr 0 0)), (4, .c (.ptr 1 0)), (5, .c (.ptr 2 0)), (11, .fn 80 [] [.ipc (.list (.prod (.int .i64) (.int .i64)))])] [12] (.reg [.op (some 6) none (.alloc [.int .i64 (Int.ofNat 0), .int .i64 (Int.ofNat 0)]), .op none none (.store 2 (.t 6) (.t 12))]) (.block 1 (.seq (.seq (.reg [.op (some 13) none (.load false 1 (.t 3)), .op (some 14) none (.bin .eql (.t 13) (.c (.int .i64 (Int.ofNat 0))))]) (.cond (.t 14) (.exit 0) .skip)) (.seq (.reg [.op (some 15) none (.load false 1 (.t 3)), .op (some 16) none (.bin .sub (.t 15) (.c (.int .i64 (Int.ofNat 1)))), .op none none (.store 1 (.t 3) (.t 16))]) (.seq (.reg [.op (some 17) none (.load false 1 (.t 4)), .op (some 18) none (.fld 1 [true] (.t 6)), .op (some 19) none (.load false 1 (.t 18)), .op (some 20) none (.idx 1 (.t 17) (.t 19)), .op (some 21) none (.load false 1 (.t 20)), .op (some 22) none (.bin .add (.t 21) (.c (.int .i64 (Int.ofNat 1)))), .op (some 23) none (.idx 1 (.t 17) (.t 19)), .op none none (.store 1 (.t 23) (.t 22))]) (.reg [.op (some 24) none (.load false 1 (.t 5)), .op (some 25) none (.fld 0 [false] (.t 6)), .op (some 26) none (.load false 1 (.t 25)), .op (some 27) none (.bin .add (.t 24) (.t 26)), .op none none (.store 1 (.t 5) (.t 27))]))))) 30), (4, .dfr), (0, .cells [.hole (.int .i64)] false), (1, .cells [.sl0 6 (.int .i64)] false), (2, .cells [.hole (.int .i64)] false), (6, .arr (.int .i64) false)] [.cell 1 0] []
@[reducible] def x56_0i_0 : Outs := [(.ret, Pat.mk [] [(0, .cells [.hole (.int .i64)] false), (1, .cells [.sl0 6 (.int .i64)] false), (2, .cells [.hole (.int .i64)] false), (4, .dfr), (5, .loop .done (some (.exit 0)) 4 [(3, .c (.ptr 0 0)), (4, .c (.ptr 1 0)), (5, .c (.ptr 2 0)), (11, .fn 80 [] [.ipc (.list (.prod (.int .i64) (.int .i64)))])] [12] (.reg [.op (some 6) none (.alloc [.int .i64 (Int.ofNat 0), .int .i64 (Int.ofNat 0)]), .op none none (.store 2 (.t 6) (.t 12))]) (.block 1 (.seq (.seq (.reg [.op (some 13) none (.load false 1 (.t 3)), .op (some 14) none (.bin .eql (.t 13) (.c (.int .i64 (Int.ofNat 0))))]) (.cond (.t 14) (.exit 0) .skip)) (.seq (.reg [.op (some 15) none (.load false 1 (.t 3)), .op (some 16) none (.bin .sub (.t 15) (.c (.int .i64 (Int.ofNat 1)))), .op none none (.store 1 (.t 3) (.t 16))]) (.seq (.reg [.op (some 17) none (.load false 1 (.t 4)), .op (some 18) none (.fld 1 [true] (.t 6)), .op (some 19) none (.load false 1 (.t 18)), .op (some 20) none (.idx 1 (.t 17) (.t 19)), .op (some 21) none (.load false 1 (.t 20)), .op (some 22) none (.bin .add (.t 21) (.c (.int .i64 (Int.ofNat 1)))), .op (some 23) none (.idx 1 (.t 17) (.t 19)), .op none none (.store 1 (.t 23) (.t 22))]) (.reg [.op (some 24) none (.load false 1 (.t 5)), .op (some 25) none (.fld 0 [false] (.t 6)), .op (some 26) none (.load false 1 (.t 25)), .op (some 27) none (.bin .add (.t 24) (.t 26)), .op none none (.store 1 (.t 5) (.t 27))]))))) 30), (6, .arr (.int .i64) false)] [.cell 1 0] []), (.exit 0, Pat.mk [] [(0, .cells [.hole (.int .i64)] false), (1, .cells [.sl0 6 (.int .i64)] false), (2, .cells [.hole (.int .i64)] false), (4, .dfr), (5, .loop .ready none 4 [(3, .c (.ptr 0 0)), (4, .c (.ptr 1 0)), (5, .c (.ptr 2 0)), (11, .fn 80 [] [.ipc (.list (.prod (.int .i64) (.int .i64)))])] [12] (.reg [.op (some 6) none (.alloc [.int .i64 (Int.ofNat 0), .int .i64 (Int.ofNat 0)]), .op none none (.store 2 (.t 6) (.t 12))]) (.block 1 (.seq (.seq (.reg [.op (some 13) none (.load false 1 (.t 3)), .op (some 14) none (.bin .eql (.t 13) (.c (.int .i64 (Int.ofNat 0))))]) (.cond (.t 14) (.exit 0) .skip)) (.seq (.reg [.op (some 15) none (.load false 1 (.t 3)), .op (some 16) none (.bin .sub (.t 15) (.c (.int .i64 (Int.ofNat 1)))), .op none none (.store 1 (.t 3) (.t 16))]) (.seq (.reg [.op (some 17) none (.load false 1 (.t 4)), .op (some 18) none (.fld 1 [true] (.t 6)), .op (some 19) none (.load false 1 (.t 18)), .op (some 20) none (.idx 1 (.t 17) (.t 19)), .op (some 21) none (.load false 1 (.t 20)), .op (some 22) none (.bin .add (.t 21) (.c (.int .i64 (Int.ofNat 1)))), .op (some 23) none (.idx 1 (.t 17) (.t 19)), .op none none (.store 1 (.t 23) (.t 22))]) (.reg [.op (some 24) none (.load false 1 (.t 5)), .op (some 25) none (.fld 0 [false] (.t 6)), .op (some 26) none (.load false 1 (.t 25)), .op (some 27) none (.bin .add (.t 24) (.t 26)), .op none none (.store 1 (.t 5) (.t 27))]))))) 30), (6, .arr (.int .i64) false)] [.cell 1 0] [])]
noncomputable def b56_0i_0 : D prog 16 none 6 := (.seq (.reg [.op (some 8) none (.bin .lss (.t 7) (.t 6))]) (.seq (.cond ( .t 8) .skip (.exit 0)) (.seq (.block 1 (.seq (.reg [.op (some 9) none (.idx 2 (.t 5) (.t 7)), .op (some 10) none (.load true 2 (.t 9)), .op (some 4) none (.alloc [.int .i64 (Int.ofNat 0), .int .i64 (Int.ofNat 0)]), .op none none (.store 2 (.t 4) (.t 10))]) (.seq (.reg [.op (some 11) none (.mv (.t 0)), .op (some 12) none (.load true 2 (.t 4)), .call (some 13) none (.t 11) [.t 12] [some (.prod (.int .i64) (.int .i64))], .op (some 14) none (.not (.t 13))]) (.cond ( .t 14) .ret .skip)))) (.reg [.op (some 15) none (.bin .add (.t 7) (.c (.int .i64 (Int.ofNat 1)))), .op (some 7) none (.mv (.t 15))]))))
noncomputable def g56_0i_0 (v5 : List (Int × Int)) (v6 : Int) (v7 : Int) (w11_0 : List (Int × Int)) (c0_0 : Int) (nc1_0 : Nat) (c2_0 : Int) (b6 : List Int) : Option (((List (Int × Int)) × Int × Int × (List (Int × Int)) × Int × Nat × Int × List Int × Unit) ⊕ ((Int × Nat × Int × (List (Int × Int)) × List Int × Unit) ⊕ ((Int × Nat × Int × (List (Int × Int)) × List Int × Unit)))) :=
 brO (decide (v7 < v6)) (
 need (inb v7 (((v5).length : Nat) : Int)) (
 brO (c0_0 == (0 : Int)) (
 some (.inr <| .inl <| (c0_0, (nc1_0, (c2_0, (w11_0, (b6, ()))))))) (
 need (rng .i64 (c0_0 - (1 : Int))) (
 need (inb ((v5).getD (Int.toNat v7) ((0 : Int), (0 : Int))).2 ((nc1_0 : Nat) : Int)) (
 need (decide (((0 : Nat) + (Int.toNat ((v5).getD (Int.toNat v7) ((0 : Int), (0 : Int))).2)) < (b6).length)) (
 need (rng .i64 (((b6).getD ((0 : Nat) + (Int.toNat ((v5).getD (Int.toNat v7) ((0 : Int), (0 : Int))).2)) (0 : Int)) + (1 : Int))) (
 need (inb ((v5).getD (Int.toNat v7) ((0 : Int), (0 : Int))).2 ((nc1_0 : Nat) : Int)) (
 need (decide (((0 : Nat) + (Int.toNat ((v5).getD (Int.toNat v7) ((0 : Int), (0 : Int))).2)) < (b6).length)) (
 need (rng .i64 (c2_0 + ((v5).getD (Int.toNat v7) ((0 : Int), (0 : Int))).1)) (
 need (rng .i64 (v7 + (1 : Int))) (
 some (.inl (v5, (v6, ((v7 + (1 : Int)), (w11_0, ((c0_0 - (1 : Int)), (nc1_0, ((c2_0 + ((v5).getD (Int.toNat v7) ((0 : Int), (0 : Int))).1), (((b6).set ((0 : Nat) + (Int.toNat ((v5).getD (Int.toNat v7) ((0 : Int), (0 : Int))).2)) (((b6).getD ((0 : Nat) + (Int.toNat ((v5).getD (Int.toNat v7) ((0 : Int), (0 : Int))).2)) (0 : Int)) + (1 : Int))), ())))))))))))))))))))) (
 some (.inr <| .inr <| (c0_0, (nc1_0, (c2_0, (w11_0, (b6, ())))))))
def Cg56_0i_0 (v5 : List (Int × Int)) (v6 : Int) (v7 : Int) (w11_0 : List (Int × Int)) (c0_0 : Int) (nc1_0 : Nat) (c2_0 : Int) (b6 : List Int) : Option (((List (Int × Int)) × Int × Int × (List (Int × Int)) × Int × Nat × Int × List Int × Unit) ⊕ ((Int × Nat × Int × (List (Int × Int)) × List Int × Unit) ⊕ ((Int × Nat × Int × (List (Int × Int)) × List Int × Unit)))) :=
 brC (decide (v7 < v6)) (
 needC (inb v7 (((v5).length : Nat) : Int)) (
 brC (c0_0 == (0 : Int)) (
 some (.inr <| .inl <| (c0_0, (nc1_0, (c2_0, (w11_0, (b6, ()))))))) (
 needC (rng .i64 (c0_0 - (1 : Int))) (
 needC (inb ((v5).getD (Int.toNat v7) ((0 : Int), (0 : Int))).2 ((nc1_0 : Nat) : Int)) (
 needC (decide (((0 : Nat) + (Int.toNat ((v5).getD (Int.toNat v7) ((0 : Int), (0 : Int))).2)) < (b6).length)) (
 needC (rng .i64 (((b6).getD ((0 : Nat) + (Int.toNat ((v5).getD (Int.toNat v7) ((0 : Int), (0 : Int))).2)) (0 : Int)) + (1 : Int))) (
 needC (inb ((v5).getD (Int.toNat v7) ((0 : Int), (0 : Int))).2 ((nc1_0 : Nat) : Int)) (
 needC (decide (((0 : Nat) + (Int.toNat ((v5).getD (Int.toNat v7) ((0 : Int), (0 : Int))).2)) < (b6).length)) (
 needC (rng .i64 (c2_0 + ((v5).getD (Int.toNat v7) ((0 : Int), (0 : Int))).1)) (
 needC (rng .i64 (v7 + (1 : Int))) (
 some (.inl (v5, (v6, ((v7 + (1 : Int)), (w11_0, ((c0_0 - (1 : Int)), (nc1_0, ((c2_0 + ((v5).getD (Int.toNat v7) ((0 : Int), (0 : Int))).1), (((b6).set ((0 : Nat) + (Int.toNat ((v5).getD (Int.toNat v7) ((0 : Int), (0 : Int))).2)) (((b6).getD ((0 : Nat) + (Int.toNat ((v5).getD (Int.toNat v7) ((0 : Int), (0 : Int))).2)) (0 : Int)) + (1 : Int))), ())))))))))))))))))))) (
 some (.inr <| .inr <| (c0_0, (nc1_0, (c2_0, (w11_0, (b6, ())))))))
theorem Cg56_0i_0_le (v5 : List (Int × Int)) (v6 : Int) (v7 : Int) (w11_0 : List (Int × Int)) (c0_0 : Int) (nc1_0 : Nat) (c2_0 : Int) (b6 : List Int) : Le (Cg56_0i_0 v5 v6 v7 w11_0 c0_0 nc1_0 c2_0 b6) (g56_0i_0 v5 v6 v7 w11_0 c0_0 nc1_0 c2_0 b6) := (Le.br (Le.nd (Le.br Le.r (Le.nd (Le.nd (Le.nd (Le.nd (Le.nd (Le.nd (Le.nd (Le.nd Le.r)))))))))) Le.r)
theorem s56_0i_0 : ∀ x, roundE (kzO (p56_0i_0.T ⊕ x56_0i_0.T)) cx56_0i ar0 [0, 1, 2, 3, 4, 5] p56_0i_0 x56_0i_0 (b56_0i_0) (fun y => some (.inl y)) (fun b => some (.inr b)) x = g56_0i_0 x.1 x.2.1 x.2.2.1 x.2.2.2.1 x.2.2.2.2.1 x.2.2.2.2.2.1 x.2.2.2.2.2.2.1 x.2.2.2.2.2.2.2.1 := by intro x; kernel_rfl
noncomputable def L56_0i_0 : LoopS prog 16 none 6 := mkLoop mixed cx56_0i cx56_0i_ok [0, 1, 2, 3, 4, 5] rfl p56_0i_0 x56_0i_0 rfl (b56_0i_0) (fun x => g56_0i_0 x.1 x.2.1 x.2.2.1 x.2.2.2.1 x.2.2.2.2.1 x.2.2.2.2.2.1 x.2.2.2.2.2.2.1 x.2.2.2.2.2.2.2.1) (s56_0i_0)
@[reducible] def p56_0 : Pat := Pat.mk [(3, .c (.ptr 0 0)), (4, .c (.ptr 1 0)), (5, .c (.ptr 2 0)), (11, .fn 80 [] [.ipc (.list (.prod (.int .i64) (.int .i64)))])] [(0, .cells [.hole (.int .i64)] false), (1, .cells [.sl0 3 (.int .i64)] false), (2, .cells [.hole (.int .i64)] false), (3, .arr (.int .i64) false)] [.slot 3, .slot 4, .slot 5, .cell 1 0] []
@[reducible] def x56_0 : Outs := [(.exit 0, Pat.mk [(4, .c (.ptr 0 0)), (5, .c (.ptr 1 0))] [(0, .cells [.sl0 3 (.int .i64)] false), (1, .cells [.hole (.int .i64)] false), (2, .dfr), (3, .arr (.int .i64) false)] [.slot 4, .slot 5, .mark 0, .cell 0 0] [2]), (.normal, Pat.mk [(4, .c (.ptr 0 0)), (5, .c (.ptr 1 0))] [(0, .cells [.sl0 3 (.int .i64)] false), (1, .cells [.hole (.int .i64)] false), (2, .dfr), (3, .arr (.int .i64) false)] [.slot 4, .slot 5, .mark 0, .cell 0 0] [2])]
noncomputable def b56_0i : D prog 16 none 6 := (.seq (.reg [.op (some 5) none (.load false 1 (.t 1)), .op (some 6) none (.len (.t 5)), .op (some 7) none (.mv (.c (.int .i64 (Int.ofNat 0))))]) (.block 0 (.loop L56_0i_0)))
theorem ci56_0 : trF prog f80 = some ⟨16, 2, (b56_0i).er, [], []⟩ := by kernel_rfl
noncomputable def g56_0 (v11_0 : List (Int × Int)) (c0_0 : Int) (nc1_0 : Nat) (c2_0 : Int) (b3 : List Int) : Option ((Nat × Int × List Int × Unit) ⊕ ((Nat × Int × List Int × Unit))) :=
 bindO (iter (fun x => g56_0i_0 x.1 x.2.1 x.2.2.1 x.2.2.2.1 x.2.2.2.2.1 x.2.2.2.2.2.1 x.2.2.2.2.2.2.1 x.2.2.2.2.2.2.2.1) (v11_0, ((((v11_0).length : Nat) : Int), ((0 : Int), (v11_0, (c0_0, (nc1_0, (c2_0, (b3, ()))))))))) fun z1 =>
 match z1 with
 | .inl z2 =>
 some (.inl <| (z2.2.1, (z2.2.2.1, (z2.2.2.2.2.1, ()))))
 | .inr z3 =>
 some (.inr <| (z3.2.1, (z3.2.2.1, (z3.2.2.2.2.1, ()))))
def Cg56_0 (v11_0 : List (Int × Int)) (c0_0 : Int) (nc1_0 : Nat) (c2_0 : Int) (b3 : List Int) : Option ((Nat × Int × List Int × Unit) ⊕ ((Nat × Int × List Int × Unit))) :=
 bindC (iterF (fun x => Cg56_0i_0 x.1 x.2.1 x.2.2.1 x.2.2.2.1 x.2.2.2.2.1 x.2.2.2.2.2.1 x.2.2.2.2.2.2.1 x.2.2.2.2.2.2.2.1) 1000000 (v11_0, ((((v11_0).length : Nat) : Int), ((0 : Int), (v11_0, (c0_0, (nc1_0, (c2_0, (b3, ()))))))))) fun z1 =>
 match z1 with
 | .inl z2 =>
 some (.inl <| (z2.2.1, (z2.2.2.1, (z2.2.2.2.2.1, ()))))
 | .inr z3 =>
 some (.inr <| (z3.2.1, (z3.2.2.1, (z3.2.2.2.2.1, ()))))
theorem Cg56_0_le (v11_0 : List (Int × Int)) (c0_0 : Int) (nc1_0 : Nat) (c2_0 : Int) (b3 : List Int) : Le (Cg56_0 v11_0 c0_0 nc1_0 c2_0 b3) (g56_0 v11_0 c0_0 nc1_0 c2_0 b3) := (Le.bd (Le.iter fun x => Cg56_0i_0_le ..) fun z1 => (match z1 with | .inl z2 => Le.r | .inr z3 => Le.r))
theorem s56_0 : ∀ x, rangeE (N := 30) (out := none) (base := 0) (kzO x56_0.T) cx56_0i ar0 [] p56_0 x56_0 ( .t 11) [12] (ad56_0).er (bd56_0).er [] 2 80 (b56_0i) some x = g56_0 x.1 x.2.1 x.2.2.1 x.2.2.2.1 x.2.2.2.2.1 := by intro x; kernel_rfl
noncomputable def R56_0 : RangeS prog 30 none 0 := mkRange mixed cx56_0i cx56_0i_ok [] rfl p56_0 x56_0 ( .t 11) [12] rfl (ad56_0).er (bd56_0).er 80 func80 (ci56_0) (enters_of func80 rfl rfl) 6 rfl (b56_0i) rfl (fun x => g56_0 x.1 x.2.1 x.2.2.1 x.2.2.2.1 x.2.2.2.2.1) (s56_0)
noncomputable def dd56 : D prog 30 none 0 := (.seq (.reg [.op (some 3) none (.box (.t 1)), .op (some 4) none (.alloc [.nsl]), .op (some 5) none (.alloc [.int .i64 (Int.ofNat 0)])]) (.seq (.reg [.op (some 7) none (.mv (.t 0)), .op (some 8) none (.len (.t 7)), .op (some 9) none (.mkslice (.int .i64) (.t 8)), .op none none (.store 1 (.t 4) (.t 9))]) (.seq (.seq (.reg [.op (some 10) none (.mv (.t 0)), .call (some 11) none (.c (.fn 58 [] [])) [.t 10, .c (.fn 59 [] [])] [some (.list (.list (.int .i64))), none]]) (.block 0 (.rangeF R56_0))) (.seq (.draw [[], [], [0], [0, 1, 2]] [.op (some 28) none (.load false 1 (.t 4)), .op (some 29) none (.load false 1 (.t 5)), .op none none (.store 1 (.t 4) (.t 28)), .op none none (.store 1 (.t 5) (.t 29))]) .ret))))
noncomputable def F56 (a0 : List (List Int)) (a1 : Int) : Option (List Int × Int × Unit) :=
 need (inb (((a0).length : Nat) : Int) ((bigL : Nat) : Int)) (
 bindO (F58 a0) fun y0 =>
 bindO (g56_0 y0.1 a1 (Int.toNat (((a0).length : Nat) : Int)) (0 : Int) (List.replicate (Int.toNat (((a0).length : Nat) : Int)) (0 : Int))) fun z4 =>
 match z4 with
 | .inl z5 =>
 some ((((z5.2.2.1).drop (0 : Nat)).take z5.1), (z5.2.1, ()))
 | .inr z6 =>
 some ((((z6.2.2.1).drop (0 : Nat)).take z6.1), (z6.2.1, ())))
def CF56 (a0 : List (List Int)) (a1 : Int) : Option (List Int × Int × Unit) :=
 needC (inb (((a0).length : Nat) : Int) ((bigL : Nat) : Int)) (
 bindC (CF58 a0) fun y0 =>
 bindC (Cg56_0 y0.1 a1 (Int.toNat (((a0).length : Nat) : Int)) (0 : Int) (List.replicate (Int.toNat (((a0).length : Nat) : Int)) (0 : Int))) fun z4 =>
 match z4 with
 | .inl z5 =>
 some ((((z5.2.2.1).drop (0 : Nat)).take z5.1), (z5.2.1, ()))
 | .inr z6 =>
 some ((((z6.2.2.1).drop (0 : Nat)).take z6.1), (z6.2.1, ())))
theorem CF56_le (a0 : List (List Int)) (a1 : Int) : Le (CF56 a0 a1) (F56 a0 a1) := (Le.nd (Le.bd (CF58_le ..) fun y0 => (Le.bd (Cg56_0_le ..) fun z4 => (match z4 with | .inl z5 => Le.r | .inr z6 => Le.r))))
theorem c56_ok : trF prog f56 = some ⟨30, 2, dd56.er, [.cell 4 false 1, .cell 5 false 1], [some (.list (.int .i64)), some (.int .i64)]⟩ := by kernel_rfl
noncomputable def ct56 : Ct := ⟨56, [.c (.hole (.list (.list (.int .i64)))), .c (.hole (.int .i64))], .tup [.hole (.list (.int .i64)), .hole (.int .i64)], fun x => F56 x.1 x.2.1⟩
theorem ct56_ok : ct56.Ok prog := ct_ok mixed cx56_ok func56 c56_ok (enters_of func56 rfl rfl) dd56 rfl rfl (fun x => by kernel_rfl)

/- 22 -/
noncomputable def cx22 : Cx := mkCxH [ct55, ct56] []
theorem cx22_ok : cx22.Ok prog := mkCxH_ok ⟨ct55_ok, ct56_ok, trivial⟩ trivial
noncomputable def dd22 : D prog 22 none 0 := (.seq (.reg [.op (some 4) none (.mv (.c .nsl)), .op (some 5) none (.mv (.c (.int .i64 (Int.ofNat 0)))), .op (some 6) none (.mv (.c (.int .i64 (Int.ofNat 0))))]) (.seq (.seq (.reg [.op (some 8) none (.mv (.t 0)), .op (some 9) none (.mv (.t 1)), .call (some 10) none (.c (.fn 55 [] [])) [.t 8, .t 9] [some (.list (.list (.int .i64))), some (.int .i64)], .op (some 7) none (.mv (.t 10))]) (.seq (.reg [.op (some 11) none (.mv (.t 7)), .op (some 12) none (.bin .neq (.t 11) (.c (.int .i64 (Int.ofNat 0))))]) (.cond ( .t 12) (.seq (.reg [.op (some 13) none (.mv (.t 7)), .op (some 4) none (.mv (.c .nsl)), .op (some 5) none (.mv (.c (.int .i64 (Int.ofNat 0)))), .op (some 6) none (.mv (.t 13))]) .ret) .skip))) (.seq (.reg [.op (some 15) none (.mv (.t 0)), .op (some 16) none (.mv (.t 1)), .call (some 17) none (.c (.fn 56 [] [])) [.t 15, .t 16] [some (.list (.list (.int .i64))), some (.int .i64)], .op (some 14) none (.mv (.t 17)), .op (some 18) none (.ext 0 (.t 14)), .op (some 19) none (.ext 1 (.t 14)), .op (some 4) none (.mv (.t 18)), .op (some 5) none (.mv (.t 19))]) (.seq (.reg [.op (some 20) none (.mv (.t 4)), .op (some 21) none (.mv (.t 5)), .op (some 4) none (.mv (.t 20)), .op (some 5) none (.mv (.t 21)), .op (some 6) none (.mv (.c (.int .i64 (Int.ofNat 0))))]) .ret))))
noncomputable def F22 (a0 : List (List Int)) (a1 : Int) : Option (List Int × Int × Int × Unit) :=
 bindO (F55 a0 a1) fun y0 =>
 brO (!(y0.1 == (0 : Int))) (
 some ([], ((0 : Int), (y0.1, ())))) (
 bindO (F56 a0 a1) fun y1 =>
 some (y1.1, (y1.2.1, ((0 : Int), ()))))
def CF22 (a0 : List (List Int)) (a1 : Int) : Option (List Int × Int × Int × Unit) :=
 bindC (CF55 a0 a1) fun y0 =>
 brC (!(y0.1 == (0 : Int))) (
 some ([], ((0 : Int), (y0.1, ())))) (
 bindC (CF56 a0 a1) fun y1 =>
 some (y1.1, (y1.2.1, ((0 : Int), ()))))
theorem CF22_le (a0 : List (List Int)) (a1 : Int) : Le (CF22 a0 a1) (F22 a0 a1) := (Le.bd (CF55_le ..) fun y0 => (Le.br Le.r (Le.bd (CF56_le ..) fun y1 => Le.r)))
theorem c22_ok : trF prog f22 = some ⟨22, 2, dd22.er, [.t 4, .t 5, .t 6], [some (.list (.int .i64)), some (.int .i64), some (.int .i64)]⟩ := by kernel_rfl
noncomputable def ct22 : Ct := ⟨22, [.c (.hole (.list (.list (.int .i64)))), .c (.hole (.int .i64))], .tup [.hole (.list (.int .i64)), .hole (.int .i64), .hole (.int .i64)], fun x => F22 x.1 x.2.1⟩
theorem ct22_ok : ct22.Ok prog := ct_ok mixed cx22_ok func22 c22_ok (enters_of func22 rfl rfl) dd22 rfl rfl (fun x => by kernel_rfl)

/- 24 -/
noncomputable def cx24 : Cx := mkCxH [ct20, ct58] []
theorem cx24_ok : cx24.Ok prog := mkCxH_ok ⟨ct20_ok, ct58_ok, trivial⟩ trivial
noncomputable def ad24_0 : D prog 29 (some 3) 6 := (.reg [.op (some 6) none (.alloc [.int .i64 (Int.ofNat 0), .int .i64 (Int.ofNat 0)]), .op none none (.store 2 (.t 6) (.t 15))])
noncomputable def bd24_0 : D prog 29 (some 3) 6 := (.block 1 (.draw [[], [], [], [2], [2, 3], [1, 2, 3, 4], [1, 2, 3, 4, 5], [], [7], [1, 2, 3, 4, 5, 6, 7, 8], [1, 2, 3, 4, 5, 6, 7, 8, 9], [0, 1, 2, 3, 4, 5, 6, 7, 8, 9, 10], [0, 1, 2, 3, 4, 5, 6, 7, 8, 9, 10, 11]] [.op (some 16) none (.load false 1 (.t 5)), .op (some 17) none (.load false 1 (.t 5)), .op (some 18) none (.load false 1 (.t 5)), .op (some 19) none (.len (.t 18)), .op (some 20) none (.bin .sub (.t 19) (.c (.int .i64 (Int.ofNat 1)))), .op (some 21) none (.idx 1 (.t 17) (.t 20)), .op (some 22) none (.load false 1 (.t 21)), .op (some 23) none (.fld 0 [false] (.t 6)), .op (some 24) none (.load false 1 (.t 23)), .op (some 25) none (.bin .add (.t 22) (.t 24)), .op (some 26) none (.bslice (.int .i64) [.t 25]), .op (some 27) none (.append 1 (.t 16) (.t 26)), .op none none (.store 1 (.t 5) (.t 27))]))
noncomputable def cx24_0i : Cx := itCx cx24 (fun kz => rdK kz cx24 ar0 3 6 [15] (ad24_0) (bd24_0))
theorem cx24_0i_ok : (cx24_0i).Ok prog := itCx_ok cx24_ok (fun h => rdK_ok mixed cx24_ok h)
@[reducible] def p24_0i_0 : Pat := Pat.mk [(0, .c (.yl 3)), (5, .c (.hole (.list (.prod (.int .i64) (.int .i64))))), (6, .c (.hole (.int .i64))), (7, .c (.hole (.int .i64)))] [(3, .loop .ready none 2 [(2, .c .nsl), (3, .c (.hole (.int .i64))), (5, .c (.ptr 0 0)), (14, .fn 80 [] [.ipc (.list (.prod (.int .i64) (.int .i64)))])] [15] (.reg [.op (some 6) none (.alloc [.int .i64 (Int.ofNat 0), .int .i64 (Int.ofNat 0)]), .op none none (.store 2 (.t 6) (.t 15))]) (.block 1 (.draw [[], [], [], [2], [2, 3], [1, 2, 3, 4], [1, 2, 3, 4, 5], [], [7], [1, 2, 3, 4, 5, 6, 7, 8], [1, 2, 3, 4, 5, 6, 7, 8, 9], [0, 1, 2, 3, 4, 5, 6, 7, 8, 9, 10], [0, 1, 2, 3, 4, 5, 6, 7, 8, 9, 10, 11]] [.op (some 16) none (.load false 1 (.t 5)), .op (some 17) none (.load false 1 (.t 5)), .op (some 18) none (.load false 1 (.t 5)), .op (some 19) none (.len (.t 18)), .op (some 20) none (.bin .sub (.t 19) (.c (.int .i64 (Int.ofNat 1)))), .op (some 21) none (.idx 1 (.t 17) (.t 20)), .op (some 22) none (.load false 1 (.t 21)), .op (some 23) none (.fld 0 [false] (.t 6)), .op (some 24) none (.load false 1 (.t 23)), .op (some 25) none (.bin .add (.t 22) (.t 24)), .op (some 26) none (.bslice (.int .i64) [.t 25]), .op (some 27) none (.append 1 (.t 16) (.t 26)), .op none none (.store 1 (.t 5) (.t 27))])) 29), (2, .dfr), (0, .cells [.sl0 4 (.int .i64)] false), (4, .arr (.int .i64) false)] [.cell 0 0] []
@[reducible] def x24_0i_0 : Outs := [(.exit 0, Pat.mk [] [(0, .cells [.sl0 4 (.int .i64)] false), (2, .dfr), (3, .loop .ready none 2 [(2, .c .nsl), (3, .c (.hole (.int .i64))), (5, .c (.ptr 0 0)), (14, .fn 80 [] [.ipc (.list (.prod (.int .i64) (.int .i64)))])] [15] (.reg [.op (some 6) none (.alloc [.int .i64 (Int.ofNat 0), .int .i64 (Int.ofNat 0)]), .op none none (.store 2 (.t 6) (.t 15))]) (.block 1 (.draw [[], [], [], [2], [2, 3], [1, 2, 3, 4], [1, 2, 3, 4, 5], [], [7], [1, 2, 3, 4, 5, 6, 7, 8], [1, 2, 3, 4, 5, 6, 7, 8, 9], [0, 1, 2, 3, 4, 5, 6, 7, 8, 9, 10], [0, 1, 2, 3, 4, 5, 6, 7, 8, 9, 10, 11]] [.op (some 16) none (.load false 1 (.t 5)), .op (some 17) none (.load false 1 (.t 5)), .op (some 18) none (.load false 1 (.t 5)), .op (some 19) none (.len (.t 18)), .op (some 20) none (.bin .sub (.t 19) (.c (.int .i64 (Int.ofNat 1)))), .op (some 21) none (.idx 1 (.t 17) (.t 20)), .op (some 22) none (.load false 1 (.t 21)), .op (some 23) none (.fld 0 [false] (.t 6)), .op (some 24) none (.load false 1 (.t 23)), .op (some 25) none (.bin .add (.t 22) (.t 24)), .op (some 26) none (.bslice (.int .i64) [.t 25]), .op (some 27) none (.append 1 (.t 16) (.t 26)), .op none none (.store 1 (.t 5) (.t 27))])) 29), (4, .arr (.int .i64) false)] [.cell 0 0] [])]
noncomputable def b24_0i_0 : D prog 16 none 4 := (.seq (.reg [.op (some 8) none (.bin .lss (.t 7) (.t 6))]) (.seq (.cond ( .t 8) .skip (.exit 0)) (.seq (.block 1 (.seq (.reg [.op (some 9) none (.idx 2 (.t 5) (.t 7)), .op (some 10) none (.load true 2 (.t 9)), .op (some 4) none (.alloc [.int .i64 (Int.ofNat 0), .int .i64 (Int.ofNat 0)]), .op none none (.store 2 (.t 4) (.t 10))]) (.seq (.reg [.op (some 11) none (.mv (.t 0)), .op (some 12) none (.load true 2 (.t 4)), .call (some 13) none (.t 11) [.t 12] [some (.prod (.int .i64) (.int .i64))], .op (some 14) none (.not (.t 13))]) (.cond ( .t 14) .ret .skip)))) (.reg [.op (some 15) none (.bin .add (.t 7) (.c (.int .i64 (Int.ofNat 1)))), .op (some 7) none (.mv (.t 15))]))))
noncomputable def g24_0i_0 (v5 : List (Int × Int)) (v6 : Int) (v7 : Int) (w3 : Int) (w14_0 : List (Int × Int)) (nc0_0 : Nat) (b4 : List Int) : Option (((List (Int × Int)) × Int × Int × Int × (List (Int × Int)) × Nat × List Int × Unit) ⊕ ((Nat × Int × (List (Int × Int)) × List Int × Unit))) :=
 brO (decide (v7 < v6)) (
 need (inb v7 (((v5).length : Nat) : Int)) (
 need (rng .i64 (((nc0_0 : Nat) : Int) - (1 : Int))) (
 need (inb (((nc0_0 : Nat) : Int) - (1 : Int)) ((nc0_0 : Nat) : Int)) (
 need (decide (((0 : Nat) + (Int.toNat (((nc0_0 : Nat) : Int) - (1 : Int)))) < (b4).length)) (
 need (rng .i64 (((b4).getD ((0 : Nat) + (Int.toNat (((nc0_0 : Nat) : Int) - (1 : Int)))) (0 : Int)) + ((v5).getD (Int.toNat v7) ((0 : Int), (0 : Int))).1)) (
 need (decide ((nc0_0 + ((((((((b4).getD ((0 : Nat) + (Int.toNat (((nc0_0 : Nat) : Int) - (1 : Int)))) (0 : Int)) + ((v5).getD (Int.toNat v7) ((0 : Int), (0 : Int))).1) :: [])).drop (0 : Nat)).take (1 : Nat))).length) < bigL)) (
 need (rng .i64 (v7 + (1 : Int))) (
 some (.inl (v5, (v6, ((v7 + (1 : Int)), (w3, (w14_0, ((nc0_0 + ((((((((b4).getD ((0 : Nat) + (Int.toNat (((nc0_0 : Nat) : Int) - (1 : Int)))) (0 : Int)) + ((v5).getD (Int.toNat v7) ((0 : Int), (0 : Int))).1) :: [])).drop (0 : Nat)).take (1 : Nat))).length), (((((b4).drop (0 : Nat)).take nc0_0) ++ (((((((b4).getD ((0 : Nat) + (Int.toNat (((nc0_0 : Nat) : Int) - (1 : Int)))) (0 : Int)) + ((v5).getD (Int.toNat v7) ((0 : Int), (0 : Int))).1) :: [])).drop (0 : Nat)).take (1 : Nat))), ())))))))))))))))) (
 some (.inr (nc0_0, (w3, (w14_0, (b4, ()))))))
def Cg24_0i_0 (v5 : List (Int × Int)) (v6 : Int) (v7 : Int) (w3 : Int) (w14_0 : List (Int × Int)) (nc0_0 : Nat) (b4 : List Int) : Option (((List (Int × Int)) × Int × Int × Int × (List (Int × Int)) × Nat × List Int × Unit) ⊕ ((Nat × Int × (List (Int × Int)) × List Int × Unit))) :=
 brC (decide (v7 < v6)) (
 needC (inb v7 (((v5).length : Nat) : Int)) (
 needC (rng .i64 (((nc0_0 : Nat) : Int) - (1 : Int))) (
 needC (inb (((nc0_0 : Nat) : Int) - (1 : Int)) ((nc0_0 : Nat) : Int)) (
 needC (decide (((0 : Nat) + (Int.toNat (((nc0_0 : Nat) : Int) - (1 : Int)))) < (b4).length)) (
 needC (rng .i64 (((b4).getD ((0 : Nat) + (Int.toNat (((nc0_0 : Nat) : Int) - (1 : Int)))) (0 : Int)) + ((v5).getD (Int.toNat v7) ((0 : Int), (0 : Int))).1)) (
 needC (decide ((nc0_0 + ((((((((b4).getD ((0 : Nat) + (Int.toNat (((nc0_0 : Nat) : Int) - (1 : Int)))) (0 : Int)) + ((v5).getD (Int.toNat v7) ((0 : Int), (0 : Int))).1) :: [])).drop (0 : Nat)).take (1 : Nat))).length) < bigL)) (
 needC (rng .i64 (v7 + (1 : Int))) (
 some (.inl (v5, (v6, ((v7 + (1 : Int)), (w3, (w14_0, ((nc0_0 + ((((((((b4).getD ((0 : Nat) + (Int.toNat (((nc0_0 : Nat) : Int) - (1 : Int)))) (0 : Int)) + ((v5).getD (Int.toNat v7) ((0 : Int), (0 : Int))).1) :: [])).drop (0 : Nat)).take (1 : Nat))).length), (((((b4).drop (0 : Nat)).take nc0_0) ++ (((((((b4).getD ((0 : Nat) + (Int.toNat (((nc0_0 : Nat) : Int) - (1 : Int)))) (0 : Int)) + ((v5).getD (Int.toNat v7) ((0 : Int), (0 : Int))).1) :: [])).drop (0 : Nat)).take (1 : Nat))), ())))))))))))))))) (
 some (.inr (nc0_0, (w3, (w14_0, (b4, ()))))))
theorem Cg24_0i_0_le (v5 : List (Int × Int)) (v6 : Int) (v7 : Int) (w3 : Int) (w14_0 : List (Int × Int)) (nc0_0 : Nat) (b4 : List Int) : Le (Cg24_0i_0 v5 v6 v7 w3 w14_0 nc0_0 b4) (g24_0i_0 v5 v6 v7 w3 w14_0 nc0_0 b4) := (Le.br (Le.nd (Le.nd (Le.nd (Le.nd (Le.nd (Le.nd (Le.nd Le.r))))))) Le.r)
theorem s24_0i_0 : ∀ x, roundE (kzO (p24_0i_0.T ⊕ x24_0i_0.T)) cx24_0i ar0 [0, 1, 2, 3] p24_0i_0 x24_0i_0 (b24_0i_0) (fun y => some (.inl y)) (fun b => some (.inr b)) x = g24_0i_0 x.1 x.2.1 x.2.2.1 x.2.2.2.1 x.2.2.2.2.1 x.2.2.2.2.2.1 x.2.2.2.2.2.2.1 := by intro x; kernel_rfl
noncomputable def L24_0i_0 : LoopS prog 16 none 4 := mkLoop mixed cx24_0i cx24_0i_ok [0, 1, 2, 3] rfl p24_0i_0 x24_0i_0 rfl (b24_0i_0) (fun x => g24_0i_0 x.1 x.2.1 x.2.2.1 x.2.2.2.1 x.2.2.2.2.1 x.2.2.2.2.2.1 x.2.2.2.2.2.2.1) (s24_0i_0)
@[reducible] def p24_0 : Pat := Pat.mk [(2, .c .nsl), (3, .c (.hole (.int .i64))), (5, .c (.ptr 0 0)), (14, .fn 80 [] [.ipc (.list (.prod (.int .i64) (.int .i64)))])] [(0, .cells [.sl0 1 (.int .i64)] false), (1, .arr (.int .i64) false)] [.slot 5, .cell 0 0] []
@[reducible] def x24_0 : Outs := [(.normal, Pat.mk [(5, .c (.ptr 0 0))] [(0, .cells [.sl0 2 (.int .i64)] false), (1, .dfr), (2, .arr (.int .i64) false)] [.slot 5, .mark 0, .cell 0 0] [1])]
noncomputable def b24_0i : D prog 16 none 4 := (.seq (.reg [.op (some 5) none (.load false 1 (.t 1)), .op (some 6) none (.len (.t 5)), .op (some 7) none (.mv (.c (.int .i64 (Int.ofNat 0))))]) (.block 0 (.loop L24_0i_0)))
theorem ci24_0 : trF prog f80 = some ⟨16, 2, (b24_0i).er, [], []⟩ := by kernel_rfl
noncomputable def g24_0 (v3 : Int) (v14_0 : List (Int × Int)) (nc0_0 : Nat) (b1 : List Int) : Option ((Nat × List Int × Unit)) :=
 bindO (iter (fun x => g24_0i_0 x.1 x.2.1 x.2.2.1 x.2.2.2.1 x.2.2.2.2.1 x.2.2.2.2.2.1 x.2.2.2.2.2.2.1) (v14_0, ((((v14_0).length : Nat) : Int), ((0 : Int), (v3, (v14_0, (nc0_0, (b1, ())))))))) fun z2 =>
 some ((z2.1, (z2.2.2.2.1, ())))
def Cg24_0 (v3 : Int) (v14_0 : List (Int × Int)) (nc0_0 : Nat) (b1 : List Int) : Option ((Nat × List Int × Unit)) :=
 bindC (iterF (fun x => Cg24_0i_0 x.1 x.2.1 x.2.2.1 x.2.2.2.1 x.2.2.2.2.1 x.2.2.2.2.2.1 x.2.2.2.2.2.2.1) 1000000 (v14_0, ((((v14_0).length : Nat) : Int), ((0 : Int), (v3, (v14_0, (nc0_0, (b1, ())))))))) fun z2 =>
 some ((z2.1, (z2.2.2.2.1, ())))
theorem Cg24_0_le (v3 : Int) (v14_0 : List (Int × Int)) (nc0_0 : Nat) (b1 : List Int) : Le (Cg24_0 v3 v14_0 nc0_0 b1) (g24_0 v3 v14_0 nc0_0 b1) := (Le.bd (Le.iter fun x => Cg24_0i_0_le ..) fun z2 => Le.r)
theorem s24_0 : ∀ x, rangeE (N := 29) (out := none) (base := 0) (kzO x24_0.T) cx24_0i ar0 [] p24_0 x24_0 ( .t 14) [15] (ad24_0).er (bd24_0).er [] 2 80 (b24_0i) some x = g24_0 x.1 x.2.1 x.2.2.1 x.2.2.2.1 := by intro x; kernel_rfl
noncomputable def R24_0 : RangeS prog 29 none 0 := mkRange mixed cx24_0i cx24_0i_ok [] rfl p24_0 x24_0 ( .t 14) [15] rfl (ad24_0).er (bd24_0).er 80 func80 (ci24_0) (enters_of func80 rfl rfl) 4 rfl (b24_0i) rfl (fun x => g24_0 x.1 x.2.1 x.2.2.1 x.2.2.2.1) (s24_0)
noncomputable def dd24 : D prog 29 none 0 := (.seq (.reg [.op (some 2) none (.mv (.c .nsl)), .op (some 3) none (.mv (.c (.int .i64 (Int.ofNat 0))))]) (.seq (.seq (.reg [.op (some 7) none (.mv (.t 0)), .call (some 8) none (.c (.fn 20 [] [])) [.t 7] [some (.list (.list (.int .i64)))], .op (some 4) none (.mv (.t 8))]) (.seq (.reg [.op (some 9) none (.mv (.t 4)), .op (some 10) none (.bin .neq (.t 9) (.c (.int .i64 (Int.ofNat 0))))]) (.cond ( .t 10) (.seq (.reg [.op (some 11) none (.mv (.t 4)), .op (some 2) none (.mv (.c .nsl)), .op (some 3) none (.mv (.t 11))]) .ret) .skip))) (.seq (.reg [.op (some 12) none (.bslice (.int .i64) [.c (.int .i64 (Int.ofNat 0))]), .op (some 5) none (.alloc [.nsl]), .op none none (.store 1 (.t 5) (.t 12))]) (.seq (.seq (.reg [.op (some 13) none (.mv (.t 0)), .call (some 14) none (.c (.fn 58 [] [])) [.t 13, .c (.fn 59 [] [])] [some (.list (.list (.int .i64))), none]]) (.block 0 (.rangeF R24_0))) (.seq (.reg [.op (some 28) none (.load false 1 (.t 5)), .op (some 2) none (.mv (.t 28)), .op (some 3) none (.mv (.c (.int .i64 (Int.ofNat 0))))]) .ret)))))
noncomputable def F24 (a0 : List (List Int)) : Option (List Int × Int × Unit) :=
 bindO (F20 a0) fun y0 =>
 brO (!(y0.1 == (0 : Int))) (
 some ([], (y0.1, ()))) (
 bindO (F58 a0) fun y1 =>
 bindO (g24_0 (0 : Int) y1.1 (1 : Nat) ((0 : Int) :: [])) fun z3 =>
 some ((((z3.2.1).drop (0 : Nat)).take z3.1), ((0 : Int), ())))
def CF24 (a0 : List (List Int)) : Option (List Int × Int × Unit) :=
 bindC (CF20 a0) fun y0 =>
 brC (!(y0.1 == (0 : Int))) (
 some ([], (y0.1, ()))) (
 bindC (CF58 a0) fun y1 =>
 bindC (Cg24_0 (0 : Int) y1.1 (1 : Nat) ((0 : Int) :: [])) fun z3 =>
 some ((((z3.2.1).drop (0 : Nat)).take z3.1), ((0 : Int), ())))
theorem CF24_le (a0 : List (List Int)) : Le (CF24 a0) (F24 a0) := (Le.bd (CF20_le ..) fun y0 => (Le.br Le.r (Le.bd (CF58_le ..) fun y1 => (Le.bd (Cg24_0_le ..) fun z3 => Le.r))))
theorem c24_ok : trF prog f24 = some ⟨29, 1, dd24.er, [.t 2, .t 3], [some (.list (.int .i64)), some (.int .i64)]⟩ := by kernel_rfl
noncomputable def ct24 : Ct := ⟨24, [.c (.hole (.list (.list (.int .i64))))], .tup [.hole (.list (.int .i64)), .hole (.int .i64)], fun x => F24 x.1⟩
theorem ct24_ok : ct24.Ok prog := ct_ok mixed cx24_ok func24 c24_ok (enters_of func24 rfl rfl) dd24 rfl rfl (fun x => by kernel_rfl)

/- 26 -/
noncomputable def cx26 : Cx := mkCxH [] []
theorem cx26_ok : cx26.Ok prog := mkCxH_ok trivial trivial
@[reducible] def p26_0 : Pat := Pat.mk [(0, .c (.hole (.list (.int .i64)))), (1, .c (.hole (.list (.int .i64)))), (5, .c (.hole (.int .i64)))] [] [] []
@[reducible] def x26_0 : Outs := [(.ret, Pat.mk [(4, .c (.tf false))] [] [] []), (.exit 0, Pat.mk [] [] [] [])]
noncomputable def b26_0 : D prog 26 none 0 := (.seq (.seq (.reg [.op (some 11) none (.mv (.t 5)), .op (some 12) none (.mv (.t 0)), .op (some 13) none (.len (.t 12)), .op (some 14) none (.bin .lss (.t 11) (.t 13))]) (.cond ( .t 14) .skip (.exit 0))) (.seq (.block 1 (.seq (.draw [[], [], [0, 1], [0, 1, 2], [], [], [4, 5], [4, 5, 6], [0, 1, 2, 3, 4, 5, 6, 7]] [.op (some 17) none (.mv (.t 0)), .op (some 18) none (.mv (.t 5)), .op (some 19) none (.idx 1 (.t 17) (.t 18)), .op (some 20) none (.load false 1 (.t 19)), .op (some 21) none (.mv (.t 1)), .op (some 22) none (.mv (.t 5)), .op (some 23) none (.idx 1 (.t 21) (.t 22)), .op (some 24) none (.load false 1 (.t 23)), .op (some 25) none (.bin .neq (.t 20) (.t 24))]) (.cond ( .t 25) (.seq (.reg [.op (some 4) none (.mv (.c (.tf false)))]) .ret) .skip))) (.reg [.op (some 15) none (.mv (.t 5)), .op (some 16) none (.bin .add (.t 15) (.c (.int .i64 (Int.ofNat 1)))), .op (some 5) none (.mv (.t 16))])))
noncomputable def g26_0 (v0 : List Int) (v1 : List Int) (v5 : Int) : Option ((List Int × List Int × Int × Unit) ⊕ ((Unit) ⊕ ((Unit)))) :=
 brO (decide (v5 < (((v0).length : Nat) : Int))) (
 need (inb v5 (((v0).length : Nat) : Int)) (
 need (inb v5 (((v1).length : Nat) : Int)) (
 brO (!(((v0).getD (Int.toNat v5) (0 : Int)) == ((v1).getD (Int.toNat v5) (0 : Int)))) (
 some (.inr <| .inl <| ())) (
 need (rng .i64 (v5 + (1 : Int))) (
 some (.inl (v0, (v1, ((v5 + (1 : Int)), ()))))))))) (
 some (.inr <| .inr <| ()))
def Cg26_0 (v0 : List Int) (v1 : List Int) (v5 : Int) : Option ((List Int × List Int × Int × Unit) ⊕ ((Unit) ⊕ ((Unit)))) :=
 brC (decide (v5 < (((v0).length : Nat) : Int))) (
 needC (inb v5 (((v0).length : Nat) : Int)) (
 needC (inb v5 (((v1).length : Nat) : Int)) (
 brC (!(((v0).getD (Int.toNat v5) (0 : Int)) == ((v1).getD (Int.toNat v5) (0 : Int)))) (
 some (.inr <| .inl <| ())) (
 needC (rng .i64 (v5 + (1 : Int))) (
 some (.inl (v0, (v1, ((v5 + (1 : Int)), ()))))))))) (
 some (.inr <| .inr <| ()))
theorem Cg26_0_le (v0 : List Int) (v1 : List Int) (v5 : Int) : Le (Cg26_0 v0 v1 v5) (g26_0 v0 v1 v5) := (Le.br (Le.nd (Le.nd (Le.br Le.r (Le.nd Le.r)))) Le.r)
theorem s26_0 : ∀ x, roundE (kzO (p26_0.T ⊕ x26_0.T)) cx26 ar0 [] p26_0 x26_0 (b26_0) (fun y => some (.inl y)) (fun b => some (.inr b)) x = g26_0 x.1 x.2.1 x.2.2.1 := by intro x; kernel_rfl
noncomputable def L26_0 : LoopS prog 26 none 0 := mkLoop mixed cx26 cx26_ok [] rfl p26_0 x26_0 rfl (b26_0) (fun x => g26_0 x.1 x.2.1 x.2.2.1) (s26_0)
noncomputable def dd26 : D prog 26 none 0 := (.seq (.reg [.op (some 4) none (.mv (.c (.tf false)))]) (.seq (.seq (.reg [.op (some 6) none (.mv (.t 0)), .op (some 7) none (.len (.t 6)), .op (some 8) none (.mv (.t 1)), .op (some 9) none (.len (.t 8)), .op (some 10) none (.bin .neq (.t 7) (.t 9))]) (.cond ( .t 10) (.seq (.reg [.op (some 4) none (.mv (.c (.tf false)))]) .ret) .skip)) (.seq (.seq (.reg [.op (some 5) none (.mv (.c (.int .i64 (Int.ofNat 0))))]) (.block 0 (.loop L26_0))) (.seq (.reg [.op (some 4) none (.mv (.c (.tf true)))]) .ret))))
noncomputable def F26 (a0 : List Int) (a1 : List Int) : Option (Bool × Unit) :=
 brO (!((((a0).length : Nat) : Int) == (((a1).length : Nat) : Int))) (
 some (false, ())) (
 bindO (iter (fun x => g26_0 x.1 x.2.1 x.2.2.1) (a0, (a1, ((0 : Int), ())))) fun z0 =>
 match z0 with
 | .inl z1 =>
 some (false, ())
 | .inr z2 =>
 some (true, ()))
def CF26 (a0 : List Int) (a1 : List Int) : Option (Bool × Unit) :=
 brC (!((((a0).length : Nat) : Int) == (((a1).length : Nat) : Int))) (
 some (false, ())) (
 bindC (iterF (fun x => Cg26_0 x.1 x.2.1 x.2.2.1) 1000000 (a0, (a1, ((0 : Int), ())))) fun z0 =>
 match z0 with
 | .inl z1 =>
 some (false, ())
 | .inr z2 =>
 some (true, ()))
theorem CF26_le (a0 : List Int) (a1 : List Int) : Le (CF26 a0 a1) (F26 a0 a1) := (Le.br Le.r (Le.bd (Le.iter fun x => Cg26_0_le ..) fun z0 => (match z0 with | .inl z1 => Le.r | .inr z2 => Le.r)))
theorem c26_ok : trF prog f26 = some ⟨26, 2, dd26.er, [.t 4], [some .bool]⟩ := by kernel_rfl
noncomputable def ct26 : Ct := ⟨26, [.c (.hole (.list (.int .i64))), .c (.hole (.list (.int .i64)))], .c (.hole .bool), fun x => F26 x.1 x.2.1⟩
theorem ct26_ok : ct26.Ok prog := ct_ok mixed cx26_ok func26 c26_ok (enters_of func26 rfl rfl) dd26 rfl rfl (fun x => by kernel_rfl)

/- 47 -/
noncomputable def cx47 : Cx := mkCxH [] []
theorem cx47_ok : cx47.Ok prog := mkCxH_ok trivial trivial
noncomputable def dd47 : D prog 10 none 0 := (.seq (.reg [.op (some 0) none (.mv (.c .nsl))]) (.seq (.reg [.op (some 1) none (.build [.int .i64 (Int.ofNat 0), .int .i64 (Int.ofNat 0)] [(0, 1, .c (.int .i64 (Int.ofNat 8))), (1, 1, .c (.int .i64 (Int.ofNat 9)))]), .op (some 2) none (.build [.int .i64 (Int.ofNat 0), .int .i64 (Int.ofNat 0)] [(0, 1, .c (.int .i64 (Int.ofNat 6))), (1, 1, .c (.int .i64 (Int.ofNat 7)))]), .op (some 3) none (.bslice (.prod (.int .i64) (.int .i64)) [.t 1, .t 2]), .op (some 4) none (.build [.int .i64 (Int.ofNat 0), .int .i64 (Int.ofNat 0)] [(0, 1, .c (.int .i64 (Int.ofNat 4))), (1, 1, .c (.int .i64 (Int.ofNat 8)))]), .op (some 5) none (.build [.int .i64 (Int.ofNat 0), .int .i64 (Int.ofNat 0)] [(0, 1, .c (.int .i64 (Int.ofNat 3))), (1, 1, .c (.int .i64 (Int.ofNat 3)))]), .op (some 6) none (.bslice (.prod (.int .i64) (.int .i64)) [.t 4, .t 5]), .op (some 7) none (.build [.int .i64 (Int.ofNat 0), .int .i64 (Int.ofNat 0)] [(0, 1, .c (.int .i64 (Int.ofNat 5))), (1, 1, .c (.int .i64 (Int.ofNat 6)))]), .op (some 8) none (.bslice (.prod (.int .i64) (.int .i64)) [.t 7]), .op (some 9) none (.bslice (.list (.prod (.int .i64) (.int .i64))) [.t 3, .t 6, .t 8]), .op (some 0) none (.mv (.t 9))]) .ret))
noncomputable def F47 : Option ((List (List (Int × Int))) × Unit) :=
 some (((((((((((8 : Int), (9 : Int)) :: (((6 : Int), (7 : Int)) :: []))).drop (0 : Nat)).take (2 : Nat)) :: (((((((4 : Int), (8 : Int)) :: (((3 : Int), (3 : Int)) :: []))).drop (0 : Nat)).take (2 : Nat)) :: (((((((5 : Int), (6 : Int)) :: [])).drop (0 : Nat)).take (1 : Nat)) :: [])))).drop (0 : Nat)).take (3 : Nat)), ())
def CF47 : Option ((List (List (Int × Int))) × Unit) :=
 some (((((((((((8 : Int), (9 : Int)) :: (((6 : Int), (7 : Int)) :: []))).drop (0 : Nat)).take (2 : Nat)) :: (((((((4 : Int), (8 : Int)) :: (((3 : Int), (3 : Int)) :: []))).drop (0 : Nat)).take (2 : Nat)) :: (((((((5 : Int), (6 : Int)) :: [])).drop (0 : Nat)).take (1 : Nat)) :: [])))).drop (0 : Nat)).take (3 : Nat)), ())
theorem CF47_le : Le (CF47) (F47) := Le.r
theorem c47_ok : trF prog f47 = some ⟨10, 0, dd47.er, [.t 0], [some (.list (.list (.prod (.int .i64) (.int .i64))))]⟩ := by kernel_rfl
noncomputable def ct47 : Ct := ⟨47, [], .c (.hole (.list (.list (.prod (.int .i64) (.int .i64))))), fun x => F47⟩
theorem ct47_ok : ct47.Ok prog := ct_ok mixed cx47_ok func47 c47_ok (enters_of func47 rfl rfl) dd47 rfl rfl (fun x => by kernel_rfl)

/- 61 -/
noncomputable def cx61 : Cx := mkCxH [] []
theorem cx61_ok : cx61.Ok prog := mkCxH_ok trivial trivial
noncomputable def dd61 : D prog 18 none 0 := (.seq (.reg [.op (some 1) none (.box (.t 0)), .op (some 2) none (.mv (.c (.tf false)))]) (.seq (.reg [.op (some 3) none (.fld 0 [false] (.t 1)), .op (some 4) none (.load false 1 (.t 3)), .op (some 5) none (.bin .geq (.t 4) (.c (.int .i64 (Int.ofNat 0)))), .op (some 6) none (.mv (.t 5)), .op (some 7) (some (6, true)) (.fld 0 [false] (.t 1)), .op (some 8) (some (6, true)) (.load false 1 (.t 7)), .op (some 9) (some (6, true)) (.fld 1 [true] (.t 1)), .op (some 10) (some (6, true)) (.load false 1 (.t 9)), .op (some 11) (some (6, true)) (.bin .leq (.t 8) (.t 10)), .op (some 12) none (.pick (.t 6) (.t 11) (.c (.tf false))), .op (some 13) none (.mv (.t 12)), .op (some 14) (some (13, true)) (.fld 1 [true] (.t 1)), .op (some 15) (some (13, true)) (.load false 1 (.t 14)), .op (some 16) (some (13, true)) (.bin .leq (.t 15) (.c (.int .i64 (Int.ofNat 1000000)))), .op (some 17) none (.pick (.t 13) (.t 16) (.c (.tf false))), .op (some 2) none (.mv (.t 17))]) .ret))
noncomputable def F61 (a0 : Int × Int) : Option (Bool × Unit) :=
 brO (decide ((0 : Int) ≤ a0.1)) (
 brO (decide (a0.1 ≤ a0.2)) (
 some ((decide (a0.2 ≤ (1000000 : Int))), ())) (
 some (false, ()))) (
 some (false, ()))
def CF61 (a0 : Int × Int) : Option (Bool × Unit) :=
 brC (decide ((0 : Int) ≤ a0.1)) (
 brC (decide (a0.1 ≤ a0.2)) (
 some ((decide (a0.2 ≤ (1000000 : Int))), ())) (
 some (false, ()))) (
 some (false, ()))
theorem CF61_le (a0 : Int × Int) : Le (CF61 a0) (F61 a0) := (Le.br (Le.br Le.r Le.r) Le.r)
theorem c61_ok : trF prog f61 = some ⟨18, 1, dd61.er, [.t 2], [some .bool]⟩ := by kernel_rfl
noncomputable def ct61 : Ct := ⟨61, [.c (.hole (.prod (.int .i64) (.int .i64)))], .c (.hole .bool), fun x => F61 x.1⟩
theorem ct61_ok : ct61.Ok prog := ct_ok mixed cx61_ok func61 c61_ok (enters_of func61 rfl rfl) dd61 rfl rfl (fun x => by kernel_rfl)

/- 63 -/
noncomputable def cx63 : Cx := mkCxH [] []
theorem cx63_ok : cx63.Ok prog := mkCxH_ok trivial trivial
noncomputable def dd63 : D prog 17 none 0 := (.seq (.reg [.op (some 2) none (.box (.t 0)), .op (some 3) none (.box (.t 1)), .op (some 4) none (.mv (.c (.tf false)))]) (.seq (.reg [.op (some 5) none (.fld 0 [false] (.t 2)), .op (some 6) none (.load false 1 (.t 5)), .op (some 7) none (.fld 0 [false] (.t 3)), .op (some 8) none (.load false 1 (.t 7)), .op (some 9) none (.bin .leq (.t 6) (.t 8)), .op (some 10) none (.mv (.t 9)), .op (some 11) (some (10, true)) (.fld 1 [true] (.t 2)), .op (some 12) (some (10, true)) (.load false 1 (.t 11)), .op (some 13) (some (10, true)) (.fld 1 [true] (.t 3)), .op (some 14) (some (10, true)) (.load false 1 (.t 13)), .op (some 15) (some (10, true)) (.bin .leq (.t 12) (.t 14)), .op (some 16) none (.pick (.t 10) (.t 15) (.c (.tf false))), .op (some 4) none (.mv (.t 16))]) .ret))
noncomputable def F63 (a0 : Int × Int) (a1 : Int × Int) : Option (Bool × Unit) :=
 brO (decide (a0.1 ≤ a1.1)) (
 some ((decide (a0.2 ≤ a1.2)), ())) (
 some (false, ()))
def CF63 (a0 : Int × Int) (a1 : Int × Int) : Option (Bool × Unit) :=
 brC (decide (a0.1 ≤ a1.1)) (
 some ((decide (a0.2 ≤ a1.2)), ())) (
 some (false, ()))
theorem CF63_le (a0 : Int × Int) (a1 : Int × Int) : Le (CF63 a0 a1) (F63 a0 a1) := (Le.br Le.r Le.r)
theorem c63_ok : trF prog f63 = some ⟨17, 2, dd63.er, [.t 4], [some .bool]⟩ := by kernel_rfl
noncomputable def ct63 : Ct := ⟨63, [.c (.hole (.prod (.int .i64) (.int .i64))), .c (.hole (.prod (.int .i64) (.int .i64)))], .c (.hole .bool), fun x => F63 x.1 x.2.1⟩
theorem ct63_ok : ct63.Ok prog := ct_ok mixed cx63_ok func63 c63_ok (enters_of func63 rfl rfl) dd63 rfl rfl (fun x => by kernel_rfl)

/- 62 -/
noncomputable def cx62 : Cx := mkCxH [ct61, ct63] []
theorem cx62_ok : cx62.Ok prog := mkCxH_ok ⟨ct61_ok, ct63_ok, trivial⟩ trivial
@[reducible] def p62_1 : Pat := Pat.mk [(1, .c (.fn0 61)), (2, .c (.fn0 63)), (8, .c (.hole (.list (.prod (.int .i64) (.int .i64))))), (14, .c (.hole (.list (.list (.prod (.int .i64) (.int .i64)))))), (15, .c (.hole (.int .i64))), (16, .c (.hole (.int .i64))), (23, .c (.hole (.list (.prod (.int .i64) (.int .i64))))), (24, .c (.hole (.int .i64))), (25, .c (.hole (.int .i64)))] [] [] []
@[reducible] def x62_1 : Outs := [(.ret, Pat.mk [(6, .c (.hole (.int .i64)))] [] [] []), (.exit 2, Pat.mk [(1, .c (.fn0 61)), (2, .c (.fn0 63)), (14, .c (.hole (.list (.list (.prod (.int .i64) (.int .i64)))))), (15, .c (.hole (.int .i64))), (16, .c (.hole (.int .i64)))] [] [] [])]
noncomputable def b62_1 : D prog 51 none 0 := (.seq (.reg [.op (some 26) none (.bin .lss (.t 25) (.t 24))]) (.seq (.cond ( .t 26) .skip (.exit 2)) (.seq (.block 3 (.seq (.reg [.op (some 27) none (.mv (.t 25)), .op (some 28) none (.idx 2 (.t 23) (.t 25)), .op (some 29) none (.load true 2 (.t 28)), .op (some 10) none (.alloc [.int .i64 (Int.ofNat 0), .int .i64 (Int.ofNat 0)]), .op (some 9) none (.mv (.t 27)), .op none none (.store 2 (.t 10) (.t 29))]) (.block 4 (.seq (.reg [.op (some 31) none (.mv (.t 1)), .op (some 32) none (.load true 2 (.t 10)), .call (some 33) none (.t 31) [.t 32] [some (.prod (.int .i64) (.int .i64))], .op (some 34) none (.not (.t 33)), .op (some 30) none (.mv (.t 34))]) (.cond ( .t 30) (.seq (.reg [.op (some 6) none (.mv (.c (.int .i64 (Int.ofNat 2))))]) .ret) (.seq (.draw [[], [0], [0, 1], [0, 1, 2], [0, 1, 2], [0, 1, 2], [0, 1, 2], [0, 1, 2, 6], [0, 1, 2, 5, 6, 7], [0, 1, 2, 5, 6, 7, 8], [0, 1, 2, 3, 4, 5, 6, 7, 8, 9], [0, 1, 2, 3, 4, 5, 6, 7, 8, 9, 10], [0, 1, 2, 3, 4, 5, 6, 7, 8, 9, 10, 11], [0, 1, 2, 3, 4, 5, 6, 7, 8, 9, 10, 11, 12]] [.op (some 36) none (.mv (.t 9)), .op (some 37) none (.bin .gtr (.t 36) (.c (.int .i64 (Int.ofNat 0)))), .op (some 38) none (.mv (.t 37)), .op (some 39) (some (38, true)) (.mv (.t 2)), .op (some 40) (some (38, true)) (.load true 2 (.t 10)), .op (some 41) (some (38, true)) (.mv (.t 8)), .op (some 42) (some (38, true)) (.mv (.t 9)), .op (some 43) (some (38, true)) (.bin .sub (.t 42) (.c (.int .i64 (Int.ofNat 1)))), .op (some 44) (some (38, true)) (.idx 2 (.t 41) (.t 43)), .op (some 45) (some (38, true)) (.load true 2 (.t 44)), .call (some 46) (some (38, true)) (.t 39) [.t 40, .t 45] [some (.prod (.int .i64) (.int .i64)), some (.prod (.int .i64) (.int .i64))], .op (some 47) (some (38, true)) (.not (.t 46)), .op (some 48) none (.pick (.t 38) (.t 47) (.c (.tf false))), .op (some 35) none (.mv (.t 48))]) (.cond ( .t 35) (.seq (.reg [.op (some 6) none (.mv (.c (.int .i64 (Int.ofNat 7))))]) .ret) .skip))))))) (.reg [.op (some 49) none (.bin .add (.t 25) (.c (.int .i64 (Int.ofNat 1)))), .op (some 25) none (.mv (.t 49))]))))
noncomputable def g62_1 (v8 : List (Int × Int)) (v14 : List (List (Int × Int))) (v15 : Int) (v16 : Int) (v23 : List (Int × Int)) (v24 : Int) (v25 : Int) : Option (((List (Int × Int)) × (List (List (Int × Int))) × Int × Int × (List (Int × Int)) × Int × Int × Unit) ⊕ ((Int × Unit) ⊕ (((List (List (Int × Int))) × Int × Int × Unit)))) :=
 brO (decide (v25 < v24)) (
 need (inb v25 (((v23).length : Nat) : Int)) (
 bindO (F61 (((v23).getD (Int.toNat v25) ((0 : Int), (0 : Int))).1, ((v23).getD (Int.toNat v25) ((0 : Int), (0 : Int))).2)) fun y0 =>
 brO (!y0.1) (
 some (.inr <| .inl <| ((2 : Int), ()))) (
 brO (decide ((0 : Int) < v25)) (
 need (rng .i64 (v25 - (1 : Int))) (
 need (inb (v25 - (1 : Int)) (((v8).length : Nat) : Int)) (
 bindO (F63 (((v23).getD (Int.toNat v25) ((0 : Int), (0 : Int))).1, ((v23).getD (Int.toNat v25) ((0 : Int), (0 : Int))).2) (((v8).getD (Int.toNat (v25 - (1 : Int))) ((0 : Int), (0 : Int))).1, ((v8).getD (Int.toNat (v25 - (1 : Int))) ((0 : Int), (0 : Int))).2)) fun y1 =>
 brO (!y1.1) (
 some (.inr <| .inl <| ((7 : Int), ()))) (
 need (rng .i64 (v25 + (1 : Int))) (
 some (.inl (v8, (v14, (v15, (v16, (v23, (v24, ((v25 + (1 : Int)), ()))))))))))))) (
 need (rng .i64 (v25 + (1 : Int))) (
 some (.inl (v8, (v14, (v15, (v16, (v23, (v24, ((v25 + (1 : Int)), ()))))))))))))) (
 some (.inr <| .inr <| (v14, (v15, (v16, ())))))
def Cg62_1 (v8 : List (Int × Int)) (v14 : List (List (Int × Int))) (v15 : Int) (v16 : Int) (v23 : List (Int × Int)) (v24 : Int) (v25 : Int) : Option (((List (Int × Int)) × (List (List (Int × Int))) × Int × Int × (List (Int × Int)) × Int × Int × Unit) ⊕ ((Int × Unit) ⊕ (((List (List (Int × Int))) × Int × Int × Unit)))) :=
 brC (decide (v25 < v24)) (
 needC (inb v25 (((v23).length : Nat) : Int)) (
 bindC (CF61 (((v23).getD (Int.toNat v25) ((0 : Int), (0 : Int))).1, ((v23).getD (Int.toNat v25) ((0 : Int), (0 : Int))).2)) fun y0 =>
 brC (!y0.1) (
 some (.inr <| .inl <| ((2 : Int), ()))) (
 brC (decide ((0 : Int) < v25)) (
 needC (rng .i64 (v25 - (1 : Int))) (
 needC (inb (v25 - (1 : Int)) (((v8).length : Nat) : Int)) (
 bindC (CF63 (((v23).getD (Int.toNat v25) ((0 : Int), (0 : Int))).1, ((v23).getD (Int.toNat v25) ((0 : Int), (0 : Int))).2) (((v8).getD (Int.toNat (v25 - (1 : Int))) ((0 : Int), (0 : Int))).1, ((v8).getD (Int.toNat (v25 - (1 : Int))) ((0 : Int), (0 : Int))).2)) fun y1 =>
 brC (!y1.1) (
 some (.inr <| .inl <| ((7 : Int), ()))) (
 needC (rng .i64 (v25 + (1 : Int))) (
 some (.inl (v8, (v14, (v15, (v16, (v23, (v24, ((v25 + (1 : Int)), ()))))))))))))) (
 needC (rng .i64 (v25 + (1 : Int))) (
 some (.inl (v8, (v14, (v15, (v16, (v23, (v24, ((v25 + (1 : Int)), ()))))))))))))) (
 some (.inr <| .inr <| (v14, (v15, (v16, ())))))
theorem Cg62_1_le (v8 : List (Int × Int)) (v14 : List (List (Int × Int))) (v15 : Int) (v16 : Int) (v23 : List (Int × Int)) (v24 : Int) (v25 : Int) : Le (Cg62_1 v8 v14 v15 v16 v23 v24 v25) (g62_1 v8 v14 v15 v16 v23 v24 v25) := (Le.br (Le.nd (Le.bd (CF61_le ..) fun y0 => (Le.br Le.r (Le.br (Le.nd (Le.nd (Le.bd (CF63_le ..) fun y1 => (Le.br Le.r (Le.nd Le.r))))) (Le.nd Le.r))))) Le.r)
theorem s62_1 : ∀ x, roundE (kzO (p62_1.T ⊕ x62_1.T)) cx62 ar0 [] p62_1 x62_1 (b62_1) (fun y => some (.inl y)) (fun b => some (.inr b)) x = g62_1 x.1 x.2.1 x.2.2.1 x.2.2.2.1 x.2.2.2.2.1 x.2.2.2.2.2.1 x.2.2.2.2.2.2.1 := by intro x; kernel_rfl
noncomputable def L62_1 : LoopS prog 51 none 0 := mkLoop mixed cx62 cx62_ok [] rfl p62_1 x62_1 rfl (b62_1) (fun x => g62_1 x.1 x.2.1 x.2.2.1 x.2.2.2.1 x.2.2.2.2.1 x.2.2.2.2.2.1 x.2.2.2.2.2.2.1) (s62_1)
@[reducible] def p62_0 : Pat := Pat.mk [(1, .c (.fn0 61)), (2, .c (.fn0 63)), (14, .c (.hole (.list (.list (.prod (.int .i64) (.int .i64)))))), (15, .c (.hole (.int .i64))), (16, .c (.hole (.int .i64)))] [] [] []
@[reducible] def x62_0 : Outs := [(.ret, Pat.mk [(6, .c (.hole (.int .i64)))] [] [] []), (.exit 0, Pat.mk [] [] [] [])]
noncomputable def b62_0 : D prog 51 none 0 := (.seq (.reg [.op (some 17) none (.bin .lss (.t 16) (.t 15))]) (.seq (.cond ( .t 17) .skip (.exit 0)) (.seq (.block 1 (.seq (.reg [.op (some 18) none (.idx 1 (.t 14) (.t 16)), .op (some 19) none (.load false 1 (.t 18)), .op (some 8) none (.mv (.t 19))]) (.seq (.seq (.reg [.op (some 20) none (.mv (.t 8)), .op (some 21) none (.len (.t 20)), .op (some 22) none (.bin .gtr (.t 21) (.c (.int .i64 (Int.ofNat 10))))]) (.cond ( .t 22) (.seq (.reg [.op (some 6) none (.mv (.c (.int .i64 (Int.ofNat 1))))]) .ret) .skip)) (.seq (.reg [.op (some 23) none (.mv (.t 8)), .op (some 24) none (.len (.t 23)), .op (some 25) none (.mv (.c (.int .i64 (Int.ofNat 0))))]) (.block 2 (.loop L62_1)))))) (.reg [.op (some 50) none (.bin .add (.t 16) (.c (.int .i64 (Int.ofNat 1)))), .op (some 16) none (.mv (.t 50))]))))
noncomputable def g62_0 (v14 : List (List (Int × Int))) (v15 : Int) (v16 : Int) : Option (((List (List (Int × Int))) × Int × Int × Unit) ⊕ ((Int × Unit) ⊕ ((Unit)))) :=
 brO (decide (v16 < v15)) (
 need (inb v16 (((v14).length : Nat) : Int)) (
 brO (decide ((10 : Int) < (((((v14).getD (Int.toNat v16) [])).length : Nat) : Int))) (
 some (.inr <| .inl <| ((1 : Int), ()))) (
 bindO (iter (fun x => g62_1 x.1 x.2.1 x.2.2.1 x.2.2.2.1 x.2.2.2.2.1 x.2.2.2.2.2.1 x.2.2.2.2.2.2.1) (((v14).getD (Int.toNat v16) []), (v14, (v15, (v16, (((v14).getD (Int.toNat v16) []), ((((((v14).getD (Int.toNat v16) [])).length : Nat) : Int), ((0 : Int), ())))))))) fun z2 =>
 match z2 with
 | .inl z3 =>
 some (.inr <| .inl <| (z3.1, ()))
 | .inr z4 =>
 need (rng .i64 (z4.2.2.1 + (1 : Int))) (
 some (.inl (z4.1, (z4.2.1, ((z4.2.2.1 + (1 : Int)), ())))))))) (
 some (.inr <| .inr <| ()))
def Cg62_0 (v14 : List (List (Int × Int))) (v15 : Int) (v16 : Int) : Option (((List (List (Int × Int))) × Int × Int × Unit) ⊕ ((Int × Unit) ⊕ ((Unit)))) :=
 brC (decide (v16 < v15)) (
 needC (inb v16 (((v14).length : Nat) : Int)) (
 brC (decide ((10 : Int) < (((((v14).getD (Int.toNat v16) [])).length : Nat) : Int))) (
 some (.inr <| .inl <| ((1 : Int), ()))) (
 bindC (iterF (fun x => Cg62_1 x.1 x.2.1 x.2.2.1 x.2.2.2.1 x.2.2.2.2.1 x.2.2.2.2.2.1 x.2.2.2.2.2.2.1) 1000000 (((v14).getD (Int.toNat v16) []), (v14, (v15, (v16, (((v14).getD (Int.toNat v16) []), ((((((v14).getD (Int.toNat v16) [])).length : Nat) : Int), ((0 : Int), ())))))))) fun z2 =>
 match z2 with
 | .inl z3 =>
 some (.inr <| .inl <| (z3.1, ()))
 | .inr z4 =>
 needC (rng .i64 (z4.2.2.1 + (1 : Int))) (
 some (.inl (z4.1, (z4.2.1, ((z4.2.2.1 + (1 : Int)), ())))))))) (
 some (.inr <| .inr <| ()))
theorem Cg62_0_le (v14 : List (List (Int × Int))) (v15 : Int) (v16 : Int) : Le (Cg62_0 v14 v15 v16) (g62_0 v14 v15 v16) := (Le.br (Le.nd (Le.br Le.r (Le.bd (Le.iter fun x => Cg62_1_le ..) fun z2 => (match z2 with | .inl z3 => Le.r | .inr z4 => (Le.nd Le.r))))) Le.r)
theorem s62_0 : ∀ x, roundE (kzO (p62_0.T ⊕ x62_0.T)) cx62 ar0 [] p62_0 x62_0 (b62_0) (fun y => some (.inl y)) (fun b => some (.inr b)) x = g62_0 x.1 x.2.1 x.2.2.1 := by intro x; kernel_rfl
noncomputable def L62_0 : LoopS prog 51 none 0 := mkLoop mixed cx62 cx62_ok [] rfl p62_0 x62_0 rfl (b62_0) (fun x => g62_0 x.1 x.2.1 x.2.2.1) (s62_0)
noncomputable def dd62 : D prog 51 none 0 := (.seq (.reg [.op (some 6) none (.mv (.c (.int .i64 (Int.ofNat 0))))]) (.seq (.seq (.reg [.op (some 11) none (.mv (.t 0)), .op (some 12) none (.len (.t 11)), .op (some 13) none (.bin .gtr (.t 12) (.c (.int .i64 (Int.ofNat 12))))]) (.cond ( .t 13) (.seq (.reg [.op (some 6) none (.mv (.c (.int .i64 (Int.ofNat 1))))]) .ret) .skip)) (.seq (.seq (.reg [.op (some 14) none (.mv (.t 0)), .op (some 15) none (.len (.t 14)), .op (some 16) none (.mv (.c (.int .i64 (Int.ofNat 0))))]) (.block 0 (.loop L62_0))) (.seq (.reg [.op (some 6) none (.mv (.c (.int .i64 (Int.ofNat 0))))]) .ret))))
noncomputable def F62 (a0 : List (List (Int × Int))) : Option (Int × Unit) :=
 brO (decide ((12 : Int) < (((a0).length : Nat) : Int))) (
 some ((1 : Int), ())) (
 bindO (iter (fun x => g62_0 x.1 x.2.1 x.2.2.1) (a0, ((((a0).length : Nat) : Int), ((0 : Int), ())))) fun z5 =>
 match z5 with
 | .inl z6 =>
 some (z6.1, ())
 | .inr z7 =>
 some ((0 : Int), ()))
def CF62 (a0 : List (List (Int × Int))) : Option (Int × Unit) :=
 brC (decide ((12 : Int) < (((a0).length : Nat) : Int))) (
 some ((1 : Int), ())) (
 bindC (iterF (fun x => Cg62_0 x.1 x.2.1 x.2.2.1) 1000000 (a0, ((((a0).length : Nat) : Int), ((0 : Int), ())))) fun z5 =>
 match z5 with
 | .inl z6 =>
 some (z6.1, ())
 | .inr z7 =>
 some ((0 : Int), ()))
theorem CF62_le (a0 : List (List (Int × Int))) : Le (CF62 a0) (F62 a0) := (Le.br Le.r (Le.bd (Le.iter fun x => Cg62_0_le ..) fun z5 => (match z5 with | .inl z6 => Le.r | .inr z7 => Le.r)))
theorem c62_ok : trF prog f62 = some ⟨51, 3, dd62.er, [.t 6], [some (.int .i64)]⟩ := by kernel_rfl
noncomputable def ct62 : Ct := ⟨62, [.c (.hole (.list (.list (.prod (.int .i64) (.int .i64))))), .c (.fn0 61), .c (.fn0 63)], .c (.hole (.int .i64)), fun x => F62 x.1⟩
theorem ct62_ok : ct62.Ok prog := ct_ok mixed cx62_ok func62 c62_ok (enters_of func62 rfl rfl) dd62 rfl rfl (fun x => by kernel_rfl)

/- 65 -/
noncomputable def cx65 : Cx := mkCxH [] []
theorem cx65_ok : cx65.Ok prog := mkCxH_ok trivial trivial
noncomputable def dd65 : D prog 13 none 0 := (.seq (.reg [.op (some 4) none (.box (.t 1)), .op (some 5) none (.mv (.c (.int .i64 (Int.ofNat 0))))]) (.seq (.seq (.reg [.op (some 6) none (.mv (.t 0)), .op (some 7) none (.load false 1 (.t 2)), .op (some 8) none (.bin .eql (.t 6) (.t 7))]) (.cond ( .t 8) (.seq (.reg [.op (some 9) none (.fld 0 [false] (.t 4)), .op (some 10) none (.load false 1 (.t 9)), .op (some 5) none (.mv (.t 10))]) .ret) .skip)) (.seq (.reg [.op (some 11) none (.fld 1 [true] (.t 4)), .op (some 12) none (.load false 1 (.t 11)), .op (some 5) none (.mv (.t 12))]) .ret)))
noncomputable def F65 (a0 : Int) (a1 : Int × Int) (a2 : Int) : Option (Int × Unit) :=
 brO (a0 == a2) (
 some (a1.1, ())) (
 some (a1.2, ()))
def CF65 (a0 : Int) (a1 : Int × Int) (a2 : Int) : Option (Int × Unit) :=
 brC (a0 == a2) (
 some (a1.1, ())) (
 some (a1.2, ()))
theorem CF65_le (a0 : Int) (a1 : Int × Int) (a2 : Int) : Le (CF65 a0 a1 a2) (F65 a0 a1 a2) := (Le.br Le.r Le.r)
theorem c65_ok : trF prog f65 = some ⟨13, 3, dd65.er, [.t 5], [some (.int .i64)]⟩ := by kernel_rfl
noncomputable def ct65 : Ct := ⟨65, [.c (.hole (.int .i64)), .c (.hole (.prod (.int .i64) (.int .i64))), .c (.ipc (.int .i64))], .c (.hole (.int .i64)), fun x => F65 x.1 x.2.1 x.2.2.1⟩
theorem ct65_ok : ct65.Ok prog := ct_ok mixed cx65_ok func65 c65_ok (enters_of func65 rfl rfl) dd65 rfl rfl (fun x => by kernel_rfl)

/- 64 -/
noncomputable def cx64 : Cx := mkCxH [ct65] []
theorem cx64_ok : cx64.Ok prog := mkCxH_ok ⟨ct65_ok, trivial⟩ trivial
@[reducible] def p64_1 : Pat := Pat.mk [(1, .fn 65 [] [.ipc (.int .i64)]), (5, .c (.sl0 0 (.list (.int .i64)))), (6, .c (.hole (.int .i64))), (8, .c (.sl0 1 (.int .i64))), (11, .c (.hole (.list (.list (.prod (.int .i64) (.int .i64)))))), (12, .c (.hole (.int .i64))), (13, .c (.hole (.int .i64))), (19, .c (.hole (.list (.prod (.int .i64) (.int .i64))))), (20, .c (.hole (.int .i64))), (21, .c (.hole (.int .i64)))] [(0, .arr (.list (.int .i64)) false), (1, .arr (.int .i64) false)] [.slot 5, .slot 8] []
@[reducible] def x64_1 : Outs := [(.exit 2, Pat.mk [(1, .fn 65 [] [.ipc (.int .i64)]), (5, .c (.sl0 0 (.list (.int .i64)))), (8, .c (.sl0 1 (.int .i64))), (11, .c (.hole (.list (.list (.prod (.int .i64) (.int .i64)))))), (12, .c (.hole (.int .i64))), (13, .c (.hole (.int .i64)))] [(0, .arr (.list (.int .i64)) false), (1, .arr (.int .i64) false)] [.slot 5, .slot 8] [])]
noncomputable def b64_1 : D prog 39 none 0 := (.seq (.reg [.op (some 22) none (.bin .lss (.t 21) (.t 20))]) (.seq (.cond ( .t 22) .skip (.exit 2)) (.seq (.block 3 (.seq (.reg [.op (some 23) none (.idx 2 (.t 19) (.t 21)), .op (some 24) none (.load true 2 (.t 23)), .op (some 10) none (.alloc [.int .i64 (Int.ofNat 0), .int .i64 (Int.ofNat 0)]), .op none none (.store 2 (.t 10) (.t 24))]) (.reg [.op (some 25) none (.mv (.t 8)), .op (some 26) none (.mv (.t 1)), .op (some 27) none (.mv (.t 6)), .op (some 28) none (.load true 2 (.t 10)), .call (some 29) none (.t 26) [.t 27, .t 28] [some (.int .i64), some (.prod (.int .i64) (.int .i64))], .op (some 30) none (.bslice (.int .i64) [.t 29]), .op (some 31) none (.append 1 (.t 25) (.t 30)), .op (some 8) none (.mv (.t 31))]))) (.reg [.op (some 32) none (.bin .add (.t 21) (.c (.int .i64 (Int.ofNat 1)))), .op (some 21) none (.mv (.t 32))]))))
noncomputable def g64_1 (v1_0 : Int) (nv5 : Nat) (v6 : Int) (nv8 : Nat) (v11 : List (List (Int × Int))) (v12 : Int) (v13 : Int) (v19 : List (Int × Int)) (v20 : Int) (v21 : Int) (b0 : List (List Int)) (b1 : List Int) : Option ((Int × Nat × Int × Nat × (List (List (Int × Int))) × Int × Int × (List (Int × Int)) × Int × Int × List (List Int) × List Int × Unit) ⊕ ((Int × Nat × Nat × (List (List (Int × Int))) × Int × Int × List (List Int) × List Int × Unit))) :=
 brO (decide (v21 < v20)) (
 need (inb v21 (((v19).length : Nat) : Int)) (
 bindO (F65 v6 (((v19).getD (Int.toNat v21) ((0 : Int), (0 : Int))).1, ((v19).getD (Int.toNat v21) ((0 : Int), (0 : Int))).2) v1_0) fun y0 =>
 need (decide ((nv8 + (((((y0.1 :: [])).drop (0 : Nat)).take (1 : Nat))).length) < bigL)) (
 need (rng .i64 (v21 + (1 : Int))) (
 some (.inl (v1_0, (nv5, (v6, ((nv8 + (((((y0.1 :: [])).drop (0 : Nat)).take (1 : Nat))).length), (v11, (v12, (v13, (v19, (v20, ((v21 + (1 : Int)), (b0, (((((b1).drop (0 : Nat)).take nv8) ++ ((((y0.1 :: [])).drop (0 : Nat)).take (1 : Nat))), ()))))))))))))))))) (
 some (.inr (v1_0, (nv5, (nv8, (v11, (v12, (v13, (b0, (b1, ()))))))))))
def Cg64_1 (v1_0 : Int) (nv5 : Nat) (v6 : Int) (nv8 : Nat) (v11 : List (List (Int × Int))) (v12 : Int) (v13 : Int) (v19 : List (Int × Int)) (v20 : Int) (v21 : Int) (b0 : List (List Int)) (b1 : List Int) : Option ((Int × Nat × Int × Nat × (List (List (Int × Int))) × Int × Int × (List (Int × Int)) × Int × Int × List (List Int) × List Int × Unit) ⊕ ((Int × Nat × Nat × (List (List (Int × Int))) × Int × Int × List (List Int) × List Int × Unit))) :=
 brC (decide (v21 < v20)) (
 needC (inb v21 (((v19).length : Nat) : Int)) (
 bindC (CF65 v6 (((v19).getD (Int.toNat v21) ((0 : Int), (0 : Int))).1, ((v19).getD (Int.toNat v21) ((0 : Int), (0 : Int))).2) v1_0) fun y0 =>
 needC (decide ((nv8 + (((((y0.1 :: [])).drop (0 : Nat)).take (1 : Nat))).length) < bigL)) (
 needC (rng .i64 (v21 + (1 : Int))) (
 some (.inl (v1_0, (nv5, (v6, ((nv8 + (((((y0.1 :: [])).drop (0 : Nat)).take (1 : Nat))).length), (v11, (v12, (v13, (v19, (v20, ((v21 + (1 : Int)), (b0, (((((b1).drop (0 : Nat)).take nv8) ++ ((((y0.1 :: [])).drop (0 : Nat)).take (1 : Nat))), ()))))))))))))))))) (
 some (.inr (v1_0, (nv5, (nv8, (v11, (v12, (v13, (b0, (b1, ()))))))))))
theorem Cg64_1_le (v1_0 : Int) (nv5 : Nat) (v6 : Int) (nv8 : Nat) (v11 : List (List (Int × Int))) (v12 : Int) (v13 : Int) (v19 : List (Int × Int)) (v20 : Int) (v21 : Int) (b0 : List (List Int)) (b1 : List Int) : Le (Cg64_1 v1_0 nv5 v6 nv8 v11 v12 v13 v19 v20 v21 b0 b1) (g64_1 v1_0 nv5 v6 nv8 v11 v12 v13 v19 v20 v21 b0 b1) := (Le.br (Le.nd (Le.bd (CF65_le ..) fun y0 => (Le.nd (Le.nd Le.r)))) Le.r)
theorem s64_1 : ∀ x, roundE (kzO (p64_1.T ⊕ x64_1.T)) cx64 ar0 [] p64_1 x64_1 (b64_1) (fun y => some (.inl y)) (fun b => some (.inr b)) x = g64_1 x.1 x.2.1 x.2.2.1 x.2.2.2.1 x.2.2.2.2.1 x.2.2.2.2.2.1 x.2.2.2.2.2.2.1 x.2.2.2.2.2.2.2.1 x.2.2.2.2.2.2.2.2.1 x.2.2.2.2.2.2.2.2.2.1 x.2.2.2.2.2.2.2.2.2.2.1 x.2.2.2.2.2.2.2.2.2.2.2.1 := by intro x; kernel_rfl
noncomputable def L64_1 : LoopS prog 39 none 0 := mkLoop mixed cx64 cx64_ok [] rfl p64_1 x64_1 rfl (b64_1) (fun x => g64_1 x.1 x.2.1 x.2.2.1 x.2.2.2.1 x.2.2.2.2.1 x.2.2.2.2.2.1 x.2.2.2.2.2.2.1 x.2.2.2.2.2.2.2.1 x.2.2.2.2.2.2.2.2.1 x.2.2.2.2.2.2.2.2.2.1 x.2.2.2.2.2.2.2.2.2.2.1 x.2.2.2.2.2.2.2.2.2.2.2.1) (s64_1)
@[reducible] def p64_0 : Pat := Pat.mk [(1, .fn 65 [] [.ipc (.int .i64)]), (5, .c (.sl0 0 (.list (.int .i64)))), (11, .c (.hole (.list (.list (.prod (.int .i64) (.int .i64)))))), (12, .c (.hole (.int .i64))), (13, .c (.hole (.int .i64)))] [(0, .arr (.list (.int .i64)) false)] [.slot 5] []
@[reducible] def x64_0 : Outs := [(.exit 0, Pat.mk [(5, .c (.sl0 0 (.list (.int .i64))))] [(0, .arr (.list (.int .i64)) false)] [.slot 5] [])]
noncomputable def b64_0 : D prog 39 none 0 := (.seq (.reg [.op (some 14) none (.bin .lss (.t 13) (.t 12))]) (.seq (.cond ( .t 14) .skip (.exit 0)) (.seq (.block 1 (.seq (.reg [.op (some 15) none (.mv (.t 13)), .op (some 16) none (.idx 1 (.t 11) (.t 13)), .op (some 17) none (.load false 1 (.t 16)), .op (some 6) none (.mv (.t 15)), .op (some 7) none (.mv (.t 17))]) (.seq (.reg [.op (some 18) none (.bslice (.int .i64) []), .op (some 8) none (.mv (.t 18))]) (.seq (.seq (.reg [.op (some 19) none (.mv (.t 7)), .op (some 20) none (.len (.t 19)), .op (some 21) none (.mv (.c (.int .i64 (Int.ofNat 0))))]) (.block 2 (.loop L64_1))) (.reg [.op (some 33) none (.mv (.t 5)), .op (some 34) none (.mv (.t 8)), .op (some 35) none (.bslice (.list (.int .i64)) [.t 34]), .op (some 36) none (.append 1 (.t 33) (.t 35)), .op (some 5) none (.mv (.t 36))]))))) (.reg [.op (some 37) none (.bin .add (.t 13) (.c (.int .i64 (Int.ofNat 1)))), .op (some 13) none (.mv (.t 37))]))))
noncomputable def g64_0 (v1_0 : Int) (nv5 : Nat) (v11 : List (List (Int × Int))) (v12 : Int) (v13 : Int) (b0 : List (List Int)) : Option ((Int × Nat × (List (List (Int × Int))) × Int × Int × List (List Int) × Unit) ⊕ ((Nat × List (List Int) × Unit))) :=
 brO (decide (v13 < v12)) (
 need (inb v13 (((v11).length : Nat) : Int)) (
 bindO (iter (fun x => g64_1 x.1 x.2.1 x.2.2.1 x.2.2.2.1 x.2.2.2.2.1 x.2.2.2.2.2.1 x.2.2.2.2.2.2.1 x.2.2.2.2.2.2.2.1 x.2.2.2.2.2.2.2.2.1 x.2.2.2.2.2.2.2.2.2.1 x.2.2.2.2.2.2.2.2.2.2.1 x.2.2.2.2.2.2.2.2.2.2.2.1) (v1_0, (nv5, (v13, ((0 : Nat), (v11, (v12, (v13, (((v11).getD (Int.toNat v13) []), ((((((v11).getD (Int.toNat v13) [])).length : Nat) : Int), ((0 : Int), (b0, ([], ()))))))))))))) fun z1 =>
 need (decide ((z1.2.1 + ((((((((z1.2.2.2.2.2.2.2.1).drop (0 : Nat)).take z1.2.2.1) :: [])).drop (0 : Nat)).take (1 : Nat))).length) < bigL)) (
 need (rng .i64 (z1.2.2.2.2.2.1 + (1 : Int))) (
 some (.inl (z1.1, ((z1.2.1 + ((((((((z1.2.2.2.2.2.2.2.1).drop (0 : Nat)).take z1.2.2.1) :: [])).drop (0 : Nat)).take (1 : Nat))).length), (z1.2.2.2.1, (z1.2.2.2.2.1, ((z1.2.2.2.2.2.1 + (1 : Int)), (((((z1.2.2.2.2.2.2.1).drop (0 : Nat)).take z1.2.1) ++ (((((((z1.2.2.2.2.2.2.2.1).drop (0 : Nat)).take z1.2.2.1) :: [])).drop (0 : Nat)).take (1 : Nat))), ()))))))))))) (
 some (.inr (nv5, (b0, ()))))
def Cg64_0 (v1_0 : Int) (nv5 : Nat) (v11 : List (List (Int × Int))) (v12 : Int) (v13 : Int) (b0 : List (List Int)) : Option ((Int × Nat × (List (List (Int × Int))) × Int × Int × List (List Int) × Unit) ⊕ ((Nat × List (List Int) × Unit))) :=
 brC (decide (v13 < v12)) (
 needC (inb v13 (((v11).length : Nat) : Int)) (
 bindC (iterF (fun x => Cg64_1 x.1 x.2.1 x.2.2.1 x.2.2.2.1 x.2.2.2.2.1 x.2.2.2.2.2.1 x.2.2.2.2.2.2.1 x.2.2.2.2.2.2.2.1 x.2.2.2.2.2.2.2.2.1 x.2.2.2.2.2.2.2.2.2.1 x.2.2.2.2.2.2.2.2.2.2.1 x.2.2.2.2.2.2.2.2.2.2.2.1) 1000000 (v1_0, (nv5, (v13, ((0 : Nat), (v11, (v12, (v13, (((v11).getD (Int.toNat v13) []), ((((((v11).getD (Int.toNat v13) [])).length : Nat) : Int), ((0 : Int), (b0, ([], ()))))))))))))) fun z1 =>
 needC (decide ((z1.2.1 + ((((((((z1.2.2.2.2.2.2.2.1).drop (0 : Nat)).take z1.2.2.1) :: [])).drop (0 : Nat)).take (1 : Nat))).length) < bigL)) (
 needC (rng .i64 (z1.2.2.2.2.2.1 + (1 : Int))) (
 some (.inl (z1.1, ((z1.2.1 + ((((((((z1.2.2.2.2.2.2.2.1).drop (0 : Nat)).take z1.2.2.1) :: [])).drop (0 : Nat)).take (1 : Nat))).length), (z1.2.2.2.1, (z1.2.2.2.2.1, ((z1.2.2.2.2.2.1 + (1 : Int)), (((((z1.2.2.2.2.2.2.1).drop (0 : Nat)).take z1.2.1) ++ (((((((z1.2.2.2.2.2.2.2.1).drop (0 : Nat)).take z1.2.2.1) :: [])).drop (0 : Nat)).take (1 : Nat))), ()))))))))))) (
 some (.inr (nv5, (b0, ()))))
theorem Cg64_0_le (v1_0 : Int) (nv5 : Nat) (v11 : List (List (Int × Int))) (v12 : Int) (v13 : Int) (b0 : List (List Int)) : Le (Cg64_0 v1_0 nv5 v11 v12 v13 b0) (g64_0 v1_0 nv5 v11 v12 v13 b0) := (Le.br (Le.nd (Le.bd (Le.iter fun x => Cg64_1_le ..) fun z1 => (Le.nd (Le.nd Le.r)))) Le.r)
theorem s64_0 : ∀ x, roundE (kzO (p64_0.T ⊕ x64_0.T)) cx64 ar0 [] p64_0 x64_0 (b64_0) (fun y => some (.inl y)) (fun b => some (.inr b)) x = g64_0 x.1 x.2.1 x.2.2.1 x.2.2.2.1 x.2.2.2.2.1 x.2.2.2.2.2.1 := by intro x; kernel_rfl
noncomputable def L64_0 : LoopS prog 39 none 0 := mkLoop mixed cx64 cx64_ok [] rfl p64_0 x64_0 rfl (b64_0) (fun x => g64_0 x.1 x.2.1 x.2.2.1 x.2.2.2.1 x.2.2.2.2.1 x.2.2.2.2.2.1) (s64_0)
noncomputable def dd64 : D prog 39 none 0 := (.seq (.reg [.op (some 4) none (.mv (.c .nsl))]) (.seq (.reg [.op (some 5) none (.mv (.c .nsl))]) (.seq (.seq (.reg [.op (some 11) none (.mv (.t 0)), .op (some 12) none (.len (.t 11)), .op (some 13) none (.mv (.c (.int .i64 (Int.ofNat 0))))]) (.block 0 (.loop L64_0))) (.seq (.reg [.op (some 38) none (.mv (.t 5)), .op (some 4) none (.mv (.t 38))]) .ret))))
noncomputable def F64 (a0 : List (List (Int × Int))) (a1_0 : Int) : Option (List (List Int) × Unit) :=
 bindO (iter (fun x => g64_0 x.1 x.2.1 x.2.2.1 x.2.2.2.1 x.2.2.2.2.1 x.2.2.2.2.2.1) (a1_0, ((0 : Nat), (a0, ((((a0).length : Nat) : Int), ((0 : Int), ([], ()))))))) fun z2 =>
 some ((((z2.2.1).drop (0 : Nat)).take z2.1), ())
def CF64 (a0 : List (List (Int × Int))) (a1_0 : Int) : Option (List (List Int) × Unit) :=
 bindC (iterF (fun x => Cg64_0 x.1 x.2.1 x.2.2.1 x.2.2.2.1 x.2.2.2.2.1 x.2.2.2.2.2.1) 1000000 (a1_0, ((0 : Nat), (a0, ((((a0).length : Nat) : Int), ((0 : Int), ([], ()))))))) fun z2 =>
 some ((((z2.2.1).drop (0 : Nat)).take z2.1), ())
theorem CF64_le (a0 : List (List (Int × Int))) (a1_0 : Int) : Le (CF64 a0 a1_0) (F64 a0 a1_0) := (Le.bd (Le.iter fun x => Cg64_0_le ..) fun z2 => Le.r)
theorem c64_ok : trF prog f64 = some ⟨39, 2, dd64.er, [.t 4], [some (.list (.list (.int .i64)))]⟩ := by kernel_rfl
noncomputable def ct64 : Ct := ⟨64, [.c (.hole (.list (.list (.prod (.int .i64) (.int .i64))))), .fn 65 [] [.ipc (.int .i64)]], .c (.hole (.list (.list (.int .i64)))), fun x => F64 x.1 x.2.1⟩
theorem ct64_ok : ct64.Ok prog := ct_ok mixed cx64_ok func64 c64_ok (enters_of func64 rfl rfl) dd64 rfl rfl (fun x => by kernel_rfl)

/- 66 -/
noncomputable def cx66 : Cx := mkCxH [] []
theorem cx66_ok : cx66.Ok prog := mkCxH_ok trivial trivial
noncomputable def dd66 : D prog 13 none 0 := (.seq (.reg [.op (some 4) none (.box (.t 1)), .op (some 5) none (.mv (.c (.int .i64 (Int.ofNat 0))))]) (.seq (.seq (.reg [.op (some 6) none (.mv (.t 0)), .op (some 7) none (.load false 1 (.t 2)), .op (some 8) none (.bin .eql (.t 6) (.t 7))]) (.cond ( .t 8) (.seq (.reg [.op (some 9) none (.fld 1 [true] (.t 4)), .op (some 10) none (.load false 1 (.t 9)), .op (some 5) none (.mv (.t 10))]) .ret) .skip)) (.seq (.reg [.op (some 11) none (.fld 0 [false] (.t 4)), .op (some 12) none (.load false 1 (.t 11)), .op (some 5) none (.mv (.t 12))]) .ret)))
noncomputable def F66 (a0 : Int) (a1 : Int × Int) (a2 : Int) : Option (Int × Unit) :=
 brO (a0 == a2) (
 some (a1.2, ())) (
 some (a1.1, ()))
def CF66 (a0 : Int) (a1 : Int × Int) (a2 : Int) : Option (Int × Unit) :=
 brC (a0 == a2) (
 some (a1.2, ())) (
 some (a1.1, ()))
theorem CF66_le (a0 : Int) (a1 : Int × Int) (a2 : Int) : Le (CF66 a0 a1 a2) (F66 a0 a1 a2) := (Le.br Le.r Le.r)
theorem c66_ok : trF prog f66 = some ⟨13, 3, dd66.er, [.t 5], [some (.int .i64)]⟩ := by kernel_rfl
noncomputable def ct66 : Ct := ⟨66, [.c (.hole (.int .i64)), .c (.hole (.prod (.int .i64) (.int .i64))), .c (.ipc (.int .i64))], .c (.hole (.int .i64)), fun x => F66 x.1 x.2.1 x.2.2.1⟩
theorem ct66_ok : ct66.Ok prog := ct_ok mixed cx66_ok func66 c66_ok (enters_of func66 rfl rfl) dd66 rfl rfl (fun x => by kernel_rfl)

/- 64 -/
noncomputable def cx64_v1 : Cx := mkCxH [ct66] []
theorem cx64_v1_ok : cx64_v1.Ok prog := mkCxH_ok ⟨ct66_ok, trivial⟩ trivial
@[reducible] def p64_v1_1 : Pat := Pat.mk [(1, .fn 66 [] [.ipc (.int .i64)]), (5, .c (.sl0 0 (.list (.int .i64)))), (6, .c (.hole (.int .i64))), (8, .c (.sl0 1 (.int .i64))), (11, .c (.hole (.list (.list (.prod (.int .i64) (.int .i64)))))), (12, .c (.hole (.int .i64))), (13, .c (.hole (.int .i64))), (19, .c (.hole (.list (.prod (.int .i64) (.int .i64))))), (20, .c (.hole (.int .i64))), (21, .c (.hole (.int .i64)))] [(0, .arr (.list (.int .i64)) false), (1, .arr (.int .i64) false)] [.slot 5, .slot 8] []
@[reducible] def x64_v1_1 : Outs := [(.exit 2, Pat.mk [(1, .fn 66 [] [.ipc (.int .i64)]), (5, .c (.sl0 0 (.list (.int .i64)))), (8, .c (.sl0 1 (.int .i64))), (11, .c (.hole (.list (.list (.prod (.int .i64) (.int .i64)))))), (12, .c (.hole (.int .i64))), (13, .c (.hole (.int .i64)))] [(0, .arr (.list (.int .i64)) false), (1, .arr (.int .i64) false)] [.slot 5, .slot 8] [])]
noncomputable def b64_v1_1 : D prog 39 none 0 := (.seq (.reg [.op (some 22) none (.bin .lss (.t 21) (.t 20))]) (.seq (.cond ( .t 22) .skip (.exit 2)) (.seq (.block 3 (.seq (.reg [.op (some 23) none (.idx 2 (.t 19) (.t 21)), .op (some 24) none (.load true 2 (.t 23)), .op (some 10) none (.alloc [.int .i64 (Int.ofNat 0), .int .i64 (Int.ofNat 0)]), .op none none (.store 2 (.t 10) (.t 24))]) (.reg [.op (some 25) none (.mv (.t 8)), .op (some 26) none (.mv (.t 1)), .op (some 27) none (.mv (.t 6)), .op (some 28) none (.load true 2 (.t 10)), .call (some 29) none (.t 26) [.t 27, .t 28] [some (.int .i64), some (.prod (.int .i64) (.int .i64))], .op (some 30) none (.bslice (.int .i64) [.t 29]), .op (some 31) none (.append 1 (.t 25) (.t 30)), .op (some 8) none (.mv (.t 31))]))) (.reg [.op (some 32) none (.bin .add (.t 21) (.c (.int .i64 (Int.ofNat 1)))), .op (some 21) none (.mv (.t 32))]))))
noncomputable def g64_v1_1 (v1_0 : Int) (nv5 : Nat) (v6 : Int) (nv8 : Nat) (v11 : List (List (Int × Int))) (v12 : Int) (v13 : Int) (v19 : List (Int × Int)) (v20 : Int) (v21 : Int) (b0 : List (List Int)) (b1 : List Int) : Option ((Int × Nat × Int × Nat × (List (List (Int × Int))) × Int × Int × (List (Int × Int)) × Int × Int × List (List Int) × List Int × Unit) ⊕ ((Int × Nat × Nat × (List (List (Int × Int))) × Int × Int × List (List Int) × List Int × Unit))) :=
 brO (decide (v21 < v20)) (
 need (inb v21 (((v19).length : Nat) : Int)) (
 bindO (F66 v6 (((v19).getD (Int.toNat v21) ((0 : Int), (0 : Int))).1, ((v19).getD (Int.toNat v21) ((0 : Int), (0 : Int))).2) v1_0) fun y0 =>
 need (decide ((nv8 + (((((y0.1 :: [])).drop (0 : Nat)).take (1 : Nat))).length) < bigL)) (
 need (rng .i64 (v21 + (1 : Int))) (
 some (.inl (v1_0, (nv5, (v6, ((nv8 + (((((y0.1 :: [])).drop (0 : Nat)).take (1 : Nat))).length), (v11, (v12, (v13, (v19, (v20, ((v21 + (1 : Int)), (b0, (((((b1).drop (0 : Nat)).take nv8) ++ ((((y0.1 :: [])).drop (0 : Nat)).take (1 : Nat))), ()))))))))))))))))) (
 some (.inr (v1_0, (nv5, (nv8, (v11, (v12, (v13, (b0, (b1, ()))))))))))
def Cg64_v1_1 (v1_0 : Int) (nv5 : Nat) (v6 : Int) (nv8 : Nat) (v11 : List (List (Int × Int))) (v12 : Int) (v13 : Int) (v19 : List (Int × Int)) (v20 : Int) (v21 : Int) (b0 : List (List Int)) (b1 : List Int) : Option ((Int × Nat × Int × Nat × (List (List (Int × Int))) × Int × Int × (List (Int × Int)) × Int × Int × List (List Int) × List Int × Unit) ⊕ ((Int × Nat × Nat × (List (List (Int × Int))) × Int × Int × List (List Int) × List Int × Unit))) :=
 brC (decide (v21 < v20)) (
 needC (inb v21 (((v19).length : Nat) : Int)) (
 bindC (CF66 v6 (((v19).getD (Int.toNat v21) ((0 : Int), (0 : Int))).1, ((v19).getD (Int.toNat v21) ((0 : Int), (0 : Int))).2) v1_0) fun y0 =>
 needC (decide ((nv8 + (((((y0.1 :: [])).drop (0 : Nat)).take (1 : Nat))).length) < bigL)) (
 needC (rng .i64 (v21 + (1 : Int))) (
 some (.inl (v1_0, (nv5, (v6, ((nv8 + (((((y0.1 :: [])).drop (0 : Nat)).take (1 : Nat))).length), (v11, (v12, (v13, (v19, (v20, ((v21 + (1 : Int)), (b0, (((((b1).drop (0 : Nat)).take nv8) ++ ((((y0.1 :: [])).drop (0 : Nat)).take (1 : Nat))), ()))))))))))))))))) (
 some (.inr (v1_0, (nv5, (nv8, (v11, (v12, (v13, (b0, (b1, ()))))))))))
theorem Cg64_v1_1_le (v1_0 : Int) (nv5 : Nat) (v6 : Int) (nv8 : Nat) (v11 : List (List (Int × Int))) (v12 : Int) (v13 : Int) (v19 : List (Int × Int)) (v20 : Int) (v21 : Int) (b0 : List (List Int)) (b1 : List Int) : Le (Cg64_v1_1 v1_0 nv5 v6 nv8 v11 v12 v13 v19 v20 v21 b0 b1) (g64_v1_1 v1_0 nv5 v6 nv8 v11 v12 v13 v19 v20 v21 b0 b1) := (Le.br (Le.nd (Le.bd (CF66_le ..) fun y0 => (Le.nd (Le.nd Le.r)))) Le.r)
theorem s64_v1_1 : ∀ x, roundE (kzO (p64_v1_1.T ⊕ x64_v1_1.T)) cx64_v1 ar0 [] p64_v1_1 x64_v1_1 (b64_v1_1) (fun y => some (.inl y)) (fun b => some (.inr b)) x = g64_v1_1 x.1 x.2.1 x.2.2.1 x.2.2.2.1 x.2.2.2.2.1 x.2.2.2.2.2.1 x.2.2.2.2.2.2.1 x.2.2.2.2.2.2.2.1 x.2.2.2.2.2.2.2.2.1 x.2.2.2.2.2.2.2.2.2.1 x.2.2.2.2.2.2.2.2.2.2.1 x.2.2.2.2.2.2.2.2.2.2.2.1 := by intro x; kernel_rfl
noncomputable def L64_v1_1 : LoopS prog 39 none 0 := mkLoop mixed cx64_v1 cx64_v1_ok [] rfl p64_v1_1 x64_v1_1 rfl (b64_v1_1) (fun x => g64_v1_1 x.1 x.2.1 x.2.2.1 x.2.2.2.1 x.2.2.2.2.1 x.2.2.2.2.2.1 x.2.2.2.2.2.2.1 x.2.2.2.2.2.2.2.1 x.2.2.2.2.2.2.2.2.1 x.2.2.2.2.2.2.2.2.2.1 x.2.2.2.2.2.2.2.2.2.2.1 x.2.2.2.2.2.2.2.2.2.2.2.1) (s64_v1_1)
@[reducible] def p64_v1_0 : Pat := Pat.mk [(1, .fn 66 [] [.ipc (.int .i64)]), (5, .c (.sl0 0 (.list (.int .i64)))), (11, .c (.hole (.list (.list (.prod (.int .i64) (.int .i64)))))), (12, .c (.hole (.int .i64))), (13, .c (.hole (.int .i64)))] [(0, .arr (.list (.int .i64)) false)] [.slot 5] []
@[reducible] def x64_v1_0 : Outs := [(.exit 0, Pat.mk [(5, .c (.sl0 0 (.list (.int .i64))))] [(0, .arr (.list (.int .i64)) false)] [.slot 5] [])]
noncomputable def b64_v1_0 : D prog 39 none 0 := (.seq (.reg [.op (some 14) none (.bin .lss (.t 13) (.t 12))]) (.seq (.cond ( .t 14) .skip (.exit 0)) (.seq (.block 1 (.seq (.reg [.op (some 15) none (.mv (.t 13)), .op (some 16) none (.idx 1 (.t 11) (.t 13)), .op (some 17) none (.load false 1 (.t 16)), .op (some 6) none (.mv (.t 15)), .op (some 7) none (.mv (.t 17))]) (.seq (.reg [.op (some 18) none (.bslice (.int .i64) []), .op (some 8) none (.mv (.t 18))]) (.seq (.seq (.reg [.op (some 19) none (.mv (.t 7)), .op (some 20) none (.len (.t 19)), .op (some 21) none (.mv (.c (.int .i64 (Int.ofNat 0))))]) (.block 2 (.loop L64_v1_1))) (.reg [.op (some 33) none (.mv (.t 5)), .op (some 34) none (.mv (.t 8)), .op (some 35) none (.bslice (.list (.int .i64)) [.t 34]), .op (some 36) none (.append 1 (.t 33) (.t 35)), .op (some 5) none (.mv (.t 36))]))))) (.reg [.op (some 37) none (.bin .add (.t 13) (.c (.int .i64 (Int.ofNat 1)))), .op (some 13) none (.mv (.t 37))]))))
noncomputable def g64_v1_0 (v1_0 : Int) (nv5 : Nat) (v11 : List (List (Int × Int))) (v12 : Int) (v13 : Int) (b0 : List (List Int)) : Option ((Int × Nat × (List (List (Int × Int))) × Int × Int × List (List Int) × Unit) ⊕ ((Nat × List (List Int) × Unit))) :=
 brO (decide (v13 < v12)) (
 need (inb v13 (((v11).length : Nat) : Int)) (
 bindO (iter (fun x => g64_v1_1 x.1 x.2.1 x.2.2.1 x.2.2.2.1 x.2.2.2.2.1 x.2.2.2.2.2.1 x.2.2.2.2.2.2.1 x.2.2.2.2.2.2.2.1 x.2.2.2.2.2.2.2.2.1 x.2.2.2.2.2.2.2.2.2.1 x.2.2.2.2.2.2.2.2.2.2.1 x.2.2.2.2.2.2.2.2.2.2.2.1) (v1_0, (nv5, (v13, ((0 : Nat), (v11, (v12, (v13, (((v11).getD (Int.toNat v13) []), ((((((v11).getD (Int.toNat v13) [])).length : Nat) : Int), ((0 : Int), (b0, ([], ()))))))))))))) fun z1 =>
 need (decide ((z1.2.1 + ((((((((z1.2.2.2.2.2.2.2.1).drop (0 : Nat)).take z1.2.2.1) :: [])).drop (0 : Nat)).take (1 : Nat))).length) < bigL)) (
 need (rng .i64 (z1.2.2.2.2.2.1 + (1 : Int))) (
 some (.inl (z1.1, ((z1.2.1 + ((((((((z1.2.2.2.2.2.2.2.1).drop (0 : Nat)).take z1.2.2.1) :: [])).drop (0 : Nat)).take (1 : Nat))).length), (z1.2.2.2.1, (z1.2.2.2.2.1, ((z1.2.2.2.2.2.1 + (1 : Int)), (((((z1.2.2.2.2.2.2.1).drop (0 : Nat)).take z1.2.1) ++ (((((((z1.2.2.2.2.2.2.2.1).drop (0 : Nat)).take z1.2.2.1) :: [])).drop (0 : Nat)).take (1 : Nat))), ()))))))))))) (
 some (.inr (nv5, (b0, ()))))
def Cg64_v1_0 (v1_0 : Int) (nv5 : Nat) (v11 : List (List (Int × Int))) (v12 : Int) (v13 : Int) (b0 : List (List Int)) : Option ((Int × Nat × (List (List (Int × Int))) × Int × Int × List (List Int) × Unit) ⊕ ((Nat × List (List Int) × Unit))) :=
 brC (decide (v13 < v12)) (
 needC (inb v13 (((v11).length : Nat) : Int)) (
 bindC (iterF (fun x => Cg64_v1_1 x.1 x.2.1 x.2.2.1 x.2.2.2.1 x.2.2.2.2.1 x.2.2.2.2.2.1 x.2.2.2.2.2.2.1 x.2.2.2.2.2.2.2.1 x.2.2.2.2.2.2.2.2.1 x.2.2.2.2.2.2.2.2.2.1 x.2.2.2.2.2.2.2.2.2.2.1 x.2.2.2.2.2.2.2.2.2.2.2.1) 1000000 (v1_0, (nv5, (v13, ((0 : Nat), (v11, (v12, (v13, (((v11).getD (Int.toNat v13) []), ((((((v11).getD (Int.toNat v13) [])).length : Nat) : Int), ((0 : Int), (b0, ([], ()))))))))))))) fun z1 =>
 needC (decide ((z1.2.1 + ((((((((z1.2.2.2.2.2.2.2.1).drop (0 : Nat)).take z1.2.2.1) :: [])).drop (0 : Nat)).take (1 : Nat))).length) < bigL)) (
 needC (rng .i64 (z1.2.2.2.2.2.1 + (1 : Int))) (
 some (.inl (z1.1, ((z1.2.1 + ((((((((z1.2.2.2.2.2.2.2.1).drop (0 : Nat)).take z1.2.2.1) :: [])).drop (0 : Nat)).take (1 : Nat))).length), (z1.2.2.2.1, (z1.2.2.2.2.1, ((z1.2.2.2.2.2.1 + (1 : Int)), (((((z1.2.2.2.2.2.2.1).drop (0 : Nat)).take z1.2.1) ++ (((((((z1.2.2.2.2.2.2.2.1).drop (0 : Nat)).take z1.2.2.1) :: [])).drop (0 : Nat)).take (1 : Nat))), ()))))))))))) (
 some (.inr (nv5, (b0, ()))))
theorem Cg64_v1_0_le (v1_0 : Int) (nv5 : Nat) (v11 : List (List (Int × Int))) (v12 : Int) (v13 : Int) (b0 : List (List Int)) : Le (Cg64_v1_0 v1_0 nv5 v11 v12 v13 b0) (g64_v1_0 v1_0 nv5 v11 v12 v13 b0) := (Le.br (Le.nd (Le.bd (Le.iter fun x => Cg64_v1_1_le ..) fun z1 => (Le.nd (Le.nd Le.r)))) Le.r)
theorem s64_v1_0 : ∀ x, roundE (kzO (p64_v1_0.T ⊕ x64_v1_0.T)) cx64_v1 ar0 [] p64_v1_0 x64_v1_0 (b64_v1_0) (fun y => some (.inl y)) (fun b => some (.inr b)) x = g64_v1_0 x.1 x.2.1 x.2.2.1 x.2.2.2.1 x.2.2.2.2.1 x.2.2.2.2.2.1 := by intro x; kernel_rfl
noncomputable def L64_v1_0 : LoopS prog 39 none 0 := mkLoop mixed cx64_v1 cx64_v1_ok [] rfl p64_v1_0 x64_v1_0 rfl (b64_v1_0) (fun x => g64_v1_0 x.1 x.2.1 x.2.2.1 x.2.2.2.1 x.2.2.2.2.1 x.2.2.2.2.2.1) (s64_v1_0)
noncomputable def dd64_v1 : D prog 39 none 0 := (.seq (.reg [.op (some 4) none (.mv (.c .nsl))]) (.seq (.reg [.op (some 5) none (.mv (.c .nsl))]) (.seq (.seq (.reg [.op (some 11) none (.mv (.t 0)), .op (some 12) none (.len (.t 11)), .op (some 13) none (.mv (.c (.int .i64 (Int.ofNat 0))))]) (.block 0 (.loop L64_v1_0))) (.seq (.reg [.op (some 38) none (.mv (.t 5)), .op (some 4) none (.mv (.t 38))]) .ret))))
noncomputable def F64_v1 (a0 : List (List (Int × Int))) (a1_0 : Int) : Option (List (List Int) × Unit) :=
 bindO (iter (fun x => g64_v1_0 x.1 x.2.1 x.2.2.1 x.2.2.2.1 x.2.2.2.2.1 x.2.2.2.2.2.1) (a1_0, ((0 : Nat), (a0, ((((a0).length : Nat) : Int), ((0 : Int), ([], ()))))))) fun z2 =>
 some ((((z2.2.1).drop (0 : Nat)).take z2.1), ())
def CF64_v1 (a0 : List (List (Int × Int))) (a1_0 : Int) : Option (List (List Int) × Unit) :=
 bindC (iterF (fun x => Cg64_v1_0 x.1 x.2.1 x.2.2.1 x.2.2.2.1 x.2.2.2.2.1 x.2.2.2.2.2.1) 1000000 (a1_0, ((0 : Nat), (a0, ((((a0).length : Nat) : Int), ((0 : Int), ([], ()))))))) fun z2 =>
 some ((((z2.2.1).drop (0 : Nat)).take z2.1), ())
theorem CF64_v1_le (a0 : List (List (Int × Int))) (a1_0 : Int) : Le (CF64_v1 a0 a1_0) (F64_v1 a0 a1_0) := (Le.bd (Le.iter fun x => Cg64_v1_0_le ..) fun z2 => Le.r)
theorem c64_v1_ok : trF prog f64 = some ⟨39, 2, dd64_v1.er, [.t 4], [some (.list (.list (.int .i64)))]⟩ := by kernel_rfl
noncomputable def ct64_v1 : Ct := ⟨64, [.c (.hole (.list (.list (.prod (.int .i64) (.int .i64))))), .fn 66 [] [.ipc (.int .i64)]], .c (.hole (.list (.list (.int .i64)))), fun x => F64_v1 x.1 x.2.1⟩
theorem ct64_v1_ok : ct64_v1.Ok prog := ct_ok mixed cx64_v1_ok func64 c64_v1_ok (enters_of func64 rfl rfl) dd64_v1 rfl rfl (fun x => by kernel_rfl)

/- 78 -/
noncomputable def cx78 : Cx := mkCxH [] []
theorem cx78_ok : cx78.Ok prog := mkCxH_ok trivial trivial
noncomputable def dd78 : D prog 9 none 0 := (.seq (.reg [.op (some 4) none (.mv (.c (.int .i64 (Int.ofNat 0))))]) (.seq (.seq (.reg [.op (some 5) none (.mv (.t 0)), .op (some 6) none (.load false 1 (.t 1)), .op (some 7) none (.bin .eql (.t 5) (.t 6))]) (.cond ( .t 7) (.seq (.reg [.op (some 8) none (.load false 1 (.t 2)), .op (some 4) none (.mv (.t 8))]) .ret) .skip)) (.seq (.reg [.op (some 4) none (.mv (.c (.int .i64 (Int.ofNat 0))))]) .ret)))
noncomputable def F78 (a0 : Int) (a1 : Int) (a2 : Int) : Option (Int × Unit) :=
 brO (a0 == a1) (
 some (a2, ())) (
 some ((0 : Int), ()))
def CF78 (a0 : Int) (a1 : Int) (a2 : Int) : Option (Int × Unit) :=
 brC (a0 == a1) (
 some (a2, ())) (
 some ((0 : Int), ()))
theorem CF78_le (a0 : Int) (a1 : Int) (a2 : Int) : Le (CF78 a0 a1 a2) (F78 a0 a1 a2) := (Le.br Le.r Le.r)
theorem c78_ok : trF prog f78 = some ⟨9, 3, dd78.er, [.t 4], [some (.int .i64)]⟩ := by kernel_rfl
noncomputable def ct78 : Ct := ⟨78, [.c (.hole (.int .i64)), .c (.ipc (.int .i64)), .c (.ipc (.int .i64))], .c (.hole (.int .i64)), fun x => F78 x.1 x.2.1 x.2.2.1⟩
theorem ct78_ok : ct78.Ok prog := ct_ok mixed cx78_ok func78 c78_ok (enters_of func78 rfl rfl) dd78 rfl rfl (fun x => by kernel_rfl)

/- 75 -/
noncomputable def cx75_v1 : Cx := mkCxH [ct78, ct76] []
theorem cx75_v1_ok : cx75_v1.Ok prog := mkCxH_ok ⟨ct78_ok, ct76_ok, trivial⟩ trivial
noncomputable def dd75_v1 : D prog 30 none 0 := (.seq (.reg [.op (some 3) none (.box (.t 0)), .op (some 4) none (.box (.t 1)), .op (some 5) none (.mv (.c (.int .i64 (Int.ofNat 0))))]) (.seq (.seq (.reg [.op (some 6) none (.load true 2 (.t 3)), .op (some 7) none (.load true 2 (.t 4)), .op (some 8) none (.eqs false [.i, .i] (.t 6) (.t 7))]) (.cond ( .t 8) (.seq (.reg [.op (some 5) none (.mv (.c (.int .i64 (Int.ofNat 0))))]) .ret) .skip)) (.seq (.draw [[], [0], [], [2], [0, 1, 2, 3], [], [], [6], [5, 6, 7], [], [], [10], [5, 6, 7, 8, 9, 10, 11], [5, 6, 7, 8, 9, 10, 11, 12], [], [14], [], [16], [14, 15, 16, 17], [0, 1, 2, 3, 4, 5, 6, 7, 8, 9, 10, 11, 12, 13, 14, 15, 16, 17, 18], [0, 1, 2, 3, 4, 5, 6, 7, 8, 9, 10, 11, 12, 13, 14, 15, 16, 17, 18, 19], [0, 1, 2, 3, 4, 5, 6, 7, 8, 9, 10, 11, 12, 13, 14, 15, 16, 17, 18, 19, 20]] [.op (some 9) none (.fld 0 [false] (.t 4)), .op (some 10) none (.load false 1 (.t 9)), .op (some 11) none (.fld 0 [false] (.t 3)), .op (some 12) none (.load false 1 (.t 11)), .op (some 13) none (.bin .sub (.t 10) (.t 12)), .op (some 14) none (.load false 1 (.t 2)), .op (some 15) none (.fld 1 [true] (.t 4)), .op (some 16) none (.load false 1 (.t 15)), .call (some 17) none (.t 14) [.t 16] [some (.int .i64)], .op (some 18) none (.load false 1 (.t 2)), .op (some 19) none (.fld 1 [true] (.t 3)), .op (some 20) none (.load false 1 (.t 19)), .call (some 21) none (.t 18) [.t 20] [some (.int .i64)], .op (some 22) none (.bin .sub (.t 17) (.t 21)), .op (some 23) none (.fld 1 [true] (.t 3)), .op (some 24) none (.load false 1 (.t 23)), .op (some 25) none (.fld 1 [true] (.t 4)), .op (some 26) none (.load false 1 (.t 25)), .op (some 27) none (.bin .sub (.t 24) (.t 26)), .op (some 28) none (.bslice (.int .i64) [.t 13, .t 22, .t 27]), .call (some 29) none (.c (.fn 76 [] [])) [.t 28] [some (.list (.int .i64))], .op (some 5) none (.mv (.t 29))]) .ret)))
noncomputable def F75_v1 (a0 : Int × Int) (a1 : Int × Int) (a2c0c0 : Int) (a2c0c1 : Int) : Option (Int × Unit) :=
 brO ((a0.1 == a1.1) && ((a0.2 == a1.2) && true)) (
 some ((0 : Int), ())) (
 need (rng .i64 (a1.1 - a0.1)) (
 bindO (F78 a1.2 a2c0c0 a2c0c1) fun y0 =>
 bindO (F78 a0.2 a2c0c0 a2c0c1) fun y1 =>
 need (rng .i64 (y0.1 - y1.1)) (
 need (rng .i64 (a0.2 - a1.2)) (
 bindO (F76 (((((a1.1 - a0.1) :: ((y0.1 - y1.1) :: ((a0.2 - a1.2) :: [])))).drop (0 : Nat)).take (3 : Nat))) fun y2 =>
 some (y2.1, ())))))
def CF75_v1 (a0 : Int × Int) (a1 : Int × Int) (a2c0c0 : Int) (a2c0c1 : Int) : Option (Int × Unit) :=
 brC ((a0.1 == a1.1) && ((a0.2 == a1.2) && true)) (
 some ((0 : Int), ())) (
 needC (rng .i64 (a1.1 - a0.1)) (
 bindC (CF78 a1.2 a2c0c0 a2c0c1) fun y0 =>
 bindC (CF78 a0.2 a2c0c0 a2c0c1) fun y1 =>
 needC (rng .i64 (y0.1 - y1.1)) (
 needC (rng .i64 (a0.2 - a1.2)) (
 bindC (CF76 (((((a1.1 - a0.1) :: ((y0.1 - y1.1) :: ((a0.2 - a1.2) :: [])))).drop (0 : Nat)).take (3 : Nat))) fun y2 =>
 some (y2.1, ())))))
theorem CF75_v1_le (a0 : Int × Int) (a1 : Int × Int) (a2c0c0 : Int) (a2c0c1 : Int) : Le (CF75_v1 a0 a1 a2c0c0 a2c0c1) (F75_v1 a0 a1 a2c0c0 a2c0c1) := (Le.br Le.r (Le.nd (Le.bd (CF78_le ..) fun y0 => (Le.bd (CF78_le ..) fun y1 => (Le.nd (Le.nd (Le.bd (CF76_le ..) fun y2 => Le.r)))))))
theorem c75_v1_ok : trF prog f75 = some ⟨30, 3, dd75_v1.er, [.t 5], [some (.int .i64)]⟩ := by kernel_rfl
noncomputable def ct75_v1 : Ct := ⟨75, [.c (.hole (.prod (.int .i64) (.int .i64))), .c (.hole (.prod (.int .i64) (.int .i64))), .c (.ipcs (.cons (.fn 78 .nil (.cons (.ipc (.int .i64)) (.cons (.ipc (.int .i64)) .nil))) .nil))], .c (.hole (.int .i64)), fun x => F75_v1 x.1 x.2.1 x.2.2.1 x.2.2.2.1⟩
theorem ct75_v1_ok : ct75_v1.Ok prog := ct_ok mixed cx75_v1_ok func75 c75_v1_ok (enters_of func75 rfl rfl) dd75_v1 rfl rfl (fun x => by kernel_rfl)

/- 81, lent -/
@[reducible] def pH81_v3 : Pat := Pat.mk [(0, .c (.sl0 0 (.prod (.int .i64) (.int .i64)))), (1, .c (.hole (.int .i64))), (2, .c (.hole (.int .i64))), (3, .fn 75 [] [.ptr 1 0])] [(0, .arr (.prod (.int .i64) (.int .i64)) false), (1, .cells [.fn 78 .nil (.cons (.ipc (.int .i64)) (.cons (.ipc (.int .i64)) .nil))] false)] [.slot 0, .part 3 0] []
@[reducible] def qH81_v3 : Pat := Pat.mk [(0, .c .any)] [(1, .cells [.fn 78 .nil (.cons (.ipc (.int .i64)) (.cons (.ipc (.int .i64)) .nil))] false), (0, .arr (.prod (.int .i64) (.int .i64)) false)] [] []
noncomputable def cxH81_v3 : Cx := mkCxH [ct75_v1] []
theorem cxH81_v3_ok : cxH81_v3.Ok prog := mkCxH_ok ⟨ct75_v1_ok, trivial⟩ trivial
@[reducible] def pH81_v3_1 : Pat := Pat.mk [(0, .c (.sl0 0 (.prod (.int .i64) (.int .i64)))), (1, .c (.hole (.int .i64))), (2, .c (.hole (.int .i64))), (3, .fn 75 [] [.ptr 1 0]), (8, .c (.hole (.int .i64))), (9, .c (.hole (.int .i64)))] [(0, .arr (.prod (.int .i64) (.int .i64)) false), (1, .cells [.fn 78 .nil (.cons (.ipc (.int .i64)) (.cons (.ipc (.int .i64)) .nil))] false)] [] []
@[reducible] def xH81_v3_1 : Outs := [(.exit 2, Pat.mk [(0, .c (.sl0 0 (.prod (.int .i64) (.int .i64)))), (1, .c (.hole (.int .i64))), (2, .c (.hole (.int .i64))), (3, .fn 75 [] [.ptr 1 0]), (8, .c (.hole (.int .i64)))] [(0, .arr (.prod (.int .i64) (.int .i64)) false), (1, .cells [.fn 78 .nil (.cons (.ipc (.int .i64)) (.cons (.ipc (.int .i64)) .nil))] false)] [] [])]
noncomputable def bH81_v3_1 : D prog 53 none 2 := (.seq (.seq (.draw [[], [], [0, 1], [0, 1, 2], [0, 1, 2, 3], [0, 1, 2, 3], [0, 1, 2, 3], [0, 1, 2, 3, 5, 6], [0, 1, 2, 3, 5, 6, 7], [0, 1, 2, 3], [0, 1, 2, 3], [0, 1, 2, 3, 10], [0, 1, 2, 3, 9, 10, 11], [0, 1, 2, 3, 9, 10, 11, 12], [0, 1, 2, 3, 4, 5, 6, 7, 8, 9, 10, 11, 12, 13], [0, 1, 2, 3, 4, 5, 6, 7, 8, 9, 10, 11, 12, 13, 14], [0, 1, 2, 3, 4, 5, 6, 7, 8, 9, 10, 11, 12, 13, 14, 15]] [.op (some 18) none (.mv (.t 9)), .op (some 19) none (.mv (.t 1)), .op (some 20) none (.bin .gtr (.t 18) (.t 19)), .op (some 21) none (.mv (.t 20)), .op (some 22) (some (21, true)) (.mv (.t 3)), .op (some 23) (some (21, true)) (.mv (.t 0)), .op (some 24) (some (21, true)) (.mv (.t 9)), .op (some 25) (some (21, true)) (.idx 2 (.t 23) (.t 24)), .op (some 26) (some (21, true)) (.load true 2 (.t 25)), .op (some 27) (some (21, true)) (.mv (.t 0)), .op (some 28) (some (21, true)) (.mv (.t 9)), .op (some 29) (some (21, true)) (.bin .sub (.t 28) (.c (.int .i64 (Int.ofNat 1)))), .op (some 30) (some (21, true)) (.idx 2 (.t 27) (.t 29)), .op (some 31) (some (21, true)) (.load true 2 (.t 30)), .call (some 32) (some (21, true)) (.t 22) [.t 26, .t 31] [some (.prod (.int .i64) (.int .i64)), some (.prod (.int .i64) (.int .i64))], .op (some 33) (some (21, true)) (.bin .lss (.t 32) (.c (.int .i64 (Int.ofNat 0)))), .op (some 34) none (.pick (.t 21) (.t 33) (.c (.tf false)))]) (.cond ( .t 34) .skip (.exit 2))) (.seq (.block 3 (.draw [[], [], [], [], [3], [], [], [6], [5, 6, 7], [5, 6, 7, 8], [], [], [10, 11], [10, 11, 12], [0, 1, 5, 6, 7, 8, 9, 10, 11, 12, 13], [0, 1, 5, 6, 7, 8, 9, 10, 11, 12, 13, 14], [0, 1, 2, 3, 4, 5, 6, 7, 8, 9, 10, 11, 12, 13, 14, 15], [0, 1, 2, 3, 4, 5, 6, 7, 8, 9, 10, 11, 12, 13, 14, 15, 16]] [.op (some 37) none (.mv (.t 0)), .op (some 38) none (.mv (.t 9)), .op (some 39) none (.mv (.t 0)), .op (some 40) none (.mv (.t 9)), .op (some 41) none (.bin .sub (.t 40) (.c (.int .i64 (Int.ofNat 1)))), .op (some 42) none (.mv (.t 0)), .op (some 43) none (.mv (.t 9)), .op (some 44) none (.bin .sub (.t 43) (.c (.int .i64 (Int.ofNat 1)))), .op (some 45) none (.idx 2 (.t 42) (.t 44)), .op (some 46) none (.load true 2 (.t 45)), .op (some 47) none (.mv (.t 0)), .op (some 48) none (.mv (.t 9)), .op (some 49) none (.idx 2 (.t 47) (.t 48)), .op (some 50) none (.load true 2 (.t 49)), .op (some 51) none (.idx 2 (.t 37) (.t 38)), .op none none (.store 2 (.t 51) (.t 46)), .op (some 52) none (.idx 2 (.t 39) (.t 41)), .op none none (.store 2 (.t 52) (.t 50))])) (.reg [.op (some 35) none (.mv (.t 9)), .op (some 36) none (.bin .sub (.t 35) (.c (.int .i64 (Int.ofNat 1)))), .op (some 9) none (.mv (.t 36))])))
noncomputable def gH81_v3_1 (nv0 : Nat) (v1 : Int) (v2 : Int) (v8 : Int) (v9 : Int) (b0 : List (Int × Int)) (c1_0c0 : Int) (c1_0c1 : Int) : Option ((Nat × Int × Int × Int × Int × (List (Int × Int)) × Int × Int × Unit) ⊕ ((Nat × Int × Int × Int × (List (Int × Int)) × Int × Int × Unit))) :=
 brO (decide (v1 < v9)) (
 need (inb v9 ((nv0 : Nat) : Int)) (
 need (decide (((0 : Nat) + (Int.toNat v9)) < (b0).length)) (
 need (rng .i64 (v9 - (1 : Int))) (
 need (inb (v9 - (1 : Int)) ((nv0 : Nat) : Int)) (
 need (decide (((0 : Nat) + (Int.toNat (v9 - (1 : Int)))) < (b0).length)) (
 bindO (F75_v1 (((b0).getD ((0 : Nat) + (Int.toNat v9)) ((0 : Int), (0 : Int))).1, ((b0).getD ((0 : Nat) + (Int.toNat v9)) ((0 : Int), (0 : Int))).2) (((b0).getD ((0 : Nat) + (Int.toNat (v9 - (1 : Int)))) ((0 : Int), (0 : Int))).1, ((b0).getD ((0 : Nat) + (Int.toNat (v9 - (1 : Int)))) ((0 : Int), (0 : Int))).2) c1_0c0 c1_0c1) fun y0 =>
 brO (decide (y0.1 < (0 : Int))) (
 need (rng .i64 (v9 - (1 : Int))) (
 need (rng .i64 (v9 - (1 : Int))) (
 need (inb (v9 - (1 : Int)) ((nv0 : Nat) : Int)) (
 need (decide (((0 : Nat) + (Int.toNat (v9 - (1 : Int)))) < (b0).length)) (
 need (inb v9 ((nv0 : Nat) : Int)) (
 need (decide (((0 : Nat) + (Int.toNat v9)) < (b0).length)) (
 need (inb v9 ((nv0 : Nat) : Int)) (
 need (decide (((0 : Nat) + (Int.toNat v9)) < (b0).length)) (
 need (inb (v9 - (1 : Int)) ((nv0 : Nat) : Int)) (
 need (decide (((0 : Nat) + (Int.toNat (v9 - (1 : Int)))) < (((b0).set ((0 : Nat) + (Int.toNat v9)) (((b0).getD ((0 : Nat) + (Int.toNat (v9 - (1 : Int)))) ((0 : Int), (0 : Int))).1, ((b0).getD ((0 : Nat) + (Int.toNat (v9 - (1 : Int)))) ((0 : Int), (0 : Int))).2))).length)) (
 need (rng .i64 (v9 - (1 : Int))) (
 some (.inl (nv0, (v1, (v2, (v8, ((v9 - (1 : Int)), (((((b0).set ((0 : Nat) + (Int.toNat v9)) (((b0).getD ((0 : Nat) + (Int.toNat (v9 - (1 : Int)))) ((0 : Int), (0 : Int))).1, ((b0).getD ((0 : Nat) + (Int.toNat (v9 - (1 : Int)))) ((0 : Int), (0 : Int))).2))).set ((0 : Nat) + (Int.toNat (v9 - (1 : Int)))) (((b0).getD ((0 : Nat) + (Int.toNat v9)) ((0 : Int), (0 : Int))).1, ((b0).getD ((0 : Nat) + (Int.toNat v9)) ((0 : Int), (0 : Int))).2)), (c1_0c0, (c1_0c1, ()))))))))))))))))))))) (
 some (.inr (nv0, (v1, (v2, (v8, (b0, (c1_0c0, (c1_0c1, ()))))))))))))))) (
 some (.inr (nv0, (v1, (v2, (v8, (b0, (c1_0c0, (c1_0c1, ())))))))))
def CgH81_v3_1 (nv0 : Nat) (v1 : Int) (v2 : Int) (v8 : Int) (v9 : Int) (b0 : List (Int × Int)) (c1_0c0 : Int) (c1_0c1 : Int) : Option ((Nat × Int × Int × Int × Int × (List (Int × Int)) × Int × Int × Unit) ⊕ ((Nat × Int × Int × Int × (List (Int × Int)) × Int × Int × Unit))) :=
 brC (decide (v1 < v9)) (
 needC (inb v9 ((nv0 : Nat) : Int)) (
 needC (decide (((0 : Nat) + (Int.toNat v9)) < (b0).length)) (
 needC (rng .i64 (v9 - (1 : Int))) (
 needC (inb (v9 - (1 : Int)) ((nv0 : Nat) : Int)) (
 needC (decide (((0 : Nat) + (Int.toNat (v9 - (1 : Int)))) < (b0).length)) (
 bindC (CF75_v1 (((b0).getD ((0 : Nat) + (Int.toNat v9)) ((0 : Int), (0 : Int))).1, ((b0).getD ((0 : Nat) + (Int.toNat v9)) ((0 : Int), (0 : Int))).2) (((b0).getD ((0 : Nat) + (Int.toNat (v9 - (1 : Int)))) ((0 : Int), (0 : Int))).1, ((b0).getD ((0 : Nat) + (Int.toNat (v9 - (1 : Int)))) ((0 : Int), (0 : Int))).2) c1_0c0 c1_0c1) fun y0 =>
 brC (decide (y0.1 < (0 : Int))) (
 needC (rng .i64 (v9 - (1 : Int))) (
 needC (rng .i64 (v9 - (1 : Int))) (
 needC (inb (v9 - (1 : Int)) ((nv0 : Nat) : Int)) (
 needC (decide (((0 : Nat) + (Int.toNat (v9 - (1 : Int)))) < (b0).length)) (
 needC (inb v9 ((nv0 : Nat) : Int)) (
 needC (decide (((0 : Nat) + (Int.toNat v9)) < (b0).length)) (
 needC (inb v9 ((nv0 : Nat) : Int)) (
 needC (decide (((0 : Nat) + (Int.toNat v9)) < (b0).length)) (
 needC (inb (v9 - (1 : Int)) ((nv0 : Nat) : Int)) (
 needC (decide (((0 : Nat) + (Int.toNat (v9 - (1 : Int)))) < (((b0).set ((0 : Nat) + (Int.toNat v9)) (((b0).getD ((0 : Nat) + (Int.toNat (v9 - (1 : Int)))) ((0 : Int), (0 : Int))).1, ((b0).getD ((0 : Nat) + (Int.toNat (v9 - (1 : Int)))) ((0 : Int), (0 : Int))).2))).length)) (
 needC (rng .i64 (v9 - (1 : Int))) (
 some (.inl (nv0, (v1, (v2, (v8, ((v9 - (1 : Int)), (((((b0).set ((0 : Nat) + (Int.toNat v9)) (((b0).getD ((0 : Nat) + (Int.toNat (v9 - (1 : Int)))) ((0 : Int), (0 : Int))).1, ((b0).getD ((0 : Nat) + (Int.toNat (v9 - (1 : Int)))) ((0 : Int), (0 : Int))).2))).set ((0 : Nat) + (Int.toNat (v9 - (1 : Int)))) (((b0).getD ((0 : Nat) + (Int.toNat v9)) ((0 : Int), (0 : Int))).1, ((b0).getD ((0 : Nat) + (Int.toNat v9)) ((0 : Int), (0 : Int))).2)), (c1_0c0, (c1_0c1, ()))))))))))))))))))))) (
 some (.inr (nv0, (v1, (v2, (v8, (b0, (c1_0c0, (c1_0c1, ()))))))))))))))) (
 some (.inr (nv0, (v1, (v2, (v8, (b0, (c1_0c0, (c1_0c1, ())))))))))
theorem CgH81_v3_1_le (nv0 : Nat) (v1 : Int) (v2 : Int) (v8 : Int) (v9 : Int) (b0 : List (Int × Int)) (c1_0c0 : Int) (c1_0c1 : Int) : Le (CgH81_v3_1 nv0 v1 v2 v8 v9 b0 c1_0c0 c1_0c1) (gH81_v3_1 nv0 v1 v2 v8 v9 b0 c1_0c0 c1_0c1) := (Le.br (Le.nd (Le.nd (Le.nd (Le.nd (Le.nd (Le.bd (CF75_v1_le ..) fun y0 => (Le.br (Le.nd (Le.nd (Le.nd (Le.nd (Le.nd (Le.nd (Le.nd (Le.nd (Le.nd (Le.nd (Le.nd Le.r))))))))))) Le.r))))))) Le.r)
theorem sH81_v3_1 : ∀ x, roundE (kzO (pH81_v3_1.T ⊕ xH81_v3_1.T)) cxH81_v3 ar0 [0, 1] pH81_v3_1 xH81_v3_1 (bH81_v3_1) (fun y => some (.inl y)) (fun b => some (.inr b)) x = gH81_v3_1 x.1 x.2.1 x.2.2.1 x.2.2.2.1 x.2.2.2.2.1 x.2.2.2.2.2.1 x.2.2.2.2.2.2.1 x.2.2.2.2.2.2.2.1 := by intro x; kernel_rfl
noncomputable def LH81_v3_1 : LoopS prog 53 none 2 := mkLoop mixed cxH81_v3 cxH81_v3_ok [0, 1] rfl pH81_v3_1 xH81_v3_1 rfl (bH81_v3_1) (fun x => gH81_v3_1 x.1 x.2.1 x.2.2.1 x.2.2.2.1 x.2.2.2.2.1 x.2.2.2.2.2.1 x.2.2.2.2.2.2.1 x.2.2.2.2.2.2.2.1) (sH81_v3_1)
@[reducible] def pH81_v3_0 : Pat := Pat.mk [(0, .c (.sl0 0 (.prod (.int .i64) (.int .i64)))), (1, .c (.hole (.int .i64))), (2, .c (.hole (.int .i64))), (3, .fn 75 [] [.ptr 1 0]), (8, .c (.hole (.int .i64)))] [(0, .arr (.prod (.int .i64) (.int .i64)) false), (1, .cells [.fn 78 .nil (.cons (.ipc (.int .i64)) (.cons (.ipc (.int .i64)) .nil))] false)] [] []
@[reducible] def xH81_v3_0 : Outs := [(.exit 0, Pat.mk [] [(1, .cells [.fn 78 .nil (.cons (.ipc (.int .i64)) (.cons (.ipc (.int .i64)) .nil))] false), (0, .arr (.prod (.int .i64) (.int .i64)) false)] [] [])]
noncomputable def bH81_v3_0 : D prog 53 none 2 := (.seq (.seq (.reg [.op (some 12) none (.mv (.t 8)), .op (some 13) none (.mv (.t 2)), .op (some 14) none (.bin .lss (.t 12) (.t 13))]) (.cond ( .t 14) .skip (.exit 0))) (.seq (.block 1 (.seq (.reg [.op (some 17) none (.mv (.t 8)), .op (some 9) none (.mv (.t 17))]) (.block 2 (.loop LH81_v3_1)))) (.reg [.op (some 15) none (.mv (.t 8)), .op (some 16) none (.bin .add (.t 15) (.c (.int .i64 (Int.ofNat 1)))), .op (some 8) none (.mv (.t 16))])))
noncomputable def gH81_v3_0 (nv0 : Nat) (v1 : Int) (v2 : Int) (v8 : Int) (b0 : List (Int × Int)) (c1_0c0 : Int) (c1_0c1 : Int) : Option ((Nat × Int × Int × Int × (List (Int × Int)) × Int × Int × Unit) ⊕ ((Int × Int × (List (Int × Int)) × Unit))) :=
 brO (decide (v8 < v2)) (
 bindO (iter (fun x => gH81_v3_1 x.1 x.2.1 x.2.2.1 x.2.2.2.1 x.2.2.2.2.1 x.2.2.2.2.2.1 x.2.2.2.2.2.2.1 x.2.2.2.2.2.2.2.1) (nv0, (v1, (v2, (v8, (v8, (b0, (c1_0c0, (c1_0c1, ()))))))))) fun z1 =>
 need (rng .i64 (z1.2.2.2.1 + (1 : Int))) (
 some (.inl (z1.1, (z1.2.1, (z1.2.2.1, ((z1.2.2.2.1 + (1 : Int)), (z1.2.2.2.2.1, (z1.2.2.2.2.2.1, (z1.2.2.2.2.2.2.1, ())))))))))) (
 some (.inr (c1_0c0, (c1_0c1, (b0, ())))))
def CgH81_v3_0 (nv0 : Nat) (v1 : Int) (v2 : Int) (v8 : Int) (b0 : List (Int × Int)) (c1_0c0 : Int) (c1_0c1 : Int) : Option ((Nat × Int × Int × Int × (List (Int × Int)) × Int × Int × Unit) ⊕ ((Int × Int × (List (Int × Int)) × Unit))) :=
 brC (decide (v8 < v2)) (
 bindC (iterF (fun x => CgH81_v3_1 x.1 x.2.1 x.2.2.1 x.2.2.2.1 x.2.2.2.2.1 x.2.2.2.2.2.1 x.2.2.2.2.2.2.1 x.2.2.2.2.2.2.2.1) 1000000 (nv0, (v1, (v2, (v8, (v8, (b0, (c1_0c0, (c1_0c1, ()))))))))) fun z1 =>
 needC (rng .i64 (z1.2.2.2.1 + (1 : Int))) (
 some (.inl (z1.1, (z1.2.1, (z1.2.2.1, ((z1.2.2.2.1 + (1 : Int)), (z1.2.2.2.2.1, (z1.2.2.2.2.2.1, (z1.2.2.2.2.2.2.1, ())))))))))) (
 some (.inr (c1_0c0, (c1_0c1, (b0, ())))))
theorem CgH81_v3_0_le (nv0 : Nat) (v1 : Int) (v2 : Int) (v8 : Int) (b0 : List (Int × Int)) (c1_0c0 : Int) (c1_0c1 : Int) : Le (CgH81_v3_0 nv0 v1 v2 v8 b0 c1_0c0 c1_0c1) (gH81_v3_0 nv0 v1 v2 v8 b0 c1_0c0 c1_0c1) := (Le.br (Le.bd (Le.iter fun x => CgH81_v3_1_le ..) fun z1 => (Le.nd Le.r)) Le.r)
theorem sH81_v3_0 : ∀ x, roundE (kzO (pH81_v3_0.T ⊕ xH81_v3_0.T)) cxH81_v3 ar0 [0, 1] pH81_v3_0 xH81_v3_0 (bH81_v3_0) (fun y => some (.inl y)) (fun b => some (.inr b)) x = gH81_v3_0 x.1 x.2.1 x.2.2.1 x.2.2.2.1 x.2.2.2.2.1 x.2.2.2.2.2.1 x.2.2.2.2.2.2.1 := by intro x; kernel_rfl
noncomputable def LH81_v3_0 : LoopS prog 53 none 2 := mkLoop mixed cxH81_v3 cxH81_v3_ok [0, 1] rfl pH81_v3_0 xH81_v3_0 rfl (bH81_v3_0) (fun x => gH81_v3_0 x.1 x.2.1 x.2.2.1 x.2.2.2.1 x.2.2.2.2.1 x.2.2.2.2.2.1 x.2.2.2.2.2.2.1) (sH81_v3_0)
noncomputable def ddH81_v3 : D prog 53 none 2 := (.seq (.reg [.op (some 10) none (.mv (.t 1)), .op (some 11) none (.bin .add (.t 10) (.c (.int .i64 (Int.ofNat 1)))), .op (some 8) none (.mv (.t 11))]) (.block 0 (.loop LH81_v3_0)))
noncomputable def FH81_v3 (nv0 : Nat) (v1 : Int) (v2 : Int) (b0 : List (Int × Int)) (c1_0c0 : Int) (c1_0c1 : Int) : Option (Int × Int × (List (Int × Int)) × Unit) :=
 need (rng .i64 (v1 + (1 : Int))) (
 bindO (iter (fun x => gH81_v3_0 x.1 x.2.1 x.2.2.1 x.2.2.2.1 x.2.2.2.2.1 x.2.2.2.2.2.1 x.2.2.2.2.2.2.1) (nv0, (v1, (v2, ((v1 + (1 : Int)), (b0, (c1_0c0, (c1_0c1, ())))))))) fun z2 =>
 some (z2.1, (z2.2.1, (z2.2.2.1, ()))))
def CFH81_v3 (nv0 : Nat) (v1 : Int) (v2 : Int) (b0 : List (Int × Int)) (c1_0c0 : Int) (c1_0c1 : Int) : Option (Int × Int × (List (Int × Int)) × Unit) :=
 needC (rng .i64 (v1 + (1 : Int))) (
 bindC (iterF (fun x => CgH81_v3_0 x.1 x.2.1 x.2.2.1 x.2.2.2.1 x.2.2.2.2.1 x.2.2.2.2.2.1 x.2.2.2.2.2.2.1) 1000000 (nv0, (v1, (v2, ((v1 + (1 : Int)), (b0, (c1_0c0, (c1_0c1, ())))))))) fun z2 =>
 some (z2.1, (z2.2.1, (z2.2.2.1, ()))))
theorem CFH81_v3_le (nv0 : Nat) (v1 : Int) (v2 : Int) (b0 : List (Int × Int)) (c1_0c0 : Int) (c1_0c1 : Int) : Le (CFH81_v3 nv0 v1 v2 b0 c1_0c0 c1_0c1) (FH81_v3 nv0 v1 v2 b0 c1_0c0 c1_0c1) := (Le.nd (Le.bd (Le.iter fun x => CgH81_v3_0_le ..) fun z2 => Le.r))
theorem cH81_v3_ok : trF prog f81 = some ⟨53, 4, ddH81_v3.er, [], []⟩ := by kernel_rfl
noncomputable def ht81_v3 : Ht := ⟨81, pH81_v3, qH81_v3, (fun x => FH81_v3 x.1 x.2.1 x.2.2.1 x.2.2.2.1 x.2.2.2.2.1 x.2.2.2.2.2.1)⟩
theorem ht81_v3_ok : ht81_v3.Ok prog := ht_ok mixed cxH81_v3_ok rfl func81 cH81_v3_ok (enters_of func81 rfl rfl) ddH81_v3 rfl rfl rfl ⟨_, rfl⟩ rfl (pre := [0, 1]) rfl (fun x => by kernel_rfl)

/- 84, lent -/
@[reducible] def pH84_v3 : Pat := Pat.mk [(0, .c (.sl0 0 (.prod (.int .i64) (.int .i64)))), (1, .c (.hole (.int .i64))), (2, .c (.hole (.int .i64))), (3, .c (.hole (.int .i64))), (4, .fn 75 [] [.ptr 1 0])] [(0, .arr (.prod (.int .i64) (.int .i64)) false), (1, .cells [.fn 78 .nil (.cons (.ipc (.int .i64)) (.cons (.ipc (.int .i64)) .nil))] false)] [.slot 0, .part 4 0] []
@[reducible] def qH84_v3 : Pat := Pat.mk [(0, .c .any)] [(1, .cells [.fn 78 .nil (.cons (.ipc (.int .i64)) (.cons (.ipc (.int .i64)) .nil))] false), (0, .arr (.prod (.int .i64) (.int .i64)) false)] [] []
noncomputable def cxH84_v3 : Cx := mkCxH [] []
theorem cxH84_v3_ok : cxH84_v3.Ok prog := mkCxH_ok trivial trivial
@[reducible] def pH84_v3_0 : Pat := Pat.mk [(0, .c (.sl0 0 (.prod (.int .i64) (.int .i64)))), (1, .c (.hole (.int .i64))), (2, .c (.hole (.int .i64))), (3, .c (.hole (.int .i64))), (10, .c (.hole (.int .i64)))] [(0, .arr (.prod (.int .i64) (.int .i64)) false), (1, .cells [.fn 78 .nil (.cons (.ipc (.int .i64)) (.cons (.ipc (.int .i64)) .nil))] false)] [] []
@[reducible] def xH84_v3_0 : Outs := [(.exit 0, Pat.mk [] [(1, .cells [.fn 78 .nil (.cons (.ipc (.int .i64)) (.cons (.ipc (.int .i64)) .nil))] false), (0, .arr (.prod (.int .i64) (.int .i64)) false)] [] [])]
noncomputable def bH84_v3_0 : D prog 38 none 2 := (.seq (.seq (.reg [.op (some 11) none (.mv (.t 10)), .op (some 12) none (.mv (.t 3)), .op (some 13) none (.bin .lss (.t 11) (.t 12))]) (.cond ( .t 13) .skip (.exit 0))) (.seq (.block 1 (.draw [[], [], [], [1, 2], [], [], [], [5, 6], [], [], [], [9, 10], [8, 9, 10, 11], [8, 9, 10, 11, 12], [], [], [], [15, 16], [14, 15, 16, 17], [14, 15, 16, 17, 18], [0, 1, 2, 3, 8, 9, 10, 11, 12, 13, 14, 15, 16, 17, 18, 19], [0, 1, 2, 3, 8, 9, 10, 11, 12, 13, 14, 15, 16, 17, 18, 19, 20], [0, 1, 2, 3, 4, 5, 6, 7, 8, 9, 10, 11, 12, 13, 14, 15, 16, 17, 18, 19, 20, 21], [0, 1, 2, 3, 4, 5, 6, 7, 8, 9, 10, 11, 12, 13, 14, 15, 16, 17, 18, 19, 20, 21, 22]] [.op (some 16) none (.mv (.t 0)), .op (some 17) none (.mv (.t 1)), .op (some 18) none (.mv (.t 10)), .op (some 19) none (.bin .add (.t 17) (.t 18)), .op (some 20) none (.mv (.t 0)), .op (some 21) none (.mv (.t 2)), .op (some 22) none (.mv (.t 10)), .op (some 23) none (.bin .add (.t 21) (.t 22)), .op (some 24) none (.mv (.t 0)), .op (some 25) none (.mv (.t 2)), .op (some 26) none (.mv (.t 10)), .op (some 27) none (.bin .add (.t 25) (.t 26)), .op (some 28) none (.idx 2 (.t 24) (.t 27)), .op (some 29) none (.load true 2 (.t 28)), .op (some 30) none (.mv (.t 0)), .op (some 31) none (.mv (.t 1)), .op (some 32) none (.mv (.t 10)), .op (some 33) none (.bin .add (.t 31) (.t 32)), .op (some 34) none (.idx 2 (.t 30) (.t 33)), .op (some 35) none (.load true 2 (.t 34)), .op (some 36) none (.idx 2 (.t 16) (.t 19)), .op none none (.store 2 (.t 36) (.t 29)), .op (some 37) none (.idx 2 (.t 20) (.t 23)), .op none none (.store 2 (.t 37) (.t 35))])) (.reg [.op (some 14) none (.mv (.t 10)), .op (some 15) none (.bin .add (.t 14) (.c (.int .i64 (Int.ofNat 1)))), .op (some 10) none (.mv (.t 15))])))
noncomputable def gH84_v3_0 (nv0 : Nat) (v1 : Int) (v2 : Int) (v3 : Int) (v10 : Int) (b0 : List (Int × Int)) (c1_0c0 : Int) (c1_0c1 : Int) : Option ((Nat × Int × Int × Int × Int × (List (Int × Int)) × Int × Int × Unit) ⊕ ((Int × Int × (List (Int × Int)) × Unit))) :=
 brO (decide (v10 < v3)) (
 need (rng .i64 (v1 + v10)) (
 need (rng .i64 (v2 + v10)) (
 need (rng .i64 (v2 + v10)) (
 need (inb (v2 + v10) ((nv0 : Nat) : Int)) (
 need (decide (((0 : Nat) + (Int.toNat (v2 + v10))) < (b0).length)) (
 need (rng .i64 (v1 + v10)) (
 need (inb (v1 + v10) ((nv0 : Nat) : Int)) (
 need (decide (((0 : Nat) + (Int.toNat (v1 + v10))) < (b0).length)) (
 need (inb (v1 + v10) ((nv0 : Nat) : Int)) (
 need (decide (((0 : Nat) + (Int.toNat (v1 + v10))) < (b0).length)) (
 need (inb (v2 + v10) ((nv0 : Nat) : Int)) (
 need (decide (((0 : Nat) + (Int.toNat (v2 + v10))) < (((b0).set ((0 : Nat) + (Int.toNat (v1 + v10))) (((b0).getD ((0 : Nat) + (Int.toNat (v2 + v10))) ((0 : Int), (0 : Int))).1, ((b0).getD ((0 : Nat) + (Int.toNat (v2 + v10))) ((0 : Int), (0 : Int))).2))).length)) (
 need (rng .i64 (v10 + (1 : Int))) (
 some (.inl (nv0, (v1, (v2, (v3, ((v10 + (1 : Int)), (((((b0).set ((0 : Nat) + (Int.toNat (v1 + v10))) (((b0).getD ((0 : Nat) + (Int.toNat (v2 + v10))) ((0 : Int), (0 : Int))).1, ((b0).getD ((0 : Nat) + (Int.toNat (v2 + v10))) ((0 : Int), (0 : Int))).2))).set ((0 : Nat) + (Int.toNat (v2 + v10))) (((b0).getD ((0 : Nat) + (Int.toNat (v1 + v10))) ((0 : Int), (0 : Int))).1, ((b0).getD ((0 : Nat) + (Int.toNat (v1 + v10))) ((0 : Int), (0 : Int))).2)), (c1_0c0, (c1_0c1, ()))))))))))))))))))))))) (
 some (.inr (c1_0c0, (c1_0c1, (b0, ())))))
def CgH84_v3_0 (nv0 : Nat) (v1 : Int) (v2 : Int) (v3 : Int) (v10 : Int) (b0 : List (Int × Int)) (c1_0c0 : Int) (c1_0c1 : Int) : Option ((Nat × Int × Int × Int × Int × (List (Int × Int)) × Int × Int × Unit) ⊕ ((Int × Int × (List (Int × Int)) × Unit))) :=
 brC (decide (v10 < v3)) (
 needC (rng .i64 (v1 + v10)) (
 needC (rng .i64 (v2 + v10)) (
 needC (rng .i64 (v2 + v10)) (
 needC (inb (v2 + v10) ((nv0 : Nat) : Int)) (
 needC (decide (((0 : Nat) + (Int.toNat (v2 + v10))) < (b0).length)) (
 needC (rng .i64 (v1 + v10)) (
 needC (inb (v1 + v10) ((nv0 : Nat) : Int)) (
 needC (decide (((0 : Nat) + (Int.toNat (v1 + v10))) < (b0).length)) (
 needC (inb (v1 + v10) ((nv0 : Nat) : Int)) (
 needC (decide (((0 : Nat) + (Int.toNat (v1 + v10))) < (b0).length)) (
 needC (inb (v2 + v10) ((nv0 : Nat) : Int)) (
 needC (decide (((0 : Nat) + (Int.toNat (v2 + v10))) < (((b0).set ((0 : Nat) + (Int.toNat (v1 + v10))) (((b0).getD ((0 : Nat) + (Int.toNat (v2 + v10))) ((0 : Int), (0 : Int))).1, ((b0).getD ((0 : Nat) + (Int.toNat (v2 + v10))) ((0 : Int), (0 : Int))).2))).length)) (
 needC (rng .i64 (v10 + (1 : Int))) (
 some (.inl (nv0, (v1, (v2, (v3, ((v10 + (1 : Int)), (((((b0).set ((0 : Nat) + (Int.toNat (v1 + v10))) (((b0).getD ((0 : Nat) + (Int.toNat (v2 + v10))) ((0 : Int), (0 : Int))).1, ((b0).getD ((0 : Nat) + (Int.toNat (v2 + v10))) ((0 : Int), (0 : Int))).2))).set ((0 : Nat) + (Int.toNat (v2 + v10))) (((b0).getD ((0 : Nat) + (Int.toNat (v1 + v10))) ((0 : Int), (0 : Int))).1, ((b0).getD ((0 : Nat) + (Int.toNat (v1 + v10))) ((0 : Int), (0 : Int))).2)), (c1_0c0, (c1_0c1, ()))))))))))))))))))))))) (
 some (.inr (c1_0c0, (c1_0c1, (b0, ())))))
theorem CgH84_v3_0_le (nv0 : Nat) (v1 : Int) (v2 : Int) (v3 : Int) (v10 : Int) (b0 : List (Int × Int)) (c1_0c0 : Int) (c1_0c1 : Int) : Le (CgH84_v3_0 nv0 v1 v2 v3 v10 b0 c1_0c0 c1_0c1) (gH84_v3_0 nv0 v1 v2 v3 v10 b0 c1_0c0 c1_0c1) := (Le.br (Le.nd (Le.nd (Le.nd (Le.nd (Le.nd (Le.nd (Le.nd (Le.nd (Le.nd (Le.nd (Le.nd (Le.nd (Le.nd Le.r))))))))))))) Le.r)
theorem sH84_v3_0 : ∀ x, roundE (kzO (pH84_v3_0.T ⊕ xH84_v3_0.T)) cxH84_v3 ar0 [0, 1] pH84_v3_0 xH84_v3_0 (bH84_v3_0) (fun y => some (.inl y)) (fun b => some (.inr b)) x = gH84_v3_0 x.1 x.2.1 x.2.2.1 x.2.2.2.1 x.2.2.2.2.1 x.2.2.2.2.2.1 x.2.2.2.2.2.2.1 x.2.2.2.2.2.2.2.1 := by intro x; kernel_rfl
noncomputable def LH84_v3_0 : LoopS prog 38 none 2 := mkLoop mixed cxH84_v3 cxH84_v3_ok [0, 1] rfl pH84_v3_0 xH84_v3_0 rfl (bH84_v3_0) (fun x => gH84_v3_0 x.1 x.2.1 x.2.2.1 x.2.2.2.1 x.2.2.2.2.1 x.2.2.2.2.2.1 x.2.2.2.2.2.2.1 x.2.2.2.2.2.2.2.1) (sH84_v3_0)
noncomputable def ddH84_v3 : D prog 38 none 2 := (.seq (.reg [.op (some 10) none (.mv (.c (.int .i64 (Int.ofNat 0))))]) (.block 0 (.loop LH84_v3_0)))
noncomputable def FH84_v3 (nv0 : Nat) (v1 : Int) (v2 : Int) (v3 : Int) (b0 : List (Int × Int)) (c1_0c0 : Int) (c1_0c1 : Int) : Option (Int × Int × (List (Int × Int)) × Unit) :=
 bindO (iter (fun x => gH84_v3_0 x.1 x.2.1 x.2.2.1 x.2.2.2.1 x.2.2.2.2.1 x.2.2.2.2.2.1 x.2.2.2.2.2.2.1 x.2.2.2.2.2.2.2.1) (nv0, (v1, (v2, (v3, ((0 : Int), (b0, (c1_0c0, (c1_0c1, ()))))))))) fun z0 =>
 some (z0.1, (z0.2.1, (z0.2.2.1, ())))
def CFH84_v3 (nv0 : Nat) (v1 : Int) (v2 : Int) (v3 : Int) (b0 : List (Int × Int)) (c1_0c0 : Int) (c1_0c1 : Int) : Option (Int × Int × (List (Int × Int)) × Unit) :=
 bindC (iterF (fun x => CgH84_v3_0 x.1 x.2.1 x.2.2.1 x.2.2.2.1 x.2.2.2.2.1 x.2.2.2.2.2.1 x.2.2.2.2.2.2.1 x.2.2.2.2.2.2.2.1) 1000000 (nv0, (v1, (v2, (v3, ((0 : Int), (b0, (c1_0c0, (c1_0c1, ()))))))))) fun z0 =>
 some (z0.1, (z0.2.1, (z0.2.2.1, ())))
theorem CFH84_v3_le (nv0 : Nat) (v1 : Int) (v2 : Int) (v3 : Int) (b0 : List (Int × Int)) (c1_0c0 : Int) (c1_0c1 : Int) : Le (CFH84_v3 nv0 v1 v2 v3 b0 c1_0c0 c1_0c1) (FH84_v3 nv0 v1 v2 v3 b0 c1_0c0 c1_0c1) := (Le.bd (Le.iter fun x => CgH84_v3_0_le ..) fun z0 => Le.r)
theorem cH84_v3_ok : trF prog f84 = some ⟨38, 5, ddH84_v3.er, [], []⟩ := by kernel_rfl
noncomputable def ht84_v3 : Ht := ⟨84, pH84_v3, qH84_v3, (fun x => FH84_v3 x.1 x.2.1 x.2.2.1 x.2.2.2.1 x.2.2.2.2.1 x.2.2.2.2.2.1 x.2.2.2.2.2.2.1)⟩
theorem ht84_v3_ok : ht84_v3.Ok prog := ht_ok mixed cxH84_v3_ok rfl func84 cH84_v3_ok (enters_of func84 rfl rfl) ddH84_v3 rfl rfl rfl ⟨_, rfl⟩ rfl (pre := [0, 1]) rfl (fun x => by kernel_rfl)

/- 83, lent -/
@[reducible] def pH83_v3 : Pat := Pat.mk [(0, .c (.sl0 0 (.prod (.int .i64) (.int .i64)))), (1, .c (.hole (.int .i64))), (2, .c (.hole (.int .i64))), (3, .c (.hole (.int .i64))), (4, .fn 75 [] [.ptr 1 0])] [(0, .arr (.prod (.int .i64) (.int .i64)) false), (1, .cells [.fn 78 .nil (.cons (.ipc (.int .i64)) (.cons (.ipc (.int .i64)) .nil))] false)] [.slot 0, .part 4 0] []
@[reducible] def qH83_v3 : Pat := Pat.mk [(0, .c .any)] [(1, .cells [.fn 78 .nil (.cons (.ipc (.int .i64)) (.cons (.ipc (.int .i64)) .nil))] false), (0, .arr (.prod (.int .i64) (.int .i64)) false)] [] []
noncomputable def cxH83_v3 : Cx := mkCxH [] [ht84_v3]
theorem cxH83_v3_ok : cxH83_v3.Ok prog := mkCxH_ok trivial ⟨⟨ht84_v3_ok, rfl⟩, trivial⟩
@[reducible] def pH83_v3_0 : Pat := Pat.mk [(0, .c (.sl0 0 (.prod (.int .i64) (.int .i64)))), (2, .c (.hole (.int .i64))), (4, .fn 75 [] [.ptr 1 0]), (10, .c (.hole (.int .i64))), (11, .c (.hole (.int .i64)))] [(0, .arr (.prod (.int .i64) (.int .i64)) false), (1, .cells [.fn 78 .nil (.cons (.ipc (.int .i64)) (.cons (.ipc (.int .i64)) .nil))] false)] [] []
@[reducible] def xH83_v3_0 : Outs := [(.exit 0, Pat.mk [(0, .c (.sl0 0 (.prod (.int .i64) (.int .i64)))), (2, .c (.hole (.int .i64))), (4, .fn 75 [] [.ptr 1 0]), (10, .c (.hole (.int .i64)))] [(0, .arr (.prod (.int .i64) (.int .i64)) false), (1, .cells [.fn 78 .nil (.cons (.ipc (.int .i64)) (.cons (.ipc (.int .i64)) .nil))] false)] [] [])]
noncomputable def bH83_v3_0 : D prog 58 none 2 := (.seq (.seq (.reg [.op (some 18) none (.mv (.t 10)), .op (some 19) none (.mv (.t 11)), .op (some 20) none (.bin .neq (.t 18) (.t 19))]) (.cond ( .t 20) .skip (.exit 0))) (.block 1 (.seq (.reg [.op (some 21) none (.mv (.t 10)), .op (some 22) none (.mv (.t 11)), .op (some 23) none (.bin .gtr (.t 21) (.t 22))]) (.cond ( .t 23) (.seq (.reg [.op (some 24) none (.mv (.t 0)), .op (some 25) none (.mv (.t 2)), .op (some 26) none (.mv (.t 10)), .op (some 27) none (.bin .sub (.t 25) (.t 26)), .op (some 28) none (.mv (.t 2)), .op (some 29) none (.mv (.t 11)), .op (some 30) none (.mv (.t 4)), .call (some 31) none (.c (.fn 84 [] [])) [.t 24, .t 27, .t 28, .t 29, .t 30] [some (.list (.prod (.int .i64) (.int .i64))), some (.int .i64), some (.int .i64), some (.int .i64), none]]) (.reg [.op (some 32) none (.mv (.t 10)), .op (some 33) none (.mv (.t 11)), .op (some 34) none (.bin .sub (.t 32) (.t 33)), .op (some 10) none (.mv (.t 34))])) (.seq (.reg [.op (some 35) none (.mv (.t 0)), .op (some 36) none (.mv (.t 2)), .op (some 37) none (.mv (.t 10)), .op (some 38) none (.bin .sub (.t 36) (.t 37)), .op (some 39) none (.mv (.t 2)), .op (some 40) none (.mv (.t 11)), .op (some 41) none (.bin .add (.t 39) (.t 40)), .op (some 42) none (.mv (.t 10)), .op (some 43) none (.bin .sub (.t 41) (.t 42)), .op (some 44) none (.mv (.t 10)), .op (some 45) none (.mv (.t 4)), .call (some 46) none (.c (.fn 84 [] [])) [.t 35, .t 38, .t 43, .t 44, .t 45] [some (.list (.prod (.int .i64) (.int .i64))), some (.int .i64), some (.int .i64), some (.int .i64), none]]) (.reg [.op (some 47) none (.mv (.t 11)), .op (some 48) none (.mv (.t 10)), .op (some 49) none (.bin .sub (.t 47) (.t 48)), .op (some 11) none (.mv (.t 49))]))))))
noncomputable def gH83_v3_0 (nv0 : Nat) (v2 : Int) (v10 : Int) (v11 : Int) (b0 : List (Int × Int)) (c1_0c0 : Int) (c1_0c1 : Int) : Option ((Nat × Int × Int × Int × (List (Int × Int)) × Int × Int × Unit) ⊕ ((Nat × Int × Int × (List (Int × Int)) × Int × Int × Unit))) :=
 brO (!(v10 == v11)) (
 brO (decide (v11 < v10)) (
 need (rng .i64 (v2 - v10)) (
 bindO (FH84_v3 nv0 (v2 - v10) v2 v11 b0 c1_0c0 c1_0c1) fun y0 =>
 need (rng .i64 (v10 - v11)) (
 some (.inl (nv0, (v2, ((v10 - v11), (v11, (y0.2.2.1, (y0.1, (y0.2.1, ()))))))))))) (
 need (rng .i64 (v2 - v10)) (
 need (rng .i64 (v2 + v11)) (
 need (rng .i64 ((v2 + v11) - v10)) (
 bindO (FH84_v3 nv0 (v2 - v10) ((v2 + v11) - v10) v10 b0 c1_0c0 c1_0c1) fun y1 =>
 need (rng .i64 (v11 - v10)) (
 some (.inl (nv0, (v2, (v10, ((v11 - v10), (y1.2.2.1, (y1.1, (y1.2.1, ())))))))))))))) (
 some (.inr (nv0, (v2, (v10, (b0, (c1_0c0, (c1_0c1, ()))))))))
def CgH83_v3_0 (nv0 : Nat) (v2 : Int) (v10 : Int) (v11 : Int) (b0 : List (Int × Int)) (c1_0c0 : Int) (c1_0c1 : Int) : Option ((Nat × Int × Int × Int × (List (Int × Int)) × Int × Int × Unit) ⊕ ((Nat × Int × Int × (List (Int × Int)) × Int × Int × Unit))) :=
 brC (!(v10 == v11)) (
 brC (decide (v11 < v10)) (
 needC (rng .i64 (v2 - v10)) (
 bindC (CFH84_v3 nv0 (v2 - v10) v2 v11 b0 c1_0c0 c1_0c1) fun y0 =>
 needC (rng .i64 (v10 - v11)) (
 some (.inl (nv0, (v2, ((v10 - v11), (v11, (y0.2.2.1, (y0.1, (y0.2.1, ()))))))))))) (
 needC (rng .i64 (v2 - v10)) (
 needC (rng .i64 (v2 + v11)) (
 needC (rng .i64 ((v2 + v11) - v10)) (
 bindC (CFH84_v3 nv0 (v2 - v10) ((v2 + v11) - v10) v10 b0 c1_0c0 c1_0c1) fun y1 =>
 needC (rng .i64 (v11 - v10)) (
 some (.inl (nv0, (v2, (v10, ((v11 - v10), (y1.2.2.1, (y1.1, (y1.2.1, ())))))))))))))) (
 some (.inr (nv0, (v2, (v10, (b0, (c1_0c0, (c1_0c1, ()))))))))
theorem CgH83_v3_0_le (nv0 : Nat) (v2 : Int) (v10 : Int) (v11 : Int) (b0 : List (Int × Int)) (c1_0c0 : Int) (c1_0c1 : Int) : Le (CgH83_v3_0 nv0 v2 v10 v11 b0 c1_0c0 c1_0c1) (gH83_v3_0 nv0 v2 v10 v11 b0 c1_0c0 c1_0c1) := (Le.br (Le.br (Le.nd (Le.bd (CFH84_v3_le ..) fun y0 => (Le.nd Le.r))) (Le.nd (Le.nd (Le.nd (Le.bd (CFH84_v3_le ..) fun y1 => (Le.nd Le.r)))))) Le.r)
theorem sH83_v3_0 : ∀ x, roundE (kzO (pH83_v3_0.T ⊕ xH83_v3_0.T)) cxH83_v3 ar0 [0, 1] pH83_v3_0 xH83_v3_0 (bH83_v3_0) (fun y => some (.inl y)) (fun b => some (.inr b)) x = gH83_v3_0 x.1 x.2.1 x.2.2.1 x.2.2.2.1 x.2.2.2.2.1 x.2.2.2.2.2.1 x.2.2.2.2.2.2.1 := by intro x; kernel_rfl
noncomputable def LH83_v3_0 : LoopS prog 58 none 2 := mkLoop mixed cxH83_v3 cxH83_v3_ok [0, 1] rfl pH83_v3_0 xH83_v3_0 rfl (bH83_v3_0) (fun x => gH83_v3_0 x.1 x.2.1 x.2.2.1 x.2.2.2.1 x.2.2.2.2.1 x.2.2.2.2.2.1 x.2.2.2.2.2.2.1) (sH83_v3_0)
noncomputable def ddH83_v3 : D prog 58 none 2 := (.seq (.reg [.op (some 12) none (.mv (.t 2)), .op (some 13) none (.mv (.t 1)), .op (some 14) none (.bin .sub (.t 12) (.t 13)), .op (some 10) none (.mv (.t 14))]) (.seq (.reg [.op (some 15) none (.mv (.t 3)), .op (some 16) none (.mv (.t 2)), .op (some 17) none (.bin .sub (.t 15) (.t 16)), .op (some 11) none (.mv (.t 17))]) (.seq (.block 0 (.loop LH83_v3_0)) (.reg [.op (some 50) none (.mv (.t 0)), .op (some 51) none (.mv (.t 2)), .op (some 52) none (.mv (.t 10)), .op (some 53) none (.bin .sub (.t 51) (.t 52)), .op (some 54) none (.mv (.t 2)), .op (some 55) none (.mv (.t 10)), .op (some 56) none (.mv (.t 4)), .call (some 57) none (.c (.fn 84 [] [])) [.t 50, .t 53, .t 54, .t 55, .t 56] [some (.list (.prod (.int .i64) (.int .i64))), some (.int .i64), some (.int .i64), some (.int .i64), none]]))))
noncomputable def FH83_v3 (nv0 : Nat) (v1 : Int) (v2 : Int) (v3 : Int) (b0 : List (Int × Int)) (c1_0c0 : Int) (c1_0c1 : Int) : Option (Int × Int × (List (Int × Int)) × Unit) :=
 need (rng .i64 (v2 - v1)) (
 need (rng .i64 (v3 - v2)) (
 bindO (iter (fun x => gH83_v3_0 x.1 x.2.1 x.2.2.1 x.2.2.2.1 x.2.2.2.2.1 x.2.2.2.2.2.1 x.2.2.2.2.2.2.1) (nv0, (v2, ((v2 - v1), ((v3 - v2), (b0, (c1_0c0, (c1_0c1, ())))))))) fun z2 =>
 need (rng .i64 (z2.2.1 - z2.2.2.1)) (
 bindO (FH84_v3 z2.1 (z2.2.1 - z2.2.2.1) z2.2.1 z2.2.2.1 z2.2.2.2.1 z2.2.2.2.2.1 z2.2.2.2.2.2.1) fun y3 =>
 some (y3.1, (y3.2.1, (y3.2.2.1, ()))))))
def CFH83_v3 (nv0 : Nat) (v1 : Int) (v2 : Int) (v3 : Int) (b0 : List (Int × Int)) (c1_0c0 : Int) (c1_0c1 : Int) : Option (Int × Int × (List (Int × Int)) × Unit) :=
 needC (rng .i64 (v2 - v1)) (
 needC (rng .i64 (v3 - v2)) (
 bindC (iterF (fun x => CgH83_v3_0 x.1 x.2.1 x.2.2.1 x.2.2.2.1 x.2.2.2.2.1 x.2.2.2.2.2.1 x.2.2.2.2.2.2.1) 1000000 (nv0, (v2, ((v2 - v1), ((v3 - v2), (b0, (c1_0c0, (c1_0c1, ())))))))) fun z2 =>
 needC (rng .i64 (z2.2.1 - z2.2.2.1)) (
 bindC (CFH84_v3 z2.1 (z2.2.1 - z2.2.2.1) z2.2.1 z2.2.2.1 z2.2.2.2.1 z2.2.2.2.2.1 z2.2.2.2.2.2.1) fun y3 =>
 some (y3.1, (y3.2.1, (y3.2.2.1, ()))))))
theorem CFH83_v3_le (nv0 : Nat) (v1 : Int) (v2 : Int) (v3 : Int) (b0 : List (Int × Int)) (c1_0c0 : Int) (c1_0c1 : Int) : Le (CFH83_v3 nv0 v1 v2 v3 b0 c1_0c0 c1_0c1) (FH83_v3 nv0 v1 v2 v3 b0 c1_0c0 c1_0c1) := (Le.nd (Le.nd (Le.bd (Le.iter fun x => CgH83_v3_0_le ..) fun z2 => (Le.nd (Le.bd (CFH84_v3_le ..) fun y3 => Le.r)))))
theorem cH83_v3_ok : trF prog f83 = some ⟨58, 5, ddH83_v3.er, [], []⟩ := by kernel_rfl
noncomputable def ht83_v3 : Ht := ⟨83, pH83_v3, qH83_v3, (fun x => FH83_v3 x.1 x.2.1 x.2.2.1 x.2.2.2.1 x.2.2.2.2.1 x.2.2.2.2.2.1 x.2.2.2.2.2.2.1)⟩
theorem ht83_v3_ok : ht83_v3.Ok prog := ht_ok mixed cxH83_v3_ok rfl func83 cH83_v3_ok (enters_of func83 rfl rfl) ddH83_v3 rfl rfl rfl ⟨_, rfl⟩ rfl (pre := [0, 1]) rfl (fun x => by kernel_rfl)

/- 82, lent -/
@[reducible] def pH82_v3 : Pat := Pat.mk [(0, .c (.sl0 0 (.prod (.int .i64) (.int .i64)))), (1, .c (.hole (.int .i64))), (2, .c (.hole (.int .i64))), (3, .c (.hole (.int .i64))), (4, .fn 75 [] [.ptr 1 0])] [(0, .arr (.prod (.int .i64) (.int .i64)) false), (1, .cells [.fn 78 .nil (.cons (.ipc (.int .i64)) (.cons (.ipc (.int .i64)) .nil))] false)] [.slot 0, .part 4 0] []
@[reducible] def qH82_v3 : Pat := Pat.mk [(0, .c .any)] [(1, .cells [.fn 78 .nil (.cons (.ipc (.int .i64)) (.cons (.ipc (.int .i64)) .nil))] false), (0, .arr (.prod (.int .i64) (.int .i64)) false)] [] []
noncomputable def cxH82_v3 (rec : pH82_v3.T → Option qH82_v3.T) : Cx := mkCxH [ct75_v1] [ht83_v3, ⟨82, pH82_v3, qH82_v3, rec⟩]
theorem cxH82_v3_ok (rec : pH82_v3.T → Option qH82_v3.T) (h : Ht.Ok prog ⟨82, pH82_v3, qH82_v3, rec⟩) : (cxH82_v3 rec).Ok prog := mkCxH_ok ⟨ct75_v1_ok, trivial⟩ ⟨⟨ht83_v3_ok, rfl⟩, ⟨h, rfl⟩, trivial⟩
@[reducible] def pH82_v3_0 : Pat := Pat.mk [(0, .c (.sl0 0 (.prod (.int .i64) (.int .i64)))), (1, .c (.hole (.int .i64))), (4, .fn 75 [] [.ptr 1 0]), (10, .c (.hole (.int .i64))), (11, .c (.hole (.int .i64)))] [(0, .arr (.prod (.int .i64) (.int .i64)) false), (1, .cells [.fn 78 .nil (.cons (.ipc (.int .i64)) (.cons (.ipc (.int .i64)) .nil))] false)] [] []
@[reducible] def xH82_v3_0 : Outs := [(.exit 0, Pat.mk [(0, .c (.sl0 0 (.prod (.int .i64) (.int .i64)))), (1, .c (.hole (.int .i64))), (10, .c (.hole (.int .i64)))] [(0, .arr (.prod (.int .i64) (.int .i64)) false), (1, .cells [.fn 78 .nil (.cons (.ipc (.int .i64)) (.cons (.ipc (.int .i64)) .nil))] false)] [] [])]
noncomputable def bH82_v3_0 (rec : pH82_v3.T → Option qH82_v3.T) (h : Ht.Ok prog ⟨82, pH82_v3, qH82_v3, rec⟩) : D prog 220 none 2 := (.seq (.seq (.reg [.op (some 31) none (.mv (.t 10)), .op (some 32) none (.mv (.t 11)), .op (some 33) none (.bin .lss (.t 31) (.t 32))]) (.cond ( .t 33) .skip (.exit 0))) (.block 1 (.seq (.reg [.op (some 34) none (.mv (.t 10)), .op (some 35) none (.mv (.t 11)), .op (some 36) none (.bin .add (.t 34) (.t 35)), .op (some 37) none (.conv .u64 (.t 36)), .op (some 38) none (.bin .shr (.t 37) (.c (.int .u64 (Int.ofNat 1)))), .op (some 39) none (.conv .i64 (.t 38)), .op (some 12) none (.mv (.t 39))]) (.seq (.draw [[], [], [], [1, 2], [1, 2, 3], [], [], [5, 6], [5, 6, 7], [0, 1, 2, 3, 4, 5, 6, 7, 8], [0, 1, 2, 3, 4, 5, 6, 7, 8, 9]] [.op (some 40) none (.mv (.t 4)), .op (some 41) none (.mv (.t 0)), .op (some 42) none (.mv (.t 12)), .op (some 43) none (.idx 2 (.t 41) (.t 42)), .op (some 44) none (.load true 2 (.t 43)), .op (some 45) none (.mv (.t 0)), .op (some 46) none (.mv (.t 1)), .op (some 47) none (.idx 2 (.t 45) (.t 46)), .op (some 48) none (.load true 2 (.t 47)), .call (some 49) none (.t 40) [.t 44, .t 48] [some (.prod (.int .i64) (.int .i64)), some (.prod (.int .i64) (.int .i64))], .op (some 50) none (.bin .lss (.t 49) (.c (.int .i64 (Int.ofNat 0))))]) (.cond ( .t 50) (.reg [.op (some 51) none (.mv (.t 12)), .op (some 52) none (.bin .add (.t 51) (.c (.int .i64 (Int.ofNat 1)))), .op (some 10) none (.mv (.t 52))]) (.reg [.op (some 53) none (.mv (.t 12)), .op (some 11) none (.mv (.t 53))]))))))
noncomputable def gH82_v3_0 (rec : pH82_v3.T → Option qH82_v3.T) (nv0 : Nat) (v1 : Int) (v10 : Int) (v11 : Int) (b0 : List (Int × Int)) (c1_0c0 : Int) (c1_0c1 : Int) : Option ((Nat × Int × Int × Int × (List (Int × Int)) × Int × Int × Unit) ⊕ ((Nat × Int × Int × (List (Int × Int)) × Int × Int × Unit))) :=
 brO (decide (v10 < v11)) (
 need (rng .i64 (v10 + v11)) (
 need (rng .u64 (v10 + v11)) (
 need (inb (1 : Int) (64 : Int)) (
 need (rng .i64 (ar0.shr (v10 + v11) (1 : Int))) (
 need (inb (ar0.shr (v10 + v11) (1 : Int)) ((nv0 : Nat) : Int)) (
 need (decide (((0 : Nat) + (Int.toNat (ar0.shr (v10 + v11) (1 : Int)))) < (b0).length)) (
 need (inb v1 ((nv0 : Nat) : Int)) (
 need (decide (((0 : Nat) + (Int.toNat v1)) < (b0).length)) (
 bindO (F75_v1 (((b0).getD ((0 : Nat) + (Int.toNat (ar0.shr (v10 + v11) (1 : Int)))) ((0 : Int), (0 : Int))).1, ((b0).getD ((0 : Nat) + (Int.toNat (ar0.shr (v10 + v11) (1 : Int)))) ((0 : Int), (0 : Int))).2) (((b0).getD ((0 : Nat) + (Int.toNat v1)) ((0 : Int), (0 : Int))).1, ((b0).getD ((0 : Nat) + (Int.toNat v1)) ((0 : Int), (0 : Int))).2) c1_0c0 c1_0c1) fun y0 =>
 brO (decide (y0.1 < (0 : Int))) (
 need (rng .i64 ((ar0.shr (v10 + v11) (1 : Int)) + (1 : Int))) (
 some (.inl (nv0, (v1, (((ar0.shr (v10 + v11) (1 : Int)) + (1 : Int)), (v11, (b0, (c1_0c0, (c1_0c1, ())))))))))) (
 some (.inl (nv0, (v1, (v10, ((ar0.shr (v10 + v11) (1 : Int)), (b0, (c1_0c0, (c1_0c1, ())))))))))))))))))) (
 some (.inr (nv0, (v1, (v10, (b0, (c1_0c0, (c1_0c1, ()))))))))
def CgH82_v3_0 (rec : pH82_v3.T → Option qH82_v3.T) (nv0 : Nat) (v1 : Int) (v10 : Int) (v11 : Int) (b0 : List (Int × Int)) (c1_0c0 : Int) (c1_0c1 : Int) : Option ((Nat × Int × Int × Int × (List (Int × Int)) × Int × Int × Unit) ⊕ ((Nat × Int × Int × (List (Int × Int)) × Int × Int × Unit))) :=
 brC (decide (v10 < v11)) (
 needC (rng .i64 (v10 + v11)) (
 needC (rng .u64 (v10 + v11)) (
 needC (inb (1 : Int) (64 : Int)) (
 needC (rng .i64 (ar0.shr (v10 + v11) (1 : Int))) (
 needC (inb (ar0.shr (v10 + v11) (1 : Int)) ((nv0 : Nat) : Int)) (
 needC (decide (((0 : Nat) + (Int.toNat (ar0.shr (v10 + v11) (1 : Int)))) < (b0).length)) (
 needC (inb v1 ((nv0 : Nat) : Int)) (
 needC (decide (((0 : Nat) + (Int.toNat v1)) < (b0).length)) (
 bindC (CF75_v1 (((b0).getD ((0 : Nat) + (Int.toNat (ar0.shr (v10 + v11) (1 : Int)))) ((0 : Int), (0 : Int))).1, ((b0).getD ((0 : Nat) + (Int.toNat (ar0.shr (v10 + v11) (1 : Int)))) ((0 : Int), (0 : Int))).2) (((b0).getD ((0 : Nat) + (Int.toNat v1)) ((0 : Int), (0 : Int))).1, ((b0).getD ((0 : Nat) + (Int.toNat v1)) ((0 : Int), (0 : Int))).2) c1_0c0 c1_0c1) fun y0 =>
 brC (decide (y0.1 < (0 : Int))) (
 needC (rng .i64 ((ar0.shr (v10 + v11) (1 : Int)) + (1 : Int))) (
 some (.inl (nv0, (v1, (((ar0.shr (v10 + v11) (1 : Int)) + (1 : Int)), (v11, (b0, (c1_0c0, (c1_0c1, ())))))))))) (
 some (.inl (nv0, (v1, (v10, ((ar0.shr (v10 + v11) (1 : Int)), (b0, (c1_0c0, (c1_0c1, ())))))))))))))))))) (
 some (.inr (nv0, (v1, (v10, (b0, (c1_0c0, (c1_0c1, ()))))))))
theorem CgH82_v3_0_le' {rec rec' : pH82_v3.T → Option qH82_v3.T} (hr : ∀ x, Le (rec x) (rec' x)) (nv0 : Nat) (v1 : Int) (v10 : Int) (v11 : Int) (b0 : List (Int × Int)) (c1_0c0 : Int) (c1_0c1 : Int) : Le (CgH82_v3_0 rec nv0 v1 v10 v11 b0 c1_0c0 c1_0c1) (gH82_v3_0 rec' nv0 v1 v10 v11 b0 c1_0c0 c1_0c1) := (Le.br (Le.nd (Le.nd (Le.nd (Le.nd (Le.nd (Le.nd (Le.nd (Le.nd (Le.bd (CF75_v1_le ..) fun y0 => (Le.br (Le.nd Le.r) Le.r)))))))))) Le.r)
theorem sH82_v3_0 (rec : pH82_v3.T → Option qH82_v3.T) (h : Ht.Ok prog ⟨82, pH82_v3, qH82_v3, rec⟩) : ∀ x, roundE (kzO (pH82_v3_0.T ⊕ xH82_v3_0.T)) (cxH82_v3 rec) ar0 [0, 1] pH82_v3_0 xH82_v3_0 (bH82_v3_0 rec h) (fun y => some (.inl y)) (fun b => some (.inr b)) x = gH82_v3_0 rec x.1 x.2.1 x.2.2.1 x.2.2.2.1 x.2.2.2.2.1 x.2.2.2.2.2.1 x.2.2.2.2.2.2.1 := by intro x; kernel_rfl
noncomputable def LH82_v3_0 (rec : pH82_v3.T → Option qH82_v3.T) (h : Ht.Ok prog ⟨82, pH82_v3, qH82_v3, rec⟩) : LoopS prog 220 none 2 := mkLoop mixed (cxH82_v3 rec) (cxH82_v3_ok rec h) [0, 1] rfl pH82_v3_0 xH82_v3_0 rfl (bH82_v3_0 rec h) (fun x => gH82_v3_0 rec x.1 x.2.1 x.2.2.1 x.2.2.2.1 x.2.2.2.2.1 x.2.2.2.2.2.1 x.2.2.2.2.2.2.1) (sH82_v3_0 rec h)
@[reducible] def pH82_v3_1 : Pat := Pat.mk [(0, .c (.sl0 0 (.prod (.int .i64) (.int .i64)))), (10, .c (.hole (.int .i64))), (13, .c (.hole (.int .i64)))] [(0, .arr (.prod (.int .i64) (.int .i64)) false), (1, .cells [.fn 78 .nil (.cons (.ipc (.int .i64)) (.cons (.ipc (.int .i64)) .nil))] false)] [] []
@[reducible] def xH82_v3_1 : Outs := [(.exit 2, Pat.mk [] [(1, .cells [.fn 78 .nil (.cons (.ipc (.int .i64)) (.cons (.ipc (.int .i64)) .nil))] false), (0, .arr (.prod (.int .i64) (.int .i64)) false)] [] [])]
noncomputable def bH82_v3_1 (rec : pH82_v3.T → Option qH82_v3.T) (h : Ht.Ok prog ⟨82, pH82_v3, qH82_v3, rec⟩) : D prog 220 none 2 := (.seq (.seq (.reg [.op (some 55) none (.mv (.t 13)), .op (some 56) none (.mv (.t 10)), .op (some 57) none (.bin .sub (.t 56) (.c (.int .i64 (Int.ofNat 1)))), .op (some 58) none (.bin .lss (.t 55) (.t 57))]) (.cond ( .t 58) .skip (.exit 2))) (.seq (.block 3 (.draw [[], [], [], [], [3], [], [], [6], [5, 6, 7], [5, 6, 7, 8], [], [], [10, 11], [10, 11, 12], [0, 1, 5, 6, 7, 8, 9, 10, 11, 12, 13], [0, 1, 5, 6, 7, 8, 9, 10, 11, 12, 13, 14], [0, 1, 2, 3, 4, 5, 6, 7, 8, 9, 10, 11, 12, 13, 14, 15], [0, 1, 2, 3, 4, 5, 6, 7, 8, 9, 10, 11, 12, 13, 14, 15, 16]] [.op (some 61) none (.mv (.t 0)), .op (some 62) none (.mv (.t 13)), .op (some 63) none (.mv (.t 0)), .op (some 64) none (.mv (.t 13)), .op (some 65) none (.bin .add (.t 64) (.c (.int .i64 (Int.ofNat 1)))), .op (some 66) none (.mv (.t 0)), .op (some 67) none (.mv (.t 13)), .op (some 68) none (.bin .add (.t 67) (.c (.int .i64 (Int.ofNat 1)))), .op (some 69) none (.idx 2 (.t 66) (.t 68)), .op (some 70) none (.load true 2 (.t 69)), .op (some 71) none (.mv (.t 0)), .op (some 72) none (.mv (.t 13)), .op (some 73) none (.idx 2 (.t 71) (.t 72)), .op (some 74) none (.load true 2 (.t 73)), .op (some 75) none (.idx 2 (.t 61) (.t 62)), .op none none (.store 2 (.t 75) (.t 70)), .op (some 76) none (.idx 2 (.t 63) (.t 65)), .op none none (.store 2 (.t 76) (.t 74))])) (.reg [.op (some 59) none (.mv (.t 13)), .op (some 60) none (.bin .add (.t 59) (.c (.int .i64 (Int.ofNat 1)))), .op (some 13) none (.mv (.t 60))])))
noncomputable def gH82_v3_1 (rec : pH82_v3.T → Option qH82_v3.T) (nv0 : Nat) (v10 : Int) (v13 : Int) (b0 : List (Int × Int)) (c1_0c0 : Int) (c1_0c1 : Int) : Option ((Nat × Int × Int × (List (Int × Int)) × Int × Int × Unit) ⊕ ((Int × Int × (List (Int × Int)) × Unit))) :=
 need (rng .i64 (v10 - (1 : Int))) (
 brO (decide (v13 < (v10 - (1 : Int)))) (
 need (rng .i64 (v13 + (1 : Int))) (
 need (rng .i64 (v13 + (1 : Int))) (
 need (inb (v13 + (1 : Int)) ((nv0 : Nat) : Int)) (
 need (decide (((0 : Nat) + (Int.toNat (v13 + (1 : Int)))) < (b0).length)) (
 need (inb v13 ((nv0 : Nat) : Int)) (
 need (decide (((0 : Nat) + (Int.toNat v13)) < (b0).length)) (
 need (inb v13 ((nv0 : Nat) : Int)) (
 need (decide (((0 : Nat) + (Int.toNat v13)) < (b0).length)) (
 need (inb (v13 + (1 : Int)) ((nv0 : Nat) : Int)) (
 need (decide (((0 : Nat) + (Int.toNat (v13 + (1 : Int)))) < (((b0).set ((0 : Nat) + (Int.toNat v13)) (((b0).getD ((0 : Nat) + (Int.toNat (v13 + (1 : Int)))) ((0 : Int), (0 : Int))).1, ((b0).getD ((0 : Nat) + (Int.toNat (v13 + (1 : Int)))) ((0 : Int), (0 : Int))).2))).length)) (
 need (rng .i64 (v13 + (1 : Int))) (
 some (.inl (nv0, (v10, ((v13 + (1 : Int)), (((((b0).set ((0 : Nat) + (Int.toNat v13)) (((b0).getD ((0 : Nat) + (Int.toNat (v13 + (1 : Int)))) ((0 : Int), (0 : Int))).1, ((b0).getD ((0 : Nat) + (Int.toNat (v13 + (1 : Int)))) ((0 : Int), (0 : Int))).2))).set ((0 : Nat) + (Int.toNat (v13 + (1 : Int)))) (((b0).getD ((0 : Nat) + (Int.toNat v13)) ((0 : Int), (0 : Int))).1, ((b0).getD ((0 : Nat) + (Int.toNat v13)) ((0 : Int), (0 : Int))).2)), (c1_0c0, (c1_0c1, ()))))))))))))))))))) (
 some (.inr (c1_0c0, (c1_0c1, (b0, ()))))))
def CgH82_v3_1 (rec : pH82_v3.T → Option qH82_v3.T) (nv0 : Nat) (v10 : Int) (v13 : Int) (b0 : List (Int × Int)) (c1_0c0 : Int) (c1_0c1 : Int) : Option ((Nat × Int × Int × (List (Int × Int)) × Int × Int × Unit) ⊕ ((Int × Int × (List (Int × Int)) × Unit))) :=
 needC (rng .i64 (v10 - (1 : Int))) (
 brC (decide (v13 < (v10 - (1 : Int)))) (
 needC (rng .i64 (v13 + (1 : Int))) (
 needC (rng .i64 (v13 + (1 : Int))) (
 needC (inb (v13 + (1 : Int)) ((nv0 : Nat) : Int)) (
 needC (decide (((0 : Nat) + (Int.toNat (v13 + (1 : Int)))) < (b0).length)) (
 needC (inb v13 ((nv0 : Nat) : Int)) (
 needC (decide (((0 : Nat) + (Int.toNat v13)) < (b0).length)) (
 needC (inb v13 ((nv0 : Nat) : Int)) (
 needC (decide (((0 : Nat) + (Int.toNat v13)) < (b0).length)) (
 needC (inb (v13 + (1 : Int)) ((nv0 : Nat) : Int)) (
 needC (decide (((0 : Nat) + (Int.toNat (v13 + (1 : Int)))) < (((b0).set ((0 : Nat) + (Int.toNat v13)) (((b0).getD ((0 : Nat) + (Int.toNat (v13 + (1 : Int)))) ((0 : Int), (0 : Int))).1, ((b0).getD ((0 : Nat) + (Int.toNat (v13 + (1 : Int)))) ((0 : Int), (0 : Int))).2))).length)) (
 needC (rng .i64 (v13 + (1 : Int))) (
 some (.inl (nv0, (v10, ((v13 + (1 : Int)), (((((b0).set ((0 : Nat) + (Int.toNat v13)) (((b0).getD ((0 : Nat) + (Int.toNat (v13 + (1 : Int)))) ((0 : Int), (0 : Int))).1, ((b0).getD ((0 : Nat) + (Int.toNat (v13 + (1 : Int)))) ((0 : Int), (0 : Int))).2))).set ((0 : Nat) + (Int.toNat (v13 + (1 : Int)))) (((b0).getD ((0 : Nat) + (Int.toNat v13)) ((0 : Int), (0 : Int))).1, ((b0).getD ((0 : Nat) + (Int.toNat v13)) ((0 : Int), (0 : Int))).2)), (c1_0c0, (c1_0c1, ()))))))))))))))))))) (
 some (.inr (c1_0c0, (c1_0c1, (b0, ()))))))
theorem CgH82_v3_1_le' {rec rec' : pH82_v3.T → Option qH82_v3.T} (hr : ∀ x, Le (rec x) (rec' x)) (nv0 : Nat) (v10 : Int) (v13 : Int) (b0 : List (Int × Int)) (c1_0c0 : Int) (c1_0c1 : Int) : Le (CgH82_v3_1 rec nv0 v10 v13 b0 c1_0c0 c1_0c1) (gH82_v3_1 rec' nv0 v10 v13 b0 c1_0c0 c1_0c1) := (Le.nd (Le.br (Le.nd (Le.nd (Le.nd (Le.nd (Le.nd (Le.nd (Le.nd (Le.nd (Le.nd (Le.nd (Le.nd Le.r))))))))))) Le.r))
theorem sH82_v3_1 (rec : pH82_v3.T → Option qH82_v3.T) (h : Ht.Ok prog ⟨82, pH82_v3, qH82_v3, rec⟩) : ∀ x, roundE (kzO (pH82_v3_1.T ⊕ xH82_v3_1.T)) (cxH82_v3 rec) ar0 [0, 1] pH82_v3_1 xH82_v3_1 (bH82_v3_1 rec h) (fun y => some (.inl y)) (fun b => some (.inr b)) x = gH82_v3_1 rec x.1 x.2.1 x.2.2.1 x.2.2.2.1 x.2.2.2.2.1 x.2.2.2.2.2.1 := by intro x; kernel_rfl
noncomputable def LH82_v3_1 (rec : pH82_v3.T → Option qH82_v3.T) (h : Ht.Ok prog ⟨82, pH82_v3, qH82_v3, rec⟩) : LoopS prog 220 none 2 := mkLoop mixed (cxH82_v3 rec) (cxH82_v3_ok rec h) [0, 1] rfl pH82_v3_1 xH82_v3_1 rfl (bH82_v3_1 rec h) (fun x => gH82_v3_1 rec x.1 x.2.1 x.2.2.1 x.2.2.2.1 x.2.2.2.2.1 x.2.2.2.2.2.1) (sH82_v3_1 rec h)
@[reducible] def pH82_v3_2 : Pat := Pat.mk [(0, .c (.sl0 0 (.prod (.int .i64) (.int .i64)))), (2, .c (.hole (.int .i64))), (4, .fn 75 [] [.ptr 1 0]), (14, .c (.hole (.int .i64))), (15, .c (.hole (.int .i64)))] [(0, .arr (.prod (.int .i64) (.int .i64)) false), (1, .cells [.fn 78 .nil (.cons (.ipc (.int .i64)) (.cons (.ipc (.int .i64)) .nil))] false)] [] []
@[reducible] def xH82_v3_2 : Outs := [(.exit 4, Pat.mk [(0, .c (.sl0 0 (.prod (.int .i64) (.int .i64)))), (2, .c (.hole (.int .i64))), (14, .c (.hole (.int .i64)))] [(0, .arr (.prod (.int .i64) (.int .i64)) false), (1, .cells [.fn 78 .nil (.cons (.ipc (.int .i64)) (.cons (.ipc (.int .i64)) .nil))] false)] [] [])]
noncomputable def bH82_v3_2 (rec : pH82_v3.T → Option qH82_v3.T) (h : Ht.Ok prog ⟨82, pH82_v3, qH82_v3, rec⟩) : D prog 220 none 2 := (.seq (.seq (.reg [.op (some 83) none (.mv (.t 14)), .op (some 84) none (.mv (.t 15)), .op (some 85) none (.bin .lss (.t 83) (.t 84))]) (.cond ( .t 85) .skip (.exit 4))) (.block 5 (.seq (.reg [.op (some 86) none (.mv (.t 14)), .op (some 87) none (.mv (.t 15)), .op (some 88) none (.bin .add (.t 86) (.t 87)), .op (some 89) none (.conv .u64 (.t 88)), .op (some 90) none (.bin .shr (.t 89) (.c (.int .u64 (Int.ofNat 1)))), .op (some 91) none (.conv .i64 (.t 90)), .op (some 16) none (.mv (.t 91))]) (.seq (.draw [[], [], [], [1, 2], [1, 2, 3], [], [], [5, 6], [5, 6, 7], [0, 1, 2, 3, 4, 5, 6, 7, 8], [0, 1, 2, 3, 4, 5, 6, 7, 8, 9], [0, 1, 2, 3, 4, 5, 6, 7, 8, 9, 10]] [.op (some 92) none (.mv (.t 4)), .op (some 93) none (.mv (.t 0)), .op (some 94) none (.mv (.t 2)), .op (some 95) none (.idx 2 (.t 93) (.t 94)), .op (some 96) none (.load true 2 (.t 95)), .op (some 97) none (.mv (.t 0)), .op (some 98) none (.mv (.t 16)), .op (some 99) none (.idx 2 (.t 97) (.t 98)), .op (some 100) none (.load true 2 (.t 99)), .call (some 101) none (.t 92) [.t 96, .t 100] [some (.prod (.int .i64) (.int .i64)), some (.prod (.int .i64) (.int .i64))], .op (some 102) none (.bin .lss (.t 101) (.c (.int .i64 (Int.ofNat 0)))), .op (some 103) none (.not (.t 102))]) (.cond ( .t 103) (.reg [.op (some 104) none (.mv (.t 16)), .op (some 105) none (.bin .add (.t 104) (.c (.int .i64 (Int.ofNat 1)))), .op (some 14) none (.mv (.t 105))]) (.reg [.op (some 106) none (.mv (.t 16)), .op (some 15) none (.mv (.t 106))]))))))
noncomputable def gH82_v3_2 (rec : pH82_v3.T → Option qH82_v3.T) (nv0 : Nat) (v2 : Int) (v14 : Int) (v15 : Int) (b0 : List (Int × Int)) (c1_0c0 : Int) (c1_0c1 : Int) : Option ((Nat × Int × Int × Int × (List (Int × Int)) × Int × Int × Unit) ⊕ ((Nat × Int × Int × (List (Int × Int)) × Int × Int × Unit))) :=
 brO (decide (v14 < v15)) (
 need (rng .i64 (v14 + v15)) (
 need (rng .u64 (v14 + v15)) (
 need (inb (1 : Int) (64 : Int)) (
 need (rng .i64 (ar0.shr (v14 + v15) (1 : Int))) (
 need (inb v2 ((nv0 : Nat) : Int)) (
 need (decide (((0 : Nat) + (Int.toNat v2)) < (b0).length)) (
 need (inb (ar0.shr (v14 + v15) (1 : Int)) ((nv0 : Nat) : Int)) (
 need (decide (((0 : Nat) + (Int.toNat (ar0.shr (v14 + v15) (1 : Int)))) < (b0).length)) (
 bindO (F75_v1 (((b0).getD ((0 : Nat) + (Int.toNat v2)) ((0 : Int), (0 : Int))).1, ((b0).getD ((0 : Nat) + (Int.toNat v2)) ((0 : Int), (0 : Int))).2) (((b0).getD ((0 : Nat) + (Int.toNat (ar0.shr (v14 + v15) (1 : Int)))) ((0 : Int), (0 : Int))).1, ((b0).getD ((0 : Nat) + (Int.toNat (ar0.shr (v14 + v15) (1 : Int)))) ((0 : Int), (0 : Int))).2) c1_0c0 c1_0c1) fun y3 =>
 brO (!(decide (y3.1 < (0 : Int)))) (
 need (rng .i64 ((ar0.shr (v14 + v15) (1 : Int)) + (1 : Int))) (
 some (.inl (nv0, (v2, (((ar0.shr (v14 + v15) (1 : Int)) + (1 : Int)), (v15, (b0, (c1_0c0, (c1_0c1, ())))))))))) (
 some (.inl (nv0, (v2, (v14, ((ar0.shr (v14 + v15) (1 : Int)), (b0, (c1_0c0, (c1_0c1, ())))))))))))))))))) (
 some (.inr (nv0, (v2, (v14, (b0, (c1_0c0, (c1_0c1, ()))))))))
def CgH82_v3_2 (rec : pH82_v3.T → Option qH82_v3.T) (nv0 : Nat) (v2 : Int) (v14 : Int) (v15 : Int) (b0 : List (Int × Int)) (c1_0c0 : Int) (c1_0c1 : Int) : Option ((Nat × Int × Int × Int × (List (Int × Int)) × Int × Int × Unit) ⊕ ((Nat × Int × Int × (List (Int × Int)) × Int × Int × Unit))) :=
 brC (decide (v14 < v15)) (
 needC (rng .i64 (v14 + v15)) (
 needC (rng .u64 (v14 + v15)) (
 needC (inb (1 : Int) (64 : Int)) (
 needC (rng .i64 (ar0.shr (v14 + v15) (1 : Int))) (
 needC (inb v2 ((nv0 : Nat) : Int)) (
 needC (decide (((0 : Nat) + (Int.toNat v2)) < (b0).length)) (
 needC (inb (ar0.shr (v14 + v15) (1 : Int)) ((nv0 : Nat) : Int)) (
 needC (decide (((0 : Nat) + (Int.toNat (ar0.shr (v14 + v15) (1 : Int)))) < (b0).length)) (
 bindC (CF75_v1 (((b0).getD ((0 : Nat) + (Int.toNat v2)) ((0 : Int), (0 : Int))).1, ((b0).getD ((0 : Nat) + (Int.toNat v2)) ((0 : Int), (0 : Int))).2) (((b0).getD ((0 : Nat) + (Int.toNat (ar0.shr (v14 + v15) (1 : Int)))) ((0 : Int), (0 : Int))).1, ((b0).getD ((0 : Nat) + (Int.toNat (ar0.shr (v14 + v15) (1 : Int)))) ((0 : Int), (0 : Int))).2) c1_0c0 c1_0c1) fun y3 =>
 brC (!(decide (y3.1 < (0 : Int)))) (
 needC (rng .i64 ((ar0.shr (v14 + v15) (1 : Int)) + (1 : Int))) (
 some (.inl (nv0, (v2, (((ar0.shr (v14 + v15) (1 : Int)) + (1 : Int)), (v15, (b0, (c1_0c0, (c1_0c1, ())))))))))) (
 some (.inl (nv0, (v2, (v14, ((ar0.shr (v14 + v15) (1 : Int)), (b0, (c1_0c0, (c1_0c1, ())))))))))))))))))) (
 some (.inr (nv0, (v2, (v14, (b0, (c1_0c0, (c1_0c1, ()))))))))
theorem CgH82_v3_2_le' {rec rec' : pH82_v3.T → Option qH82_v3.T} (hr : ∀ x, Le (rec x) (rec' x)) (nv0 : Nat) (v2 : Int) (v14 : Int) (v15 : Int) (b0 : List (Int × Int)) (c1_0c0 : Int) (c1_0c1 : Int) : Le (CgH82_v3_2 rec nv0 v2 v14 v15 b0 c1_0c0 c1_0c1) (gH82_v3_2 rec' nv0 v2 v14 v15 b0 c1_0c0 c1_0c1) := (Le.br (Le.nd (Le.nd (Le.nd (Le.nd (Le.nd (Le.nd (Le.nd (Le.nd (Le.bd (CF75_v1_le ..) fun y3 => (Le.br (Le.nd Le.r) Le.r)))))))))) Le.r)
theorem sH82_v3_2 (rec : pH82_v3.T → Option qH82_v3.T) (h : Ht.Ok prog ⟨82, pH82_v3, qH82_v3, rec⟩) : ∀ x, roundE (kzO (pH82_v3_2.T ⊕ xH82_v3_2.T)) (cxH82_v3 rec) ar0 [0, 1] pH82_v3_2 xH82_v3_2 (bH82_v3_2 rec h) (fun y => some (.inl y)) (fun b => some (.inr b)) x = gH82_v3_2 rec x.1 x.2.1 x.2.2.1 x.2.2.2.1 x.2.2.2.2.1 x.2.2.2.2.2.1 x.2.2.2.2.2.2.1 := by intro x; kernel_rfl
noncomputable def LH82_v3_2 (rec : pH82_v3.T → Option qH82_v3.T) (h : Ht.Ok prog ⟨82, pH82_v3, qH82_v3, rec⟩) : LoopS prog 220 none 2 := mkLoop mixed (cxH82_v3 rec) (cxH82_v3_ok rec h) [0, 1] rfl pH82_v3_2 xH82_v3_2 rfl (bH82_v3_2 rec h) (fun x => gH82_v3_2 rec x.1 x.2.1 x.2.2.1 x.2.2.2.1 x.2.2.2.2.1 x.2.2.2.2.2.1 x.2.2.2.2.2.2.1) (sH82_v3_2 rec h)
@[reducible] def pH82_v3_3 : Pat := Pat.mk [(0, .c (.sl0 0 (.prod (.int .i64) (.int .i64)))), (14, .c (.hole (.int .i64))), (17, .c (.hole (.int .i64)))] [(0, .arr (.prod (.int .i64) (.int .i64)) false), (1, .cells [.fn 78 .nil (.cons (.ipc (.int .i64)) (.cons (.ipc (.int .i64)) .nil))] false)] [] []
@[reducible] def xH82_v3_3 : Outs := [(.exit 6, Pat.mk [] [(1, .cells [.fn 78 .nil (.cons (.ipc (.int .i64)) (.cons (.ipc (.int .i64)) .nil))] false), (0, .arr (.prod (.int .i64) (.int .i64)) false)] [] [])]
noncomputable def bH82_v3_3 (rec : pH82_v3.T → Option qH82_v3.T) (h : Ht.Ok prog ⟨82, pH82_v3, qH82_v3, rec⟩) : D prog 220 none 2 := (.seq (.seq (.reg [.op (some 108) none (.mv (.t 17)), .op (some 109) none (.mv (.t 14)), .op (some 110) none (.bin .gtr (.t 108) (.t 109))]) (.cond ( .t 110) .skip (.exit 6))) (.seq (.block 7 (.draw [[], [], [], [], [3], [], [], [6], [5, 6, 7], [5, 6, 7, 8], [], [], [10, 11], [10, 11, 12], [0, 1, 5, 6, 7, 8, 9, 10, 11, 12, 13], [0, 1, 5, 6, 7, 8, 9, 10, 11, 12, 13, 14], [0, 1, 2, 3, 4, 5, 6, 7, 8, 9, 10, 11, 12, 13, 14, 15], [0, 1, 2, 3, 4, 5, 6, 7, 8, 9, 10, 11, 12, 13, 14, 15, 16]] [.op (some 113) none (.mv (.t 0)), .op (some 114) none (.mv (.t 17)), .op (some 115) none (.mv (.t 0)), .op (some 116) none (.mv (.t 17)), .op (some 117) none (.bin .sub (.t 116) (.c (.int .i64 (Int.ofNat 1)))), .op (some 118) none (.mv (.t 0)), .op (some 119) none (.mv (.t 17)), .op (some 120) none (.bin .sub (.t 119) (.c (.int .i64 (Int.ofNat 1)))), .op (some 121) none (.idx 2 (.t 118) (.t 120)), .op (some 122) none (.load true 2 (.t 121)), .op (some 123) none (.mv (.t 0)), .op (some 124) none (.mv (.t 17)), .op (some 125) none (.idx 2 (.t 123) (.t 124)), .op (some 126) none (.load true 2 (.t 125)), .op (some 127) none (.idx 2 (.t 113) (.t 114)), .op none none (.store 2 (.t 127) (.t 122)), .op (some 128) none (.idx 2 (.t 115) (.t 117)), .op none none (.store 2 (.t 128) (.t 126))])) (.reg [.op (some 111) none (.mv (.t 17)), .op (some 112) none (.bin .sub (.t 111) (.c (.int .i64 (Int.ofNat 1)))), .op (some 17) none (.mv (.t 112))])))
noncomputable def gH82_v3_3 (rec : pH82_v3.T → Option qH82_v3.T) (nv0 : Nat) (v14 : Int) (v17 : Int) (b0 : List (Int × Int)) (c1_0c0 : Int) (c1_0c1 : Int) : Option ((Nat × Int × Int × (List (Int × Int)) × Int × Int × Unit) ⊕ ((Int × Int × (List (Int × Int)) × Unit))) :=
 brO (decide (v14 < v17)) (
 need (rng .i64 (v17 - (1 : Int))) (
 need (rng .i64 (v17 - (1 : Int))) (
 need (inb (v17 - (1 : Int)) ((nv0 : Nat) : Int)) (
 need (decide (((0 : Nat) + (Int.toNat (v17 - (1 : Int)))) < (b0).length)) (
 need (inb v17 ((nv0 : Nat) : Int)) (
 need (decide (((0 : Nat) + (Int.toNat v17)) < (b0).length)) (
 need (inb v17 ((nv0 : Nat) : Int)) (
 need (decide (((0 : Nat) + (Int.toNat v17)) < (b0).length)) (
 need (inb (v17 - (1 : Int)) ((nv0 : Nat) : Int)) (
 need (decide (((0 : Nat) + (Int.toNat (v17 - (1 : Int)))) < (((b0).set ((0 : Nat) + (Int.toNat v17)) (((b0).getD ((0 : Nat) + (Int.toNat (v17 - (1 : Int)))) ((0 : Int), (0 : Int))).1, ((b0).getD ((0 : Nat) + (Int.toNat (v17 - (1 : Int)))) ((0 : Int), (0 : Int))).2))).length)) (
 need (rng .i64 (v17 - (1 : Int))) (
 some (.inl (nv0, (v14, ((v17 - (1 : Int)), (((((b0).set ((0 : Nat) + (Int.toNat v17)) (((b0).getD ((0 : Nat) + (Int.toNat (v17 - (1 : Int)))) ((0 : Int), (0 : Int))).1, ((b0).getD ((0 : Nat) + (Int.toNat (v17 - (1 : Int)))) ((0 : Int), (0 : Int))).2))).set ((0 : Nat) + (Int.toNat (v17 - (1 : Int)))) (((b0).getD ((0 : Nat) + (Int.toNat v17)) ((0 : Int), (0 : Int))).1, ((b0).getD ((0 : Nat) + (Int.toNat v17)) ((0 : Int), (0 : Int))).2)), (c1_0c0, (c1_0c1, ()))))))))))))))))))) (
 some (.inr (c1_0c0, (c1_0c1, (b0, ())))))
def CgH82_v3_3 (rec : pH82_v3.T → Option qH82_v3.T) (nv0 : Nat) (v14 : Int) (v17 : Int) (b0 : List (Int × Int)) (c1_0c0 : Int) (c1_0c1 : Int) : Option ((Nat × Int × Int × (List (Int × Int)) × Int × Int × Unit) ⊕ ((Int × Int × (List (Int × Int)) × Unit))) :=
 brC (decide (v14 < v17)) (
 needC (rng .i64 (v17 - (1 : Int))) (
 needC (rng .i64 (v17 - (1 : Int))) (
 needC (inb (v17 - (1 : Int)) ((nv0 : Nat) : Int)) (
 needC (decide (((0 : Nat) + (Int.toNat (v17 - (1 : Int)))) < (b0).length)) (
 needC (inb v17 ((nv0 : Nat) : Int)) (
 needC (decide (((0 : Nat) + (Int.toNat v17)) < (b0).length)) (
 needC (inb v17 ((nv0 : Nat) : Int)) (
 needC (decide (((0 : Nat) + (Int.toNat v17)) < (b0).length)) (
 needC (inb (v17 - (1 : Int)) ((nv0 : Nat) : Int)) (
 needC (decide (((0 : Nat) + (Int.toNat (v17 - (1 : Int)))) < (((b0).set ((0 : Nat) + (Int.toNat v17)) (((b0).getD ((0 : Nat) + (Int.toNat (v17 - (1 : Int)))) ((0 : Int), (0 : Int))).1, ((b0).getD ((0 : Nat) + (Int.toNat (v17 - (1 : Int)))) ((0 : Int), (0 : Int))).2))).length)) (
 needC (rng .i64 (v17 - (1 : Int))) (
 some (.inl (nv0, (v14, ((v17 - (1 : Int)), (((((b0).set ((0 : Nat) + (Int.toNat v17)) (((b0).getD ((0 : Nat) + (Int.toNat (v17 - (1 : Int)))) ((0 : Int), (0 : Int))).1, ((b0).getD ((0 : Nat) + (Int.toNat (v17 - (1 : Int)))) ((0 : Int), (0 : Int))).2))).set ((0 : Nat) + (Int.toNat (v17 - (1 : Int)))) (((b0).getD ((0 : Nat) + (Int.toNat v17)) ((0 : Int), (0 : Int))).1, ((b0).getD ((0 : Nat) + (Int.toNat v17)) ((0 : Int), (0 : Int))).2)), (c1_0c0, (c1_0c1, ()))))))))))))))))))) (
 some (.inr (c1_0c0, (c1_0c1, (b0, ())))))
theorem CgH82_v3_3_le' {rec rec' : pH82_v3.T → Option qH82_v3.T} (hr : ∀ x, Le (rec x) (rec' x)) (nv0 : Nat) (v14 : Int) (v17 : Int) (b0 : List (Int × Int)) (c1_0c0 : Int) (c1_0c1 : Int) : Le (CgH82_v3_3 rec nv0 v14 v17 b0 c1_0c0 c1_0c1) (gH82_v3_3 rec' nv0 v14 v17 b0 c1_0c0 c1_0c1) := (Le.br (Le.nd (Le.nd (Le.nd (Le.nd (Le.nd (Le.nd (Le.nd (Le.nd (Le.nd (Le.nd (Le.nd Le.r))))))))))) Le.r)
theorem sH82_v3_3 (rec : pH82_v3.T → Option qH82_v3.T) (h : Ht.Ok prog ⟨82, pH82_v3, qH82_v3, rec⟩) : ∀ x, roundE (kzO (pH82_v3_3.T ⊕ xH82_v3_3.T)) (cxH82_v3 rec) ar0 [0, 1] pH82_v3_3 xH82_v3_3 (bH82_v3_3 rec h) (fun y => some (.inl y)) (fun b => some (.inr b)) x = gH82_v3_3 rec x.1 x.2.1 x.2.2.1 x.2.2.2.1 x.2.2.2.2.1 x.2.2.2.2.2.1 := by intro x; kernel_rfl
noncomputable def LH82_v3_3 (rec : pH82_v3.T → Option qH82_v3.T) (h : Ht.Ok prog ⟨82, pH82_v3, qH82_v3, rec⟩) : LoopS prog 220 none 2 := mkLoop mixed (cxH82_v3 rec) (cxH82_v3_ok rec h) [0, 1] rfl pH82_v3_3 xH82_v3_3 rfl (bH82_v3_3 rec h) (fun x => gH82_v3_3 rec x.1 x.2.1 x.2.2.1 x.2.2.2.1 x.2.2.2.2.1 x.2.2.2.2.2.1) (sH82_v3_3 rec h)
@[reducible] def pH82_v3_4 : Pat := Pat.mk [(0, .c (.sl0 0 (.prod (.int .i64) (.int .i64)))), (1, .c (.hole (.int .i64))), (2, .c (.hole (.int .i64))), (3, .c (.hole (.int .i64))), (4, .fn 75 [] [.ptr 1 0]), (18, .c (.hole (.int .i64))), (19, .c (.hole (.int .i64))), (20, .c (.hole (.int .i64))), (21, .c (.hole (.int .i64))), (22, .c (.hole (.int .i64)))] [(0, .arr (.prod (.int .i64) (.int .i64)) false), (1, .cells [.fn 78 .nil (.cons (.ipc (.int .i64)) (.cons (.ipc (.int .i64)) .nil))] false)] [] []
@[reducible] def xH82_v3_4 : Outs := [(.exit 8, Pat.mk [(0, .c (.sl0 0 (.prod (.int .i64) (.int .i64)))), (1, .c (.hole (.int .i64))), (2, .c (.hole (.int .i64))), (3, .c (.hole (.int .i64))), (4, .fn 75 [] [.ptr 1 0]), (18, .c (.hole (.int .i64))), (19, .c (.hole (.int .i64))), (20, .c (.hole (.int .i64)))] [(0, .arr (.prod (.int .i64) (.int .i64)) false), (1, .cells [.fn 78 .nil (.cons (.ipc (.int .i64)) (.cons (.ipc (.int .i64)) .nil))] false)] [] [])]
noncomputable def bH82_v3_4 (rec : pH82_v3.T → Option qH82_v3.T) (h : Ht.Ok prog ⟨82, pH82_v3, qH82_v3, rec⟩) : D prog 220 none 2 := (.seq (.seq (.reg [.op (some 149) none (.mv (.t 20)), .op (some 150) none (.mv (.t 21)), .op (some 151) none (.bin .lss (.t 149) (.t 150))]) (.cond ( .t 151) .skip (.exit 8))) (.block 9 (.seq (.reg [.op (some 152) none (.mv (.t 20)), .op (some 153) none (.mv (.t 21)), .op (some 154) none (.bin .add (.t 152) (.t 153)), .op (some 155) none (.conv .u64 (.t 154)), .op (some 156) none (.bin .shr (.t 155) (.c (.int .u64 (Int.ofNat 1)))), .op (some 157) none (.conv .i64 (.t 156)), .op (some 23) none (.mv (.t 157))]) (.seq (.draw [[], [], [], [], [2, 3], [1, 2, 3, 4], [1, 2, 3, 4, 5], [], [], [7, 8], [7, 8, 9], [0, 1, 2, 3, 4, 5, 6, 7, 8, 9, 10], [0, 1, 2, 3, 4, 5, 6, 7, 8, 9, 10, 11], [0, 1, 2, 3, 4, 5, 6, 7, 8, 9, 10, 11, 12]] [.op (some 158) none (.mv (.t 4)), .op (some 159) none (.mv (.t 0)), .op (some 160) none (.mv (.t 22)), .op (some 161) none (.mv (.t 23)), .op (some 162) none (.bin .sub (.t 160) (.t 161)), .op (some 163) none (.idx 2 (.t 159) (.t 162)), .op (some 164) none (.load true 2 (.t 163)), .op (some 165) none (.mv (.t 0)), .op (some 166) none (.mv (.t 23)), .op (some 167) none (.idx 2 (.t 165) (.t 166)), .op (some 168) none (.load true 2 (.t 167)), .call (some 169) none (.t 158) [.t 164, .t 168] [some (.prod (.int .i64) (.int .i64)), some (.prod (.int .i64) (.int .i64))], .op (some 170) none (.bin .lss (.t 169) (.c (.int .i64 (Int.ofNat 0)))), .op (some 171) none (.not (.t 170))]) (.cond ( .t 171) (.reg [.op (some 172) none (.mv (.t 23)), .op (some 173) none (.bin .add (.t 172) (.c (.int .i64 (Int.ofNat 1)))), .op (some 20) none (.mv (.t 173))]) (.reg [.op (some 174) none (.mv (.t 23)), .op (some 21) none (.mv (.t 174))]))))))
noncomputable def gH82_v3_4 (rec : pH82_v3.T → Option qH82_v3.T) (nv0 : Nat) (v1 : Int) (v2 : Int) (v3 : Int) (v18 : Int) (v19 : Int) (v20 : Int) (v21 : Int) (v22 : Int) (b0 : List (Int × Int)) (c1_0c0 : Int) (c1_0c1 : Int) : Option ((Nat × Int × Int × Int × Int × Int × Int × Int × Int × (List (Int × Int)) × Int × Int × Unit) ⊕ ((Nat × Int × Int × Int × Int × Int × Int × (List (Int × Int)) × Int × Int × Unit))) :=
 brO (decide (v20 < v21)) (
 need (rng .i64 (v20 + v21)) (
 need (rng .u64 (v20 + v21)) (
 need (inb (1 : Int) (64 : Int)) (
 need (rng .i64 (ar0.shr (v20 + v21) (1 : Int))) (
 need (rng .i64 (v22 - (ar0.shr (v20 + v21) (1 : Int)))) (
 need (inb (v22 - (ar0.shr (v20 + v21) (1 : Int))) ((nv0 : Nat) : Int)) (
 need (decide (((0 : Nat) + (Int.toNat (v22 - (ar0.shr (v20 + v21) (1 : Int))))) < (b0).length)) (
 need (inb (ar0.shr (v20 + v21) (1 : Int)) ((nv0 : Nat) : Int)) (
 need (decide (((0 : Nat) + (Int.toNat (ar0.shr (v20 + v21) (1 : Int)))) < (b0).length)) (
 bindO (F75_v1 (((b0).getD ((0 : Nat) + (Int.toNat (v22 - (ar0.shr (v20 + v21) (1 : Int))))) ((0 : Int), (0 : Int))).1, ((b0).getD ((0 : Nat) + (Int.toNat (v22 - (ar0.shr (v20 + v21) (1 : Int))))) ((0 : Int), (0 : Int))).2) (((b0).getD ((0 : Nat) + (Int.toNat (ar0.shr (v20 + v21) (1 : Int)))) ((0 : Int), (0 : Int))).1, ((b0).getD ((0 : Nat) + (Int.toNat (ar0.shr (v20 + v21) (1 : Int)))) ((0 : Int), (0 : Int))).2) c1_0c0 c1_0c1) fun y6 =>
 brO (!(decide (y6.1 < (0 : Int)))) (
 need (rng .i64 ((ar0.shr (v20 + v21) (1 : Int)) + (1 : Int))) (
 some (.inl (nv0, (v1, (v2, (v3, (v18, (v19, (((ar0.shr (v20 + v21) (1 : Int)) + (1 : Int)), (v21, (v22, (b0, (c1_0c0, (c1_0c1, ()))))))))))))))) (
 some (.inl (nv0, (v1, (v2, (v3, (v18, (v19, (v20, ((ar0.shr (v20 + v21) (1 : Int)), (v22, (b0, (c1_0c0, (c1_0c1, ())))))))))))))))))))))))) (
 some (.inr (nv0, (v1, (v2, (v3, (v18, (v19, (v20, (b0, (c1_0c0, (c1_0c1, ()))))))))))))
def CgH82_v3_4 (rec : pH82_v3.T → Option qH82_v3.T) (nv0 : Nat) (v1 : Int) (v2 : Int) (v3 : Int) (v18 : Int) (v19 : Int) (v20 : Int) (v21 : Int) (v22 : Int) (b0 : List (Int × Int)) (c1_0c0 : Int) (c1_0c1 : Int) : Option ((Nat × Int × Int × Int × Int × Int × Int × Int × Int × (List (Int × Int)) × Int × Int × Unit) ⊕ ((Nat × Int × Int × Int × Int × Int × Int × (List (Int × Int)) × Int × Int × Unit))) :=
 brC (decide (v20 < v21)) (
 needC (rng .i64 (v20 + v21)) (
 needC (rng .u64 (v20 + v21)) (
 needC (inb (1 : Int) (64 : Int)) (
 needC (rng .i64 (ar0.shr (v20 + v21) (1 : Int))) (
 needC (rng .i64 (v22 - (ar0.shr (v20 + v21) (1 : Int)))) (
 needC (inb (v22 - (ar0.shr (v20 + v21) (1 : Int))) ((nv0 : Nat) : Int)) (
 needC (decide (((0 : Nat) + (Int.toNat (v22 - (ar0.shr (v20 + v21) (1 : Int))))) < (b0).length)) (
 needC (inb (ar0.shr (v20 + v21) (1 : Int)) ((nv0 : Nat) : Int)) (
 needC (decide (((0 : Nat) + (Int.toNat (ar0.shr (v20 + v21) (1 : Int)))) < (b0).length)) (
 bindC (CF75_v1 (((b0).getD ((0 : Nat) + (Int.toNat (v22 - (ar0.shr (v20 + v21) (1 : Int))))) ((0 : Int), (0 : Int))).1, ((b0).getD ((0 : Nat) + (Int.toNat (v22 - (ar0.shr (v20 + v21) (1 : Int))))) ((0 : Int), (0 : Int))).2) (((b0).getD ((0 : Nat) + (Int.toNat (ar0.shr (v20 + v21) (1 : Int)))) ((0 : Int), (0 : Int))).1, ((b0).getD ((0 : Nat) + (Int.toNat (ar0.shr (v20 + v21) (1 : Int)))) ((0 : Int), (0 : Int))).2) c1_0c0 c1_0c1) fun y6 =>
 brC (!(decide (y6.1 < (0 : Int)))) (
 needC (rng .i64 ((ar0.shr (v20 + v21) (1 : Int)) + (1 : Int))) (
 some (.inl (nv0, (v1, (v2, (v3, (v18, (v19, (((ar0.shr (v20 + v21) (1 : Int)) + (1 : Int)), (v21, (v22, (b0, (c1_0c0, (c1_0c1, ()))))))))))))))) (
 some (.inl (nv0, (v1, (v2, (v3, (v18, (v19, (v20, ((ar0.shr (v20 + v21) (1 : Int)), (v22, (b0, (c1_0c0, (c1_0c1, ())))))))))))))))))))))))) (
 some (.inr (nv0, (v1, (v2, (v3, (v18, (v19, (v20, (b0, (c1_0c0, (c1_0c1, ()))))))))))))
theorem CgH82_v3_4_le' {rec rec' : pH82_v3.T → Option qH82_v3.T} (hr : ∀ x, Le (rec x) (rec' x)) (nv0 : Nat) (v1 : Int) (v2 : Int) (v3 : Int) (v18 : Int) (v19 : Int) (v20 : Int) (v21 : Int) (v22 : Int) (b0 : List (Int × Int)) (c1_0c0 : Int) (c1_0c1 : Int) : Le (CgH82_v3_4 rec nv0 v1 v2 v3 v18 v19 v20 v21 v22 b0 c1_0c0 c1_0c1) (gH82_v3_4 rec' nv0 v1 v2 v3 v18 v19 v20 v21 v22 b0 c1_0c0 c1_0c1) := (Le.br (Le.nd (Le.nd (Le.nd (Le.nd (Le.nd (Le.nd (Le.nd (Le.nd (Le.nd (Le.bd (CF75_v1_le ..) fun y6 => (Le.br (Le.nd Le.r) Le.r))))))))))) Le.r)
theorem sH82_v3_4 (rec : pH82_v3.T → Option qH82_v3.T) (h : Ht.Ok prog ⟨82, pH82_v3, qH82_v3, rec⟩) : ∀ x, roundE (kzO (pH82_v3_4.T ⊕ xH82_v3_4.T)) (cxH82_v3 rec) ar0 [0, 1] pH82_v3_4 xH82_v3_4 (bH82_v3_4 rec h) (fun y => some (.inl y)) (fun b => some (.inr b)) x = gH82_v3_4 rec x.1 x.2.1 x.2.2.1 x.2.2.2.1 x.2.2.2.2.1 x.2.2.2.2.2.1 x.2.2.2.2.2.2.1 x.2.2.2.2.2.2.2.1 x.2.2.2.2.2.2.2.2.1 x.2.2.2.2.2.2.2.2.2.1 x.2.2.2.2.2.2.2.2.2.2.1 x.2.2.2.2.2.2.2.2.2.2.2.1 := by intro x; kernel_rfl
noncomputable def LH82_v3_4 (rec : pH82_v3.T → Option qH82_v3.T) (h : Ht.Ok prog ⟨82, pH82_v3, qH82_v3, rec⟩) : LoopS prog 220 none 2 := mkLoop mixed (cxH82_v3 rec) (cxH82_v3_ok rec h) [0, 1] rfl pH82_v3_4 xH82_v3_4 rfl (bH82_v3_4 rec h) (fun x => gH82_v3_4 rec x.1 x.2.1 x.2.2.1 x.2.2.2.1 x.2.2.2.2.1 x.2.2.2.2.2.1 x.2.2.2.2.2.2.1 x.2.2.2.2.2.2.2.1 x.2.2.2.2.2.2.2.2.1 x.2.2.2.2.2.2.2.2.2.1 x.2.2.2.2.2.2.2.2.2.2.1 x.2.2.2.2.2.2.2.2.2.2.2.1) (sH82_v3_4 rec h)
noncomputable def ddH82_v3 (rec : pH82_v3.T → Option qH82_v3.T) (h : Ht.Ok prog ⟨82, pH82_v3, qH82_v3, rec⟩) : D prog 220 none 2 := (.seq (.seq (.reg [.op (some 25) none (.mv (.t 2)), .op (some 26) none (.mv (.t 1)), .op (some 27) none (.bin .sub (.t 25) (.t 26)), .op (some 28) none (.bin .eql (.t 27) (.c (.int .i64 (Int.ofNat 1))))]) (.cond ( .t 28) (.seq (.reg [.op (some 29) none (.mv (.t 2)), .op (some 10) none (.mv (.t 29))]) (.seq (.reg [.op (some 30) none (.mv (.t 3)), .op (some 11) none (.mv (.t 30))]) (.seq (.block 0 (.loop (LH82_v3_0 rec h))) (.seq (.seq (.reg [.op (some 54) none (.mv (.t 1)), .op (some 13) none (.mv (.t 54))]) (.block 2 (.loop (LH82_v3_1 rec h)))) .ret)))) .skip)) (.seq (.seq (.reg [.op (some 77) none (.mv (.t 3)), .op (some 78) none (.mv (.t 2)), .op (some 79) none (.bin .sub (.t 77) (.t 78)), .op (some 80) none (.bin .eql (.t 79) (.c (.int .i64 (Int.ofNat 1))))]) (.cond ( .t 80) (.seq (.reg [.op (some 81) none (.mv (.t 1)), .op (some 14) none (.mv (.t 81))]) (.seq (.reg [.op (some 82) none (.mv (.t 2)), .op (some 15) none (.mv (.t 82))]) (.seq (.block 4 (.loop (LH82_v3_2 rec h))) (.seq (.seq (.reg [.op (some 107) none (.mv (.t 2)), .op (some 17) none (.mv (.t 107))]) (.block 6 (.loop (LH82_v3_3 rec h)))) .ret)))) .skip)) (.seq (.reg [.op (some 129) none (.mv (.t 1)), .op (some 130) none (.mv (.t 3)), .op (some 131) none (.bin .add (.t 129) (.t 130)), .op (some 132) none (.conv .u64 (.t 131)), .op (some 133) none (.bin .shr (.t 132) (.c (.int .u64 (Int.ofNat 1)))), .op (some 134) none (.conv .i64 (.t 133)), .op (some 18) none (.mv (.t 134))]) (.seq (.reg [.op (some 135) none (.mv (.t 18)), .op (some 136) none (.mv (.t 2)), .op (some 137) none (.bin .add (.t 135) (.t 136)), .op (some 19) none (.mv (.t 137))]) (.seq (.reg [.op (some 20) none (.mv (.c (.int .i64 (Int.ofNat 0)))), .op (some 21) none (.mv (.c (.int .i64 (Int.ofNat 0))))]) (.seq (.seq (.reg [.op (some 138) none (.mv (.t 2)), .op (some 139) none (.mv (.t 18)), .op (some 140) none (.bin .gtr (.t 138) (.t 139))]) (.cond ( .t 140) (.seq (.reg [.op (some 141) none (.mv (.t 19)), .op (some 142) none (.mv (.t 3)), .op (some 143) none (.bin .sub (.t 141) (.t 142)), .op (some 20) none (.mv (.t 143))]) (.reg [.op (some 144) none (.mv (.t 18)), .op (some 21) none (.mv (.t 144))])) (.seq (.reg [.op (some 145) none (.mv (.t 1)), .op (some 20) none (.mv (.t 145))]) (.reg [.op (some 146) none (.mv (.t 2)), .op (some 21) none (.mv (.t 146))])))) (.seq (.reg [.op (some 147) none (.mv (.t 19)), .op (some 148) none (.bin .sub (.t 147) (.c (.int .i64 (Int.ofNat 1)))), .op (some 22) none (.mv (.t 148))]) (.seq (.block 8 (.loop (LH82_v3_4 rec h))) (.seq (.reg [.op (some 175) none (.mv (.t 19)), .op (some 176) none (.mv (.t 20)), .op (some 177) none (.bin .sub (.t 175) (.t 176)), .op (some 24) none (.mv (.t 177))]) (.seq (.seq (.reg [.op (some 178) none (.mv (.t 20)), .op (some 179) none (.mv (.t 2)), .op (some 180) none (.bin .lss (.t 178) (.t 179)), .op (some 181) none (.mv (.t 180)), .op (some 182) (some (181, true)) (.mv (.t 2)), .op (some 183) (some (181, true)) (.mv (.t 24)), .op (some 184) (some (181, true)) (.bin .lss (.t 182) (.t 183)), .op (some 185) none (.pick (.t 181) (.t 184) (.c (.tf false)))]) (.cond ( .t 185) (.reg [.op (some 186) none (.mv (.t 0)), .op (some 187) none (.mv (.t 20)), .op (some 188) none (.mv (.t 2)), .op (some 189) none (.mv (.t 24)), .op (some 190) none (.mv (.t 4)), .call (some 191) none (.c (.fn 83 [] [])) [.t 186, .t 187, .t 188, .t 189, .t 190] [some (.list (.prod (.int .i64) (.int .i64))), some (.int .i64), some (.int .i64), some (.int .i64), none]]) .skip)) (.seq (.seq (.reg [.op (some 192) none (.mv (.t 1)), .op (some 193) none (.mv (.t 20)), .op (some 194) none (.bin .lss (.t 192) (.t 193)), .op (some 195) none (.mv (.t 194)), .op (some 196) (some (195, true)) (.mv (.t 20)), .op (some 197) (some (195, true)) (.mv (.t 18)), .op (some 198) (some (195, true)) (.bin .lss (.t 196) (.t 197)), .op (some 199) none (.pick (.t 195) (.t 198) (.c (.tf false)))]) (.cond ( .t 199) (.reg [.op (some 200) none (.mv (.t 0)), .op (some 201) none (.mv (.t 1)), .op (some 202) none (.mv (.t 20)), .op (some 203) none (.mv (.t 18)), .op (some 204) none (.mv (.t 4)), .call (some 205) none (.c (.fn 82 [] [])) [.t 200, .t 201, .t 202, .t 203, .t 204] [some (.list (.prod (.int .i64) (.int .i64))), some (.int .i64), some (.int .i64), some (.int .i64), none]]) .skip)) (.seq (.reg [.op (some 206) none (.mv (.t 18)), .op (some 207) none (.mv (.t 24)), .op (some 208) none (.bin .lss (.t 206) (.t 207)), .op (some 209) none (.mv (.t 208)), .op (some 210) (some (209, true)) (.mv (.t 24)), .op (some 211) (some (209, true)) (.mv (.t 3)), .op (some 212) (some (209, true)) (.bin .lss (.t 210) (.t 211)), .op (some 213) none (.pick (.t 209) (.t 212) (.c (.tf false)))]) (.cond ( .t 213) (.reg [.op (some 214) none (.mv (.t 0)), .op (some 215) none (.mv (.t 18)), .op (some 216) none (.mv (.t 24)), .op (some 217) none (.mv (.t 3)), .op (some 218) none (.mv (.t 4)), .call (some 219) none (.c (.fn 82 [] [])) [.t 214, .t 215, .t 216, .t 217, .t 218] [some (.list (.prod (.int .i64) (.int .i64))), some (.int .i64), some (.int .i64), some (.int .i64), none]]) .skip)))))))))))))
noncomputable def FH82_v3 (rec : pH82_v3.T → Option qH82_v3.T) (nv0 : Nat) (v1 : Int) (v2 : Int) (v3 : Int) (b0 : List (Int × Int)) (c1_0c0 : Int) (c1_0c1 : Int) : Option (Int × Int × (List (Int × Int)) × Unit) :=
 need (rng .i64 (v2 - v1)) (
 brO ((v2 - v1) == (1 : Int)) (
 bindO (iter (fun x => gH82_v3_0 rec x.1 x.2.1 x.2.2.1 x.2.2.2.1 x.2.2.2.2.1 x.2.2.2.2.2.1 x.2.2.2.2.2.2.1) (nv0, (v1, (v2, (v3, (b0, (c1_0c0, (c1_0c1, ())))))))) fun z1 =>
 bindO (iter (fun x => gH82_v3_1 rec x.1 x.2.1 x.2.2.1 x.2.2.2.1 x.2.2.2.2.1 x.2.2.2.2.2.1) (z1.1, (z1.2.2.1, (z1.2.1, (z1.2.2.2.1, (z1.2.2.2.2.1, (z1.2.2.2.2.2.1, ()))))))) fun z2 =>
 some (z2.1, (z2.2.1, (z2.2.2.1, ())))) (
 need (rng .i64 (v3 - v2)) (
 brO ((v3 - v2) == (1 : Int)) (
 bindO (iter (fun x => gH82_v3_2 rec x.1 x.2.1 x.2.2.1 x.2.2.2.1 x.2.2.2.2.1 x.2.2.2.2.2.1 x.2.2.2.2.2.2.1) (nv0, (v2, (v1, (v2, (b0, (c1_0c0, (c1_0c1, ())))))))) fun z4 =>
 bindO (iter (fun x => gH82_v3_3 rec x.1 x.2.1 x.2.2.1 x.2.2.2.1 x.2.2.2.2.1 x.2.2.2.2.2.1) (z4.1, (z4.2.2.1, (z4.2.1, (z4.2.2.2.1, (z4.2.2.2.2.1, (z4.2.2.2.2.2.1, ()))))))) fun z5 =>
 some (z5.1, (z5.2.1, (z5.2.2.1, ())))) (
 need (rng .i64 (v1 + v3)) (
 need (rng .u64 (v1 + v3)) (
 need (inb (1 : Int) (64 : Int)) (
 need (rng .i64 (ar0.shr (v1 + v3) (1 : Int))) (
 need (rng .i64 ((ar0.shr (v1 + v3) (1 : Int)) + v2)) (
 brO (decide ((ar0.shr (v1 + v3) (1 : Int)) < v2)) (
 need (rng .i64 (((ar0.shr (v1 + v3) (1 : Int)) + v2) - v3)) (
 need (rng .i64 (((ar0.shr (v1 + v3) (1 : Int)) + v2) - (1 : Int))) (
 bindO (iter (fun x => gH82_v3_4 rec x.1 x.2.1 x.2.2.1 x.2.2.2.1 x.2.2.2.2.1 x.2.2.2.2.2.1 x.2.2.2.2.2.2.1 x.2.2.2.2.2.2.2.1 x.2.2.2.2.2.2.2.2.1 x.2.2.2.2.2.2.2.2.2.1 x.2.2.2.2.2.2.2.2.2.2.1 x.2.2.2.2.2.2.2.2.2.2.2.1) (nv0, (v1, (v2, (v3, ((ar0.shr (v1 + v3) (1 : Int)), (((ar0.shr (v1 + v3) (1 : Int)) + v2), ((((ar0.shr (v1 + v3) (1 : Int)) + v2) - v3), ((ar0.shr (v1 + v3) (1 : Int)), ((((ar0.shr (v1 + v3) (1 : Int)) + v2) - (1 : Int)), (b0, (c1_0c0, (c1_0c1, ()))))))))))))) fun z7 =>
 need (rng .i64 (z7.2.2.2.2.2.1 - z7.2.2.2.2.2.2.1)) (
 brO (decide (z7.2.2.2.2.2.2.1 < z7.2.2.1)) (
 brO (decide (z7.2.2.1 < (z7.2.2.2.2.2.1 - z7.2.2.2.2.2.2.1))) (
 bindO (FH83_v3 z7.1 z7.2.2.2.2.2.2.1 z7.2.2.1 (z7.2.2.2.2.2.1 - z7.2.2.2.2.2.2.1) z7.2.2.2.2.2.2.2.1 z7.2.2.2.2.2.2.2.2.1 z7.2.2.2.2.2.2.2.2.2.1) fun y8 =>
 brO (decide (z7.2.1 < z7.2.2.2.2.2.2.1)) (
 brO (decide (z7.2.2.2.2.2.2.1 < z7.2.2.2.2.1)) (
 bindO (rec (z7.1, (z7.2.1, (z7.2.2.2.2.2.2.1, (z7.2.2.2.2.1, (y8.2.2.1, (y8.1, (y8.2.1, ())))))))) fun y9 =>
 brO (decide (z7.2.2.2.2.1 < (z7.2.2.2.2.2.1 - z7.2.2.2.2.2.2.1))) (
 brO (decide ((z7.2.2.2.2.2.1 - z7.2.2.2.2.2.2.1) < z7.2.2.2.1)) (
 bindO (rec (z7.1, (z7.2.2.2.2.1, ((z7.2.2.2.2.2.1 - z7.2.2.2.2.2.2.1), (z7.2.2.2.1, (y9.2.2.1, (y9.1, (y9.2.1, ())))))))) fun y10 =>
 some (y10.1, (y10.2.1, (y10.2.2.1, ())))) (
 some (y9.1, (y9.2.1, (y9.2.2.1, ()))))) (
 some (y9.1, (y9.2.1, (y9.2.2.1, ()))))) (
 brO (decide (z7.2.2.2.2.1 < (z7.2.2.2.2.2.1 - z7.2.2.2.2.2.2.1))) (
 brO (decide ((z7.2.2.2.2.2.1 - z7.2.2.2.2.2.2.1) < z7.2.2.2.1)) (
 bindO (rec (z7.1, (z7.2.2.2.2.1, ((z7.2.2.2.2.2.1 - z7.2.2.2.2.2.2.1), (z7.2.2.2.1, (y8.2.2.1, (y8.1, (y8.2.1, ())))))))) fun y11 =>
 some (y11.1, (y11.2.1, (y11.2.2.1, ())))) (
 some (y8.1, (y8.2.1, (y8.2.2.1, ()))))) (
 some (y8.1, (y8.2.1, (y8.2.2.1, ())))))) (
 brO (decide (z7.2.2.2.2.1 < (z7.2.2.2.2.2.1 - z7.2.2.2.2.2.2.1))) (
 brO (decide ((z7.2.2.2.2.2.1 - z7.2.2.2.2.2.2.1) < z7.2.2.2.1)) (
 bindO (rec (z7.1, (z7.2.2.2.2.1, ((z7.2.2.2.2.2.1 - z7.2.2.2.2.2.2.1), (z7.2.2.2.1, (y8.2.2.1, (y8.1, (y8.2.1, ())))))))) fun y12 =>
 some (y12.1, (y12.2.1, (y12.2.2.1, ())))) (
 some (y8.1, (y8.2.1, (y8.2.2.1, ()))))) (
 some (y8.1, (y8.2.1, (y8.2.2.1, ())))))) (
 brO (decide (z7.2.1 < z7.2.2.2.2.2.2.1)) (
 brO (decide (z7.2.2.2.2.2.2.1 < z7.2.2.2.2.1)) (
 bindO (rec (z7.1, (z7.2.1, (z7.2.2.2.2.2.2.1, (z7.2.2.2.2.1, (z7.2.2.2.2.2.2.2.1, (z7.2.2.2.2.2.2.2.2.1, (z7.2.2.2.2.2.2.2.2.2.1, ())))))))) fun y13 =>
 brO (decide (z7.2.2.2.2.1 < (z7.2.2.2.2.2.1 - z7.2.2.2.2.2.2.1))) (
 brO (decide ((z7.2.2.2.2.2.1 - z7.2.2.2.2.2.2.1) < z7.2.2.2.1)) (
 bindO (rec (z7.1, (z7.2.2.2.2.1, ((z7.2.2.2.2.2.1 - z7.2.2.2.2.2.2.1), (z7.2.2.2.1, (y13.2.2.1, (y13.1, (y13.2.1, ())))))))) fun y14 =>
 some (y14.1, (y14.2.1, (y14.2.2.1, ())))) (
 some (y13.1, (y13.2.1, (y13.2.2.1, ()))))) (
 some (y13.1, (y13.2.1, (y13.2.2.1, ()))))) (
 brO (decide (z7.2.2.2.2.1 < (z7.2.2.2.2.2.1 - z7.2.2.2.2.2.2.1))) (
 brO (decide ((z7.2.2.2.2.2.1 - z7.2.2.2.2.2.2.1) < z7.2.2.2.1)) (
 bindO (rec (z7.1, (z7.2.2.2.2.1, ((z7.2.2.2.2.2.1 - z7.2.2.2.2.2.2.1), (z7.2.2.2.1, (z7.2.2.2.2.2.2.2.1, (z7.2.2.2.2.2.2.2.2.1, (z7.2.2.2.2.2.2.2.2.2.1, ())))))))) fun y15 =>
 some (y15.1, (y15.2.1, (y15.2.2.1, ())))) (
 some (z7.2.2.2.2.2.2.2.2.1, (z7.2.2.2.2.2.2.2.2.2.1, (z7.2.2.2.2.2.2.2.1, ()))))) (
 some (z7.2.2.2.2.2.2.2.2.1, (z7.2.2.2.2.2.2.2.2.2.1, (z7.2.2.2.2.2.2.2.1, ())))))) (
 brO (decide (z7.2.2.2.2.1 < (z7.2.2.2.2.2.1 - z7.2.2.2.2.2.2.1))) (
 brO (decide ((z7.2.2.2.2.2.1 - z7.2.2.2.2.2.2.1) < z7.2.2.2.1)) (
 bindO (rec (z7.1, (z7.2.2.2.2.1, ((z7.2.2.2.2.2.1 - z7.2.2.2.2.2.2.1), (z7.2.2.2.1, (z7.2.2.2.2.2.2.2.1, (z7.2.2.2.2.2.2.2.2.1, (z7.2.2.2.2.2.2.2.2.2.1, ())))))))) fun y16 =>
 some (y16.1, (y16.2.1, (y16.2.2.1, ())))) (
 some (z7.2.2.2.2.2.2.2.2.1, (z7.2.2.2.2.2.2.2.2.2.1, (z7.2.2.2.2.2.2.2.1, ()))))) (
 some (z7.2.2.2.2.2.2.2.2.1, (z7.2.2.2.2.2.2.2.2.2.1, (z7.2.2.2.2.2.2.2.1, ()))))))) (
 brO (decide (z7.2.1 < z7.2.2.2.2.2.2.1)) (
 brO (decide (z7.2.2.2.2.2.2.1 < z7.2.2.2.2.1)) (
 bindO (rec (z7.1, (z7.2.1, (z7.2.2.2.2.2.2.1, (z7.2.2.2.2.1, (z7.2.2.2.2.2.2.2.1, (z7.2.2.2.2.2.2.2.2.1, (z7.2.2.2.2.2.2.2.2.2.1, ())))))))) fun y17 =>
 brO (decide (z7.2.2.2.2.1 < (z7.2.2.2.2.2.1 - z7.2.2.2.2.2.2.1))) (
 brO (decide ((z7.2.2.2.2.2.1 - z7.2.2.2.2.2.2.1) < z7.2.2.2.1)) (
 bindO (rec (z7.1, (z7.2.2.2.2.1, ((z7.2.2.2.2.2.1 - z7.2.2.2.2.2.2.1), (z7.2.2.2.1, (y17.2.2.1, (y17.1, (y17.2.1, ())))))))) fun y18 =>
 some (y18.1, (y18.2.1, (y18.2.2.1, ())))) (
 some (y17.1, (y17.2.1, (y17.2.2.1, ()))))) (
 some (y17.1, (y17.2.1, (y17.2.2.1, ()))))) (
 brO (decide (z7.2.2.2.2.1 < (z7.2.2.2.2.2.1 - z7.2.2.2.2.2.2.1))) (
 brO (decide ((z7.2.2.2.2.2.1 - z7.2.2.2.2.2.2.1) < z7.2.2.2.1)) (
 bindO (rec (z7.1, (z7.2.2.2.2.1, ((z7.2.2.2.2.2.1 - z7.2.2.2.2.2.2.1), (z7.2.2.2.1, (z7.2.2.2.2.2.2.2.1, (z7.2.2.2.2.2.2.2.2.1, (z7.2.2.2.2.2.2.2.2.2.1, ())))))))) fun y19 =>
 some (y19.1, (y19.2.1, (y19.2.2.1, ())))) (
 some (z7.2.2.2.2.2.2.2.2.1, (z7.2.2.2.2.2.2.2.2.2.1, (z7.2.2.2.2.2.2.2.1, ()))))) (
 some (z7.2.2.2.2.2.2.2.2.1, (z7.2.2.2.2.2.2.2.2.2.1, (z7.2.2.2.2.2.2.2.1, ())))))) (
 brO (decide (z7.2.2.2.2.1 < (z7.2.2.2.2.2.1 - z7.2.2.2.2.2.2.1))) (
 brO (decide ((z7.2.2.2.2.2.1 - z7.2.2.2.2.2.2.1) < z7.2.2.2.1)) (
 bindO (rec (z7.1, (z7.2.2.2.2.1, ((z7.2.2.2.2.2.1 - z7.2.2.2.2.2.2.1), (z7.2.2.2.1, (z7.2.2.2.2.2.2.2.1, (z7.2.2.2.2.2.2.2.2.1, (z7.2.2.2.2.2.2.2.2.2.1, ())))))))) fun y20 =>
 some (y20.1, (y20.2.1, (y20.2.2.1, ())))) (
 some (z7.2.2.2.2.2.2.2.2.1, (z7.2.2.2.2.2.2.2.2.2.1, (z7.2.2.2.2.2.2.2.1, ()))))) (
 some (z7.2.2.2.2.2.2.2.2.1, (z7.2.2.2.2.2.2.2.2.2.1, (z7.2.2.2.2.2.2.2.1, ())))))))))) (
 need (rng .i64 (((ar0.shr (v1 + v3) (1 : Int)) + v2) - (1 : Int))) (
 bindO (iter (fun x => gH82_v3_4 rec x.1 x.2.1 x.2.2.1 x.2.2.2.1 x.2.2.2.2.1 x.2.2.2.2.2.1 x.2.2.2.2.2.2.1 x.2.2.2.2.2.2.2.1 x.2.2.2.2.2.2.2.2.1 x.2.2.2.2.2.2.2.2.2.1 x.2.2.2.2.2.2.2.2.2.2.1 x.2.2.2.2.2.2.2.2.2.2.2.1) (nv0, (v1, (v2, (v3, ((ar0.shr (v1 + v3) (1 : Int)), (((ar0.shr (v1 + v3) (1 : Int)) + v2), (v1, (v2, ((((ar0.shr (v1 + v3) (1 : Int)) + v2) - (1 : Int)), (b0, (c1_0c0, (c1_0c1, ()))))))))))))) fun z21 =>
 need (rng .i64 (z21.2.2.2.2.2.1 - z21.2.2.2.2.2.2.1)) (
 brO (decide (z21.2.2.2.2.2.2.1 < z21.2.2.1)) (
 brO (decide (z21.2.2.1 < (z21.2.2.2.2.2.1 - z21.2.2.2.2.2.2.1))) (
 bindO (FH83_v3 z21.1 z21.2.2.2.2.2.2.1 z21.2.2.1 (z21.2.2.2.2.2.1 - z21.2.2.2.2.2.2.1) z21.2.2.2.2.2.2.2.1 z21.2.2.2.2.2.2.2.2.1 z21.2.2.2.2.2.2.2.2.2.1) fun y22 =>
 brO (decide (z21.2.1 < z21.2.2.2.2.2.2.1)) (
 brO (decide (z21.2.2.2.2.2.2.1 < z21.2.2.2.2.1)) (
 bindO (rec (z21.1, (z21.2.1, (z21.2.2.2.2.2.2.1, (z21.2.2.2.2.1, (y22.2.2.1, (y22.1, (y22.2.1, ())))))))) fun y23 =>
 brO (decide (z21.2.2.2.2.1 < (z21.2.2.2.2.2.1 - z21.2.2.2.2.2.2.1))) (
 brO (decide ((z21.2.2.2.2.2.1 - z21.2.2.2.2.2.2.1) < z21.2.2.2.1)) (
 bindO (rec (z21.1, (z21.2.2.2.2.1, ((z21.2.2.2.2.2.1 - z21.2.2.2.2.2.2.1), (z21.2.2.2.1, (y23.2.2.1, (y23.1, (y23.2.1, ())))))))) fun y24 =>
 some (y24.1, (y24.2.1, (y24.2.2.1, ())))) (
 some (y23.1, (y23.2.1, (y23.2.2.1, ()))))) (
 some (y23.1, (y23.2.1, (y23.2.2.1, ()))))) (
 brO (decide (z21.2.2.2.2.1 < (z21.2.2.2.2.2.1 - z21.2.2.2.2.2.2.1))) (
 brO (decide ((z21.2.2.2.2.2.1 - z21.2.2.2.2.2.2.1) < z21.2.2.2.1)) (
 bindO (rec (z21.1, (z21.2.2.2.2.1, ((z21.2.2.2.2.2.1 - z21.2.2.2.2.2.2.1), (z21.2.2.2.1, (y22.2.2.1, (y22.1, (y22.2.1, ())))))))) fun y25 =>
 some (y25.1, (y25.2.1, (y25.2.2.1, ())))) (
 some (y22.1, (y22.2.1, (y22.2.2.1, ()))))) (
 some (y22.1, (y22.2.1, (y22.2.2.1, ())))))) (
 brO (decide (z21.2.2.2.2.1 < (z21.2.2.2.2.2.1 - z21.2.2.2.2.2.2.1))) (
 brO (decide ((z21.2.2.2.2.2.1 - z21.2.2.2.2.2.2.1) < z21.2.2.2.1)) (
 bindO (rec (z21.1, (z21.2.2.2.2.1, ((z21.2.2.2.2.2.1 - z21.2.2.2.2.2.2.1), (z21.2.2.2.1, (y22.2.2.1, (y22.1, (y22.2.1, ())))))))) fun y26 =>
 some (y26.1, (y26.2.1, (y26.2.2.1, ())))) (
 some (y22.1, (y22.2.1, (y22.2.2.1, ()))))) (
 some (y22.1, (y22.2.1, (y22.2.2.1, ())))))) (
 brO (decide (z21.2.1 < z21.2.2.2.2.2.2.1)) (
 brO (decide (z21.2.2.2.2.2.2.1 < z21.2.2.2.2.1)) (
 bindO (rec (z21.1, (z21.2.1, (z21.2.2.2.2.2.2.1, (z21.2.2.2.2.1, (z21.2.2.2.2.2.2.2.1, (z21.2.2.2.2.2.2.2.2.1, (z21.2.2.2.2.2.2.2.2.2.1, ())))))))) fun y27 =>
 brO (decide (z21.2.2.2.2.1 < (z21.2.2.2.2.2.1 - z21.2.2.2.2.2.2.1))) (
 brO (decide ((z21.2.2.2.2.2.1 - z21.2.2.2.2.2.2.1) < z21.2.2.2.1)) (
 bindO (rec (z21.1, (z21.2.2.2.2.1, ((z21.2.2.2.2.2.1 - z21.2.2.2.2.2.2.1), (z21.2.2.2.1, (y27.2.2.1, (y27.1, (y27.2.1, ())))))))) fun y28 =>
 some (y28.1, (y28.2.1, (y28.2.2.1, ())))) (
 some (y27.1, (y27.2.1, (y27.2.2.1, ()))))) (
 some (y27.1, (y27.2.1, (y27.2.2.1, ()))))) (
 brO (decide (z21.2.2.2.2.1 < (z21.2.2.2.2.2.1 - z21.2.2.2.2.2.2.1))) (
 brO (decide ((z21.2.2.2.2.2.1 - z21.2.2.2.2.2.2.1) < z21.2.2.2.1)) (
 bindO (rec (z21.1, (z21.2.2.2.2.1, ((z21.2.2.2.2.2.1 - z21.2.2.2.2.2.2.1), (z21.2.2.2.1, (z21.2.2.2.2.2.2.2.1, (z21.2.2.2.2.2.2.2.2.1, (z21.2.2.2.2.2.2.2.2.2.1, ())))))))) fun y29 =>
 some (y29.1, (y29.2.1, (y29.2.2.1, ())))) (
 some (z21.2.2.2.2.2.2.2.2.1, (z21.2.2.2.2.2.2.2.2.2.1, (z21.2.2.2.2.2.2.2.1, ()))))) (
 some (z21.2.2.2.2.2.2.2.2.1, (z21.2.2.2.2.2.2.2.2.2.1, (z21.2.2.2.2.2.2.2.1, ())))))) (
 brO (decide (z21.2.2.2.2.1 < (z21.2.2.2.2.2.1 - z21.2.2.2.2.2.2.1))) (
 brO (decide ((z21.2.2.2.2.2.1 - z21.2.2.2.2.2.2.1) < z21.2.2.2.1)) (
 bindO (rec (z21.1, (z21.2.2.2.2.1, ((z21.2.2.2.2.2.1 - z21.2.2.2.2.2.2.1), (z21.2.2.2.1, (z21.2.2.2.2.2.2.2.1, (z21.2.2.2.2.2.2.2.2.1, (z21.2.2.2.2.2.2.2.2.2.1, ())))))))) fun y30 =>
 some (y30.1, (y30.2.1, (y30.2.2.1, ())))) (
 some (z21.2.2.2.2.2.2.2.2.1, (z21.2.2.2.2.2.2.2.2.2.1, (z21.2.2.2.2.2.2.2.1, ()))))) (
 some (z21.2.2.2.2.2.2.2.2.1, (z21.2.2.2.2.2.2.2.2.2.1, (z21.2.2.2.2.2.2.2.1, ()))))))) (
 brO (decide (z21.2.1 < z21.2.2.2.2.2.2.1)) (
 brO (decide (z21.2.2.2.2.2.2.1 < z21.2.2.2.2.1)) (
 bindO (rec (z21.1, (z21.2.1, (z21.2.2.2.2.2.2.1, (z21.2.2.2.2.1, (z21.2.2.2.2.2.2.2.1, (z21.2.2.2.2.2.2.2.2.1, (z21.2.2.2.2.2.2.2.2.2.1, ())))))))) fun y31 =>
 brO (decide (z21.2.2.2.2.1 < (z21.2.2.2.2.2.1 - z21.2.2.2.2.2.2.1))) (
 brO (decide ((z21.2.2.2.2.2.1 - z21.2.2.2.2.2.2.1) < z21.2.2.2.1)) (
 bindO (rec (z21.1, (z21.2.2.2.2.1, ((z21.2.2.2.2.2.1 - z21.2.2.2.2.2.2.1), (z21.2.2.2.1, (y31.2.2.1, (y31.1, (y31.2.1, ())))))))) fun y32 =>
 some (y32.1, (y32.2.1, (y32.2.2.1, ())))) (
 some (y31.1, (y31.2.1, (y31.2.2.1, ()))))) (
 some (y31.1, (y31.2.1, (y31.2.2.1, ()))))) (
 brO (decide (z21.2.2.2.2.1 < (z21.2.2.2.2.2.1 - z21.2.2.2.2.2.2.1))) (
 brO (decide ((z21.2.2.2.2.2.1 - z21.2.2.2.2.2.2.1) < z21.2.2.2.1)) (
 bindO (rec (z21.1, (z21.2.2.2.2.1, ((z21.2.2.2.2.2.1 - z21.2.2.2.2.2.2.1), (z21.2.2.2.1, (z21.2.2.2.2.2.2.2.1, (z21.2.2.2.2.2.2.2.2.1, (z21.2.2.2.2.2.2.2.2.2.1, ())))))))) fun y33 =>
 some (y33.1, (y33.2.1, (y33.2.2.1, ())))) (
 some (z21.2.2.2.2.2.2.2.2.1, (z21.2.2.2.2.2.2.2.2.2.1, (z21.2.2.2.2.2.2.2.1, ()))))) (
 some (z21.2.2.2.2.2.2.2.2.1, (z21.2.2.2.2.2.2.2.2.2.1, (z21.2.2.2.2.2.2.2.1, ())))))) (
 brO (decide (z21.2.2.2.2.1 < (z21.2.2.2.2.2.1 - z21.2.2.2.2.2.2.1))) (
 brO (decide ((z21.2.2.2.2.2.1 - z21.2.2.2.2.2.2.1) < z21.2.2.2.1)) (
 bindO (rec (z21.1, (z21.2.2.2.2.1, ((z21.2.2.2.2.2.1 - z21.2.2.2.2.2.2.1), (z21.2.2.2.1, (z21.2.2.2.2.2.2.2.1, (z21.2.2.2.2.2.2.2.2.1, (z21.2.2.2.2.2.2.2.2.2.1, ())))))))) fun y34 =>
 some (y34.1, (y34.2.1, (y34.2.2.1, ())))) (
 some (z21.2.2.2.2.2.2.2.2.1, (z21.2.2.2.2.2.2.2.2.2.1, (z21.2.2.2.2.2.2.2.1, ()))))) (
 some (z21.2.2.2.2.2.2.2.2.1, (z21.2.2.2.2.2.2.2.2.2.1, (z21.2.2.2.2.2.2.2.1, ()))))))))))))))))))
def CFH82_v3 (rec : pH82_v3.T → Option qH82_v3.T) (nv0 : Nat) (v1 : Int) (v2 : Int) (v3 : Int) (b0 : List (Int × Int)) (c1_0c0 : Int) (c1_0c1 : Int) : Option (Int × Int × (List (Int × Int)) × Unit) :=
 needC (rng .i64 (v2 - v1)) (
 brC ((v2 - v1) == (1 : Int)) (
 bindC (iterF (fun x => CgH82_v3_0 rec x.1 x.2.1 x.2.2.1 x.2.2.2.1 x.2.2.2.2.1 x.2.2.2.2.2.1 x.2.2.2.2.2.2.1) 1000000 (nv0, (v1, (v2, (v3, (b0, (c1_0c0, (c1_0c1, ())))))))) fun z1 =>
 bindC (iterF (fun x => CgH82_v3_1 rec x.1 x.2.1 x.2.2.1 x.2.2.2.1 x.2.2.2.2.1 x.2.2.2.2.2.1) 1000000 (z1.1, (z1.2.2.1, (z1.2.1, (z1.2.2.2.1, (z1.2.2.2.2.1, (z1.2.2.2.2.2.1, ()))))))) fun z2 =>
 some (z2.1, (z2.2.1, (z2.2.2.1, ())))) (
 needC (rng .i64 (v3 - v2)) (
 brC ((v3 - v2) == (1 : Int)) (
 bindC (iterF (fun x => CgH82_v3_2 rec x.1 x.2.1 x.2.2.1 x.2.2.2.1 x.2.2.2.2.1 x.2.2.2.2.2.1 x.2.2.2.2.2.2.1) 1000000 (nv0, (v2, (v1, (v2, (b0, (c1_0c0, (c1_0c1, ())))))))) fun z4 =>
 bindC (iterF (fun x => CgH82_v3_3 rec x.1 x.2.1 x.2.2.1 x.2.2.2.1 x.2.2.2.2.1 x.2.2.2.2.2.1) 1000000 (z4.1, (z4.2.2.1, (z4.2.1, (z4.2.2.2.1, (z4.2.2.2.2.1, (z4.2.2.2.2.2.1, ()))))))) fun z5 =>
 some (z5.1, (z5.2.1, (z5.2.2.1, ())))) (
 needC (rng .i64 (v1 + v3)) (
 needC (rng .u64 (v1 + v3)) (
 needC (inb (1 : Int) (64 : Int)) (
 needC (rng .i64 (ar0.shr (v1 + v3) (1 : Int))) (
 needC (rng .i64 ((ar0.shr (v1 + v3) (1 : Int)) + v2)) (
 brC (decide ((ar0.shr (v1 + v3) (1 : Int)) < v2)) (
 needC (rng .i64 (((ar0.shr (v1 + v3) (1 : Int)) + v2) - v3)) (
 needC (rng .i64 (((ar0.shr (v1 + v3) (1 : Int)) + v2) - (1 : Int))) (
 bindC (iterF (fun x => CgH82_v3_4 rec x.1 x.2.1 x.2.2.1 x.2.2.2.1 x.2.2.2.2.1 x.2.2.2.2.2.1 x.2.2.2.2.2.2.1 x.2.2.2.2.2.2.2.1 x.2.2.2.2.2.2.2.2.1 x.2.2.2.2.2.2.2.2.2.1 x.2.2.2.2.2.2.2.2.2.2.1 x.2.2.2.2.2.2.2.2.2.2.2.1) 1000000 (nv0, (v1, (v2, (v3, ((ar0.shr (v1 + v3) (1 : Int)), (((ar0.shr (v1 + v3) (1 : Int)) + v2), ((((ar0.shr (v1 + v3) (1 : Int)) + v2) - v3), ((ar0.shr (v1 + v3) (1 : Int)), ((((ar0.shr (v1 + v3) (1 : Int)) + v2) - (1 : Int)), (b0, (c1_0c0, (c1_0c1, ()))))))))))))) fun z7 =>
 needC (rng .i64 (z7.2.2.2.2.2.1 - z7.2.2.2.2.2.2.1)) (
 brC (decide (z7.2.2.2.2.2.2.1 < z7.2.2.1)) (
 brC (decide (z7.2.2.1 < (z7.2.2.2.2.2.1 - z7.2.2.2.2.2.2.1))) (
 bindC (CFH83_v3 z7.1 z7.2.2.2.2.2.2.1 z7.2.2.1 (z7.2.2.2.2.2.1 - z7.2.2.2.2.2.2.1) z7.2.2.2.2.2.2.2.1 z7.2.2.2.2.2.2.2.2.1 z7.2.2.2.2.2.2.2.2.2.1) fun y8 =>
 brC (decide (z7.2.1 < z7.2.2.2.2.2.2.1)) (
 brC (decide (z7.2.2.2.2.2.2.1 < z7.2.2.2.2.1)) (
 bindC (rec (z7.1, (z7.2.1, (z7.2.2.2.2.2.2.1, (z7.2.2.2.2.1, (y8.2.2.1, (y8.1, (y8.2.1, ())))))))) fun y9 =>
 brC (decide (z7.2.2.2.2.1 < (z7.2.2.2.2.2.1 - z7.2.2.2.2.2.2.1))) (
 brC (decide ((z7.2.2.2.2.2.1 - z7.2.2.2.2.2.2.1) < z7.2.2.2.1)) (
 bindC (rec (z7.1, (z7.2.2.2.2.1, ((z7.2.2.2.2.2.1 - z7.2.2.2.2.2.2.1), (z7.2.2.2.1, (y9.2.2.1, (y9.1, (y9.2.1, ())))))))) fun y10 =>
 some (y10.1, (y10.2.1, (y10.2.2.1, ())))) (
 some (y9.1, (y9.2.1, (y9.2.2.1, ()))))) (
 some (y9.1, (y9.2.1, (y9.2.2.1, ()))))) (
 brC (decide (z7.2.2.2.2.1 < (z7.2.2.2.2.2.1 - z7.2.2.2.2.2.2.1))) (
 brC (decide ((z7.2.2.2.2.2.1 - z7.2.2.2.2.2.2.1) < z7.2.2.2.1)) (
 bindC (rec (z7.1, (z7.2.2.2.2.1, ((z7.2.2.2.2.2.1 - z7.2.2.2.2.2.2.1), (z7.2.2.2.1, (y8.2.2.1, (y8.1, (y8.2.1, ())))))))) fun y11 =>
 some (y11.1, (y11.2.1, (y11.2.2.1, ())))) (
 some (y8.1, (y8.2.1, (y8.2.2.1, ()))))) (
 some (y8.1, (y8.2.1, (y8.2.2.1, ())))))) (
 brC (decide (z7.2.2.2.2.1 < (z7.2.2.2.2.2.1 - z7.2.2.2.2.2.2.1))) (
 brC (decide ((z7.2.2.2.2.2.1 - z7.2.2.2.2.2.2.1) < z7.2.2.2.1)) (
 bindC (rec (z7.1, (z7.2.2.2.2.1, ((z7.2.2.2.2.2.1 - z7.2.2.2.2.2.2.1), (z7.2.2.2.1, (y8.2.2.1, (y8.1, (y8.2.1, ())))))))) fun y12 =>
 some (y12.1, (y12.2.1, (y12.2.2.1, ())))) (
 some (y8.1, (y8.2.1, (y8.2.2.1, ()))))) (
 some (y8.1, (y8.2.1, (y8.2.2.1, ())))))) (
 brC (decide (z7.2.1 < z7.2.2.2.2.2.2.1)) (
 brC (decide (z7.2.2.2.2.2.2.1 < z7.2.2.2.2.1)) (
 bindC (rec (z7.1, (z7.2.1, (z7.2.2.2.2.2.2.1, (z7.2.2.2.2.1, (z7.2.2.2.2.2.2.2.1, (z7.2.2.2.2.2.2.2.2.1, (z7.2.2.2.2.2.2.2.2.2.1, ())))))))) fun y13 =>
 brC (decide (z7.2.2.2.2.1 < (z7.2.2.2.2.2.1 - z7.2.2.2.2.2.2.1))) (
 brC (decide ((z7.2.2.2.2.2.1 - z7.2.2.2.2.2.2.1) < z7.2.2.2.1)) (
 bindC (rec (z7.1, (z7.2.2.2.2.1, ((z7.2.2.2.2.2.1 - z7.2.2.2.2.2.2.1), (z7.2.2.2.1, (y13.2.2.1, (y13.1, (y13.2.1, ())))))))) fun y14 =>
 some (y14.1, (y14.2.1, (y14.2.2.1, ())))) (
 some (y13.1, (y13.2.1, (y13.2.2.1, ()))))) (
 some (y13.1, (y13.2.1, (y13.2.2.1, ()))))) (
 brC (decide (z7.2.2.2.2.1 < (z7.2.2.2.2.2.1 - z7.2.2.2.2.2.2.1))) (
 brC (decide ((z7.2.2.2.2.2.1 - z7.2.2.2.2.2.2.1) < z7.2.2.2.1)) (
 bindC (rec (z7.1, (z7.2.2.2.2.1, ((z7.2.2.2.2.2.1 - z7.2.2.2.2.2.2.1), (z7.2.2.2.1, (z7.2.2.2.2.2.2.2.1, (z7.2.2.2.2.2.2.2.2.1, (z7.2.2.2.2.2.2.2.2.2.1, ())))))))) fun y15 =>
 some (y15.1, (y15.2.1, (y15.2.2.1, ())))) (
 some (z7.2.2.2.2.2.2.2.2.1, (z7.2.2.2.2.2.2.2.2.2.1, (z7.2.2.2.2.2.2.2.1, ()))))) (
 some (z7.2.2.2.2.2.2.2.2.1, (z7.2.2.2.2.2.2.2.2.2.1, (z7.2.2.2.2.2.2.2.1, ())))))) (
 brC (decide (z7.2.2.2.2.1 < (z7.2.2.2.2.2.1 - z7.2.2.2.2.2.2.1))) (
 brC (decide ((z7.2.2.2.2.2.1 - z7.2.2.2.2.2.2.1) < z7.2.2.2.1)) (
 bindC (rec (z7.1, (z7.2.2.2.2.1, ((z7.2.2.2.2.2.1 - z7.2.2.2.2.2.2.1), (z7.2.2.2.1, (z7.2.2.2.2.2.2.2.1, (z7.2.2.2.2.2.2.2.2.1, (z7.2.2.2.2.2.2.2.2.2.1, ())))))))) fun y16 =>
 some (y16.1, (y16.2.1, (y16.2.2.1, ())))) (
 some (z7.2.2.2.2.2.2.2.2.1, (z7.2.2.2.2.2.2.2.2.2.1, (z7.2.2.2.2.2.2.2.1, ()))))) (
 some (z7.2.2.2.2.2.2.2.2.1, (z7.2.2.2.2.2.2.2.2.2.1, (z7.2.2.2.2.2.2.2.1, ()))))))) (
 brC (decide (z7.2.1 < z7.2.2.2.2.2.2.1)) (
 brC (decide (z7.2.2.2.2.2.2.1 < z7.2.2.2.2.1)) (
 bindC (rec (z7.1, (z7.2.1, (z7.2.2.2.2.2.2.1, (z7.2.2.2.2.1, (z7.2.2.2.2.2.2.2.1, (z7.2.2.2.2.2.2.2.2.1, (z7.2.2.2.2.2.2.2.2.2.1, ())))))))) fun y17 =>
 brC (decide (z7.2.2.2.2.1 < (z7.2.2.2.2.2.1 - z7.2.2.2.2.2.2.1))) (
 brC (decide ((z7.2.2.2.2.2.1 - z7.2.2.2.2.2.2.1) < z7.2.2.2.1)) (
 bindC (rec (z7.1, (z7.2.2.2.2.1, ((z7.2.2.2.2.2.1 - z7.2.2.2.2.2.2.1), (z7.2.2.2.1, (y17.2.2.1, (y17.1, (y17.2.1, ())))))))) fun y18 =>
 some (y18.1, (y18.2.1, (y18.2.2.1, ())))) (
 some (y17.1, (y17.2.1, (y17.2.2.1, ()))))) (
 some (y17.1, (y17.2.1, (y17.2.2.1, ()))))) (
 brC (decide (z7.2.2.2.2.1 < (z7.2.2.2.2.2.1 - z7.2.2.2.2.2.2.1))) (
 brC (decide ((z7.2.2.2.2.2.1 - z7.2.2.2.2.2.2.1) < z7.2.2.2.1)) (
 bindC (rec (z7.1, (z7.2.2.2.2.1, ((z7.2.2.2.2.2.1 - z7.2.2.2.2.2.2.1), (z7.2.2.2.1, (z7.2.2.2.2.2.2.2.1, (z7.2.2.2.2.2.2.2.2.1, (z7.2.2.2.2.2.2.2.2.2.1, ())))))))) fun y19 =>
 some (y19.1, (y19.2.1, (y19.2.2.1, ())))) (
 some (z7.2.2.2.2.2.2.2.2.1, (z7.2.2.2.2.2.2.2.2.2.1, (z7.2.2.2.2.2.2.2.1, ()))))) (
 some (z7.2.2.2.2.2.2.2.2.1, (z7.2.2.2.2.2.2.2.2.2.1, (z7.2.2.2.2.2.2.2.1, ())))))) (
 brC (decide (z7.2.2.2.2.1 < (z7.2.2.2.2.2.1 - z7.2.2.2.2.2.2.1))) (
 brC (decide ((z7.2.2.2.2.2.1 - z7.2.2.2.2.2.2.1) < z7.2.2.2.1)) (
 bindC (rec (z7.1, (z7.2.2.2.2.1, ((z7.2.2.2.2.2.1 - z7.2.2.2.2.2.2.1), (z7.2.2.2.1, (z7.2.2.2.2.2.2.2.1, (z7.2.2.2.2.2.2.2.2.1, (z7.2.2.2.2.2.2.2.2.2.1, ())))))))) fun y20 =>
 some (y20.1, (y20.2.1, (y20.2.2.1, ())))) (
 some (z7.2.2.2.2.2.2.2.2.1, (z7.2.2.2.2.2.2.2.2.2.1, (z7.2.2.2.2.2.2.2.1, ()))))) (
 some (z7.2.2.2.2.2.2.2.2.1, (z7.2.2.2.2.2.2.2.2.2.1, (z7.2.2.2.2.2.2.2.1, ())))))))))) (
 needC (rng .i64 (((ar0.shr (v1 + v3) (1 : Int)) + v2) - (1 : Int))) (
 bindC (iterF (fun x => CgH82_v3_4 rec x.1 x.2.1 x.2.2.1 x.2.2.2.1 x.2.2.2.2.1 x.2.2.2.2.2.1 x.2.2.2.2.2.2.1 x.2.2.2.2.2.2.2.1 x.2.2.2.2.2.2.2.2.1 x.2.2.2.2.2.2.2.2.2.1 x.2.2.2.2.2.2.2.2.2.2.1 x.2.2.2.2.2.2.2.2.2.2.2.1) 1000000 (nv0, (v1, (v2, (v3, ((ar0.shr (v1 + v3) (1 : Int)), (((ar0.shr (v1 + v3) (1 : Int)) + v2), (v1, (v2, ((((ar0.shr (v1 + v3) (1 : Int)) + v2) - (1 : Int)), (b0, (c1_0c0, (c1_0c1, ()))))))))))))) fun z21 =>
 needC (rng .i64 (z21.2.2.2.2.2.1 - z21.2.2.2.2.2.2.1)) (
 brC (decide (z21.2.2.2.2.2.2.1 < z21.2.2.1)) (
 brC (decide (z21.2.2.1 < (z21.2.2.2.2.2.1 - z21.2.2.2.2.2.2.1))) (
 bindC (CFH83_v3 z21.1 z21.2.2.2.2.2.2.1 z21.2.2.1 (z21.2.2.2.2.2.1 - z21.2.2.2.2.2.2.1) z21.2.2.2.2.2.2.2.1 z21.2.2.2.2.2.2.2.2.1 z21.2.2.2.2.2.2.2.2.2.1) fun y22 =>
 brC (decide (z21.2.1 < z21.2.2.2.2.2.2.1)) (
 brC (decide (z21.2.2.2.2.2.2.1 < z21.2.2.2.2.1)) (
 bindC (rec (z21.1, (z21.2.1, (z21.2.2.2.2.2.2.1, (z21.2.2.2.2.1, (y22.2.2.1, (y22.1, (y22.2.1, ())))))))) fun y23 =>
 brC (decide (z21.2.2.2.2.1 < (z21.2.2.2.2.2.1 - z21.2.2.2.2.2.2.1))) (
 brC (decide ((z21.2.2.2.2.2.1 - z21.2.2.2.2.2.2.1) < z21.2.2.2.1)) (
 bindC (rec (z21.1, (z21.2.2.2.2.1, ((z21.2.2.2.2.2.1 - z21.2.2.2.2.2.2.1), (z21.2.2.2.1, (y23.2.2.1, (y23.1, (y23.2.1, ())))))))) fun y24 =>
 some (y24.1, (y24.2.1, (y24.2.2.1, ())))) (
 some (y23.1, (y23.2.1, (y23.2.2.1, ()))))) (
 some (y23.1, (y23.2.1, (y23.2.2.1, ()))))) (
 brC (decide (z21.2.2.2.2.1 < (z21.2.2.2.2.2.1 - z21.2.2.2.2.2.2.1))) (
 brC (decide ((z21.2.2.2.2.2.1 - z21.2.2.2.2.2.2.1) < z21.2.2.2.1)) (
 bindC (rec (z21.1, (z21.2.2.2.2.1, ((z21.2.2.2.2.2.1 - z21.2.2.2.2.2.2.1), (z21.2.2.2.1, (y22.2.2.1, (y22.1, (y22.2.1, ())))))))) fun y25 =>
 some (y25.1, (y25.2.1, (y25.2.2.1, ())))) (
 some (y22.1, (y22.2.1, (y22.2.2.1, ()))))) (
 some (y22.1, (y22.2.1, (y22.2.2.1, ())))))) (
 brC (decide (z21.2.2.2.2.1 < (z21.2.2.2.2.2.1 - z21.2.2.2.2.2.2.1))) (
 brC (decide ((z21.2.2.2.2.2.1 - z21.2.2.2.2.2.2.1) < z21.2.2.2.1)) (
 bindC (rec (z21.1, (z21.2.2.2.2.1, ((z21.2.2.2.2.2.1 - z21.2.2.2.2.2.2.1), (z21.2.2.2.1, (y22.2.2.1, (y22.1, (y22.2.1, ())))))))) fun y26 =>
 some (y26.1, (y26.2.1, (y26.2.2.1, ())))) (
 some (y22.1, (y22.2.1, (y22.2.2.1, ()))))) (
 some (y22.1, (y22.2.1, (y22.2.2.1, ())))))) (
 brC (decide (z21.2.1 < z21.2.2.2.2.2.2.1)) (
 brC (decide (z21.2.2.2.2.2.2.1 < z21.2.2.2.2.1)) (
 bindC (rec (z21.1, (z21.2.1, (z21.2.2.2.2.2.2.1, (z21.2.2.2.2.1, (z21.2.2.2.2.2.2.2.1, (z21.2.2.2.2.2.2.2.2.1, (z21.2.2.2.2.2.2.2.2.2.1, ())))))))) fun y27 =>
 brC (decide (z21.2.2.2.2.1 < (z21.2.2.2.2.2.1 - z21.2.2.2.2.2.2.1))) (
 brC (decide ((z21.2.2.2.2.2.1 - z21.2.2.2.2.2.2.1) < z21.2.2.2.1)) (
 bindC (rec (z21.1, (z21.2.2.2.2.1, ((z21.2.2.2.2.2.1 - z21.2.2.2.2.2.2.1), (z21.2.2.2.1, (y27.2.2.1, (y27.1, (y27.2.1, ())))))))) fun y28 =>
 some (y28.1, (y28.2.1, (y28.2.2.1, ())))) (
 some (y27.1, (y27.2.1, (y27.2.2.1, ()))))) (
 some (y27.1, (y27.2.1, (y27.2.2.1, ()))))) (
 brC (decide (z21.2.2.2.2.1 < (z21.2.2.2.2.2.1 - z21.2.2.2.2.2.2.1))) (
 brC (decide ((z21.2.2.2.2.2.1 - z21.2.2.2.2.2.2.1) < z21.2.2.2.1)) (
 bindC (rec (z21.1, (z21.2.2.2.2.1, ((z21.2.2.2.2.2.1 - z21.2.2.2.2.2.2.1), (z21.2.2.2.1, (z21.2.2.2.2.2.2.2.1, (z21.2.2.2.2.2.2.2.2.1, (z21.2.2.2.2.2.2.2.2.2.1, ())))))))) fun y29 =>
 some (y29.1, (y29.2.1, (y29.2.2.1, ())))) (
 some (z21.2.2.2.2.2.2.2.2.1, (z21.2.2.2.2.2.2.2.2.2.1, (z21.2.2.2.2.2.2.2.1, ()))))) (
 some (z21.2.2.2.2.2.2.2.2.1, (z21.2.2.2.2.2.2.2.2.2.1, (z21.2.2.2.2.2.2.2.1, ())))))) (
 brC (decide (z21.2.2.2.2.1 < (z21.2.2.2.2.2.1 - z21.2.2.2.2.2.2.1))) (
 brC (decide ((z21.2.2.2.2.2.1 - z21.2.2.2.2.2.2.1) < z21.2.2.2.1)) (
 bindC (rec (z21.1, (z21.2.2.2.2.1, ((z21.2.2.2.2.2.1 - z21.2.2.2.2.2.2.1), (z21.2.2.2.1, (z21.2.2.2.2.2.2.2.1, (z21.2.2.2.2.2.2.2.2.1, (z21.2.2.2.2.2.2.2.2.2.1, ())))))))) fun y30 =>
 some (y30.1, (y30.2.1, (y30.2.2.1, ())))) (
 some (z21.2.2.2.2.2.2.2.2.1, (z21.2.2.2.2.2.2.2.2.2.1, (z21.2.2.2.2.2.2.2.1, ()))))) (
 some (z21.2.2.2.2.2.2.2.2.1, (z21.2.2.2.2.2.2.2.2.2.1, (z21.2.2.2.2.2.2.2.1, ()))))))) (
 brC (decide (z21.2.1 < z21.2.2.2.2.2.2.1)) (
 brC (decide (z21.2.2.2.2.2.2.1 < z21.2.2.2.2.1)) (
 bindC (rec (z21.1, (z21.2.1, (z21.2.2.2.2.2.2.1, (z21.2.2.2.2.1, (z21.2.2.2.2.2.2.2.1, (z21.2.2.2.2.2.2.2.2.1, (z21.2.2.2.2.2.2.2.2.2.1, ())))))))) fun y31 =>
 brC (decide (z21.2.2.2.2.1 < (z21.2.2.2.2.2.1 - z21.2.2.2.2.2.2.1))) (
 brC (decide ((z21.2.2.2.2.2.1 - z21.2.2.2.2.2.2.1) < z21.2.2.2.1)) (
 bindC (rec (z21.1, (z21.2.2.2.2.1, ((z21.2.2.2.2.2.1 - z21.2.2.2.2.2.2.1), (z21.2.2.2.1, (y31.2.2.1, (y31.1, (y31.2.1, ())))))))) fun y32 =>
 some (y32.1, (y32.2.1, (y32.2.2.1, ())))) (
 some (y31.1, (y31.2.1, (y31.2.2.1, ()))))) (
 some (y31.1, (y31.2.1, (y31.2.2.1, ()))))) (
 brC (decide (z21.2.2.2.2.1 < (z21.2.2.2.2.2.1 - z21.2.2.2.2.2.2.1))) (
 brC (decide ((z21.2.2.2.2.2.1 - z21.2.2.2.2.2.2.1) < z21.2.2.2.1)) (
 bindC (rec (z21.1, (z21.2.2.2.2.1, ((z21.2.2.2.2.2.1 - z21.2.2.2.2.2.2.1), (z21.2.2.2.1, (z21.2.2.2.2.2.2.2.1, (z21.2.2.2.2.2.2.2.2.1, (z21.2.2.2.2.2.2.2.2.2.1, ())))))))) fun y33 =>
 some (y33.1, (y33.2.1, (y33.2.2.1, ())))) (
 some (z21.2.2.2.2.2.2.2.2.1, (z21.2.2.2.2.2.2.2.2.2.1, (z21.2.2.2.2.2.2.2.1, ()))))) (
 some (z21.2.2.2.2.2.2.2.2.1, (z21.2.2.2.2.2.2.2.2.2.1, (z21.2.2.2.2.2.2.2.1, ())))))) (
 brC (decide (z21.2.2.2.2.1 < (z21.2.2.2.2.2.1 - z21.2.2.2.2.2.2.1))) (
 brC (decide ((z21.2.2.2.2.2.1 - z21.2.2.2.2.2.2.1) < z21.2.2.2.1)) (
 bindC (rec (z21.1, (z21.2.2.2.2.1, ((z21.2.2.2.2.2.1 - z21.2.2.2.2.2.2.1), (z21.2.2.2.1, (z21.2.2.2.2.2.2.2.1, (z21.2.2.2.2.2.2.2.2.1, (z21.2.2.2.2.2.2.2.2.2.1, ())))))))) fun y34 =>
 some (y34.1, (y34.2.1, (y34.2.2.1, ())))) (
 some (z21.2.2.2.2.2.2.2.2.1, (z21.2.2.2.2.2.2.2.2.2.1, (z21.2.2.2.2.2.2.2.1, ()))))) (
 some (z21.2.2.2.2.2.2.2.2.1, (z21.2.2.2.2.2.2.2.2.2.1, (z21.2.2.2.2.2.2.2.1, ()))))))))))))))))))
theorem CFH82_v3_le' {rec rec' : pH82_v3.T → Option qH82_v3.T} (hr : ∀ x, Le (rec x) (rec' x)) (nv0 : Nat) (v1 : Int) (v2 : Int) (v3 : Int) (b0 : List (Int × Int)) (c1_0c0 : Int) (c1_0c1 : Int) : Le (CFH82_v3 rec nv0 v1 v2 v3 b0 c1_0c0 c1_0c1) (FH82_v3 rec' nv0 v1 v2 v3 b0 c1_0c0 c1_0c1) := (Le.nd (Le.br (Le.bd (Le.iter fun x => CgH82_v3_0_le' hr ..) fun z1 => (Le.bd (Le.iter fun x => CgH82_v3_1_le' hr ..) fun z2 => Le.r)) (Le.nd (Le.br (Le.bd (Le.iter fun x => CgH82_v3_2_le' hr ..) fun z4 => (Le.bd (Le.iter fun x => CgH82_v3_3_le' hr ..) fun z5 => Le.r)) (Le.nd (Le.nd (Le.nd (Le.nd (Le.nd (Le.br (Le.nd (Le.nd (Le.bd (Le.iter fun x => CgH82_v3_4_le' hr ..) fun z7 => (Le.nd (Le.br (Le.br (Le.bd (CFH83_v3_le ..) fun y8 => (Le.br (Le.br (Le.bd (hr _) fun y9 => (Le.br (Le.br (Le.bd (hr _) fun y10 => Le.r) Le.r) Le.r)) (Le.br (Le.br (Le.bd (hr _) fun y11 => Le.r) Le.r) Le.r)) (Le.br (Le.br (Le.bd (hr _) fun y12 => Le.r) Le.r) Le.r))) (Le.br (Le.br (Le.bd (hr _) fun y13 => (Le.br (Le.br (Le.bd (hr _) fun y14 => Le.r) Le.r) Le.r)) (Le.br (Le.br (Le.bd (hr _) fun y15 => Le.r) Le.r) Le.r)) (Le.br (Le.br (Le.bd (hr _) fun y16 => Le.r) Le.r) Le.r))) (Le.br (Le.br (Le.bd (hr _) fun y17 => (Le.br (Le.br (Le.bd (hr _) fun y18 => Le.r) Le.r) Le.r)) (Le.br (Le.br (Le.bd (hr _) fun y19 => Le.r) Le.r) Le.r)) (Le.br (Le.br (Le.bd (hr _) fun y20 => Le.r) Le.r) Le.r))))))) (Le.nd (Le.bd (Le.iter fun x => CgH82_v3_4_le' hr ..) fun z21 => (Le.nd (Le.br (Le.br (Le.bd (CFH83_v3_le ..) fun y22 => (Le.br (Le.br (Le.bd (hr _) fun y23 => (Le.br (Le.br (Le.bd (hr _) fun y24 => Le.r) Le.r) Le.r)) (Le.br (Le.br (Le.bd (hr _) fun y25 => Le.r) Le.r) Le.r)) (Le.br (Le.br (Le.bd (hr _) fun y26 => Le.r) Le.r) Le.r))) (Le.br (Le.br (Le.bd (hr _) fun y27 => (Le.br (Le.br (Le.bd (hr _) fun y28 => Le.r) Le.r) Le.r)) (Le.br (Le.br (Le.bd (hr _) fun y29 => Le.r) Le.r) Le.r)) (Le.br (Le.br (Le.bd (hr _) fun y30 => Le.r) Le.r) Le.r))) (Le.br (Le.br (Le.bd (hr _) fun y31 => (Le.br (Le.br (Le.bd (hr _) fun y32 => Le.r) Le.r) Le.r)) (Le.br (Le.br (Le.bd (hr _) fun y33 => Le.r) Le.r) Le.r)) (Le.br (Le.br (Le.bd (hr _) fun y34 => Le.r) Le.r) Le.r))))))))))))))))
theorem cH82_v3_ok (rec : pH82_v3.T → Option qH82_v3.T) (h : Ht.Ok prog ⟨82, pH82_v3, qH82_v3, rec⟩) : trF prog f82 = some ⟨220, 5, (ddH82_v3 rec h).er, [], []⟩ := by kernel_rfl
theorem ht82_v3_step (rec : pH82_v3.T → Option qH82_v3.T) (h : Ht.Ok prog ⟨82, pH82_v3, qH82_v3, rec⟩) : Ht.Ok prog ⟨82, pH82_v3, qH82_v3, (fun x => FH82_v3 rec x.1 x.2.1 x.2.2.1 x.2.2.2.1 x.2.2.2.2.1 x.2.2.2.2.2.1 x.2.2.2.2.2.2.1)⟩ := ht_ok mixed (cxH82_v3_ok rec h) rfl func82 (cH82_v3_ok rec h) (enters_of func82 rfl rfl) (ddH82_v3 rec h) rfl rfl rfl ⟨_, rfl⟩ rfl (pre := [0, 1]) rfl (fun x => by kernel_rfl)
noncomputable def ht82_v3 : Ht := ⟨82, pH82_v3, qH82_v3, fixO (fun rec x => FH82_v3 rec x.1 x.2.1 x.2.2.1 x.2.2.2.1 x.2.2.2.2.1 x.2.2.2.2.2.1 x.2.2.2.2.2.2.1)⟩
theorem ht82_v3_ok : ht82_v3.Ok prog := ht_fix (fun rec h => ht82_v3_step rec h)
noncomputable def FH82_v3fix (nv0 : Nat) (v1 : Int) (v2 : Int) (v3 : Int) (b0 : List (Int × Int)) (c1_0c0 : Int) (c1_0c1 : Int) : Option (Int × Int × (List (Int × Int)) × Unit) := fixO (fun rec x => FH82_v3 rec x.1 x.2.1 x.2.2.1 x.2.2.2.1 x.2.2.2.2.1 x.2.2.2.2.2.1 x.2.2.2.2.2.2.1) (nv0, v1, v2, v3, b0, c1_0c0, c1_0c1, ())
def CFH82_v3fix (nv0 : Nat) (v1 : Int) (v2 : Int) (v3 : Int) (b0 : List (Int × Int)) (c1_0c0 : Int) (c1_0c1 : Int) : Option (Int × Int × (List (Int × Int)) × Unit) := apx (fun (rec : pH82_v3.T → Option qH82_v3.T) x => CFH82_v3 rec x.1 x.2.1 x.2.2.1 x.2.2.2.1 x.2.2.2.2.1 x.2.2.2.2.2.1 x.2.2.2.2.2.2.1) 1000 (nv0, v1, v2, v3, b0, c1_0c0, c1_0c1, ())
theorem CFH82_v3fix_le (nv0 : Nat) (v1 : Int) (v2 : Int) (v3 : Int) (b0 : List (Int × Int)) (c1_0c0 : Int) (c1_0c1 : Int) : Le (CFH82_v3fix nv0 v1 v2 v3 b0 c1_0c0 c1_0c1) (FH82_v3fix nv0 v1 v2 v3 b0 c1_0c0 c1_0c1) := Le.fix fun r r' hr x => CFH82_v3_le' hr ..

/- 79, lent -/
@[reducible] def pH79_v3 : Pat := Pat.mk [(0, .c (.sl0 0 (.prod (.int .i64) (.int .i64)))), (1, .c (.hole (.int .i64))), (2, .fn 75 [] [.ptr 1 0])] [(0, .arr (.prod (.int .i64) (.int .i64)) false), (1, .cells [.fn 78 .nil (.cons (.ipc (.int .i64)) (.cons (.ipc (.int .i64)) .nil))] false)] [.slot 0, .part 2 0] []
@[reducible] def qH79_v3 : Pat := Pat.mk [(0, .c .any)] [(1, .cells [.fn 78 .nil (.cons (.ipc (.int .i64)) (.cons (.ipc (.int .i64)) .nil))] false), (0, .arr (.prod (.int .i64) (.int .i64)) false)] [] []
noncomputable def cxH79_v3 : Cx := mkCxH [] [ht81_v3, ht82_v3]
theorem cxH79_v3_ok : cxH79_v3.Ok prog := mkCxH_ok trivial ⟨⟨ht81_v3_ok, rfl⟩, ⟨ht82_v3_ok, rfl⟩, trivial⟩
@[reducible] def pH79_v3_0 : Pat := Pat.mk [(0, .c (.sl0 0 (.prod (.int .i64) (.int .i64)))), (1, .c (.hole (.int .i64))), (2, .fn 75 [] [.ptr 1 0]), (6, .c (.hole (.int .i64))), (7, .c (.hole (.int .i64))), (8, .c (.hole (.int .i64)))] [(0, .arr (.prod (.int .i64) (.int .i64)) false), (1, .cells [.fn 78 .nil (.cons (.ipc (.int .i64)) (.cons (.ipc (.int .i64)) .nil))] false)] [] []
@[reducible] def xH79_v3_0 : Outs := [(.exit 0, Pat.mk [(0, .c (.sl0 0 (.prod (.int .i64) (.int .i64)))), (1, .c (.hole (.int .i64))), (2, .fn 75 [] [.ptr 1 0]), (6, .c (.hole (.int .i64))), (7, .c (.hole (.int .i64)))] [(0, .arr (.prod (.int .i64) (.int .i64)) false), (1, .cells [.fn 78 .nil (.cons (.ipc (.int .i64)) (.cons (.ipc (.int .i64)) .nil))] false)] [] [])]
noncomputable def bH79_v3_0 : D prog 63 none 2 := (.seq (.seq (.reg [.op (some 11) none (.mv (.t 8)), .op (some 12) none (.mv (.t 1)), .op (some 13) none (.bin .leq (.t 11) (.t 12))]) (.cond ( .t 13) .skip (.exit 0))) (.block 1 (.seq (.reg [.op (some 14) none (.mv (.t 0)), .op (some 15) none (.mv (.t 7)), .op (some 16) none (.mv (.t 8)), .op (some 17) none (.mv (.t 2)), .call (some 18) none (.c (.fn 81 [] [])) [.t 14, .t 15, .t 16, .t 17] [some (.list (.prod (.int .i64) (.int .i64))), some (.int .i64), some (.int .i64), none]]) (.seq (.reg [.op (some 19) none (.mv (.t 8)), .op (some 7) none (.mv (.t 19))]) (.reg [.op (some 20) none (.mv (.t 8)), .op (some 21) none (.mv (.t 6)), .op (some 22) none (.bin .add (.t 20) (.t 21)), .op (some 8) none (.mv (.t 22))])))))
noncomputable def gH79_v3_0 (nv0 : Nat) (v1 : Int) (v6 : Int) (v7 : Int) (v8 : Int) (b0 : List (Int × Int)) (c1_0c0 : Int) (c1_0c1 : Int) : Option ((Nat × Int × Int × Int × Int × (List (Int × Int)) × Int × Int × Unit) ⊕ ((Nat × Int × Int × Int × (List (Int × Int)) × Int × Int × Unit))) :=
 brO (decide (v8 ≤ v1)) (
 bindO (FH81_v3 nv0 v7 v8 b0 c1_0c0 c1_0c1) fun y0 =>
 need (rng .i64 (v8 + v6)) (
 some (.inl (nv0, (v1, (v6, (v8, ((v8 + v6), (y0.2.2.1, (y0.1, (y0.2.1, ()))))))))))) (
 some (.inr (nv0, (v1, (v6, (v7, (b0, (c1_0c0, (c1_0c1, ())))))))))
def CgH79_v3_0 (nv0 : Nat) (v1 : Int) (v6 : Int) (v7 : Int) (v8 : Int) (b0 : List (Int × Int)) (c1_0c0 : Int) (c1_0c1 : Int) : Option ((Nat × Int × Int × Int × Int × (List (Int × Int)) × Int × Int × Unit) ⊕ ((Nat × Int × Int × Int × (List (Int × Int)) × Int × Int × Unit))) :=
 brC (decide (v8 ≤ v1)) (
 bindC (CFH81_v3 nv0 v7 v8 b0 c1_0c0 c1_0c1) fun y0 =>
 needC (rng .i64 (v8 + v6)) (
 some (.inl (nv0, (v1, (v6, (v8, ((v8 + v6), (y0.2.2.1, (y0.1, (y0.2.1, ()))))))))))) (
 some (.inr (nv0, (v1, (v6, (v7, (b0, (c1_0c0, (c1_0c1, ())))))))))
theorem CgH79_v3_0_le (nv0 : Nat) (v1 : Int) (v6 : Int) (v7 : Int) (v8 : Int) (b0 : List (Int × Int)) (c1_0c0 : Int) (c1_0c1 : Int) : Le (CgH79_v3_0 nv0 v1 v6 v7 v8 b0 c1_0c0 c1_0c1) (gH79_v3_0 nv0 v1 v6 v7 v8 b0 c1_0c0 c1_0c1) := (Le.br (Le.bd (CFH81_v3_le ..) fun y0 => (Le.nd Le.r)) Le.r)
theorem sH79_v3_0 : ∀ x, roundE (kzO (pH79_v3_0.T ⊕ xH79_v3_0.T)) cxH79_v3 ar0 [0, 1] pH79_v3_0 xH79_v3_0 (bH79_v3_0) (fun y => some (.inl y)) (fun b => some (.inr b)) x = gH79_v3_0 x.1 x.2.1 x.2.2.1 x.2.2.2.1 x.2.2.2.2.1 x.2.2.2.2.2.1 x.2.2.2.2.2.2.1 x.2.2.2.2.2.2.2.1 := by intro x; kernel_rfl
noncomputable def LH79_v3_0 : LoopS prog 63 none 2 := mkLoop mixed cxH79_v3 cxH79_v3_ok [0, 1] rfl pH79_v3_0 xH79_v3_0 rfl (bH79_v3_0) (fun x => gH79_v3_0 x.1 x.2.1 x.2.2.1 x.2.2.2.1 x.2.2.2.2.1 x.2.2.2.2.2.1 x.2.2.2.2.2.2.1 x.2.2.2.2.2.2.2.1) (sH79_v3_0)
@[reducible] def pH79_v3_2 : Pat := Pat.mk [(0, .c (.sl0 0 (.prod (.int .i64) (.int .i64)))), (1, .c (.hole (.int .i64))), (2, .fn 75 [] [.ptr 1 0]), (6, .c (.hole (.int .i64))), (7, .c (.hole (.int .i64))), (8, .c (.hole (.int .i64)))] [(0, .arr (.prod (.int .i64) (.int .i64)) false), (1, .cells [.fn 78 .nil (.cons (.ipc (.int .i64)) (.cons (.ipc (.int .i64)) .nil))] false)] [] []
@[reducible] def xH79_v3_2 : Outs := [(.exit 4, Pat.mk [(0, .c (.sl0 0 (.prod (.int .i64) (.int .i64)))), (1, .c (.hole (.int .i64))), (2, .fn 75 [] [.ptr 1 0]), (6, .c (.hole (.int .i64))), (7, .c (.hole (.int .i64)))] [(0, .arr (.prod (.int .i64) (.int .i64)) false), (1, .cells [.fn 78 .nil (.cons (.ipc (.int .i64)) (.cons (.ipc (.int .i64)) .nil))] false)] [] [])]
noncomputable def bH79_v3_2 : D prog 63 none 2 := (.seq (.seq (.reg [.op (some 33) none (.mv (.t 8)), .op (some 34) none (.mv (.t 1)), .op (some 35) none (.bin .leq (.t 33) (.t 34))]) (.cond ( .t 35) .skip (.exit 4))) (.block 5 (.seq (.reg [.op (some 36) none (.mv (.t 0)), .op (some 37) none (.mv (.t 7)), .op (some 38) none (.mv (.t 7)), .op (some 39) none (.mv (.t 6)), .op (some 40) none (.bin .add (.t 38) (.t 39)), .op (some 41) none (.mv (.t 8)), .op (some 42) none (.mv (.t 2)), .call (some 43) none (.c (.fn 82 [] [])) [.t 36, .t 37, .t 40, .t 41, .t 42] [some (.list (.prod (.int .i64) (.int .i64))), some (.int .i64), some (.int .i64), some (.int .i64), none]]) (.seq (.reg [.op (some 44) none (.mv (.t 8)), .op (some 7) none (.mv (.t 44))]) (.reg [.op (some 45) none (.mv (.t 8)), .op (some 46) none (.mv (.t 6)), .op (some 47) none (.bin .mul (.c (.int .i64 (Int.ofNat 2))) (.t 46)), .op (some 48) none (.bin .add (.t 45) (.t 47)), .op (some 8) none (.mv (.t 48))])))))
noncomputable def gH79_v3_2 (nv0 : Nat) (v1 : Int) (v6 : Int) (v7 : Int) (v8 : Int) (b0 : List (Int × Int)) (c1_0c0 : Int) (c1_0c1 : Int) : Option ((Nat × Int × Int × Int × Int × (List (Int × Int)) × Int × Int × Unit) ⊕ ((Nat × Int × Int × Int × (List (Int × Int)) × Int × Int × Unit))) :=
 brO (decide (v8 ≤ v1)) (
 need (rng .i64 (v7 + v6)) (
 bindO (FH82_v3fix nv0 v7 (v7 + v6) v8 b0 c1_0c0 c1_0c1) fun y3 =>
 need (rng .i64 ((2 : Int) * v6)) (
 need (rng .i64 (v8 + ((2 : Int) * v6))) (
 some (.inl (nv0, (v1, (v6, (v8, ((v8 + ((2 : Int) * v6)), (y3.2.2.1, (y3.1, (y3.2.1, ()))))))))))))) (
 some (.inr (nv0, (v1, (v6, (v7, (b0, (c1_0c0, (c1_0c1, ())))))))))
def CgH79_v3_2 (nv0 : Nat) (v1 : Int) (v6 : Int) (v7 : Int) (v8 : Int) (b0 : List (Int × Int)) (c1_0c0 : Int) (c1_0c1 : Int) : Option ((Nat × Int × Int × Int × Int × (List (Int × Int)) × Int × Int × Unit) ⊕ ((Nat × Int × Int × Int × (List (Int × Int)) × Int × Int × Unit))) :=
 brC (decide (v8 ≤ v1)) (
 needC (rng .i64 (v7 + v6)) (
 bindC (CFH82_v3fix nv0 v7 (v7 + v6) v8 b0 c1_0c0 c1_0c1) fun y3 =>
 needC (rng .i64 ((2 : Int) * v6)) (
 needC (rng .i64 (v8 + ((2 : Int) * v6))) (
 some (.inl (nv0, (v1, (v6, (v8, ((v8 + ((2 : Int) * v6)), (y3.2.2.1, (y3.1, (y3.2.1, ()))))))))))))) (
 some (.inr (nv0, (v1, (v6, (v7, (b0, (c1_0c0, (c1_0c1, ())))))))))
theorem CgH79_v3_2_le (nv0 : Nat) (v1 : Int) (v6 : Int) (v7 : Int) (v8 : Int) (b0 : List (Int × Int)) (c1_0c0 : Int) (c1_0c1 : Int) : Le (CgH79_v3_2 nv0 v1 v6 v7 v8 b0 c1_0c0 c1_0c1) (gH79_v3_2 nv0 v1 v6 v7 v8 b0 c1_0c0 c1_0c1) := (Le.br (Le.nd (Le.bd (CFH82_v3fix_le ..) fun y3 => (Le.nd (Le.nd Le.r)))) Le.r)
theorem sH79_v3_2 : ∀ x, roundE (kzO (pH79_v3_2.T ⊕ xH79_v3_2.T)) cxH79_v3 ar0 [0, 1] pH79_v3_2 xH79_v3_2 (bH79_v3_2) (fun y => some (.inl y)) (fun b => some (.inr b)) x = gH79_v3_2 x.1 x.2.1 x.2.2.1 x.2.2.2.1 x.2.2.2.2.1 x.2.2.2.2.2.1 x.2.2.2.2.2.2.1 x.2.2.2.2.2.2.2.1 := by intro x; kernel_rfl
noncomputable def LH79_v3_2 : LoopS prog 63 none 2 := mkLoop mixed cxH79_v3 cxH79_v3_ok [0, 1] rfl pH79_v3_2 xH79_v3_2 rfl (bH79_v3_2) (fun x => gH79_v3_2 x.1 x.2.1 x.2.2.1 x.2.2.2.1 x.2.2.2.2.1 x.2.2.2.2.2.1 x.2.2.2.2.2.2.1 x.2.2.2.2.2.2.2.1) (sH79_v3_2)
@[reducible] def pH79_v3_1 : Pat := Pat.mk [(0, .c (.sl0 0 (.prod (.int .i64) (.int .i64)))), (1, .c (.hole (.int .i64))), (2, .fn 75 [] [.ptr 1 0]), (6, .c (.hole (.int .i64)))] [(0, .arr (.prod (.int .i64) (.int .i64)) false), (1, .cells [.fn 78 .nil (.cons (.ipc (.int .i64)) (.cons (.ipc (.int .i64)) .nil))] false)] [] []
@[reducible] def xH79_v3_1 : Outs := [(.exit 2, Pat.mk [] [(1, .cells [.fn 78 .nil (.cons (.ipc (.int .i64)) (.cons (.ipc (.int .i64)) .nil))] false), (0, .arr (.prod (.int .i64) (.int .i64)) false)] [] [])]
noncomputable def bH79_v3_1 : D prog 63 none 2 := (.seq (.seq (.reg [.op (some 28) none (.mv (.t 6)), .op (some 29) none (.mv (.t 1)), .op (some 30) none (.bin .lss (.t 28) (.t 29))]) (.cond ( .t 30) .skip (.exit 2))) (.block 3 (.seq (.reg [.op (some 31) none (.mv (.t 6)), .op (some 32) none (.bin .mul (.c (.int .i64 (Int.ofNat 2))) (.t 31)), .op (some 7) none (.mv (.c (.int .i64 (Int.ofNat 0)))), .op (some 8) none (.mv (.t 32))]) (.seq (.block 4 (.loop LH79_v3_2)) (.seq (.seq (.reg [.op (some 49) none (.mv (.t 7)), .op (some 50) none (.mv (.t 6)), .op (some 51) none (.bin .add (.t 49) (.t 50)), .op (some 9) none (.mv (.t 51))]) (.seq (.reg [.op (some 52) none (.mv (.t 9)), .op (some 53) none (.mv (.t 1)), .op (some 54) none (.bin .lss (.t 52) (.t 53))]) (.cond ( .t 54) (.reg [.op (some 55) none (.mv (.t 0)), .op (some 56) none (.mv (.t 7)), .op (some 57) none (.mv (.t 9)), .op (some 58) none (.mv (.t 1)), .op (some 59) none (.mv (.t 2)), .call (some 60) none (.c (.fn 82 [] [])) [.t 55, .t 56, .t 57, .t 58, .t 59] [some (.list (.prod (.int .i64) (.int .i64))), some (.int .i64), some (.int .i64), some (.int .i64), none]]) .skip))) (.reg [.op (some 61) none (.mv (.t 6)), .op (some 62) none (.bin .mul (.t 61) (.c (.int .i64 (Int.ofNat 2)))), .op (some 6) none (.mv (.t 62))]))))))
noncomputable def gH79_v3_1 (nv0 : Nat) (v1 : Int) (v6 : Int) (b0 : List (Int × Int)) (c1_0c0 : Int) (c1_0c1 : Int) : Option ((Nat × Int × Int × (List (Int × Int)) × Int × Int × Unit) ⊕ ((Int × Int × (List (Int × Int)) × Unit))) :=
 brO (decide (v6 < v1)) (
 need (rng .i64 ((2 : Int) * v6)) (
 bindO (iter (fun x => gH79_v3_2 x.1 x.2.1 x.2.2.1 x.2.2.2.1 x.2.2.2.2.1 x.2.2.2.2.2.1 x.2.2.2.2.2.2.1 x.2.2.2.2.2.2.2.1) (nv0, (v1, (v6, ((0 : Int), (((2 : Int) * v6), (b0, (c1_0c0, (c1_0c1, ()))))))))) fun z4 =>
 need (rng .i64 (z4.2.2.2.1 + z4.2.2.1)) (
 brO (decide ((z4.2.2.2.1 + z4.2.2.1) < z4.2.1)) (
 bindO (FH82_v3fix z4.1 z4.2.2.2.1 (z4.2.2.2.1 + z4.2.2.1) z4.2.1 z4.2.2.2.2.1 z4.2.2.2.2.2.1 z4.2.2.2.2.2.2.1) fun y5 =>
 need (rng .i64 (z4.2.2.1 * (2 : Int))) (
 some (.inl (z4.1, (z4.2.1, ((z4.2.2.1 * (2 : Int)), (y5.2.2.1, (y5.1, (y5.2.1, ()))))))))) (
 need (rng .i64 (z4.2.2.1 * (2 : Int))) (
 some (.inl (z4.1, (z4.2.1, ((z4.2.2.1 * (2 : Int)), (z4.2.2.2.2.1, (z4.2.2.2.2.2.1, (z4.2.2.2.2.2.2.1, ())))))))))))) (
 some (.inr (c1_0c0, (c1_0c1, (b0, ())))))
def CgH79_v3_1 (nv0 : Nat) (v1 : Int) (v6 : Int) (b0 : List (Int × Int)) (c1_0c0 : Int) (c1_0c1 : Int) : Option ((Nat × Int × Int × (List (Int × Int)) × Int × Int × Unit) ⊕ ((Int × Int × (List (Int × Int)) × Unit))) :=
 brC (decide (v6 < v1)) (
 needC (rng .i64 ((2 : Int) * v6)) (
 bindC (iterF (fun x => CgH79_v3_2 x.1 x.2.1 x.2.2.1 x.2.2.2.1 x.2.2.2.2.1 x.2.2.2.2.2.1 x.2.2.2.2.2.2.1 x.2.2.2.2.2.2.2.1) 1000000 (nv0, (v1, (v6, ((0 : Int), (((2 : Int) * v6), (b0, (c1_0c0, (c1_0c1, ()))))))))) fun z4 =>
 needC (rng .i64 (z4.2.2.2.1 + z4.2.2.1)) (
 brC (decide ((z4.2.2.2.1 + z4.2.2.1) < z4.2.1)) (
 bindC (CFH82_v3fix z4.1 z4.2.2.2.1 (z4.2.2.2.1 + z4.2.2.1) z4.2.1 z4.2.2.2.2.1 z4.2.2.2.2.2.1 z4.2.2.2.2.2.2.1) fun y5 =>
 needC (rng .i64 (z4.2.2.1 * (2 : Int))) (
 some (.inl (z4.1, (z4.2.1, ((z4.2.2.1 * (2 : Int)), (y5.2.2.1, (y5.1, (y5.2.1, ()))))))))) (
 needC (rng .i64 (z4.2.2.1 * (2 : Int))) (
 some (.inl (z4.1, (z4.2.1, ((z4.2.2.1 * (2 : Int)), (z4.2.2.2.2.1, (z4.2.2.2.2.2.1, (z4.2.2.2.2.2.2.1, ())))))))))))) (
 some (.inr (c1_0c0, (c1_0c1, (b0, ())))))
theorem CgH79_v3_1_le (nv0 : Nat) (v1 : Int) (v6 : Int) (b0 : List (Int × Int)) (c1_0c0 : Int) (c1_0c1 : Int) : Le (CgH79_v3_1 nv0 v1 v6 b0 c1_0c0 c1_0c1) (gH79_v3_1 nv0 v1 v6 b0 c1_0c0 c1_0c1) := (Le.br (Le.nd (Le.bd (Le.iter fun x => CgH79_v3_2_le ..) fun z4 => (Le.nd (Le.br (Le.bd (CFH82_v3fix_le ..) fun y5 => (Le.nd Le.r)) (Le.nd Le.r))))) Le.r)
theorem sH79_v3_1 : ∀ x, roundE (kzO (pH79_v3_1.T ⊕ xH79_v3_1.T)) cxH79_v3 ar0 [0, 1] pH79_v3_1 xH79_v3_1 (bH79_v3_1) (fun y => some (.inl y)) (fun b => some (.inr b)) x = gH79_v3_1 x.1 x.2.1 x.2.2.1 x.2.2.2.1 x.2.2.2.2.1 x.2.2.2.2.2.1 := by intro x; kernel_rfl
noncomputable def LH79_v3_1 : LoopS prog 63 none 2 := mkLoop mixed cxH79_v3 cxH79_v3_ok [0, 1] rfl pH79_v3_1 xH79_v3_1 rfl (bH79_v3_1) (fun x => gH79_v3_1 x.1 x.2.1 x.2.2.1 x.2.2.2.1 x.2.2.2.2.1 x.2.2.2.2.2.1) (sH79_v3_1)
noncomputable def ddH79_v3 : D prog 63 none 2 := (.seq (.reg [.op (some 6) none (.mv (.c (.int .i64 (Int.ofNat 20))))]) (.seq (.reg [.op (some 10) none (.mv (.t 6)), .op (some 7) none (.mv (.c (.int .i64 (Int.ofNat 0)))), .op (some 8) none (.mv (.t 10))]) (.seq (.block 0 (.loop LH79_v3_0)) (.seq (.reg [.op (some 23) none (.mv (.t 0)), .op (some 24) none (.mv (.t 7)), .op (some 25) none (.mv (.t 1)), .op (some 26) none (.mv (.t 2)), .call (some 27) none (.c (.fn 81 [] [])) [.t 23, .t 24, .t 25, .t 26] [some (.list (.prod (.int .i64) (.int .i64))), some (.int .i64), some (.int .i64), none]]) (.block 2 (.loop LH79_v3_1))))))
noncomputable def FH79_v3 (nv0 : Nat) (v1 : Int) (b0 : List (Int × Int)) (c1_0c0 : Int) (c1_0c1 : Int) : Option (Int × Int × (List (Int × Int)) × Unit) :=
 bindO (iter (fun x => gH79_v3_0 x.1 x.2.1 x.2.2.1 x.2.2.2.1 x.2.2.2.2.1 x.2.2.2.2.2.1 x.2.2.2.2.2.2.1 x.2.2.2.2.2.2.2.1) (nv0, (v1, ((20 : Int), ((0 : Int), ((20 : Int), (b0, (c1_0c0, (c1_0c1, ()))))))))) fun z1 =>
 bindO (FH81_v3 z1.1 z1.2.2.2.1 z1.2.1 z1.2.2.2.2.1 z1.2.2.2.2.2.1 z1.2.2.2.2.2.2.1) fun y2 =>
 bindO (iter (fun x => gH79_v3_1 x.1 x.2.1 x.2.2.1 x.2.2.2.1 x.2.2.2.2.1 x.2.2.2.2.2.1) (z1.1, (z1.2.1, (z1.2.2.1, (y2.2.2.1, (y2.1, (y2.2.1, ()))))))) fun z6 =>
 some (z6.1, (z6.2.1, (z6.2.2.1, ())))
def CFH79_v3 (nv0 : Nat) (v1 : Int) (b0 : List (Int × Int)) (c1_0c0 : Int) (c1_0c1 : Int) : Option (Int × Int × (List (Int × Int)) × Unit) :=
 bindC (iterF (fun x => CgH79_v3_0 x.1 x.2.1 x.2.2.1 x.2.2.2.1 x.2.2.2.2.1 x.2.2.2.2.2.1 x.2.2.2.2.2.2.1 x.2.2.2.2.2.2.2.1) 1000000 (nv0, (v1, ((20 : Int), ((0 : Int), ((20 : Int), (b0, (c1_0c0, (c1_0c1, ()))))))))) fun z1 =>
 bindC (CFH81_v3 z1.1 z1.2.2.2.1 z1.2.1 z1.2.2.2.2.1 z1.2.2.2.2.2.1 z1.2.2.2.2.2.2.1) fun y2 =>
 bindC (iterF (fun x => CgH79_v3_1 x.1 x.2.1 x.2.2.1 x.2.2.2.1 x.2.2.2.2.1 x.2.2.2.2.2.1) 1000000 (z1.1, (z1.2.1, (z1.2.2.1, (y2.2.2.1, (y2.1, (y2.2.1, ()))))))) fun z6 =>
 some (z6.1, (z6.2.1, (z6.2.2.1, ())))
theorem CFH79_v3_le (nv0 : Nat) (v1 : Int) (b0 : List (Int × Int)) (c1_0c0 : Int) (c1_0c1 : Int) : Le (CFH79_v3 nv0 v1 b0 c1_0c0 c1_0c1) (FH79_v3 nv0 v1 b0 c1_0c0 c1_0c1) := (Le.bd (Le.iter fun x => CgH79_v3_0_le ..) fun z1 => (Le.bd (CFH81_v3_le ..) fun y2 => (Le.bd (Le.iter fun x => CgH79_v3_1_le ..) fun z6 => Le.r)))
theorem cH79_v3_ok : trF prog f79 = some ⟨63, 3, ddH79_v3.er, [], []⟩ := by kernel_rfl
noncomputable def ht79_v3 : Ht := ⟨79, pH79_v3, qH79_v3, (fun x => FH79_v3 x.1 x.2.1 x.2.2.1 x.2.2.2.1 x.2.2.2.2.1)⟩
theorem ht79_v3_ok : ht79_v3.Ok prog := ht_ok mixed cxH79_v3_ok rfl func79 cH79_v3_ok (enters_of func79 rfl rfl) ddH79_v3 rfl rfl rfl ⟨_, rfl⟩ rfl (pre := [0, 1]) rfl (fun x => by kernel_rfl)

/- 74, lent -/
@[reducible] def pH74_v3 : Pat := Pat.mk [(0, .c (.sl0 0 (.prod (.int .i64) (.int .i64)))), (1, .fn 75 [] [.ptr 1 0])] [(0, .arr (.prod (.int .i64) (.int .i64)) false), (1, .cells [.fn 78 .nil (.cons (.ipc (.int .i64)) (.cons (.ipc (.int .i64)) .nil))] false)] [.slot 0, .part 1 0] []
@[reducible] def qH74_v3 : Pat := Pat.mk [(0, .c .any)] [(1, .cells [.fn 78 .nil (.cons (.ipc (.int .i64)) (.cons (.ipc (.int .i64)) .nil))] false), (0, .arr (.prod (.int .i64) (.int .i64)) false)] [] []
noncomputable def cxH74_v3 : Cx := mkCxH [] [ht79_v3]
theorem cxH74_v3_ok : cxH74_v3.Ok prog := mkCxH_ok trivial ⟨⟨ht79_v3_ok, rfl⟩, trivial⟩
noncomputable def ddH74_v3 : D prog 9 none 2 := (.reg [.op (some 4) none (.mv (.t 0)), .op (some 5) none (.mv (.t 0)), .op (some 6) none (.len (.t 5)), .op (some 7) none (.mv (.t 1)), .call (some 8) none (.c (.fn 79 [] [])) [.t 4, .t 6, .t 7] [some (.list (.prod (.int .i64) (.int .i64))), some (.int .i64), none]])
noncomputable def FH74_v3 (nv0 : Nat) (b0 : List (Int × Int)) (c1_0c0 : Int) (c1_0c1 : Int) : Option (Int × Int × (List (Int × Int)) × Unit) :=
 bindO (FH79_v3 nv0 ((nv0 : Nat) : Int) b0 c1_0c0 c1_0c1) fun y0 =>
 some (y0.1, (y0.2.1, (y0.2.2.1, ())))
def CFH74_v3 (nv0 : Nat) (b0 : List (Int × Int)) (c1_0c0 : Int) (c1_0c1 : Int) : Option (Int × Int × (List (Int × Int)) × Unit) :=
 bindC (CFH79_v3 nv0 ((nv0 : Nat) : Int) b0 c1_0c0 c1_0c1) fun y0 =>
 some (y0.1, (y0.2.1, (y0.2.2.1, ())))
theorem CFH74_v3_le (nv0 : Nat) (b0 : List (Int × Int)) (c1_0c0 : Int) (c1_0c1 : Int) : Le (CFH74_v3 nv0 b0 c1_0c0 c1_0c1) (FH74_v3 nv0 b0 c1_0c0 c1_0c1) := (Le.bd (CFH79_v3_le ..) fun y0 => Le.r)
theorem cH74_v3_ok : trF prog f74 = some ⟨9, 2, ddH74_v3.er, [], []⟩ := by kernel_rfl
noncomputable def ht74_v3 : Ht := ⟨74, pH74_v3, qH74_v3, (fun x => FH74_v3 x.1 x.2.1 x.2.2.1 x.2.2.2.1)⟩
theorem ht74_v3_ok : ht74_v3.Ok prog := ht_ok mixed cxH74_v3_ok rfl func74 cH74_v3_ok (enters_of func74 rfl rfl) ddH74_v3 rfl rfl rfl ⟨_, rfl⟩ rfl (pre := [0, 1]) rfl (fun x => by kernel_rfl)

/- 58 -/
noncomputable def cx58_v1 : Cx := mkCxH [ct77] [ht74_v3]
theorem cx58_v1_ok : cx58_v1.Ok prog := mkCxH_ok ⟨ct77_ok, trivial⟩ ⟨⟨ht74_v3_ok, rfl⟩, trivial⟩
@[reducible] def p58_v1_1 : Pat := Pat.mk [(3, .c (.ptr 0 0)), (5, .c (.sl0 1 (.prod (.int .i64) (.int .i64)))), (6, .c (.hole (.int .i64))), (10, .c (.hole (.list (.list (.int .i64))))), (11, .c (.hole (.int .i64))), (12, .c (.hole (.int .i64))), (17, .c (.hole (.list (.int .i64)))), (18, .c (.hole (.int .i64))), (19, .c (.hole (.int .i64)))] [(0, .cells [.fn 78 .nil (.cons (.ipc (.int .i64)) (.cons (.ipc (.int .i64)) .nil))] false), (1, .arr (.prod (.int .i64) (.int .i64)) false)] [.slot 3, .slot 5] []
@[reducible] def x58_v1_1 : Outs := [(.exit 2, Pat.mk [(3, .c (.ptr 0 0)), (5, .c (.sl0 1 (.prod (.int .i64) (.int .i64)))), (10, .c (.hole (.list (.list (.int .i64))))), (11, .c (.hole (.int .i64))), (12, .c (.hole (.int .i64)))] [(0, .cells [.fn 78 .nil (.cons (.ipc (.int .i64)) (.cons (.ipc (.int .i64)) .nil))] false), (1, .arr (.prod (.int .i64) (.int .i64)) false)] [.slot 3, .slot 5] [])]
noncomputable def b58_v1_1 : D prog 36 none 0 := (.seq (.reg [.op (some 20) none (.bin .lss (.t 19) (.t 18))]) (.seq (.cond ( .t 20) .skip (.exit 2)) (.seq (.block 3 (.seq (.reg [.op (some 21) none (.idx 1 (.t 17) (.t 19)), .op (some 22) none (.load false 1 (.t 21)), .op (some 9) none (.mv (.t 22))]) (.reg [.op (some 23) none (.mv (.t 5)), .op (some 24) none (.mv (.t 9)), .op (some 25) none (.mv (.t 6)), .op (some 26) none (.build [.int .i64 (Int.ofNat 0), .int .i64 (Int.ofNat 0)] [(0, 1, .t 24), (1, 1, .t 25)]), .op (some 27) none (.bslice (.prod (.int .i64) (.int .i64)) [.t 26]), .op (some 28) none (.append 2 (.t 23) (.t 27)), .op (some 5) none (.mv (.t 28))]))) (.reg [.op (some 29) none (.bin .add (.t 19) (.c (.int .i64 (Int.ofNat 1)))), .op (some 19) none (.mv (.t 29))]))))
noncomputable def g58_v1_1 (nv5 : Nat) (v6 : Int) (v10 : List (List Int)) (v11 : Int) (v12 : Int) (v17 : List Int) (v18 : Int) (v19 : Int) (c0_0c0 : Int) (c0_0c1 : Int) (b1 : List (Int × Int)) : Option ((Nat × Int × List (List Int) × Int × Int × List Int × Int × Int × Int × Int × (List (Int × Int)) × Unit) ⊕ ((Nat × List (List Int) × Int × Int × Int × Int × (List (Int × Int)) × Unit))) :=
 brO (decide (v19 < v18)) (
 need (inb v19 (((v17).length : Nat) : Int)) (
 need (decide ((nv5 + ((((((((v17).getD (Int.toNat v19) (0 : Int)), v6) :: [])).drop (0 : Nat)).take (1 : Nat))).length) < bigL)) (
 need (rng .i64 (v19 + (1 : Int))) (
 some (.inl ((nv5 + ((((((((v17).getD (Int.toNat v19) (0 : Int)), v6) :: [])).drop (0 : Nat)).take (1 : Nat))).length), (v6, (v10, (v11, (v12, (v17, (v18, ((v19 + (1 : Int)), (c0_0c0, (c0_0c1, (((((b1).drop (0 : Nat)).take nv5) ++ (((((((v17).getD (Int.toNat v19) (0 : Int)), v6) :: [])).drop (0 : Nat)).take (1 : Nat))), ())))))))))))))))) (
 some (.inr (nv5, (v10, (v11, (v12, (c0_0c0, (c0_0c1, (b1, ())))))))))
def Cg58_v1_1 (nv5 : Nat) (v6 : Int) (v10 : List (List Int)) (v11 : Int) (v12 : Int) (v17 : List Int) (v18 : Int) (v19 : Int) (c0_0c0 : Int) (c0_0c1 : Int) (b1 : List (Int × Int)) : Option ((Nat × Int × List (List Int) × Int × Int × List Int × Int × Int × Int × Int × (List (Int × Int)) × Unit) ⊕ ((Nat × List (List Int) × Int × Int × Int × Int × (List (Int × Int)) × Unit))) :=
 brC (decide (v19 < v18)) (
 needC (inb v19 (((v17).length : Nat) : Int)) (
 needC (decide ((nv5 + ((((((((v17).getD (Int.toNat v19) (0 : Int)), v6) :: [])).drop (0 : Nat)).take (1 : Nat))).length) < bigL)) (
 needC (rng .i64 (v19 + (1 : Int))) (
 some (.inl ((nv5 + ((((((((v17).getD (Int.toNat v19) (0 : Int)), v6) :: [])).drop (0 : Nat)).take (1 : Nat))).length), (v6, (v10, (v11, (v12, (v17, (v18, ((v19 + (1 : Int)), (c0_0c0, (c0_0c1, (((((b1).drop (0 : Nat)).take nv5) ++ (((((((v17).getD (Int.toNat v19) (0 : Int)), v6) :: [])).drop (0 : Nat)).take (1 : Nat))), ())))))))))))))))) (
 some (.inr (nv5, (v10, (v11, (v12, (c0_0c0, (c0_0c1, (b1, ())))))))))
theorem Cg58_v1_1_le (nv5 : Nat) (v6 : Int) (v10 : List (List Int)) (v11 : Int) (v12 : Int) (v17 : List Int) (v18 : Int) (v19 : Int) (c0_0c0 : Int) (c0_0c1 : Int) (b1 : List (Int × Int)) : Le (Cg58_v1_1 nv5 v6 v10 v11 v12 v17 v18 v19 c0_0c0 c0_0c1 b1) (g58_v1_1 nv5 v6 v10 v11 v12 v17 v18 v19 c0_0c0 c0_0c1 b1) := (Le.br (Le.nd (Le.nd (Le.nd Le.r))) Le.r)
theorem s58_v1_1 : ∀ x, roundE (kzO (p58_v1_1.T ⊕ x58_v1_1.T)) cx58_v1 ar0 [] p58_v1_1 x58_v1_1 (b58_v1_1) (fun y => some (.inl y)) (fun b => some (.inr b)) x = g58_v1_1 x.1 x.2.1 x.2.2.1 x.2.2.2.1 x.2.2.2.2.1 x.2.2.2.2.2.1 x.2.2.2.2.2.2.1 x.2.2.2.2.2.2.2.1 x.2.2.2.2.2.2.2.2.1 x.2.2.2.2.2.2.2.2.2.1 x.2.2.2.2.2.2.2.2.2.2.1 := by intro x; kernel_rfl
noncomputable def L58_v1_1 : LoopS prog 36 none 0 := mkLoop mixed cx58_v1 cx58_v1_ok [] rfl p58_v1_1 x58_v1_1 rfl (b58_v1_1) (fun x => g58_v1_1 x.1 x.2.1 x.2.2.1 x.2.2.2.1 x.2.2.2.2.1 x.2.2.2.2.2.1 x.2.2.2.2.2.2.1 x.2.2.2.2.2.2.2.1 x.2.2.2.2.2.2.2.2.1 x.2.2.2.2.2.2.2.2.2.1 x.2.2.2.2.2.2.2.2.2.2.1) (s58_v1_1)
@[reducible] def p58_v1_0 : Pat := Pat.mk [(3, .c (.ptr 0 0)), (5, .c (.sl0 1 (.prod (.int .i64) (.int .i64)))), (10, .c (.hole (.list (.list (.int .i64))))), (11, .c (.hole (.int .i64))), (12, .c (.hole (.int .i64)))] [(0, .cells [.fn 78 .nil (.cons (.ipc (.int .i64)) (.cons (.ipc (.int .i64)) .nil))] false), (1, .arr (.prod (.int .i64) (.int .i64)) false)] [.slot 3, .slot 5] []
@[reducible] def x58_v1_0 : Outs := [(.exit 0, Pat.mk [(3, .c (.ptr 0 0)), (5, .c (.sl0 1 (.prod (.int .i64) (.int .i64))))] [(0, .cells [.fn 78 .nil (.cons (.ipc (.int .i64)) (.cons (.ipc (.int .i64)) .nil))] false), (1, .arr (.prod (.int .i64) (.int .i64)) false)] [.slot 3, .slot 5] [])]
noncomputable def b58_v1_0 : D prog 36 none 0 := (.seq (.reg [.op (some 13) none (.bin .lss (.t 12) (.t 11))]) (.seq (.cond ( .t 13) .skip (.exit 0)) (.seq (.block 1 (.seq (.reg [.op (some 14) none (.mv (.t 12)), .op (some 15) none (.idx 1 (.t 10) (.t 12)), .op (some 16) none (.load false 1 (.t 15)), .op (some 6) none (.mv (.t 14)), .op (some 7) none (.mv (.t 16))]) (.seq (.reg [.op (some 17) none (.mv (.t 7)), .op (some 18) none (.len (.t 17)), .op (some 19) none (.mv (.c (.int .i64 (Int.ofNat 0))))]) (.block 2 (.loop L58_v1_1))))) (.reg [.op (some 30) none (.bin .add (.t 12) (.c (.int .i64 (Int.ofNat 1)))), .op (some 12) none (.mv (.t 30))]))))
noncomputable def g58_v1_0 (nv5 : Nat) (v10 : List (List Int)) (v11 : Int) (v12 : Int) (c0_0c0 : Int) (c0_0c1 : Int) (b1 : List (Int × Int)) : Option ((Nat × List (List Int) × Int × Int × Int × Int × (List (Int × Int)) × Unit) ⊕ ((Nat × Int × Int × (List (Int × Int)) × Unit))) :=
 brO (decide (v12 < v11)) (
 need (inb v12 (((v10).length : Nat) : Int)) (
 bindO (iter (fun x => g58_v1_1 x.1 x.2.1 x.2.2.1 x.2.2.2.1 x.2.2.2.2.1 x.2.2.2.2.2.1 x.2.2.2.2.2.2.1 x.2.2.2.2.2.2.2.1 x.2.2.2.2.2.2.2.2.1 x.2.2.2.2.2.2.2.2.2.1 x.2.2.2.2.2.2.2.2.2.2.1) (nv5, (v12, (v10, (v11, (v12, (((v10).getD (Int.toNat v12) []), ((((((v10).getD (Int.toNat v12) [])).length : Nat) : Int), ((0 : Int), (c0_0c0, (c0_0c1, (b1, ())))))))))))) fun z0 =>
 need (rng .i64 (z0.2.2.2.1 + (1 : Int))) (
 some (.inl (z0.1, (z0.2.1, (z0.2.2.1, ((z0.2.2.2.1 + (1 : Int)), (z0.2.2.2.2.1, (z0.2.2.2.2.2.1, (z0.2.2.2.2.2.2.1, ()))))))))))) (
 some (.inr (nv5, (c0_0c0, (c0_0c1, (b1, ()))))))
def Cg58_v1_0 (nv5 : Nat) (v10 : List (List Int)) (v11 : Int) (v12 : Int) (c0_0c0 : Int) (c0_0c1 : Int) (b1 : List (Int × Int)) : Option ((Nat × List (List Int) × Int × Int × Int × Int × (List (Int × Int)) × Unit) ⊕ ((Nat × Int × Int × (List (Int × Int)) × Unit))) :=
 brC (decide (v12 < v11)) (
 needC (inb v12 (((v10).length : Nat) : Int)) (
 bindC (iterF (fun x => Cg58_v1_1 x.1 x.2.1 x.2.2.1 x.2.2.2.1 x.2.2.2.2.1 x.2.2.2.2.2.1 x.2.2.2.2.2.2.1 x.2.2.2.2.2.2.2.1 x.2.2.2.2.2.2.2.2.1 x.2.2.2.2.2.2.2.2.2.1 x.2.2.2.2.2.2.2.2.2.2.1) 1000000 (nv5, (v12, (v10, (v11, (v12, (((v10).getD (Int.toNat v12) []), ((((((v10).getD (Int.toNat v12) [])).length : Nat) : Int), ((0 : Int), (c0_0c0, (c0_0c1, (b1, ())))))))))))) fun z0 =>
 needC (rng .i64 (z0.2.2.2.1 + (1 : Int))) (
 some (.inl (z0.1, (z0.2.1, (z0.2.2.1, ((z0.2.2.2.1 + (1 : Int)), (z0.2.2.2.2.1, (z0.2.2.2.2.2.1, (z0.2.2.2.2.2.2.1, ()))))))))))) (
 some (.inr (nv5, (c0_0c0, (c0_0c1, (b1, ()))))))
theorem Cg58_v1_0_le (nv5 : Nat) (v10 : List (List Int)) (v11 : Int) (v12 : Int) (c0_0c0 : Int) (c0_0c1 : Int) (b1 : List (Int × Int)) : Le (Cg58_v1_0 nv5 v10 v11 v12 c0_0c0 c0_0c1 b1) (g58_v1_0 nv5 v10 v11 v12 c0_0c0 c0_0c1 b1) := (Le.br (Le.nd (Le.bd (Le.iter fun x => Cg58_v1_1_le ..) fun z0 => (Le.nd Le.r))) Le.r)
theorem s58_v1_0 : ∀ x, roundE (kzO (p58_v1_0.T ⊕ x58_v1_0.T)) cx58_v1 ar0 [] p58_v1_0 x58_v1_0 (b58_v1_0) (fun y => some (.inl y)) (fun b => some (.inr b)) x = g58_v1_0 x.1 x.2.1 x.2.2.1 x.2.2.2.1 x.2.2.2.2.1 x.2.2.2.2.2.1 x.2.2.2.2.2.2.1 := by intro x; kernel_rfl
noncomputable def L58_v1_0 : LoopS prog 36 none 0 := mkLoop mixed cx58_v1 cx58_v1_ok [] rfl p58_v1_0 x58_v1_0 rfl (b58_v1_0) (fun x => g58_v1_0 x.1 x.2.1 x.2.2.1 x.2.2.2.1 x.2.2.2.2.1 x.2.2.2.2.2.1 x.2.2.2.2.2.2.1) (s58_v1_0)
noncomputable def dd58_v1 : D prog 36 none 0 := (.seq (.reg [.op (some 3) none (.box (.t 1)), .op (some 4) none (.mv (.c .nilfn))]) (.seq (.reg [.op (some 5) none (.mv (.c .nsl))]) (.seq (.seq (.reg [.op (some 10) none (.mv (.t 0)), .op (some 11) none (.len (.t 10)), .op (some 12) none (.mv (.c (.int .i64 (Int.ofNat 0))))]) (.block 0 (.loop L58_v1_0))) (.seq (.reg [.op (some 31) none (.mv (.t 5)), .op (some 32) none (.mkfn 75 [] [.t 3]), .call (some 33) none (.c (.fn 74 [] [])) [.t 31, .t 32] [some (.list (.prod (.int .i64) (.int .i64))), none]]) (.seq (.reg [.op (some 34) none (.mv (.t 5)), .call (some 35) none (.c (.fn 77 [] [])) [.t 34] [some (.list (.prod (.int .i64) (.int .i64)))], .op (some 4) none (.mv (.t 35))]) .ret)))))
noncomputable def F58_v1 (a0 : List (List Int)) (a1_0 : Int) (a1_1 : Int) : Option ((List (Int × Int)) × Unit) :=
 bindO (iter (fun x => g58_v1_0 x.1 x.2.1 x.2.2.1 x.2.2.2.1 x.2.2.2.2.1 x.2.2.2.2.2.1 x.2.2.2.2.2.2.1) ((0 : Nat), (a0, ((((a0).length : Nat) : Int), ((0 : Int), (a1_0, (a1_1, ([], ())))))))) fun z1 =>
 bindO (FH74_v3 z1.1 z1.2.2.2.1 z1.2.1 z1.2.2.1) fun y2 =>
 bindO (F77 (((y2.2.2.1).drop (0 : Nat)).take z1.1)) fun y3 =>
 some (y3.1, ())
def CF58_v1 (a0 : List (List Int)) (a1_0 : Int) (a1_1 : Int) : Option ((List (Int × Int)) × Unit) :=
 bindC (iterF (fun x => Cg58_v1_0 x.1 x.2.1 x.2.2.1 x.2.2.2.1 x.2.2.2.2.1 x.2.2.2.2.2.1 x.2.2.2.2.2.2.1) 1000000 ((0 : Nat), (a0, ((((a0).length : Nat) : Int), ((0 : Int), (a1_0, (a1_1, ([], ())))))))) fun z1 =>
 bindC (CFH74_v3 z1.1 z1.2.2.2.1 z1.2.1 z1.2.2.1) fun y2 =>
 bindC (CF77 (((y2.2.2.1).drop (0 : Nat)).take z1.1)) fun y3 =>
 some (y3.1, ())
theorem CF58_v1_le (a0 : List (List Int)) (a1_0 : Int) (a1_1 : Int) : Le (CF58_v1 a0 a1_0 a1_1) (F58_v1 a0 a1_0 a1_1) := (Le.bd (Le.iter fun x => Cg58_v1_0_le ..) fun z1 => (Le.bd (CFH74_v3_le ..) fun y2 => (Le.bd (CF77_le ..) fun y3 => Le.r)))
theorem c58_v1_ok : trF prog f58 = some ⟨36, 2, dd58_v1.er, [.t 4], [none]⟩ := by kernel_rfl
noncomputable def ct58_v1 : Ct := ⟨58, [.c (.hole (.list (.list (.int .i64)))), .fn 78 [] [.ipc (.int .i64), .ipc (.int .i64)]], .fn 80 [] [.ipc (.list (.prod (.int .i64) (.int .i64)))], fun x => F58_v1 x.1 x.2.1 x.2.2.1⟩
theorem ct58_v1_ok : ct58_v1.Ok prog := ct_ok mixed cx58_v1_ok func58 c58_v1_ok (enters_of func58 rfl rfl) dd58_v1 rfl rfl (fun x => by kernel_rfl)

/- 67 -/
noncomputable def cx67 : Cx := mkCxH [ct58_v1] []
theorem cx67_ok : cx67.Ok prog := mkCxH_ok ⟨ct58_v1_ok, trivial⟩ trivial
noncomputable def ad67_0 : D prog 35 (some 5) 7 := (.reg [.op (some 10) none (.alloc [.int .i64 (Int.ofNat 0), .int .i64 (Int.ofNat 0)]), .op none none (.store 2 (.t 10) (.t 14))])
noncomputable def bd67_0 : D prog 35 (some 5) 7 := (.block 1 (.seq (.seq (.reg [.op (some 15) none (.load false 1 (.t 6)), .op (some 16) none (.bin .eql (.t 15) (.c (.int .i64 (Int.ofNat 0))))]) (.cond ( .t 16) (.exit 0) .skip)) (.seq (.reg [.op (some 17) none (.load false 1 (.t 6)), .op (some 18) none (.bin .sub (.t 17) (.c (.int .i64 (Int.ofNat 1)))), .op none none (.store 1 (.t 6) (.t 18))]) (.seq (.reg [.op (some 19) none (.fld 1 [true] (.t 10)), .op (some 20) none (.load false 1 (.t 19)), .op (some 21) none (.load false 1 (.t 5)), .op (some 22) none (.bin .eql (.t 20) (.t 21)), .op (some 23) none (.mv (.t 22)), .op (some 24) (some (23, true)) (.load false 1 (.t 7)), .op (some 25) (some (23, true)) (.bin .gtr (.t 24) (.c (.int .i64 (Int.ofNat 0)))), .op (some 26) (some (23, true)) (.mv (.t 25)), .op (some 27) (some (26, false)) (.fld 0 [false] (.t 10)), .op (some 28) (some (26, false)) (.load false 1 (.t 27)), .op (some 29) (some (26, false)) (.bin .gtr (.t 28) (.c (.int .i64 (Int.ofNat 0)))), .op (some 30) (some (23, true)) (.pick (.t 26) (.c (.tf true)) (.t 29)), .op (some 31) none (.pick (.t 23) (.t 30) (.c (.tf false)))]) (.cond ( .t 31) (.reg [.op (some 32) none (.load false 1 (.t 9)), .op (some 33) none (.bin .add (.t 32) (.c (.int .i64 (Int.ofNat 1)))), .op none none (.store 1 (.t 9) (.t 33))]) .skip)))))
noncomputable def cx67_0i : Cx := itCx cx67 (fun kz => rdK kz cx67 ar0 5 7 [14] (ad67_0) (bd67_0))
theorem cx67_0i_ok : (cx67_0i).Ok prog := itCx_ok cx67_ok (fun h => rdK_ok mixed cx67_ok h)
@[reducible] def p67_0i_0 : Pat := Pat.mk [(0, .c (.yl 5)), (5, .c (.hole (.list (.prod (.int .i64) (.int .i64))))), (6, .c (.hole (.int .i64))), (7, .c (.hole (.int .i64)))] [(5, .loop .ready none 4 [(5, .c (.ptr 0 0)), (6, .c (.ptr 1 0)), (7, .c (.ptr 2 0)), (8, .c (.hole (.int .i64))), (9, .c (.ptr 3 0)), (13, .fn 80 [] [.ipc (.list (.prod (.int .i64) (.int .i64)))])] [14] (.reg [.op (some 10) none (.alloc [.int .i64 (Int.ofNat 0), .int .i64 (Int.ofNat 0)]), .op none none (.store 2 (.t 10) (.t 14))]) (.block 1 (.seq (.seq (.reg [.op (some 15) none (.load false 1 (.t 6)), .op (some 16) none (.bin .eql (.t 15) (.c (.int .i64 (Int.ofNat 0))))]) (.cond (.t 16) (.exit 0) .skip)) (.seq (.reg [.op (some 17) none (.load false 1 (.t 6)), .op (some 18) none (.bin .sub (.t 17) (.c (.int .i64 (Int.ofNat 1)))), .op none none (.store 1 (.t 6) (.t 18))]) (.seq (.reg [.op (some 19) none (.fld 1 [true] (.t 10)), .op (some 20) none (.load false 1 (.t 19)), .op (some 21) none (.load false 1 (.t 5)), .op (some 22) none (.bin .eql (.t 20) (.t 21)), .op (some 23) none (.mv (.t 22)), .op (some 24) (some (23, true)) (.load false 1 (.t 7)), .op (some 25) (some (23, true)) (.bin .gtr (.t 24) (.c (.int .i64 (Int.ofNat 0)))), .op (some 26) (some (23, true)) (.mv (.t 25)), .op (some 27) (some (26, false)) (.fld 0 [false] (.t 10)), .op (some 28) (some (26, false)) (.load false 1 (.t 27)), .op (some 29) (some (26, false)) (.bin .gtr (.t 28) (.c (.int .i64 (Int.ofNat 0)))), .op (some 30) (some (23, true)) (.pick (.t 26) (.c (.tf true)) (.t 29)), .op (some 31) none (.pick (.t 23) (.t 30) (.c (.tf false)))]) (.cond (.t 31) (.reg [.op (some 32) none (.load false 1 (.t 9)), .op (some 33) none (.bin .add (.t 32) (.c (.int .i64 (Int.ofNat 1)))), .op none none (.store 1 (.t 9) (.t 33))]) .skip))))) 35), (4, .dfr), (0, .cells [.hole (.int .i64)] true), (1, .cells [.hole (.int .i64)] false), (2, .cells [.hole (.int .i64)] true), (3, .cells [.hole (.int .i64)] false)] [] []
@[reducible] def x67_0i_0 : Outs := [(.ret, Pat.mk [] [(0, .cells [.hole (.int .i64)] true), (1, .cells [.hole (.int .i64)] false), (2, .cells [.hole (.int .i64)] true), (3, .cells [.hole (.int .i64)] false), (4, .dfr), (5, .loop .done (some (.exit 0)) 4 [(5, .c (.ptr 0 0)), (6, .c (.ptr 1 0)), (7, .c (.ptr 2 0)), (8, .c (.hole (.int .i64))), (9, .c (.ptr 3 0)), (13, .fn 80 [] [.ipc (.list (.prod (.int .i64) (.int .i64)))])] [14] (.reg [.op (some 10) none (.alloc [.int .i64 (Int.ofNat 0), .int .i64 (Int.ofNat 0)]), .op none none (.store 2 (.t 10) (.t 14))]) (.block 1 (.seq (.seq (.reg [.op (some 15) none (.load false 1 (.t 6)), .op (some 16) none (.bin .eql (.t 15) (.c (.int .i64 (Int.ofNat 0))))]) (.cond (.t 16) (.exit 0) .skip)) (.seq (.reg [.op (some 17) none (.load false 1 (.t 6)), .op (some 18) none (.bin .sub (.t 17) (.c (.int .i64 (Int.ofNat 1)))), .op none none (.store 1 (.t 6) (.t 18))]) (.seq (.reg [.op (some 19) none (.fld 1 [true] (.t 10)), .op (some 20) none (.load false 1 (.t 19)), .op (some 21) none (.load false 1 (.t 5)), .op (some 22) none (.bin .eql (.t 20) (.t 21)), .op (some 23) none (.mv (.t 22)), .op (some 24) (some (23, true)) (.load false 1 (.t 7)), .op (some 25) (some (23, true)) (.bin .gtr (.t 24) (.c (.int .i64 (Int.ofNat 0)))), .op (some 26) (some (23, true)) (.mv (.t 25)), .op (some 27) (some (26, false)) (.fld 0 [false] (.t 10)), .op (some 28) (some (26, false)) (.load false 1 (.t 27)), .op (some 29) (some (26, false)) (.bin .gtr (.t 28) (.c (.int .i64 (Int.ofNat 0)))), .op (some 30) (some (23, true)) (.pick (.t 26) (.c (.tf true)) (.t 29)), .op (some 31) none (.pick (.t 23) (.t 30) (.c (.tf false)))]) (.cond (.t 31) (.reg [.op (some 32) none (.load false 1 (.t 9)), .op (some 33) none (.bin .add (.t 32) (.c (.int .i64 (Int.ofNat 1)))), .op none none (.store 1 (.t 9) (.t 33))]) .skip))))) 35)] [] []), (.exit 0, Pat.mk [] [(0, .cells [.hole (.int .i64)] true), (1, .cells [.hole (.int .i64)] false), (2, .cells [.hole (.int .i64)] true), (3, .cells [.hole (.int .i64)] false), (4, .dfr), (5, .loop .ready none 4 [(5, .c (.ptr 0 0)), (6, .c (.ptr 1 0)), (7, .c (.ptr 2 0)), (8, .c (.hole (.int .i64))), (9, .c (.ptr 3 0)), (13, .fn 80 [] [.ipc (.list (.prod (.int .i64) (.int .i64)))])] [14] (.reg [.op (some 10) none (.alloc [.int .i64 (Int.ofNat 0), .int .i64 (Int.ofNat 0)]), .op none none (.store 2 (.t 10) (.t 14))]) (.block 1 (.seq (.seq (.reg [.op (some 15) none (.load false 1 (.t 6)), .op (some 16) none (.bin .eql (.t 15) (.c (.int .i64 (Int.ofNat 0))))]) (.cond (.t 16) (.exit 0) .skip)) (.seq (.reg [.op (some 17) none (.load false 1 (.t 6)), .op (some 18) none (.bin .sub (.t 17) (.c (.int .i64 (Int.ofNat 1)))), .op none none (.store 1 (.t 6) (.t 18))]) (.seq (.reg [.op (some 19) none (.fld 1 [true] (.t 10)), .op (some 20) none (.load false 1 (.t 19)), .op (some 21) none (.load false 1 (.t 5)), .op (some 22) none (.bin .eql (.t 20) (.t 21)), .op (some 23) none (.mv (.t 22)), .op (some 24) (some (23, true)) (.load false 1 (.t 7)), .op (some 25) (some (23, true)) (.bin .gtr (.t 24) (.c (.int .i64 (Int.ofNat 0)))), .op (some 26) (some (23, true)) (.mv (.t 25)), .op (some 27) (some (26, false)) (.fld 0 [false] (.t 10)), .op (some 28) (some (26, false)) (.load false 1 (.t 27)), .op (some 29) (some (26, false)) (.bin .gtr (.t 28) (.c (.int .i64 (Int.ofNat 0)))), .op (some 30) (some (23, true)) (.pick (.t 26) (.c (.tf true)) (.t 29)), .op (some 31) none (.pick (.t 23) (.t 30) (.c (.tf false)))]) (.cond (.t 31) (.reg [.op (some 32) none (.load false 1 (.t 9)), .op (some 33) none (.bin .add (.t 32) (.c (.int .i64 (Int.ofNat 1)))), .op none none (.store 1 (.t 9) (.t 33))]) .skip))))) 35)] [] [])]
noncomputable def b67_0i_0 : D prog 16 none 6 := (.seq (.reg [.op (some 8) none (.bin .lss (.t 7) (.t 6))]) (.seq (.cond ( .t 8) .skip (.exit 0)) (.seq (.block 1 (.seq (.reg [.op (some 9) none (.idx 2 (.t 5) (.t 7)), .op (some 10) none (.load true 2 (.t 9)), .op (some 4) none (.alloc [.int .i64 (Int.ofNat 0), .int .i64 (Int.ofNat 0)]), .op none none (.store 2 (.t 4) (.t 10))]) (.seq (.reg [.op (some 11) none (.mv (.t 0)), .op (some 12) none (.load true 2 (.t 4)), .call (some 13) none (.t 11) [.t 12] [some (.prod (.int .i64) (.int .i64))], .op (some 14) none (.not (.t 13))]) (.cond ( .t 14) .ret .skip)))) (.reg [.op (some 15) none (.bin .add (.t 7) (.c (.int .i64 (Int.ofNat 1)))), .op (some 7) none (.mv (.t 15))]))))
noncomputable def g67_0i_0 (v5 : List (Int × Int)) (v6 : Int) (v7 : Int) (w8 : Int) (w13_0 : List (Int × Int)) (c0_0 : Int) (c1_0 : Int) (c2_0 : Int) (c3_0 : Int) : Option (((List (Int × Int)) × Int × Int × Int × (List (Int × Int)) × Int × Int × Int × Int × Unit) ⊕ ((Int × Int × Int × Int × Int × (List (Int × Int)) × Unit) ⊕ ((Int × Int × Int × Int × Int × (List (Int × Int)) × Unit)))) :=
 brO (decide (v7 < v6)) (
 need (inb v7 (((v5).length : Nat) : Int)) (
 brO (c1_0 == (0 : Int)) (
 some (.inr <| .inl <| (c0_0, (c1_0, (c2_0, (c3_0, (w8, (w13_0, ())))))))) (
 need (rng .i64 (c1_0 - (1 : Int))) (
 brO (((v5).getD (Int.toNat v7) ((0 : Int), (0 : Int))).2 == c0_0) (
 brO (decide ((0 : Int) < c2_0)) (
 need (rng .i64 (c3_0 + (1 : Int))) (
 need (rng .i64 (v7 + (1 : Int))) (
 some (.inl (v5, (v6, ((v7 + (1 : Int)), (w8, (w13_0, (c0_0, ((c1_0 - (1 : Int)), (c2_0, ((c3_0 + (1 : Int)), ()))))))))))))) (
 brO (decide ((0 : Int) < ((v5).getD (Int.toNat v7) ((0 : Int), (0 : Int))).1)) (
 need (rng .i64 (c3_0 + (1 : Int))) (
 need (rng .i64 (v7 + (1 : Int))) (
 some (.inl (v5, (v6, ((v7 + (1 : Int)), (w8, (w13_0, (c0_0, ((c1_0 - (1 : Int)), (c2_0, ((c3_0 + (1 : Int)), ()))))))))))))) (
 need (rng .i64 (v7 + (1 : Int))) (
 some (.inl (v5, (v6, ((v7 + (1 : Int)), (w8, (w13_0, (c0_0, ((c1_0 - (1 : Int)), (c2_0, (c3_0, ())))))))))))))) (
 need (rng .i64 (v7 + (1 : Int))) (
 some (.inl (v5, (v6, ((v7 + (1 : Int)), (w8, (w13_0, (c0_0, ((c1_0 - (1 : Int)), (c2_0, (c3_0, ())))))))))))))))) (
 some (.inr <| .inr <| (c0_0, (c1_0, (c2_0, (c3_0, (w8, (w13_0, ()))))))))
def Cg67_0i_0 (v5 : List (Int × Int)) (v6 : Int) (v7 : Int) (w8 : Int) (w13_0 : List (Int × Int)) (c0_0 : Int) (c1_0 : Int) (c2_0 : Int) (c3_0 : Int) : Option (((List (Int × Int)) × Int × Int × Int × (List (Int × Int)) × Int × Int × Int × Int × Unit) ⊕ ((Int × Int × Int × Int × Int × (List (Int × Int)) × Unit) ⊕ ((Int × Int × Int × Int × Int × (List (Int × Int)) × Unit)))) :=
 brC (decide (v7 < v6)) (
 needC (inb v7 (((v5).length : Nat) : Int)) (
 brC (c1_0 == (0 : Int)) (
 some (.inr <| .inl <| (c0_0, (c1_0, (c2_0, (c3_0, (w8, (w13_0, ())))))))) (
 needC (rng .i64 (c1_0 - (1 : Int))) (
 brC (((v5).getD (Int.toNat v7) ((0 : Int), (0 : Int))).2 == c0_0) (
 brC (decide ((0 : Int) < c2_0)) (
 needC (rng .i64 (c3_0 + (1 : Int))) (
 needC (rng .i64 (v7 + (1 : Int))) (
 some (.inl (v5, (v6, ((v7 + (1 : Int)), (w8, (w13_0, (c0_0, ((c1_0 - (1 : Int)), (c2_0, ((c3_0 + (1 : Int)), ()))))))))))))) (
 brC (decide ((0 : Int) < ((v5).getD (Int.toNat v7) ((0 : Int), (0 : Int))).1)) (
 needC (rng .i64 (c3_0 + (1 : Int))) (
 needC (rng .i64 (v7 + (1 : Int))) (
 some (.inl (v5, (v6, ((v7 + (1 : Int)), (w8, (w13_0, (c0_0, ((c1_0 - (1 : Int)), (c2_0, ((c3_0 + (1 : Int)), ()))))))))))))) (
 needC (rng .i64 (v7 + (1 : Int))) (
 some (.inl (v5, (v6, ((v7 + (1 : Int)), (w8, (w13_0, (c0_0, ((c1_0 - (1 : Int)), (c2_0, (c3_0, ())))))))))))))) (
 needC (rng .i64 (v7 + (1 : Int))) (
 some (.inl (v5, (v6, ((v7 + (1 : Int)), (w8, (w13_0, (c0_0, ((c1_0 - (1 : Int)), (c2_0, (c3_0, ())))))))))))))))) (
 some (.inr <| .inr <| (c0_0, (c1_0, (c2_0, (c3_0, (w8, (w13_0, ()))))))))
theorem Cg67_0i_0_le (v5 : List (Int × Int)) (v6 : Int) (v7 : Int) (w8 : Int) (w13_0 : List (Int × Int)) (c0_0 : Int) (c1_0 : Int) (c2_0 : Int) (c3_0 : Int) : Le (Cg67_0i_0 v5 v6 v7 w8 w13_0 c0_0 c1_0 c2_0 c3_0) (g67_0i_0 v5 v6 v7 w8 w13_0 c0_0 c1_0 c2_0 c3_0) := (Le.br (Le.nd (Le.br Le.r (Le.nd (Le.br (Le.br (Le.nd (Le.nd Le.r)) (Le.br (Le.nd (Le.nd Le.r)) (Le.nd Le.r))) (Le.nd Le.r))))) Le.r)
theorem s67_0i_0 : ∀ x, roundE (kzO (p67_0i_0.T ⊕ x67_0i_0.T)) cx67_0i ar0 [0, 1, 2, 3, 4, 5] p67_0i_0 x67_0i_0 (b67_0i_0) (fun y => some (.inl y)) (fun b => some (.inr b)) x = g67_0i_0 x.1 x.2.1 x.2.2.1 x.2.2.2.1 x.2.2.2.2.1 x.2.2.2.2.2.1 x.2.2.2.2.2.2.1 x.2.2.2.2.2.2.2.1 x.2.2.2.2.2.2.2.2.1 := by intro x; kernel_rfl
noncomputable def L67_0i_0 : LoopS prog 16 none 6 := mkLoop mixed cx67_0i cx67_0i_ok [0, 1, 2, 3, 4, 5] rfl p67_0i_0 x67_0i_0 rfl (b67_0i_0) (fun x => g67_0i_0 x.1 x.2.1 x.2.2.1 x.2.2.2.1 x.2.2.2.2.1 x.2.2.2.2.2.1 x.2.2.2.2.2.2.1 x.2.2.2.2.2.2.2.1 x.2.2.2.2.2.2.2.2.1) (s67_0i_0)
@[reducible] def p67_0 : Pat := Pat.mk [(5, .c (.ptr 0 0)), (6, .c (.ptr 1 0)), (7, .c (.ptr 2 0)), (8, .c (.hole (.int .i64))), (9, .c (.ptr 3 0)), (13, .fn 80 [] [.ipc (.list (.prod (.int .i64) (.int .i64)))])] [(0, .cells [.hole (.int .i64)] true), (1, .cells [.hole (.int .i64)] false), (2, .cells [.hole (.int .i64)] true), (3, .cells [.hole (.int .i64)] false)] [.slot 5, .slot 6, .slot 7, .slot 9] []
@[reducible] def x67_0 : Outs := [(.exit 0, Pat.mk [(9, .c (.ptr 0 0))] [(0, .cells [.hole (.int .i64)] false), (1, .dfr)] [.slot 9, .mark 0] [1]), (.normal, Pat.mk [(9, .c (.ptr 0 0))] [(0, .cells [.hole (.int .i64)] false), (1, .dfr)] [.slot 9, .mark 0] [1])]
noncomputable def b67_0i : D prog 16 none 6 := (.seq (.reg [.op (some 5) none (.load false 1 (.t 1)), .op (some 6) none (.len (.t 5)), .op (some 7) none (.mv (.c (.int .i64 (Int.ofNat 0))))]) (.block 0 (.loop L67_0i_0)))
theorem ci67_0 : trF prog f80 = some ⟨16, 2, (b67_0i).er, [], []⟩ := by kernel_rfl
noncomputable def g67_0 (v8 : Int) (v13_0 : List (Int × Int)) (c0_0 : Int) (c1_0 : Int) (c2_0 : Int) (c3_0 : Int) : Option ((Int × Unit) ⊕ ((Int × Unit))) :=
 bindO (iter (fun x => g67_0i_0 x.1 x.2.1 x.2.2.1 x.2.2.2.1 x.2.2.2.2.1 x.2.2.2.2.2.1 x.2.2.2.2.2.2.1 x.2.2.2.2.2.2.2.1 x.2.2.2.2.2.2.2.2.1) (v13_0, ((((v13_0).length : Nat) : Int), ((0 : Int), (v8, (v13_0, (c0_0, (c1_0, (c2_0, (c3_0, ())))))))))) fun z1 =>
 match z1 with
 | .inl z2 =>
 some (.inl <| (z2.2.2.2.1, ()))
 | .inr z3 =>
 some (.inr <| (z3.2.2.2.1, ()))
def Cg67_0 (v8 : Int) (v13_0 : List (Int × Int)) (c0_0 : Int) (c1_0 : Int) (c2_0 : Int) (c3_0 : Int) : Option ((Int × Unit) ⊕ ((Int × Unit))) :=
 bindC (iterF (fun x => Cg67_0i_0 x.1 x.2.1 x.2.2.1 x.2.2.2.1 x.2.2.2.2.1 x.2.2.2.2.2.1 x.2.2.2.2.2.2.1 x.2.2.2.2.2.2.2.1 x.2.2.2.2.2.2.2.2.1) 1000000 (v13_0, ((((v13_0).length : Nat) : Int), ((0 : Int), (v8, (v13_0, (c0_0, (c1_0, (c2_0, (c3_0, ())))))))))) fun z1 =>
 match z1 with
 | .inl z2 =>
 some (.inl <| (z2.2.2.2.1, ()))
 | .inr z3 =>
 some (.inr <| (z3.2.2.2.1, ()))
theorem Cg67_0_le (v8 : Int) (v13_0 : List (Int × Int)) (c0_0 : Int) (c1_0 : Int) (c2_0 : Int) (c3_0 : Int) : Le (Cg67_0 v8 v13_0 c0_0 c1_0 c2_0 c3_0) (g67_0 v8 v13_0 c0_0 c1_0 c2_0 c3_0) := (Le.bd (Le.iter fun x => Cg67_0i_0_le ..) fun z1 => (match z1 with | .inl z2 => Le.r | .inr z3 => Le.r))
theorem s67_0 : ∀ x, rangeE (N := 35) (out := none) (base := 0) (kzO x67_0.T) cx67_0i ar0 [] p67_0 x67_0 ( .t 13) [14] (ad67_0).er (bd67_0).er [] 2 80 (b67_0i) some x = g67_0 x.1 x.2.1 x.2.2.1 x.2.2.2.1 x.2.2.2.2.1 x.2.2.2.2.2.1 := by intro x; kernel_rfl
noncomputable def R67_0 : RangeS prog 35 none 0 := mkRange mixed cx67_0i cx67_0i_ok [] rfl p67_0 x67_0 ( .t 13) [14] rfl (ad67_0).er (bd67_0).er 80 func80 (ci67_0) (enters_of func80 rfl rfl) 6 rfl (b67_0i) rfl (fun x => g67_0 x.1 x.2.1 x.2.2.1 x.2.2.2.1 x.2.2.2.2.1 x.2.2.2.2.2.1) (s67_0)
noncomputable def dd67 : D prog 35 none 0 := (.seq (.reg [.op (some 5) none (.box (.t 1)), .op (some 6) none (.box (.t 2)), .op (some 7) none (.box (.t 3)), .op (some 8) none (.mv (.c (.int .i64 (Int.ofNat 0))))]) (.seq (.reg [.op (some 9) none (.alloc [.int .i64 (Int.ofNat 0)]), .op none none (.store 1 (.t 9) (.c (.int .i64 (Int.ofNat 0))))]) (.seq (.seq (.reg [.op (some 11) none (.mv (.t 0)), .op (some 12) none (.mkfn 78 [] [.t 5, .t 7]), .call (some 13) none (.c (.fn 58 [] [])) [.t 11, .t 12] [some (.list (.list (.int .i64))), none]]) (.block 0 (.rangeF R67_0))) (.seq (.reg [.op (some 34) none (.load false 1 (.t 9)), .op (some 8) none (.mv (.t 34))]) .ret))))
noncomputable def F67 (a0 : List (List Int)) (a1 : Int) (a2 : Int) (a3 : Int) : Option (Int × Unit) :=
 bindO (F58_v1 a0 a1 a3) fun y0 =>
 bindO (g67_0 (0 : Int) y0.1 a1 a2 a3 (0 : Int)) fun z4 =>
 match z4 with
 | .inl z5 =>
 some (z5.1, ())
 | .inr z6 =>
 some (z6.1, ())
def CF67 (a0 : List (List Int)) (a1 : Int) (a2 : Int) (a3 : Int) : Option (Int × Unit) :=
 bindC (CF58_v1 a0 a1 a3) fun y0 =>
 bindC (Cg67_0 (0 : Int) y0.1 a1 a2 a3 (0 : Int)) fun z4 =>
 match z4 with
 | .inl z5 =>
 some (z5.1, ())
 | .inr z6 =>
 some (z6.1, ())
theorem CF67_le (a0 : List (List Int)) (a1 : Int) (a2 : Int) (a3 : Int) : Le (CF67 a0 a1 a2 a3) (F67 a0 a1 a2 a3) := (Le.bd (CF58_v1_le ..) fun y0 => (Le.bd (Cg67_0_le ..) fun z4 => (match z4 with | .inl z5 => Le.r | .inr z6 => Le.r)))
theorem c67_ok : trF prog f67 = some ⟨35, 4, dd67.er, [.t 8], [some (.int .i64)]⟩ := by kernel_rfl
noncomputable def ct67 : Ct := ⟨67, [.c (.hole (.list (.list (.int .i64)))), .c (.hole (.int .i64)), .c (.hole (.int .i64)), .c (.hole (.int .i64))], .c (.hole (.int .i64)), fun x => F67 x.1 x.2.1 x.2.2.1 x.2.2.2.1⟩
theorem ct67_ok : ct67.Ok prog := ct_ok mixed cx67_ok func67 c67_ok (enters_of func67 rfl rfl) dd67 rfl rfl (fun x => by kernel_rfl)

/- 68 -/
noncomputable def cx68 : Cx := mkCxH [] []
theorem cx68_ok : cx68.Ok prog := mkCxH_ok trivial trivial
noncomputable def dd68 : D prog 7 none 0 := (.seq (.reg [.op (some 3) none (.box (.t 1)), .op (some 4) none (.mv (.c (.int .i64 (Int.ofNat 0))))]) (.seq (.reg [.op (some 5) none (.fld 0 [false] (.t 3)), .op (some 6) none (.load false 1 (.t 5)), .op (some 4) none (.mv (.t 6))]) .ret))
noncomputable def F68 (a0 : Int) (a1 : Int × Int) : Option (Int × Unit) :=
 some (a1.1, ())
def CF68 (a0 : Int) (a1 : Int × Int) : Option (Int × Unit) :=
 some (a1.1, ())
theorem CF68_le (a0 : Int) (a1 : Int × Int) : Le (CF68 a0 a1) (F68 a0 a1) := Le.r
theorem c68_ok : trF prog f68 = some ⟨7, 2, dd68.er, [.t 4], [some (.int .i64)]⟩ := by kernel_rfl
noncomputable def ct68 : Ct := ⟨68, [.c (.hole (.int .i64)), .c (.hole (.prod (.int .i64) (.int .i64)))], .c (.hole (.int .i64)), fun x => F68 x.1 x.2.1⟩
theorem ct68_ok : ct68.Ok prog := ct_ok mixed cx68_ok func68 c68_ok (enters_of func68 rfl rfl) dd68 rfl rfl (fun x => by kernel_rfl)

/- 64 -/
noncomputable def cx64_v2 : Cx := mkCxH [ct68] []
theorem cx64_v2_ok : cx64_v2.Ok prog := mkCxH_ok ⟨ct68_ok, trivial⟩ trivial
@[reducible] def p64_v2_1 : Pat := Pat.mk [(1, .c (.fn0 68)), (5, .c (.sl0 0 (.list (.int .i64)))), (6, .c (.hole (.int .i64))), (8, .c (.sl0 1 (.int .i64))), (11, .c (.hole (.list (.list (.prod (.int .i64) (.int .i64)))))), (12, .c (.hole (.int .i64))), (13, .c (.hole (.int .i64))), (19, .c (.hole (.list (.prod (.int .i64) (.int .i64))))), (20, .c (.hole (.int .i64))), (21, .c (.hole (.int .i64)))] [(0, .arr (.list (.int .i64)) false), (1, .arr (.int .i64) false)] [.slot 5, .slot 8] []
@[reducible] def x64_v2_1 : Outs := [(.exit 2, Pat.mk [(1, .c (.fn0 68)), (5, .c (.sl0 0 (.list (.int .i64)))), (8, .c (.sl0 1 (.int .i64))), (11, .c (.hole (.list (.list (.prod (.int .i64) (.int .i64)))))), (12, .c (.hole (.int .i64))), (13, .c (.hole (.int .i64)))] [(0, .arr (.list (.int .i64)) false), (1, .arr (.int .i64) false)] [.slot 5, .slot 8] [])]
noncomputable def b64_v2_1 : D prog 39 none 0 := (.seq (.reg [.op (some 22) none (.bin .lss (.t 21) (.t 20))]) (.seq (.cond ( .t 22) .skip (.exit 2)) (.seq (.block 3 (.seq (.reg [.op (some 23) none (.idx 2 (.t 19) (.t 21)), .op (some 24) none (.load true 2 (.t 23)), .op (some 10) none (.alloc [.int .i64 (Int.ofNat 0), .int .i64 (Int.ofNat 0)]), .op none none (.store 2 (.t 10) (.t 24))]) (.reg [.op (some 25) none (.mv (.t 8)), .op (some 26) none (.mv (.t 1)), .op (some 27) none (.mv (.t 6)), .op (some 28) none (.load true 2 (.t 10)), .call (some 29) none (.t 26) [.t 27, .t 28] [some (.int .i64), some (.prod (.int .i64) (.int .i64))], .op (some 30) none (.bslice (.int .i64) [.t 29]), .op (some 31) none (.append 1 (.t 25) (.t 30)), .op (some 8) none (.mv (.t 31))]))) (.reg [.op (some 32) none (.bin .add (.t 21) (.c (.int .i64 (Int.ofNat 1)))), .op (some 21) none (.mv (.t 32))]))))
noncomputable def g64_v2_1 (nv5 : Nat) (v6 : Int) (nv8 : Nat) (v11 : List (List (Int × Int))) (v12 : Int) (v13 : Int) (v19 : List (Int × Int)) (v20 : Int) (v21 : Int) (b0 : List (List Int)) (b1 : List Int) : Option ((Nat × Int × Nat × (List (List (Int × Int))) × Int × Int × (List (Int × Int)) × Int × Int × List (List Int) × List Int × Unit) ⊕ ((Nat × Nat × (List (List (Int × Int))) × Int × Int × List (List Int) × List Int × Unit))) :=
 brO (decide (v21 < v20)) (
 need (inb v21 (((v19).length : Nat) : Int)) (
 bindO (F68 v6 (((v19).getD (Int.toNat v21) ((0 : Int), (0 : Int))).1, ((v19).getD (Int.toNat v21) ((0 : Int), (0 : Int))).2)) fun y0 =>
 need (decide ((nv8 + (((((y0.1 :: [])).drop (0 : Nat)).take (1 : Nat))).length) < bigL)) (
 need (rng .i64 (v21 + (1 : Int))) (
 some (.inl (nv5, (v6, ((nv8 + (((((y0.1 :: [])).drop (0 : Nat)).take (1 : Nat))).length), (v11, (v12, (v13, (v19, (v20, ((v21 + (1 : Int)), (b0, (((((b1).drop (0 : Nat)).take nv8) ++ ((((y0.1 :: [])).drop (0 : Nat)).take (1 : Nat))), ())))))))))))))))) (
 some (.inr (nv5, (nv8, (v11, (v12, (v13, (b0, (b1, ())))))))))
def Cg64_v2_1 (nv5 : Nat) (v6 : Int) (nv8 : Nat) (v11 : List (List (Int × Int))) (v12 : Int) (v13 : Int) (v19 : List (Int × Int)) (v20 : Int) (v21 : Int) (b0 : List (List Int)) (b1 : List Int) : Option ((Nat × Int × Nat × (List (List (Int × Int))) × Int × Int × (List (Int × Int)) × Int × Int × List (List Int) × List Int × Unit) ⊕ ((Nat × Nat × (List (List (Int × Int))) × Int × Int × List (List Int) × List Int × Unit))) :=
 brC (decide (v21 < v20)) (
 needC (inb v21 (((v19).length : Nat) : Int)) (
 bindC (CF68 v6 (((v19).getD (Int.toNat v21) ((0 : Int), (0 : Int))).1, ((v19).getD (Int.toNat v21) ((0 : Int), (0 : Int))).2)) fun y0 =>
 needC (decide ((nv8 + (((((y0.1 :: [])).drop (0 : Nat)).take (1 : Nat))).length) < bigL)) (
 needC (rng .i64 (v21 + (1 : Int))) (
 some (.inl (nv5, (v6, ((nv8 + (((((y0.1 :: [])).drop (0 : Nat)).take (1 : Nat))).length), (v11, (v12, (v13, (v19, (v20, ((v21 + (1 : Int)), (b0, (((((b1).drop (0 : Nat)).take nv8) ++ ((((y0.1 :: [])).drop (0 : Nat)).take (1 : Nat))), ())))))))))))))))) (
 some (.inr (nv5, (nv8, (v11, (v12, (v13, (b0, (b1, ())))))))))
theorem Cg64_v2_1_le (nv5 : Nat) (v6 : Int) (nv8 : Nat) (v11 : List (List (Int × Int))) (v12 : Int) (v13 : Int) (v19 : List (Int × Int)) (v20 : Int) (v21 : Int) (b0 : List (List Int)) (b1 : List Int) : Le (Cg64_v2_1 nv5 v6 nv8 v11 v12 v13 v19 v20 v21 b0 b1) (g64_v2_1 nv5 v6 nv8 v11 v12 v13 v19 v20 v21 b0 b1) := (Le.br (Le.nd (Le.bd (CF68_le ..) fun y0 => (Le.nd (Le.nd Le.r)))) Le.r)
theorem s64_v2_1 : ∀ x, roundE (kzO (p64_v2_1.T ⊕ x64_v2_1.T)) cx64_v2 ar0 [] p64_v2_1 x64_v2_1 (b64_v2_1) (fun y => some (.inl y)) (fun b => some (.inr b)) x = g64_v2_1 x.1 x.2.1 x.2.2.1 x.2.2.2.1 x.2.2.2.2.1 x.2.2.2.2.2.1 x.2.2.2.2.2.2.1 x.2.2.2.2.2.2.2.1 x.2.2.2.2.2.2.2.2.1 x.2.2.2.2.2.2.2.2.2.1 x.2.2.2.2.2.2.2.2.2.2.1 := by intro x; kernel_rfl
noncomputable def L64_v2_1 : LoopS prog 39 none 0 := mkLoop mixed cx64_v2 cx64_v2_ok [] rfl p64_v2_1 x64_v2_1 rfl (b64_v2_1) (fun x => g64_v2_1 x.1 x.2.1 x.2.2.1 x.2.2.2.1 x.2.2.2.2.1 x.2.2.2.2.2.1 x.2.2.2.2.2.2.1 x.2.2.2.2.2.2.2.1 x.2.2.2.2.2.2.2.2.1 x.2.2.2.2.2.2.2.2.2.1 x.2.2.2.2.2.2.2.2.2.2.1) (s64_v2_1)
@[reducible] def p64_v2_0 : Pat := Pat.mk [(1, .c (.fn0 68)), (5, .c (.sl0 0 (.list (.int .i64)))), (11, .c (.hole (.list (.list (.prod (.int .i64) (.int .i64)))))), (12, .c (.hole (.int .i64))), (13, .c (.hole (.int .i64)))] [(0, .arr (.list (.int .i64)) false)] [.slot 5] []
@[reducible] def x64_v2_0 : Outs := [(.exit 0, Pat.mk [(5, .c (.sl0 0 (.list (.int .i64))))] [(0, .arr (.list (.int .i64)) false)] [.slot 5] [])]
noncomputable def b64_v2_0 : D prog 39 none 0 := (.seq (.reg [.op (some 14) none (.bin .lss (.t 13) (.t 12))]) (.seq (.cond ( .t 14) .skip (.exit 0)) (.seq (.block 1 (.seq (.reg [.op (some 15) none (.mv (.t 13)), .op (some 16) none (.idx 1 (.t 11) (.t 13)), .op (some 17) none (.load false 1 (.t 16)), .op (some 6) none (.mv (.t 15)), .op (some 7) none (.mv (.t 17))]) (.seq (.reg [.op (some 18) none (.bslice (.int .i64) []), .op (some 8) none (.mv (.t 18))]) (.seq (.seq (.reg [.op (some 19) none (.mv (.t 7)), .op (some 20) none (.len (.t 19)), .op (some 21) none (.mv (.c (.int .i64 (Int.ofNat 0))))]) (.block 2 (.loop L64_v2_1))) (.reg [.op (some 33) none (.mv (.t 5)), .op (some 34) none (.mv (.t 8)), .op (some 35) none (.bslice (.list (.int .i64)) [.t 34]), .op (some 36) none (.append 1 (.t 33) (.t 35)), .op (some 5) none (.mv (.t 36))]))))) (.reg [.op (some 37) none (.bin .add (.t 13) (.c (.int .i64 (Int.ofNat 1)))), .op (some 13) none (.mv (.t 37))]))))
noncomputable def g64_v2_0 (nv5 : Nat) (v11 : List (List (Int × Int))) (v12 : Int) (v13 : Int) (b0 : List (List Int)) : Option ((Nat × (List (List (Int × Int))) × Int × Int × List (List Int) × Unit) ⊕ ((Nat × List (List Int) × Unit))) :=
 brO (decide (v13 < v12)) (
 need (inb v13 (((v11).length : Nat) : Int)) (
 bindO (iter (fun x => g64_v2_1 x.1 x.2.1 x.2.2.1 x.2.2.2.1 x.2.2.2.2.1 x.2.2.2.2.2.1 x.2.2.2.2.2.2.1 x.2.2.2.2.2.2.2.1 x.2.2.2.2.2.2.2.2.1 x.2.2.2.2.2.2.2.2.2.1 x.2.2.2.2.2.2.2.2.2.2.1) (nv5, (v13, ((0 : Nat), (v11, (v12, (v13, (((v11).getD (Int.toNat v13) []), ((((((v11).getD (Int.toNat v13) [])).length : Nat) : Int), ((0 : Int), (b0, ([], ())))))))))))) fun z1 =>
 need (decide ((z1.1 + ((((((((z1.2.2.2.2.2.2.1).drop (0 : Nat)).take z1.2.1) :: [])).drop (0 : Nat)).take (1 : Nat))).length) < bigL)) (
 need (rng .i64 (z1.2.2.2.2.1 + (1 : Int))) (
 some (.inl ((z1.1 + ((((((((z1.2.2.2.2.2.2.1).drop (0 : Nat)).take z1.2.1) :: [])).drop (0 : Nat)).take (1 : Nat))).length), (z1.2.2.1, (z1.2.2.2.1, ((z1.2.2.2.2.1 + (1 : Int)), (((((z1.2.2.2.2.2.1).drop (0 : Nat)).take z1.1) ++ (((((((z1.2.2.2.2.2.2.1).drop (0 : Nat)).take z1.2.1) :: [])).drop (0 : Nat)).take (1 : Nat))), ())))))))))) (
 some (.inr (nv5, (b0, ()))))
def Cg64_v2_0 (nv5 : Nat) (v11 : List (List (Int × Int))) (v12 : Int) (v13 : Int) (b0 : List (List Int)) : Option ((Nat × (List (List (Int × Int))) × Int × Int × List (List Int) × Unit) ⊕ ((Nat × List (List Int) × Unit))) :=
 brC (decide (v13 < v12)) (
 needC (inb v13 (((v11).length : Nat) : Int)) (
 bindC (iterF (fun x => Cg64_v2_1 x.1 x.2.1 x.2.2.1 x.2.2.2.1 x.2.2.2.2.1 x.2.2.2.2.2.1 x.2.2.2.2.2.2.1 x.2.2.2.2.2.2.2.1 x.2.2.2.2.2.2.2.2.1 x.2.2.2.2.2.2.2.2.2.1 x.2.2.2.2.2.2.2.2.2.2.1) 1000000 (nv5, (v13, ((0 : Nat), (v11, (v12, (v13, (((v11).getD (Int.toNat v13) []), ((((((v11).getD (Int.toNat v13) [])).length : Nat) : Int), ((0 : Int), (b0, ([], ())))))))))))) fun z1 =>
 needC (decide ((z1.1 + ((((((((z1.2.2.2.2.2.2.1).drop (0 : Nat)).take z1.2.1) :: [])).drop (0 : Nat)).take (1 : Nat))).length) < bigL)) (
 needC (rng .i64 (z1.2.2.2.2.1 + (1 : Int))) (
 some (.inl ((z1.1 + ((((((((z1.2.2.2.2.2.2.1).drop (0 : Nat)).take z1.2.1) :: [])).drop (0 : Nat)).take (1 : Nat))).length), (z1.2.2.1, (z1.2.2.2.1, ((z1.2.2.2.2.1 + (1 : Int)), (((((z1.2.2.2.2.2.1).drop (0 : Nat)).take z1.1) ++ (((((((z1.2.2.2.2.2.2.1).drop (0 : Nat)).take z1.2.1) :: [])).drop (0 : Nat)).take (1 : Nat))), ())))))))))) (
 some (.inr (nv5, (b0, ()))))
theorem Cg64_v2_0_le (nv5 : Nat) (v11 : List (List (Int × Int))) (v12 : Int) (v13 : Int) (b0 : List (List Int)) : Le (Cg64_v2_0 nv5 v11 v12 v13 b0) (g64_v2_0 nv5 v11 v12 v13 b0) := (Le.br (Le.nd (Le.bd (Le.iter fun x => Cg64_v2_1_le ..) fun z1 => (Le.nd (Le.nd Le.r)))) Le.r)
theorem s64_v2_0 : ∀ x, roundE (kzO (p64_v2_0.T ⊕ x64_v2_0.T)) cx64_v2 ar0 [] p64_v2_0 x64_v2_0 (b64_v2_0) (fun y => some (.inl y)) (fun b => some (.inr b)) x = g64_v2_0 x.1 x.2.1 x.2.2.1 x.2.2.2.1 x.2.2.2.2.1 := by intro x; kernel_rfl
noncomputable def L64_v2_0 : LoopS prog 39 none 0 := mkLoop mixed cx64_v2 cx64_v2_ok [] rfl p64_v2_0 x64_v2_0 rfl (b64_v2_0) (fun x => g64_v2_0 x.1 x.2.1 x.2.2.1 x.2.2.2.1 x.2.2.2.2.1) (s64_v2_0)
noncomputable def dd64_v2 : D prog 39 none 0 := (.seq (.reg [.op (some 4) none (.mv (.c .nsl))]) (.seq (.reg [.op (some 5) none (.mv (.c .nsl))]) (.seq (.seq (.reg [.op (some 11) none (.mv (.t 0)), .op (some 12) none (.len (.t 11)), .op (some 13) none (.mv (.c (.int .i64 (Int.ofNat 0))))]) (.block 0 (.loop L64_v2_0))) (.seq (.reg [.op (some 38) none (.mv (.t 5)), .op (some 4) none (.mv (.t 38))]) .ret))))
noncomputable def F64_v2 (a0 : List (List (Int × Int))) : Option (List (List Int) × Unit) :=
 bindO (iter (fun x => g64_v2_0 x.1 x.2.1 x.2.2.1 x.2.2.2.1 x.2.2.2.2.1) ((0 : Nat), (a0, ((((a0).length : Nat) : Int), ((0 : Int), ([], ())))))) fun z2 =>
 some ((((z2.2.1).drop (0 : Nat)).take z2.1), ())
def CF64_v2 (a0 : List (List (Int × Int))) : Option (List (List Int) × Unit) :=
 bindC (iterF (fun x => Cg64_v2_0 x.1 x.2.1 x.2.2.1 x.2.2.2.1 x.2.2.2.2.1) 1000000 ((0 : Nat), (a0, ((((a0).length : Nat) : Int), ((0 : Int), ([], ())))))) fun z2 =>
 some ((((z2.2.1).drop (0 : Nat)).take z2.1), ())
theorem CF64_v2_le (a0 : List (List (Int × Int))) : Le (CF64_v2 a0) (F64_v2 a0) := (Le.bd (Le.iter fun x => Cg64_v2_0_le ..) fun z2 => Le.r)
theorem c64_v2_ok : trF prog f64 = some ⟨39, 2, dd64_v2.er, [.t 4], [some (.list (.list (.int .i64)))]⟩ := by kernel_rfl
noncomputable def ct64_v2 : Ct := ⟨64, [.c (.hole (.list (.list (.prod (.int .i64) (.int .i64))))), .c (.fn0 68)], .c (.hole (.list (.list (.int .i64)))), fun x => F64_v2 x.1⟩
theorem ct64_v2_ok : ct64_v2.Ok prog := ct_ok mixed cx64_v2_ok func64 c64_v2_ok (enters_of func64 rfl rfl) dd64_v2 rfl rfl (fun x => by kernel_rfl)

/- 69 -/
noncomputable def cx69 : Cx := mkCxH [] []
theorem cx69_ok : cx69.Ok prog := mkCxH_ok trivial trivial
noncomputable def dd69 : D prog 7 none 0 := (.seq (.reg [.op (some 3) none (.box (.t 1)), .op (some 4) none (.mv (.c (.int .i64 (Int.ofNat 0))))]) (.seq (.reg [.op (some 5) none (.fld 1 [true] (.t 3)), .op (some 6) none (.load false 1 (.t 5)), .op (some 4) none (.mv (.t 6))]) .ret))
noncomputable def F69 (a0 : Int) (a1 : Int × Int) : Option (Int × Unit) :=
 some (a1.2, ())
def CF69 (a0 : Int) (a1 : Int × Int) : Option (Int × Unit) :=
 some (a1.2, ())
theorem CF69_le (a0 : Int) (a1 : Int × Int) : Le (CF69 a0 a1) (F69 a0 a1) := Le.r
theorem c69_ok : trF prog f69 = some ⟨7, 2, dd69.er, [.t 4], [some (.int .i64)]⟩ := by kernel_rfl
noncomputable def ct69 : Ct := ⟨69, [.c (.hole (.int .i64)), .c (.hole (.prod (.int .i64) (.int .i64)))], .c (.hole (.int .i64)), fun x => F69 x.1 x.2.1⟩
theorem ct69_ok : ct69.Ok prog := ct_ok mixed cx69_ok func69 c69_ok (enters_of func69 rfl rfl) dd69 rfl rfl (fun x => by kernel_rfl)

/- 64 -/
noncomputable def cx64_v3 : Cx := mkCxH [ct69] []
theorem cx64_v3_ok : cx64_v3.Ok prog := mkCxH_ok ⟨ct69_ok, trivial⟩ trivial
@[reducible] def p64_v3_1 : Pat := Pat.mk [(1, .c (.fn0 69)), (5, .c (.sl0 0 (.list (.int .i64)))), (6, .c (.hole (.int .i64))), (8, .c (.sl0 1 (.int .i64))), (11, .c (.hole (.list (.list (.prod (.int .i64) (.int .i64)))))), (12, .c (.hole (.int .i64))), (13, .c (.hole (.int .i64))), (19, .c (.hole (.list (.prod (.int .i64) (.int .i64))))), (20, .c (.hole (.int .i64))), (21, .c (.hole (.int .i64)))] [(0, .arr (.list (.int .i64)) false), (1, .arr (.int .i64) false)] [.slot 5, .slot 8] []
@[reducible] def x64_v3_1 : Outs := [(.exit 2, Pat.mk [(1, .c (.fn0 69)), (5, .c (.sl0 0 (.list (.int .i64)))), (8, .c (.sl0 1 (.int .i64))), (11, .c (.hole (.list (.list (.prod (.int .i64) (.int .i64)))))), (12, .c (.hole (.int .i64))), (13, .c (.hole (.int .i64)))] [(0, .arr (.list (.int .i64)) false), (1, .arr (.int .i64) false)] [.slot 5, .slot 8] [])]
noncomputable def b64_v3_1 : D prog 39 none 0 := (.seq (.reg [.op (some 22) none (.bin .lss (.t 21) (.t 20))]) (.seq (.cond ( .t 22) .skip (.exit 2)) (.seq (.block 3 (.seq (.reg [.op (some 23) none (.idx 2 (.t 19) (.t 21)), .op (some 24) none (.load true 2 (.t 23)), .op (some 10) none (.alloc [.int .i64 (Int.ofNat 0), .int .i64 (Int.ofNat 0)]), .op none none (.store 2 (.t 10) (.t 24))]) (.reg [.op (some 25) none (.mv (.t 8)), .op (some 26) none (.mv (.t 1)), .op (some 27) none (.mv (.t 6)), .op (some 28) none (.load true 2 (.t 10)), .call (some 29) none (.t 26) [.t 27, .t 28] [some (.int .i64), some (.prod (.int .i64) (.int .i64))], .op (some 30) none (.bslice (.int .i64) [.t 29]), .op (some 31) none (.append 1 (.t 25) (.t 30)), .op (some 8) none (.mv (.t 31))]))) (.reg [.op (some 32) none (.bin .add (.t 21) (.c (.int .i64 (Int.ofNat 1)))), .op (some 21) none (.mv (.t 32))]))))
noncomputable def g64_v3_1 (nv5 : Nat) (v6 : Int) (nv8 : Nat) (v11 : List (List (Int × Int))) (v12 : Int) (v13 : Int) (v19 : List (Int × Int)) (v20 : Int) (v21 : Int) (b0 : List (List Int)) (b1 : List Int) : Option ((Nat × Int × Nat × (List (List (Int × Int))) × Int × Int × (List (Int × Int)) × Int × Int × List (List Int) × List Int × Unit) ⊕ ((Nat × Nat × (List (List (Int × Int))) × Int × Int × List (List Int) × List Int × Unit))) :=
 brO (decide (v21 < v20)) (
 need (inb v21 (((v19).length : Nat) : Int)) (
 bindO (F69 v6 (((v19).getD (Int.toNat v21) ((0 : Int), (0 : Int))).1, ((v19).getD (Int.toNat v21) ((0 : Int), (0 : Int))).2)) fun y0 =>
 need (decide ((nv8 + (((((y0.1 :: [])).drop (0 : Nat)).take (1 : Nat))).length) < bigL)) (
 need (rng .i64 (v21 + (1 : Int))) (
 some (.inl (nv5, (v6, ((nv8 + (((((y0.1 :: [])).drop (0 : Nat)).take (1 : Nat))).length), (v11, (v12, (v13, (v19, (v20, ((v21 + (1 : Int)), (b0, (((((b1).drop (0 : Nat)).take nv8) ++ ((((y0.1 :: [])).drop (0 : Nat)).take (1 : Nat))), ())))))))))))))))) (
 some (.inr (nv5, (nv8, (v11, (v12, (v13, (b0, (b1, ())))))))))
def Cg64_v3_1 (nv5 : Nat) (v6 : Int) (nv8 : Nat) (v11 : List (List (Int × Int))) (v12 : Int) (v13 : Int) (v19 : List (Int × Int)) (v20 : Int) (v21 : Int) (b0 : List (List Int)) (b1 : List Int) : Option ((Nat × Int × Nat × (List (List (Int × Int))) × Int × Int × (List (Int × Int)) × Int × Int × List (List Int) × List Int × Unit) ⊕ ((Nat × Nat × (List (List (Int × Int))) × Int × Int × List (List Int) × List Int × Unit))) :=
 brC (decide (v21 < v20)) (
 needC (inb v21 (((v19).length : Nat) : Int)) (
 bindC (CF69 v6 (((v19).getD (Int.toNat v21) ((0 : Int), (0 : Int))).1, ((v19).getD (Int.toNat v21) ((0 : Int), (0 : Int))).2)) fun y0 =>
 needC (decide ((nv8 + (((((y0.1 :: [])).drop (0 : Nat)).take (1 : Nat))).length) < bigL)) (
 needC (rng .i64 (v21 + (1 : Int))) (
 some (.inl (nv5, (v6, ((nv8 + (((((y0.1 :: [])).drop (0 : Nat)).take (1 : Nat))).length), (v11, (v12, (v13, (v19, (v20, ((v21 + (1 : Int)), (b0, (((((b1).drop (0 : Nat)).take nv8) ++ ((((y0.1 :: [])).drop (0 : Nat)).take (1 : Nat))), ())))))))))))))))) (
 some (.inr (nv5, (nv8, (v11, (v12, (v13, (b0, (b1, ())))))))))
theorem Cg64_v3_1_le (nv5 : Nat) (v6 : Int) (nv8 : Nat) (v11 : List (List (Int × Int))) (v12 : Int) (v13 : Int) (v19 : List (Int × Int)) (v20 : Int) (v21 : Int) (b0 : List (List Int)) (b1 : List Int) : Le (Cg64_v3_1 nv5 v6 nv8 v11 v12 v13 v19 v20 v21 b0 b1) (g64_v3_1 nv5 v6 nv8 v11 v12 v13 v19 v20 v21 b0 b1) := (Le.br (Le.nd (Le.bd (CF69_le ..) fun y0 => (Le.nd (Le.nd Le.r)))) Le.r)
theorem s64_v3_1 : ∀ x, roundE (kzO (p64_v3_1.T ⊕ x64_v3_1.T)) cx64_v3 ar0 [] p64_v3_1 x64_v3_1 (b64_v3_1) (fun y => some (.inl y)) (fun b => some (.inr b)) x = g64_v3_1 x.1 x.2.1 x.2.2.1 x.2.2.2.1 x.2.2.2.2.1 x.2.2.2.2.2.1 x.2.2.2.2.2.2.1 x.2.2.2.2.2.2.2.1 x.2.2.2.2.2.2.2.2.1 x.2.2.2.2.2.2.2.2.2.1 x.2.2.2.2.2.2.2.2.2.2.1 := by intro x; kernel_rfl
noncomputable def L64_v3_1 : LoopS prog 39 none 0 := mkLoop mixed cx64_v3 cx64_v3_ok [] rfl p64_v3_1 x64_v3_1 rfl (b64_v3_1) (fun x => g64_v3_1 x.1 x.2.1 x.2.2.1 x.2.2.2.1 x.2.2.2.2.1 x.2.2.2.2.2.1 x.2.2.2.2.2.2.1 x.2.2.2.2.2.2.2.1 x.2.2.2.2.2.2.2.2.1 x.2.2.2.2.2.2.2.2.2.1 x.2.2.2.2.2.2.2.2.2.2.1) (s64_v3_1)
@[reducible] def p64_v3_0 : Pat := Pat.mk [(1, .c (.fn0 69)), (5, .c (.sl0 0 (.list (.int .i64)))), (11, .c (.hole (.list (.list (.prod (.int .i64) (.int .i64)))))), (12, .c (.hole (.int .i64))), (13, .c (.hole (.int .i64)))] [(0, .arr (.list (.int .i64)) false)] [.slot 5] []
@[reducible] def x64_v3_0 : Outs := [(.exit 0, Pat.mk [(5, .c (.sl0 0 (.list (.int .i64))))] [(0, .arr (.list (.int .i64)) false)] [.slot 5] [])]
noncomputable def b64_v3_0 : D prog 39 none 0 := (.seq (.reg [.op (some 14) none (.bin .lss (.t 13) (.t 12))]) (.seq (.cond ( .t 14) .skip (.exit 0)) (.seq (.block 1 (.seq (.reg [.op (some 15) none (.mv (.t 13)), .op (some 16) none (.idx 1 (.t 11) (.t 13)), .op (some 17) none (.load false 1 (.t 16)), .op (some 6) none (.mv (.t 15)), .op (some 7) none (.mv (.t 17))]) (.seq (.reg [.op (some 18) none (.bslice (.int .i64) []), .op (some 8) none (.mv (.t 18))]) (.seq (.seq (.reg [.op (some 19) none (.mv (.t 7)), .op (some 20) none (.len (.t 19)), .op (some 21) none (.mv (.c (.int .i64 (Int.ofNat 0))))]) (.block 2 (.loop L64_v3_1))) (.reg [.op (some 33) none (.mv (.t 5)), .op (some 34) none (.mv (.t 8)), .op (some 35) none (.bslice (.list (.int .i64)) [.t 34]), .op (some 36) none (.append 1 (.t 33) (.t 35)), .op (some 5) none (.mv (.t 36))]))))) (.reg [.op (some 37) none (.bin .add (.t 13) (.c (.int .i64 (Int.ofNat 1)))), .op (some 13) none (.mv (.t 37))]))))
noncomputable def g64_v3_0 (nv5 : Nat) (v11 : List (List (Int × Int))) (v12 : Int) (v13 : Int) (b0 : List (List Int)) : Option ((Nat × (List (List (Int × Int))) × Int × Int × List (List Int) × Unit) ⊕ ((Nat × List (List Int) × Unit))) :=
 brO (decide (v13 < v12)) (
 need (inb v13 (((v11).length : Nat) : Int)) (
 bindO (iter (fun x => g64_v3_1 x.1 x.2.1 x.2.2.1 x.2.2.2.1 x.2.2.2.2.1 x.2.2.2.2.2.1 x.2.2.2.2.2.2.1 x.2.2.2.2.2.2.2.1 x.2.2.2.2.2.2.2.2.1 x.2.2.2.2.2.2.2.2.2.1 x.2.2.2.2.2.2.2.2.2.2.1) (nv5, (v13, ((0 : Nat), (v11, (v12, (v13, (((v11).getD (Int.toNat v13) []), ((((((v11).getD (Int.toNat v13) [])).length : Nat) : Int), ((0 : Int), (b0, ([], ())))))))))))) fun z1 =>
 need (decide ((z1.1 + ((((((((z1.2.2.2.2.2.2.1).drop (0 : Nat)).take z1.2.1) :: [])).drop (0 : Nat)).take (1 : Nat))).length) < bigL)) (
 need (rng .i64 (z1.2.2.2.2.1 + (1 : Int))) (
 some (.inl ((z1.1 + ((((((((z1.2.2.2.2.2.2.1).drop (0 : Nat)).take z1.2.1) :: [])).drop (0 : Nat)).take (1 : Nat))).length), (z1.2.2.1, (z1.2.2.2.1, ((z1.2.2.2.2.1 + (1 : Int)), (((((z1.2.2.2.2.2.1).drop (0 : Nat)).take z1.1) ++ (((((((z1.2.2.2.2.2.2.1).drop (0 : Nat)).take z1.2.1) :: [])).drop (0 : Nat)).take (1 : Nat))), ())))))))))) (
 some (.inr (nv5, (b0, ()))))
def Cg64_v3_0 (nv5 : Nat) (v11 : List (List (Int × Int))) (v12 : Int) (v13 : Int) (b0 : List (List Int)) : Option ((Nat × (List (List (Int × Int))) × Int × Int × List (List Int) × Unit) ⊕ ((Nat × List (List Int) × Unit))) :=
 brC (decide (v13 < v12)) (
 needC (inb v13 (((v11).length : Nat) : Int)) (
 bindC (iterF (fun x => Cg64_v3_1 x.1 x.2.1 x.2.2.1 x.2.2.2.1 x.2.2.2.2.1 x.2.2.2.2.2.1 x.2.2.2.2.2.2.1 x.2.2.2.2.2.2.2.1 x.2.2.2.2.2.2.2.2.1 x.2.2.2.2.2.2.2.2.2.1 x.2.2.2.2.2.2.2.2.2.2.1) 1000000 (nv5, (v13, ((0 : Nat), (v11, (v12, (v13, (((v11).getD (Int.toNat v13) []), ((((((v11).getD (Int.toNat v13) [])).length : Nat) : Int), ((0 : Int), (b0, ([], ())))))))))))) fun z1 =>
 needC (decide ((z1.1 + ((((((((z1.2.2.2.2.2.2.1).drop (0 : Nat)).take z1.2.1) :: [])).drop (0 : Nat)).take (1 : Nat))).length) < bigL)) (
 needC (rng .i64 (z1.2.2.2.2.1 + (1 : Int))) (
 some (.inl ((z1.1 + ((((((((z1.2.2.2.2.2.2.1).drop (0 : Nat)).take z1.2.1) :: [])).drop (0 : Nat)).take (1 : Nat))).length), (z1.2.2.1, (z1.2.2.2.1, ((z1.2.2.2.2.1 + (1 : Int)), (((((z1.2.2.2.2.2.1).drop (0 : Nat)).take z1.1) ++ (((((((z1.2.2.2.2.2.2.1).drop (0 : Nat)).take z1.2.1) :: [])).drop (0 : Nat)).take (1 : Nat))), ())))))))))) (
 some (.inr (nv5, (b0, ()))))
theorem Cg64_v3_0_le (nv5 : Nat) (v11 : List (List (Int × Int))) (v12 : Int) (v13 : Int) (b0 : List (List Int)) : Le (Cg64_v3_0 nv5 v11 v12 v13 b0) (g64_v3_0 nv5 v11 v12 v13 b0) := (Le.br (Le.nd (Le.bd (Le.iter fun x => Cg64_v3_1_le ..) fun z1 => (Le.nd (Le.nd Le.r)))) Le.r)
theorem s64_v3_0 : ∀ x, roundE (kzO (p64_v3_0.T ⊕ x64_v3_0.T)) cx64_v3 ar0 [] p64_v3_0 x64_v3_0 (b64_v3_0) (fun y => some (.inl y)) (fun b => some (.inr b)) x = g64_v3_0 x.1 x.2.1 x.2.2.1 x.2.2.2.1 x.2.2.2.2.1 := by intro x; kernel_rfl
noncomputable def L64_v3_0 : LoopS prog 39 none 0 := mkLoop mixed cx64_v3 cx64_v3_ok [] rfl p64_v3_0 x64_v3_0 rfl (b64_v3_0) (fun x => g64_v3_0 x.1 x.2.1 x.2.2.1 x.2.2.2.1 x.2.2.2.2.1) (s64_v3_0)
noncomputable def dd64_v3 : D prog 39 none 0 := (.seq (.reg [.op (some 4) none (.mv (.c .nsl))]) (.seq (.reg [.op (some 5) none (.mv (.c .nsl))]) (.seq (.seq (.reg [.op (some 11) none (.mv (.t 0)), .op (some 12) none (.len (.t 11)), .op (some 13) none (.mv (.c (.int .i64 (Int.ofNat 0))))]) (.block 0 (.loop L64_v3_0))) (.seq (.reg [.op (some 38) none (.mv (.t 5)), .op (some 4) none (.mv (.t 38))]) .ret))))
noncomputable def F64_v3 (a0 : List (List (Int × Int))) : Option (List (List Int) × Unit) :=
 bindO (iter (fun x => g64_v3_0 x.1 x.2.1 x.2.2.1 x.2.2.2.1 x.2.2.2.2.1) ((0 : Nat), (a0, ((((a0).length : Nat) : Int), ((0 : Int), ([], ())))))) fun z2 =>
 some ((((z2.2.1).drop (0 : Nat)).take z2.1), ())
def CF64_v3 (a0 : List (List (Int × Int))) : Option (List (List Int) × Unit) :=
 bindC (iterF (fun x => Cg64_v3_0 x.1 x.2.1 x.2.2.1 x.2.2.2.1 x.2.2.2.2.1) 1000000 ((0 : Nat), (a0, ((((a0).length : Nat) : Int), ((0 : Int), ([], ())))))) fun z2 =>
 some ((((z2.2.1).drop (0 : Nat)).take z2.1), ())
theorem CF64_v3_le (a0 : List (List (Int × Int))) : Le (CF64_v3 a0) (F64_v3 a0) := (Le.bd (Le.iter fun x => Cg64_v3_0_le ..) fun z2 => Le.r)
theorem c64_v3_ok : trF prog f64 = some ⟨39, 2, dd64_v3.er, [.t 4], [some (.list (.list (.int .i64)))]⟩ := by kernel_rfl
noncomputable def ct64_v3 : Ct := ⟨64, [.c (.hole (.list (.list (.prod (.int .i64) (.int .i64))))), .c (.fn0 69)], .c (.hole (.list (.list (.int .i64)))), fun x => F64_v3 x.1⟩
theorem ct64_v3_ok : ct64_v3.Ok prog := ct_ok mixed cx64_v3_ok func64 c64_v3_ok (enters_of func64 rfl rfl) dd64_v3 rfl rfl (fun x => by kernel_rfl)

/- 35 -/
noncomputable def cx35 : Cx := mkCxH [ct62, ct48, ct64, ct64_v1, ct67, ct64_v2, ct56, ct64_v3] []
theorem cx35_ok : cx35.Ok prog := mkCxH_ok ⟨ct62_ok, ct48_ok, ct64_ok, ct64_v1_ok, ct67_ok, ct64_v2_ok, ct56_ok, ct64_v3_ok, trivial⟩ trivial
@[reducible] def p35_0 : Pat := Pat.mk [(0, .c (.hole (.list (.list (.prod (.int .i64) (.int .i64)))))), (1, .c (.hole (.int .i64))), (4, .c (.sl0 0 (.prod (.int .i64) (.int .i64)))), (5, .c (.ptr 1 0)), (24, .c (.hole (.int .i64))), (25, .c (.hole (.int .i64)))] [(0, .arr (.prod (.int .i64) (.int .i64)) false), (1, .cells [.hole (.int .i64), .hole (.int .i64)] false)] [.slot 4, .slot 5] []
@[reducible] def x35_0 : Outs := [(.exit 0, Pat.mk [(0, .c (.hole (.list (.list (.prod (.int .i64) (.int .i64)))))), (1, .c (.hole (.int .i64))), (4, .c (.sl0 0 (.prod (.int .i64) (.int .i64)))), (5, .c (.ptr 1 0))] [(0, .arr (.prod (.int .i64) (.int .i64)) false), (1, .cells [.hole (.int .i64), .hole (.int .i64)] false)] [.slot 4, .slot 5] [])]
noncomputable def b35_0 : D prog 65 none 0 := (.seq (.reg [.op (some 26) none (.bin .lss (.t 25) (.t 24))]) (.seq (.cond ( .t 26) .skip (.exit 0)) (.seq (.block 1 (.seq (.reg [.op (some 27) none (.mv (.t 25)), .op (some 9) none (.alloc [.int .i64 (Int.ofNat 0)]), .op none none (.store 1 (.t 9) (.t 27))]) (.seq (.reg [.op (some 28) none (.mv (.t 0)), .op (some 29) none (.mkfn 65 [] [.t 9]), .call (some 30) none (.c (.fn 64 [] [])) [.t 28, .t 29] [some (.list (.list (.prod (.int .i64) (.int .i64)))), none], .op (some 10) none (.mv (.t 30))]) (.seq (.reg [.op (some 31) none (.mv (.t 0)), .op (some 32) none (.mkfn 66 [] [.t 9]), .call (some 33) none (.c (.fn 64 [] [])) [.t 31, .t 32] [some (.list (.list (.prod (.int .i64) (.int .i64)))), none], .op (some 11) none (.mv (.t 33))]) (.draw [[], [], [], [], [1, 2, 3], [], [], [], [1, 2, 3, 4, 5, 6, 7], [1, 2, 3, 4, 5, 6, 7, 8], [1, 2, 3, 4, 5, 6, 7, 8, 9], [0, 1, 2, 3, 4, 5, 6, 7, 8, 9, 10], [0, 1, 2, 3, 4, 5, 6, 7, 8, 9, 10, 11]] [.op (some 34) none (.mv (.t 4)), .op (some 35) none (.mv (.t 10)), .op (some 36) none (.load false 1 (.t 9)), .op (some 37) none (.mv (.t 1)), .call (some 38) none (.c (.fn 67 [] [])) [.t 35, .t 36, .t 37, .c (.int .i64 (Int.negSucc 0))] [some (.list (.list (.int .i64))), some (.int .i64), some (.int .i64), some (.int .i64)], .op (some 39) none (.mv (.t 11)), .op (some 40) none (.load false 1 (.t 9)), .op (some 41) none (.mv (.t 1)), .call (some 42) none (.c (.fn 67 [] [])) [.t 39, .t 40, .t 41, .c (.int .i64 (Int.ofNat 1))] [some (.list (.list (.int .i64))), some (.int .i64), some (.int .i64), some (.int .i64)], .op (some 43) none (.build [.int .i64 (Int.ofNat 0), .int .i64 (Int.ofNat 0)] [(0, 1, .t 38), (1, 1, .t 42)]), .op (some 44) none (.bslice (.prod (.int .i64) (.int .i64)) [.t 43]), .op (some 45) none (.append 2 (.t 34) (.t 44)), .op (some 4) none (.mv (.t 45))]))))) (.reg [.op (some 46) none (.bin .add (.t 25) (.c (.int .i64 (Int.ofNat 1)))), .op (some 25) none (.mv (.t 46))]))))
noncomputable def g35_0 (v0 : List (List (Int × Int))) (v1 : Int) (nv4 : Nat) (v24 : Int) (v25 : Int) (b0 : List (Int × Int)) (c1_0 : Int) (c1_1 : Int) : Option (((List (List (Int × Int))) × Int × Nat × Int × Int × (List (Int × Int)) × Int × Int × Unit) ⊕ (((List (List (Int × Int))) × Int × Nat × (List (Int × Int)) × Int × Int × Unit))) :=
 brO (decide (v25 < v24)) (
 bindO (F64 v0 v25) fun y2 =>
 bindO (F64_v1 v0 v25) fun y3 =>
 bindO (F67 y2.1 v25 v1 (-1 : Int)) fun y4 =>
 bindO (F67 y3.1 v25 v1 (1 : Int)) fun y5 =>
 need (decide ((nv4 + ((((((y4.1, y5.1) :: [])).drop (0 : Nat)).take (1 : Nat))).length) < bigL)) (
 need (rng .i64 (v25 + (1 : Int))) (
 some (.inl (v0, (v1, ((nv4 + ((((((y4.1, y5.1) :: [])).drop (0 : Nat)).take (1 : Nat))).length), (v24, ((v25 + (1 : Int)), (((((b0).drop (0 : Nat)).take nv4) ++ (((((y4.1, y5.1) :: [])).drop (0 : Nat)).take (1 : Nat))), (c1_0, (c1_1, ())))))))))))) (
 some (.inr (v0, (v1, (nv4, (b0, (c1_0, (c1_1, ()))))))))
def Cg35_0 (v0 : List (List (Int × Int))) (v1 : Int) (nv4 : Nat) (v24 : Int) (v25 : Int) (b0 : List (Int × Int)) (c1_0 : Int) (c1_1 : Int) : Option (((List (List (Int × Int))) × Int × Nat × Int × Int × (List (Int × Int)) × Int × Int × Unit) ⊕ (((List (List (Int × Int))) × Int × Nat × (List (Int × Int)) × Int × Int × Unit))) :=
 brC (decide (v25 < v24)) (
 bindC (CF64 v0 v25) fun y2 =>
 bindC (CF64_v1 v0 v25) fun y3 =>
 bindC (CF67 y2.1 v25 v1 (-1 : Int)) fun y4 =>
 bindC (CF67 y3.1 v25 v1 (1 : Int)) fun y5 =>
 needC (decide ((nv4 + ((((((y4.1, y5.1) :: [])).drop (0 : Nat)).take (1 : Nat))).length) < bigL)) (
 needC (rng .i64 (v25 + (1 : Int))) (
 some (.inl (v0, (v1, ((nv4 + ((((((y4.1, y5.1) :: [])).drop (0 : Nat)).take (1 : Nat))).length), (v24, ((v25 + (1 : Int)), (((((b0).drop (0 : Nat)).take nv4) ++ (((((y4.1, y5.1) :: [])).drop (0 : Nat)).take (1 : Nat))), (c1_0, (c1_1, ())))))))))))) (
 some (.inr (v0, (v1, (nv4, (b0, (c1_0, (c1_1, ()))))))))
theorem Cg35_0_le (v0 : List (List (Int × Int))) (v1 : Int) (nv4 : Nat) (v24 : Int) (v25 : Int) (b0 : List (Int × Int)) (c1_0 : Int) (c1_1 : Int) : Le (Cg35_0 v0 v1 nv4 v24 v25 b0 c1_0 c1_1) (g35_0 v0 v1 nv4 v24 v25 b0 c1_0 c1_1) := (Le.br (Le.bd (CF64_le ..) fun y2 => (Le.bd (CF64_v1_le ..) fun y3 => (Le.bd (CF67_le ..) fun y4 => (Le.bd (CF67_le ..) fun y5 => (Le.nd (Le.nd Le.r)))))) Le.r)
theorem s35_0 : ∀ x, roundE (kzO (p35_0.T ⊕ x35_0.T)) cx35 ar0 [] p35_0 x35_0 (b35_0) (fun y => some (.inl y)) (fun b => some (.inr b)) x = g35_0 x.1 x.2.1 x.2.2.1 x.2.2.2.1 x.2.2.2.2.1 x.2.2.2.2.2.1 x.2.2.2.2.2.2.1 x.2.2.2.2.2.2.2.1 := by intro x; kernel_rfl
noncomputable def L35_0 : LoopS prog 65 none 0 := mkLoop mixed cx35 cx35_ok [] rfl p35_0 x35_0 rfl (b35_0) (fun x => g35_0 x.1 x.2.1 x.2.2.1 x.2.2.2.1 x.2.2.2.2.1 x.2.2.2.2.2.1 x.2.2.2.2.2.2.1 x.2.2.2.2.2.2.2.1) (s35_0)
noncomputable def dd35 : D prog 65 none 0 := (.seq (.reg [.op (some 4) none (.mv (.c .nsl)), .op (some 5) none (.alloc [.int .i64 (Int.ofNat 0), .int .i64 (Int.ofNat 0)]), .op (some 6) none (.mv (.c (.int .i64 (Int.ofNat 0))))]) (.seq (.reg [.op (some 7) none (.mv (.c (.fn 61 [] [])))]) (.seq (.seq (.reg [.op (some 12) none (.mv (.t 0)), .op (some 13) none (.mv (.t 7)), .call (some 14) none (.c (.fn 62 [] [])) [.t 12, .t 13, .c (.fn 63 [] [])] [some (.list (.list (.prod (.int .i64) (.int .i64)))), none, none], .op (some 8) none (.mv (.t 14))]) (.seq (.reg [.op (some 15) none (.mv (.t 8)), .op (some 16) none (.bin .neq (.t 15) (.c (.int .i64 (Int.ofNat 0))))]) (.cond ( .t 16) (.seq (.reg [.op (some 17) none (.build [.int .i64 (Int.ofNat 0), .int .i64 (Int.ofNat 0)] []), .op (some 18) none (.mv (.t 8)), .op (some 4) none (.mv (.c .nsl)), .op none none (.store 2 (.t 5) (.t 17)), .op (some 6) none (.mv (.t 18))]) .ret) .skip))) (.seq (.seq (.reg [.op (some 19) none (.mv (.t 1)), .call (some 20) none (.c (.fn 48 [] [])) [.c (.int .i64 (Int.ofNat 0)), .t 19, .c (.int .i64 (Int.ofNat 200))] [some (.int .i64), some (.int .i64), some (.int .i64)], .op (some 21) none (.not (.t 20))]) (.cond ( .t 21) (.seq (.reg [.op (some 22) none (.build [.int .i64 (Int.ofNat 0), .int .i64 (Int.ofNat 0)] []), .op (some 4) none (.mv (.c .nsl)), .op none none (.store 2 (.t 5) (.t 22)), .op (some 6) none (.mv (.c (.int .i64 (Int.ofNat 2))))]) .ret) .skip)) (.seq (.seq (.reg [.op (some 23) none (.mv (.t 0)), .op (some 24) none (.len (.t 23)), .op (some 25) none (.mv (.c (.int .i64 (Int.ofNat 0))))]) (.block 0 (.loop L35_0))) (.seq (.reg [.op (some 48) none (.mv (.t 0)), .call (some 49) none (.c (.fn 64 [] [])) [.t 48, .c (.fn 68 [] [])] [some (.list (.list (.prod (.int .i64) (.int .i64)))), none], .op (some 50) none (.mv (.t 1)), .call (some 51) none (.c (.fn 56 [] [])) [.t 49, .t 50] [some (.list (.list (.int .i64))), some (.int .i64)], .op (some 47) none (.mv (.t 51)), .op (some 52) none (.ext 0 (.t 47)), .op (some 53) none (.ext 1 (.t 47)), .op (some 54) none (.fld 0 [false] (.t 5)), .op none none (.store 1 (.t 54) (.t 53))]) (.seq (.reg [.op (some 56) none (.mv (.t 0)), .call (some 57) none (.c (.fn 64 [] [])) [.t 56, .c (.fn 69 [] [])] [some (.list (.list (.prod (.int .i64) (.int .i64)))), none], .op (some 58) none (.mv (.t 1)), .call (some 59) none (.c (.fn 56 [] [])) [.t 57, .t 58] [some (.list (.list (.int .i64))), some (.int .i64)], .op (some 55) none (.mv (.t 59)), .op (some 60) none (.ext 0 (.t 55)), .op (some 61) none (.ext 1 (.t 55)), .op (some 62) none (.fld 1 [true] (.t 5)), .op none none (.store 1 (.t 62) (.t 61))]) (.seq (.draw [[], [], [0], [0, 1, 2], [0, 1, 2, 3]] [.op (some 63) none (.mv (.t 4)), .op (some 64) none (.load true 2 (.t 5)), .op (some 4) none (.mv (.t 63)), .op none none (.store 2 (.t 5) (.t 64)), .op (some 6) none (.mv (.c (.int .i64 (Int.ofNat 0))))]) .ret))))))))
noncomputable def F35 (a0 : List (List (Int × Int))) (a1 : Int) : Option ((List (Int × Int)) × (Int × Int) × Int × Unit) :=
 bindO (F62 a0) fun y0 =>
 brO (!(y0.1 == (0 : Int))) (
 some ([], (((0 : Int), (0 : Int)), (y0.1, ())))) (
 bindO (F48 (0 : Int) a1 (200 : Int)) fun y1 =>
 brO (!y1.1) (
 some ([], (((0 : Int), (0 : Int)), ((2 : Int), ())))) (
 bindO (iter (fun x => g35_0 x.1 x.2.1 x.2.2.1 x.2.2.2.1 x.2.2.2.2.1 x.2.2.2.2.2.1 x.2.2.2.2.2.2.1 x.2.2.2.2.2.2.2.1) (a0, (a1, ((0 : Nat), ((((a0).length : Nat) : Int), ((0 : Int), ([], ((0 : Int), ((0 : Int), ()))))))))) fun z6 =>
 bindO (F64_v2 z6.1) fun y7 =>
 bindO (F56 y7.1 z6.2.1) fun y8 =>
 bindO (F64_v3 z6.1) fun y9 =>
 bindO (F56 y9.1 z6.2.1) fun y10 =>
 some ((((z6.2.2.2.1).drop (0 : Nat)).take z6.2.2.1), ((y8.2.1, y10.2.1), ((0 : Int), ())))))
def CF35 (a0 : List (List (Int × Int))) (a1 : Int) : Option ((List (Int × Int)) × (Int × Int) × Int × Unit) :=
 bindC (CF62 a0) fun y0 =>
 brC (!(y0.1 == (0 : Int))) (
 some ([], (((0 : Int), (0 : Int)), (y0.1, ())))) (
 bindC (CF48 (0 : Int) a1 (200 : Int)) fun y1 =>
 brC (!y1.1) (
 some ([], (((0 : Int), (0 : Int)), ((2 : Int), ())))) (
 bindC (iterF (fun x => Cg35_0 x.1 x.2.1 x.2.2.1 x.2.2.2.1 x.2.2.2.2.1 x.2.2.2.2.2.1 x.2.2.2.2.2.2.1 x.2.2.2.2.2.2.2.1) 1000000 (a0, (a1, ((0 : Nat), ((((a0).length : Nat) : Int), ((0 : Int), ([], ((0 : Int), ((0 : Int), ()))))))))) fun z6 =>
 bindC (CF64_v2 z6.1) fun y7 =>
 bindC (CF56 y7.1 z6.2.1) fun y8 =>
 bindC (CF64_v3 z6.1) fun y9 =>
 bindC (CF56 y9.1 z6.2.1) fun y10 =>
 some ((((z6.2.2.2.1).drop (0 : Nat)).take z6.2.2.1), ((y8.2.1, y10.2.1), ((0 : Int), ())))))
theorem CF35_le (a0 : List (List (Int × Int))) (a1 : Int) : Le (CF35 a0 a1) (F35 a0 a1) := (Le.bd (CF62_le ..) fun y0 => (Le.br Le.r (Le.bd (CF48_le ..) fun y1 => (Le.br Le.r (Le.bd (Le.iter fun x => Cg35_0_le ..) fun z6 => (Le.bd (CF64_v2_le ..) fun y7 => (Le.bd (CF56_le ..) fun y8 => (Le.bd (CF64_v3_le ..) fun y9 => (Le.bd (CF56_le ..) fun y10 => Le.r)))))))))
theorem c35_ok : trF prog f35 = some ⟨65, 2, dd35.er, [.t 4, .cell 5 true 2, .t 6], [some (.list (.prod (.int .i64) (.int .i64))), some (.prod (.int .i64) (.int .i64)), some (.int .i64)]⟩ := by kernel_rfl
noncomputable def ct35 : Ct := ⟨35, [.c (.hole (.list (.list (.prod (.int .i64) (.int .i64))))), .c (.hole (.int .i64))], .tup [.hole (.list (.prod (.int .i64) (.int .i64))), .hole (.prod (.int .i64) (.int .i64)), .hole (.int .i64)], fun x => F35 x.1 x.2.1⟩
theorem ct35_ok : ct35.Ok prog := ct_ok mixed cx35_ok func35 c35_ok (enters_of func35 rfl rfl) dd35 rfl rfl (fun x => by kernel_rfl)

/- 38 -/
noncomputable def cx38 : Cx := mkCxH [] []
theorem cx38_ok : cx38.Ok prog := mkCxH_ok trivial trivial
@[reducible] def p38_0 : Pat := Pat.mk [(0, .c (.hole (.list (.prod (.int .i64) (.int .i64))))), (1, .c (.hole (.list (.prod (.int .i64) (.int .i64))))), (5, .c (.hole (.int .i64)))] [] [] []
@[reducible] def x38_0 : Outs := [(.ret, Pat.mk [(4, .c (.tf false))] [] [] []), (.exit 0, Pat.mk [] [] [] [])]
noncomputable def b38_0 : D prog 26 none 0 := (.seq (.seq (.reg [.op (some 11) none (.mv (.t 5)), .op (some 12) none (.mv (.t 0)), .op (some 13) none (.len (.t 12)), .op (some 14) none (.bin .lss (.t 11) (.t 13))]) (.cond ( .t 14) .skip (.exit 0))) (.seq (.block 1 (.seq (.draw [[], [], [0, 1], [0, 1, 2], [], [], [4, 5], [4, 5, 6], [0, 1, 2, 3, 4, 5, 6, 7]] [.op (some 17) none (.mv (.t 0)), .op (some 18) none (.mv (.t 5)), .op (some 19) none (.idx 2 (.t 17) (.t 18)), .op (some 20) none (.load true 2 (.t 19)), .op (some 21) none (.mv (.t 1)), .op (some 22) none (.mv (.t 5)), .op (some 23) none (.idx 2 (.t 21) (.t 22)), .op (some 24) none (.load true 2 (.t 23)), .op (some 25) none (.eqs true [.i, .i] (.t 20) (.t 24))]) (.cond ( .t 25) (.seq (.reg [.op (some 4) none (.mv (.c (.tf false)))]) .ret) .skip))) (.reg [.op (some 15) none (.mv (.t 5)), .op (some 16) none (.bin .add (.t 15) (.c (.int .i64 (Int.ofNat 1)))), .op (some 5) none (.mv (.t 16))])))
noncomputable def g38_0 (v0 : List (Int × Int)) (v1 : List (Int × Int)) (v5 : Int) : Option (((List (Int × Int)) × (List (Int × Int)) × Int × Unit) ⊕ ((Unit) ⊕ ((Unit)))) :=
 brO (decide (v5 < (((v0).length : Nat) : Int))) (
 need (inb v5 (((v0).length : Nat) : Int)) (
 need (inb v5 (((v1).length : Nat) : Int)) (
 brO (!((((v0).getD (Int.toNat v5) ((0 : Int), (0 : Int))).1 == ((v1).getD (Int.toNat v5) ((0 : Int), (0 : Int))).1) && ((((v0).getD (Int.toNat v5) ((0 : Int), (0 : Int))).2 == ((v1).getD (Int.toNat v5) ((0 : Int), (0 : Int))).2) && true))) (
 some (.inr <| .inl <| ())) (
 need (rng .i64 (v5 + (1 : Int))) (
 some (.inl (v0, (v1, ((v5 + (1 : Int)), ()))))))))) (
 some (.inr <| .inr <| ()))
def Cg38_0 (v0 : List (Int × Int)) (v1 : List (Int × Int)) (v5 : Int) : Option (((List (Int × Int)) × (List (Int × Int)) × Int × Unit) ⊕ ((Unit) ⊕ ((Unit)))) :=
 brC (decide (v5 < (((v0).length : Nat) : Int))) (
 needC (inb v5 (((v0).length : Nat) : Int)) (
 needC (inb v5 (((v1).length : Nat) : Int)) (
 brC (!((((v0).getD (Int.toNat v5) ((0 : Int), (0 : Int))).1 == ((v1).getD (Int.toNat v5) ((0 : Int), (0 : Int))).1) && ((((v0).getD (Int.toNat v5) ((0 : Int), (0 : Int))).2 == ((v1).getD (Int.toNat v5) ((0 : Int), (0 : Int))).2) && true))) (
 some (.inr <| .inl <| ())) (
 needC (rng .i64 (v5 + (1 : Int))) (
 some (.inl (v0, (v1, ((v5 + (1 : Int)), ()))))))))) (
 some (.inr <| .inr <| ()))
theorem Cg38_0_le (v0 : List (Int × Int)) (v1 : List (Int × Int)) (v5 : Int) : Le (Cg38_0 v0 v1 v5) (g38_0 v0 v1 v5) := (Le.br (Le.nd (Le.nd (Le.br Le.r (Le.nd Le.r)))) Le.r)
theorem s38_0 : ∀ x, roundE (kzO (p38_0.T ⊕ x38_0.T)) cx38 ar0 [] p38_0 x38_0 (b38_0) (fun y => some (.inl y)) (fun b => some (.inr b)) x = g38_0 x.1 x.2.1 x.2.2.1 := by intro x; kernel_rfl
noncomputable def L38_0 : LoopS prog 26 none 0 := mkLoop mixed cx38 cx38_ok [] rfl p38_0 x38_0 rfl (b38_0) (fun x => g38_0 x.1 x.2.1 x.2.2.1) (s38_0)
noncomputable def dd38 : D prog 26 none 0 := (.seq (.reg [.op (some 4) none (.mv (.c (.tf false)))]) (.seq (.seq (.reg [.op (some 6) none (.mv (.t 0)), .op (some 7) none (.len (.t 6)), .op (some 8) none (.mv (.t 1)), .op (some 9) none (.len (.t 8)), .op (some 10) none (.bin .neq (.t 7) (.t 9))]) (.cond ( .t 10) (.seq (.reg [.op (some 4) none (.mv (.c (.tf false)))]) .ret) .skip)) (.seq (.seq (.reg [.op (some 5) none (.mv (.c (.int .i64 (Int.ofNat 0))))]) (.block 0 (.loop L38_0))) (.seq (.reg [.op (some 4) none (.mv (.c (.tf true)))]) .ret))))
noncomputable def F38 (a0 : List (Int × Int)) (a1 : List (Int × Int)) : Option (Bool × Unit) :=
 brO (!((((a0).length : Nat) : Int) == (((a1).length : Nat) : Int))) (
 some (false, ())) (
 bindO (iter (fun x => g38_0 x.1 x.2.1 x.2.2.1) (a0, (a1, ((0 : Int), ())))) fun z0 =>
 match z0 with
 | .inl z1 =>
 some (false, ())
 | .inr z2 =>
 some (true, ()))
def CF38 (a0 : List (Int × Int)) (a1 : List (Int × Int)) : Option (Bool × Unit) :=
 brC (!((((a0).length : Nat) : Int) == (((a1).length : Nat) : Int))) (
 some (false, ())) (
 bindC (iterF (fun x => Cg38_0 x.1 x.2.1 x.2.2.1) 1000000 (a0, (a1, ((0 : Int), ())))) fun z0 =>
 match z0 with
 | .inl z1 =>
 some (false, ())
 | .inr z2 =>
 some (true, ()))
theorem CF38_le (a0 : List (Int × Int)) (a1 : List (Int × Int)) : Le (CF38 a0 a1) (F38 a0 a1) := (Le.br Le.r (Le.bd (Le.iter fun x => Cg38_0_le ..) fun z0 => (match z0 with | .inl z1 => Le.r | .inr z2 => Le.r)))
theorem c38_ok : trF prog f38 = some ⟨26, 2, dd38.er, [.t 4], [some .bool]⟩ := by kernel_rfl
noncomputable def ct38 : Ct := ⟨38, [.c (.hole (.list (.prod (.int .i64) (.int .i64)))), .c (.hole (.list (.prod (.int .i64) (.int .i64))))], .c (.hole .bool), fun x => F38 x.1 x.2.1⟩
theorem ct38_ok : ct38.Ok prog := ct_ok mixed cx38_ok func38 c38_ok (enters_of func38 rfl rfl) dd38 rfl rfl (fun x => by kernel_rfl)

end Go.Proofs.Try

