/-
  No cell of these rows narrows 'for every input' (looked for: loops, veiled, ifaces, maps, wideKeys, modest, calm, conditions, laid).
  DERIVED. THE GIVEN ROWS OF THIS SEAT. 12 by the template 'for every input the law returns true; each argument reads behind the call as it read before'; 0 by the template 'total and deterministic' (their statements: YtigglifniejbpaaTotals.lean).
  GIVEN WITH THE SEED: the statements are not yours to turn. If you find one false, say at which input.
  Laid BY PROGRAM, IN A SANDBOX (cutbox-rows.mjs): the forced cells as the released guide's own fill.sh prints them over the translation 9cd6347dffe2ed96… (all of the seat's roots in one cut). By AI agents, Wed Nov 11 2026. No macro, syntax, notation, axiom, sorry.
-/
import Derived.Test.YtigglifniejbpaaChecked
import GoSem.Claim
import GoSem.ClaimJoined
import GoSem.ClaimMapViews
import Derived.JoinedTies
import Derived.KernelRfl
namespace Go.Proofs.Ytigglifniejbpaa
/- THE CELL 'sum', in the pinned program and in every row, IS THE sha256 OF THE DUMP (.gsa) THAT YtigglifniejbpaaProg.lean LOADS. Nothing in Lean hashes anything: it is a label: what it is worth is what the hold of that sum in a sandbox is worth. -/
noncomputable def Try.pinned : Pinned := { name := "ytigglifniejbpaa", sum := "9cd6347dffe2ed96dc309792ef92df1ceb4a36fdf9eaee978e10e838a211aa02", checked := Try.checked }
namespace Rows
def none {H : Type} : Left H := { results := [], args := [] }

/-- 'zafralaw03.GangPlans': WHATEVER THE INPUT: true; the input reads as it did. -/
def gangPlansSpec : ChangeSpec := { name := "gangPlans", fn := fun _ => fun
  | [d1, d2, d3] => { results := [.lit (.bool true)], args := [d1, d2, d3] }
  | _ => none }
def gangPlansRow : OpenClaim := { program := "ytigglifniejbpaa", sum := "9cd6347dffe2ed96dc309792ef92df1ceb4a36fdf9eaee978e10e838a211aa02", func := "zafra/zafralaw03.GangPlans", spec := "gangPlans", unfollowed := true, recurses := true, apart := false }
def GangPlansSaid : Prop := gangPlansRow.holds Try.pinned (OpenSpec.ofChange gangPlansSpec)

/-- ITS FALSE NEIGHBOUR: 'it returns false'. Refute it at one input. -/
def gangPlansWrong : ChangeSpec := { name := "gangPlans", fn := fun _ => fun
  | [d1, d2, d3] => { results := [.lit (.bool false)], args := [d1, d2, d3] }
  | _ => none }
def GangPlansWrongFalsely : Prop := gangPlansRow.holds Try.pinned (OpenSpec.ofChange gangPlansWrong)

/-- 'zafralaw03.GangAlls': WHATEVER THE INPUT: true; the input reads as it did. -/
def gangAllsSpec : ChangeSpec := { name := "gangAlls", fn := fun _ => fun
  | [d] => { results := [.lit (.bool true)], args := [d] }
  | _ => none }
def gangAllsRow : OpenClaim := { program := "ytigglifniejbpaa", sum := "9cd6347dffe2ed96dc309792ef92df1ceb4a36fdf9eaee978e10e838a211aa02", func := "zafra/zafralaw03.GangAlls", spec := "gangAlls", unfollowed := true, recurses := true, apart := false }
def GangAllsSaid : Prop := gangAllsRow.holds Try.pinned (OpenSpec.ofChange gangAllsSpec)

/-- ITS FALSE NEIGHBOUR: 'it returns false'. Refute it at one input. -/
def gangAllsWrong : ChangeSpec := { name := "gangAlls", fn := fun _ => fun
  | [d] => { results := [.lit (.bool false)], args := [d] }
  | _ => none }
def GangAllsWrongFalsely : Prop := gangAllsRow.holds Try.pinned (OpenSpec.ofChange gangAllsWrong)

/-- 'zafralaw03.GangWages': WHATEVER THE INPUT: true; the input reads as it did. -/
def gangWagesSpec : ChangeSpec := { name := "gangWages", fn := fun _ => fun
  | [d1, d2, d3, d4] => { results := [.lit (.bool true)], args := [d1, d2, d3, d4] }
  | _ => none }
def gangWagesRow : OpenClaim := { program := "ytigglifniejbpaa", sum := "9cd6347dffe2ed96dc309792ef92df1ceb4a36fdf9eaee978e10e838a211aa02", func := "zafra/zafralaw03.GangWages", spec := "gangWages", unfollowed := true, recurses := true, apart := false }
def GangWagesSaid : Prop := gangWagesRow.holds Try.pinned (OpenSpec.ofChange gangWagesSpec)

/-- ITS FALSE NEIGHBOUR: 'it returns false'. Refute it at one input. -/
def gangWagesWrong : ChangeSpec := { name := "gangWages", fn := fun _ => fun
  | [d1, d2, d3, d4] => { results := [.lit (.bool false)], args := [d1, d2, d3, d4] }
  | _ => none }
def GangWagesWrongFalsely : Prop := gangWagesRow.holds Try.pinned (OpenSpec.ofChange gangWagesWrong)

/-- 'zafralaw03.GangExchanges': WHATEVER THE INPUT: true; the input reads as it did. -/
def gangExchangesSpec : ChangeSpec := { name := "gangExchanges", fn := fun _ => fun
  | [d1, d2, d3] => { results := [.lit (.bool true)], args := [d1, d2, d3] }
  | _ => none }
def gangExchangesRow : OpenClaim := { program := "ytigglifniejbpaa", sum := "9cd6347dffe2ed96dc309792ef92df1ceb4a36fdf9eaee978e10e838a211aa02", func := "zafra/zafralaw03.GangExchanges", spec := "gangExchanges", unfollowed := true, recurses := true, apart := false }
def GangExchangesSaid : Prop := gangExchangesRow.holds Try.pinned (OpenSpec.ofChange gangExchangesSpec)

/-- ITS FALSE NEIGHBOUR: 'it returns false'. Refute it at one input. -/
def gangExchangesWrong : ChangeSpec := { name := "gangExchanges", fn := fun _ => fun
  | [d1, d2, d3] => { results := [.lit (.bool false)], args := [d1, d2, d3] }
  | _ => none }
def GangExchangesWrongFalsely : Prop := gangExchangesRow.holds Try.pinned (OpenSpec.ofChange gangExchangesWrong)

/-- 'zafralaw03.GangShares': WHATEVER THE INPUT: true; the input reads as it did. -/
def gangSharesSpec : ChangeSpec := { name := "gangShares", fn := fun _ => fun
  | [d1, d2] => { results := [.lit (.bool true)], args := [d1, d2] }
  | _ => none }
def gangSharesRow : OpenClaim := { program := "ytigglifniejbpaa", sum := "9cd6347dffe2ed96dc309792ef92df1ceb4a36fdf9eaee978e10e838a211aa02", func := "zafra/zafralaw03.GangShares", spec := "gangShares", unfollowed := true, recurses := true, apart := false }
def GangSharesSaid : Prop := gangSharesRow.holds Try.pinned (OpenSpec.ofChange gangSharesSpec)

/-- ITS FALSE NEIGHBOUR: 'it returns false'. Refute it at one input. -/
def gangSharesWrong : ChangeSpec := { name := "gangShares", fn := fun _ => fun
  | [d1, d2] => { results := [.lit (.bool false)], args := [d1, d2] }
  | _ => none }
def GangSharesWrongFalsely : Prop := gangSharesRow.holds Try.pinned (OpenSpec.ofChange gangSharesWrong)

/-- 'zafralaw03.GangBest': WHATEVER THE INPUT: true; the input reads as it did. -/
def gangBestSpec : ChangeSpec := { name := "gangBest", fn := fun _ => fun
  | [d1, d2, d3] => { results := [.lit (.bool true)], args := [d1, d2, d3] }
  | _ => none }
def gangBestRow : OpenClaim := { program := "ytigglifniejbpaa", sum := "9cd6347dffe2ed96dc309792ef92df1ceb4a36fdf9eaee978e10e838a211aa02", func := "zafra/zafralaw03.GangBest", spec := "gangBest", unfollowed := true, recurses := true, apart := false }
def GangBestSaid : Prop := gangBestRow.holds Try.pinned (OpenSpec.ofChange gangBestSpec)

/-- ITS FALSE NEIGHBOUR: 'it returns false'. Refute it at one input. -/
def gangBestWrong : ChangeSpec := { name := "gangBest", fn := fun _ => fun
  | [d1, d2, d3] => { results := [.lit (.bool false)], args := [d1, d2, d3] }
  | _ => none }
def GangBestWrongFalsely : Prop := gangBestRow.holds Try.pinned (OpenSpec.ofChange gangBestWrong)

/-- 'zafralaw03.GangLocal': WHATEVER THE INPUT: true; the input reads as it did. -/
def gangLocalSpec : ChangeSpec := { name := "gangLocal", fn := fun _ => fun
  | [d1, d2, d3] => { results := [.lit (.bool true)], args := [d1, d2, d3] }
  | _ => none }
def gangLocalRow : OpenClaim := { program := "ytigglifniejbpaa", sum := "9cd6347dffe2ed96dc309792ef92df1ceb4a36fdf9eaee978e10e838a211aa02", func := "zafra/zafralaw03.GangLocal", spec := "gangLocal", unfollowed := true, recurses := true, apart := false }
def GangLocalSaid : Prop := gangLocalRow.holds Try.pinned (OpenSpec.ofChange gangLocalSpec)

/-- ITS FALSE NEIGHBOUR: 'it returns false'. Refute it at one input. -/
def gangLocalWrong : ChangeSpec := { name := "gangLocal", fn := fun _ => fun
  | [d1, d2, d3] => { results := [.lit (.bool false)], args := [d1, d2, d3] }
  | _ => none }
def GangLocalWrongFalsely : Prop := gangLocalRow.holds Try.pinned (OpenSpec.ofChange gangLocalWrong)

/-- 'zafralaw03.GangSteps': WHATEVER THE INPUT: true; the input reads as it did. -/
def gangStepsSpec : ChangeSpec := { name := "gangSteps", fn := fun _ => fun
  | [d1, d2, d3] => { results := [.lit (.bool true)], args := [d1, d2, d3] }
  | _ => none }
def gangStepsRow : OpenClaim := { program := "ytigglifniejbpaa", sum := "9cd6347dffe2ed96dc309792ef92df1ceb4a36fdf9eaee978e10e838a211aa02", func := "zafra/zafralaw03.GangSteps", spec := "gangSteps", unfollowed := true, recurses := true, apart := false }
def GangStepsSaid : Prop := gangStepsRow.holds Try.pinned (OpenSpec.ofChange gangStepsSpec)

/-- ITS FALSE NEIGHBOUR: 'it returns false'. Refute it at one input. -/
def gangStepsWrong : ChangeSpec := { name := "gangSteps", fn := fun _ => fun
  | [d1, d2, d3] => { results := [.lit (.bool false)], args := [d1, d2, d3] }
  | _ => none }
def GangStepsWrongFalsely : Prop := gangStepsRow.holds Try.pinned (OpenSpec.ofChange gangStepsWrong)

/-- 'zafralaw03.GangTwo': WHATEVER THE INPUT: true; the input reads as it did. -/
def gangTwoSpec : ChangeSpec := { name := "gangTwo", fn := fun _ => fun
  | [d1, d2, d3] => { results := [.lit (.bool true)], args := [d1, d2, d3] }
  | _ => none }
def gangTwoRow : OpenClaim := { program := "ytigglifniejbpaa", sum := "9cd6347dffe2ed96dc309792ef92df1ceb4a36fdf9eaee978e10e838a211aa02", func := "zafra/zafralaw03.GangTwo", spec := "gangTwo", unfollowed := true, recurses := true, apart := false }
def GangTwoSaid : Prop := gangTwoRow.holds Try.pinned (OpenSpec.ofChange gangTwoSpec)

/-- ITS FALSE NEIGHBOUR: 'it returns false'. Refute it at one input. -/
def gangTwoWrong : ChangeSpec := { name := "gangTwo", fn := fun _ => fun
  | [d1, d2, d3] => { results := [.lit (.bool false)], args := [d1, d2, d3] }
  | _ => none }
def GangTwoWrongFalsely : Prop := gangTwoRow.holds Try.pinned (OpenSpec.ofChange gangTwoWrong)

/-- 'zafralaw03.GangTrue': WHATEVER THE INPUT: true; the input reads as it did. -/
def gangTrueSpec : ChangeSpec := { name := "gangTrue", fn := fun _ => fun
  | [d1, d2, d3] => { results := [.lit (.bool true)], args := [d1, d2, d3] }
  | _ => none }
def gangTrueRow : OpenClaim := { program := "ytigglifniejbpaa", sum := "9cd6347dffe2ed96dc309792ef92df1ceb4a36fdf9eaee978e10e838a211aa02", func := "zafra/zafralaw03.GangTrue", spec := "gangTrue", unfollowed := true, recurses := true, apart := false }
def GangTrueSaid : Prop := gangTrueRow.holds Try.pinned (OpenSpec.ofChange gangTrueSpec)

/-- ITS FALSE NEIGHBOUR: 'it returns false'. Refute it at one input. -/
def gangTrueWrong : ChangeSpec := { name := "gangTrue", fn := fun _ => fun
  | [d1, d2, d3] => { results := [.lit (.bool false)], args := [d1, d2, d3] }
  | _ => none }
def GangTrueWrongFalsely : Prop := gangTrueRow.holds Try.pinned (OpenSpec.ofChange gangTrueWrong)

/-- 'zafralaw03.GangNarrow': WHATEVER THE INPUT: true; the input reads as it did. -/
def gangNarrowSpec : ChangeSpec := { name := "gangNarrow", fn := fun _ => fun
  | [d1, d2, d3] => { results := [.lit (.bool true)], args := [d1, d2, d3] }
  | _ => none }
def gangNarrowRow : OpenClaim := { program := "ytigglifniejbpaa", sum := "9cd6347dffe2ed96dc309792ef92df1ceb4a36fdf9eaee978e10e838a211aa02", func := "zafra/zafralaw03.GangNarrow", spec := "gangNarrow", unfollowed := true, recurses := true, apart := false }
def GangNarrowSaid : Prop := gangNarrowRow.holds Try.pinned (OpenSpec.ofChange gangNarrowSpec)

/-- ITS FALSE NEIGHBOUR: 'it returns false'. Refute it at one input. -/
def gangNarrowWrong : ChangeSpec := { name := "gangNarrow", fn := fun _ => fun
  | [d1, d2, d3] => { results := [.lit (.bool false)], args := [d1, d2, d3] }
  | _ => none }
def GangNarrowWrongFalsely : Prop := gangNarrowRow.holds Try.pinned (OpenSpec.ofChange gangNarrowWrong)

/-- 'zafralaw03.GangKnown': WHATEVER THE INPUT: true; the input reads as it did. -/
def gangKnownSpec : ChangeSpec := { name := "gangKnown", fn := fun _ => fun
  | [] => { results := [.lit (.bool true)], args := [] }
  | _ => none }
def gangKnownRow : OpenClaim := { program := "ytigglifniejbpaa", sum := "9cd6347dffe2ed96dc309792ef92df1ceb4a36fdf9eaee978e10e838a211aa02", func := "zafra/zafralaw03.GangKnown", spec := "gangKnown", unfollowed := true, recurses := true, apart := false }
def GangKnownSaid : Prop := gangKnownRow.holds Try.pinned (OpenSpec.ofChange gangKnownSpec)

/-- ITS FALSE NEIGHBOUR: 'it returns false'. Refute it at one input. -/
def gangKnownWrong : ChangeSpec := { name := "gangKnown", fn := fun _ => fun
  | [] => { results := [.lit (.bool false)], args := [] }
  | _ => none }
def GangKnownWrongFalsely : Prop := gangKnownRow.holds Try.pinned (OpenSpec.ofChange gangKnownWrong)

/- THE SECOND FORM. 'bulk': how many values and letters a reading holds, each counted each time it is reached (what is shared counts as often as it is met; a slice's spare places count too). A statement '..UptoSaid' is the law's where the arguments, and the package variables that the reading takes, are together of bulk at most 1048576: NARROWER than '..Said'. Prove '..Said' where nothing that the law and all that it calls make is longer than what came in: it says more and counts as full. Else prove '..UptoSaid'. A law counts once. -/
mutual
def uptoBulk {H : Type} : DataW H → Nat
  | .lit (.string bytes) => bytes.length + 1
  | .lit _ => 1
  | .nil => 1
  | .ptr d => uptoBulk d + 1
  | .slice elems spare => uptoBulkAll elems + uptoBulkAll spare + 1
  | .agg parts => uptoBulkAll parts + 1
  | .iface _ d => uptoBulk d + 1
  | .map entries => uptoBulkEntries entries + 1
  | .held _ => 1
def uptoBulkAll {H : Type} : List (DataW H) → Nat
  | [] => 0
  | d :: r => uptoBulk d + uptoBulkAll r
def uptoBulkEntries {H : Type} : List (Lit × DataW H) → Nat
  | [] => 0
  | x :: r => uptoBulkEntry x + uptoBulkEntries r
def uptoBulkEntry {H : Type} : Lit × DataW H → Nat
  | (.string bytes, d) => bytes.length + uptoBulk d + 1
  | (_, d) => uptoBulk d + 1
 end
def uptoSmall : (H : Type) → List (DataW H) → Bool := fun _ ds => decide (uptoBulkAll ds ≤ 1048576)
def OpenSpec.upto (s : _root_.Go.ChangeSpec) : _root_.Go.OpenSpec := { _root_.Go.OpenSpec.ofChange s with cond := some uptoSmall }

/-- 'zafralaw03.GangPlans', WHERE WHAT IT READS IS OF BULK AT MOST 1048576: true; the input reads as it did. -/
def gangPlansUptoRow : OpenClaim := { program := "ytigglifniejbpaa", sum := "9cd6347dffe2ed96dc309792ef92df1ceb4a36fdf9eaee978e10e838a211aa02", func := "zafra/zafralaw03.GangPlans", spec := "gangPlans", unfollowed := true, recurses := true, apart := false, narrowed := true }
def GangPlansUptoSaid : Prop := gangPlansUptoRow.holds Try.pinned (OpenSpec.upto gangPlansSpec)

/-- 'zafralaw03.GangAlls', WHERE WHAT IT READS IS OF BULK AT MOST 1048576: true; the input reads as it did. -/
def gangAllsUptoRow : OpenClaim := { program := "ytigglifniejbpaa", sum := "9cd6347dffe2ed96dc309792ef92df1ceb4a36fdf9eaee978e10e838a211aa02", func := "zafra/zafralaw03.GangAlls", spec := "gangAlls", unfollowed := true, recurses := true, apart := false, narrowed := true }
def GangAllsUptoSaid : Prop := gangAllsUptoRow.holds Try.pinned (OpenSpec.upto gangAllsSpec)

/-- 'zafralaw03.GangWages', WHERE WHAT IT READS IS OF BULK AT MOST 1048576: true; the input reads as it did. -/
def gangWagesUptoRow : OpenClaim := { program := "ytigglifniejbpaa", sum := "9cd6347dffe2ed96dc309792ef92df1ceb4a36fdf9eaee978e10e838a211aa02", func := "zafra/zafralaw03.GangWages", spec := "gangWages", unfollowed := true, recurses := true, apart := false, narrowed := true }
def GangWagesUptoSaid : Prop := gangWagesUptoRow.holds Try.pinned (OpenSpec.upto gangWagesSpec)

/-- 'zafralaw03.GangExchanges', WHERE WHAT IT READS IS OF BULK AT MOST 1048576: true; the input reads as it did. -/
def gangExchangesUptoRow : OpenClaim := { program := "ytigglifniejbpaa", sum := "9cd6347dffe2ed96dc309792ef92df1ceb4a36fdf9eaee978e10e838a211aa02", func := "zafra/zafralaw03.GangExchanges", spec := "gangExchanges", unfollowed := true, recurses := true, apart := false, narrowed := true }
def GangExchangesUptoSaid : Prop := gangExchangesUptoRow.holds Try.pinned (OpenSpec.upto gangExchangesSpec)

/-- 'zafralaw03.GangShares', WHERE WHAT IT READS IS OF BULK AT MOST 1048576: true; the input reads as it did. -/
def gangSharesUptoRow : OpenClaim := { program := "ytigglifniejbpaa", sum := "9cd6347dffe2ed96dc309792ef92df1ceb4a36fdf9eaee978e10e838a211aa02", func := "zafra/zafralaw03.GangShares", spec := "gangShares", unfollowed := true, recurses := true, apart := false, narrowed := true }
def GangSharesUptoSaid : Prop := gangSharesUptoRow.holds Try.pinned (OpenSpec.upto gangSharesSpec)

/-- 'zafralaw03.GangBest', WHERE WHAT IT READS IS OF BULK AT MOST 1048576: true; the input reads as it did. -/
def gangBestUptoRow : OpenClaim := { program := "ytigglifniejbpaa", sum := "9cd6347dffe2ed96dc309792ef92df1ceb4a36fdf9eaee978e10e838a211aa02", func := "zafra/zafralaw03.GangBest", spec := "gangBest", unfollowed := true, recurses := true, apart := false, narrowed := true }
def GangBestUptoSaid : Prop := gangBestUptoRow.holds Try.pinned (OpenSpec.upto gangBestSpec)

/-- 'zafralaw03.GangLocal', WHERE WHAT IT READS IS OF BULK AT MOST 1048576: true; the input reads as it did. -/
def gangLocalUptoRow : OpenClaim := { program := "ytigglifniejbpaa", sum := "9cd6347dffe2ed96dc309792ef92df1ceb4a36fdf9eaee978e10e838a211aa02", func := "zafra/zafralaw03.GangLocal", spec := "gangLocal", unfollowed := true, recurses := true, apart := false, narrowed := true }
def GangLocalUptoSaid : Prop := gangLocalUptoRow.holds Try.pinned (OpenSpec.upto gangLocalSpec)

/-- 'zafralaw03.GangSteps', WHERE WHAT IT READS IS OF BULK AT MOST 1048576: true; the input reads as it did. -/
def gangStepsUptoRow : OpenClaim := { program := "ytigglifniejbpaa", sum := "9cd6347dffe2ed96dc309792ef92df1ceb4a36fdf9eaee978e10e838a211aa02", func := "zafra/zafralaw03.GangSteps", spec := "gangSteps", unfollowed := true, recurses := true, apart := false, narrowed := true }
def GangStepsUptoSaid : Prop := gangStepsUptoRow.holds Try.pinned (OpenSpec.upto gangStepsSpec)

/-- 'zafralaw03.GangTwo', WHERE WHAT IT READS IS OF BULK AT MOST 1048576: true; the input reads as it did. -/
def gangTwoUptoRow : OpenClaim := { program := "ytigglifniejbpaa", sum := "9cd6347dffe2ed96dc309792ef92df1ceb4a36fdf9eaee978e10e838a211aa02", func := "zafra/zafralaw03.GangTwo", spec := "gangTwo", unfollowed := true, recurses := true, apart := false, narrowed := true }
def GangTwoUptoSaid : Prop := gangTwoUptoRow.holds Try.pinned (OpenSpec.upto gangTwoSpec)

/-- 'zafralaw03.GangTrue', WHERE WHAT IT READS IS OF BULK AT MOST 1048576: true; the input reads as it did. -/
def gangTrueUptoRow : OpenClaim := { program := "ytigglifniejbpaa", sum := "9cd6347dffe2ed96dc309792ef92df1ceb4a36fdf9eaee978e10e838a211aa02", func := "zafra/zafralaw03.GangTrue", spec := "gangTrue", unfollowed := true, recurses := true, apart := false, narrowed := true }
def GangTrueUptoSaid : Prop := gangTrueUptoRow.holds Try.pinned (OpenSpec.upto gangTrueSpec)

/-- 'zafralaw03.GangNarrow', WHERE WHAT IT READS IS OF BULK AT MOST 1048576: true; the input reads as it did. -/
def gangNarrowUptoRow : OpenClaim := { program := "ytigglifniejbpaa", sum := "9cd6347dffe2ed96dc309792ef92df1ceb4a36fdf9eaee978e10e838a211aa02", func := "zafra/zafralaw03.GangNarrow", spec := "gangNarrow", unfollowed := true, recurses := true, apart := false, narrowed := true }
def GangNarrowUptoSaid : Prop := gangNarrowUptoRow.holds Try.pinned (OpenSpec.upto gangNarrowSpec)

/-- 'zafralaw03.GangKnown', WHERE WHAT IT READS IS OF BULK AT MOST 1048576: true; the input reads as it did. -/
def gangKnownUptoRow : OpenClaim := { program := "ytigglifniejbpaa", sum := "9cd6347dffe2ed96dc309792ef92df1ceb4a36fdf9eaee978e10e838a211aa02", func := "zafra/zafralaw03.GangKnown", spec := "gangKnown", unfollowed := true, recurses := true, apart := false, narrowed := true }
def GangKnownUptoSaid : Prop := gangKnownUptoRow.holds Try.pinned (OpenSpec.upto gangKnownSpec)

end Rows
end Go.Proofs.Ytigglifniejbpaa
