/-
  No cell of these rows narrows 'for every input' (looked for: loops, veiled, ifaces, maps, wideKeys, modest, calm, conditions, laid).
  DERIVED. THE GIVEN ROWS OF THIS SEAT. 13 by the template 'for every input the law returns true; each argument reads behind the call as it read before'; 0 by the template 'total and deterministic' (their statements: YthemjfloiapaaaaGreatTotals.lean).
  GIVEN WITH THE SEED: the statements are not yours to turn. If you find one false, say at which input.
  Laid BY PROGRAM, IN A SANDBOX (cutbox-rows.mjs): the forced cells as the released guide's own fill.sh prints them over the translation ea5b8a7efb417962… (all of the seat's roots in one cut). By AI agents, Wed Nov 11 2026. No macro, syntax, notation, axiom, sorry.
-/
import Derived.Test.YthemjfloiapaaaaGreatChecked
import GoSem.Claim
import GoSem.ClaimJoined
import GoSem.ClaimMapViews
import Derived.JoinedTies
import Derived.KernelRfl
namespace Go.Proofs.YthemjfloiapaaaaGreat
/- THE CELL 'sum', in the pinned program and in every row, IS THE sha256 OF THE DUMP (.gsa) THAT YthemjfloiapaaaaGreatProg.lean LOADS. Nothing in Lean hashes anything: it is a label: what it is worth is what the hold of that sum in a sandbox is worth. -/
noncomputable def Tryz.pinned : Pinned := { name := "ythemjfloiapaaaagreat", sum := "ea5b8a7efb4179628fc1c0533c4beeab0f5e7e018995f180fa9144b889ce5001", checked := Tryz.checked }
namespace Rows
def none {H : Type} : Left H := { results := [], args := [] }

/-- 'zafralaw11.TicketBooks': WHATEVER THE INPUT: true; the input reads as it did. -/
def ticketBooksSpec : ChangeSpec := { name := "ticketBooks", fn := fun _ => fun
  | [d1, d2] => { results := [.lit (.bool true)], args := [d1, d2] }
  | _ => none }
def ticketBooksRow : OpenClaim := { program := "ythemjfloiapaaaagreat", sum := "ea5b8a7efb4179628fc1c0533c4beeab0f5e7e018995f180fa9144b889ce5001", func := "zafra/zafralaw11.TicketBooks", spec := "ticketBooks", inPlace := ["maps.clone"], unfollowed := true, recurses := true, plainKeys := false, apart := false }
def TicketBooksSaid : Prop := ticketBooksRow.holds Tryz.pinned (OpenSpec.ofChange ticketBooksSpec)

/-- ITS FALSE NEIGHBOUR: 'it returns false'. Refute it at one input. -/
def ticketBooksWrong : ChangeSpec := { name := "ticketBooks", fn := fun _ => fun
  | [d1, d2] => { results := [.lit (.bool false)], args := [d1, d2] }
  | _ => none }
def TicketBooksWrongFalsely : Prop := ticketBooksRow.holds Tryz.pinned (OpenSpec.ofChange ticketBooksWrong)

/-- 'zafralaw11.TicketTotals': WHATEVER THE INPUT: true; the input reads as it did. -/
def ticketTotalsSpec : ChangeSpec := { name := "ticketTotals", fn := fun _ => fun
  | [d1, d2] => { results := [.lit (.bool true)], args := [d1, d2] }
  | _ => none }
def ticketTotalsRow : OpenClaim := { program := "ythemjfloiapaaaagreat", sum := "ea5b8a7efb4179628fc1c0533c4beeab0f5e7e018995f180fa9144b889ce5001", func := "zafra/zafralaw11.TicketTotals", spec := "ticketTotals", inPlace := ["maps.clone"], unfollowed := true, recurses := true, plainKeys := false, apart := false }
def TicketTotalsSaid : Prop := ticketTotalsRow.holds Tryz.pinned (OpenSpec.ofChange ticketTotalsSpec)

/-- ITS FALSE NEIGHBOUR: 'it returns false'. Refute it at one input. -/
def ticketTotalsWrong : ChangeSpec := { name := "ticketTotals", fn := fun _ => fun
  | [d1, d2] => { results := [.lit (.bool false)], args := [d1, d2] }
  | _ => none }
def TicketTotalsWrongFalsely : Prop := ticketTotalsRow.holds Tryz.pinned (OpenSpec.ofChange ticketTotalsWrong)

/-- 'zafralaw11.TicketStates': WHATEVER THE INPUT: true; the input reads as it did. -/
def ticketStatesSpec : ChangeSpec := { name := "ticketStates", fn := fun _ => fun
  | [d] => { results := [.lit (.bool true)], args := [d] }
  | _ => none }
def ticketStatesRow : OpenClaim := { program := "ythemjfloiapaaaagreat", sum := "ea5b8a7efb4179628fc1c0533c4beeab0f5e7e018995f180fa9144b889ce5001", func := "zafra/zafralaw11.TicketStates", spec := "ticketStates", inPlace := ["maps.clone"], unfollowed := true, recurses := true, plainKeys := false, apart := false }
def TicketStatesSaid : Prop := ticketStatesRow.holds Tryz.pinned (OpenSpec.ofChange ticketStatesSpec)

/-- ITS FALSE NEIGHBOUR: 'it returns false'. Refute it at one input. -/
def ticketStatesWrong : ChangeSpec := { name := "ticketStates", fn := fun _ => fun
  | [d] => { results := [.lit (.bool false)], args := [d] }
  | _ => none }
def TicketStatesWrongFalsely : Prop := ticketStatesRow.holds Tryz.pinned (OpenSpec.ofChange ticketStatesWrong)

/-- 'zafralaw11.TicketExact': WHATEVER THE INPUT: true; the input reads as it did. -/
def ticketExactSpec : ChangeSpec := { name := "ticketExact", fn := fun _ => fun
  | [d] => { results := [.lit (.bool true)], args := [d] }
  | _ => none }
def ticketExactRow : OpenClaim := { program := "ythemjfloiapaaaagreat", sum := "ea5b8a7efb4179628fc1c0533c4beeab0f5e7e018995f180fa9144b889ce5001", func := "zafra/zafralaw11.TicketExact", spec := "ticketExact", inPlace := ["maps.clone"], unfollowed := true, recurses := true, plainKeys := false, apart := false }
def TicketExactSaid : Prop := ticketExactRow.holds Tryz.pinned (OpenSpec.ofChange ticketExactSpec)

/-- ITS FALSE NEIGHBOUR: 'it returns false'. Refute it at one input. -/
def ticketExactWrong : ChangeSpec := { name := "ticketExact", fn := fun _ => fun
  | [d] => { results := [.lit (.bool false)], args := [d] }
  | _ => none }
def TicketExactWrongFalsely : Prop := ticketExactRow.holds Tryz.pinned (OpenSpec.ofChange ticketExactWrong)

/-- 'zafralaw11.TicketKept': WHATEVER THE INPUT: true; the input reads as it did. -/
def ticketKeptSpec : ChangeSpec := { name := "ticketKept", fn := fun _ => fun
  | [d] => { results := [.lit (.bool true)], args := [d] }
  | _ => none }
def ticketKeptRow : OpenClaim := { program := "ythemjfloiapaaaagreat", sum := "ea5b8a7efb4179628fc1c0533c4beeab0f5e7e018995f180fa9144b889ce5001", func := "zafra/zafralaw11.TicketKept", spec := "ticketKept", inPlace := ["maps.clone"], unfollowed := true, recurses := true, plainKeys := false, apart := false }
def TicketKeptSaid : Prop := ticketKeptRow.holds Tryz.pinned (OpenSpec.ofChange ticketKeptSpec)

/-- ITS FALSE NEIGHBOUR: 'it returns false'. Refute it at one input. -/
def ticketKeptWrong : ChangeSpec := { name := "ticketKept", fn := fun _ => fun
  | [d] => { results := [.lit (.bool false)], args := [d] }
  | _ => none }
def TicketKeptWrongFalsely : Prop := ticketKeptRow.holds Tryz.pinned (OpenSpec.ofChange ticketKeptWrong)

/-- 'zafralaw11.TicketRuled': WHATEVER THE INPUT: true; the input reads as it did. -/
def ticketRuledSpec : ChangeSpec := { name := "ticketRuled", fn := fun _ => fun
  | [d1, d2] => { results := [.lit (.bool true)], args := [d1, d2] }
  | _ => none }
def ticketRuledRow : OpenClaim := { program := "ythemjfloiapaaaagreat", sum := "ea5b8a7efb4179628fc1c0533c4beeab0f5e7e018995f180fa9144b889ce5001", func := "zafra/zafralaw11.TicketRuled", spec := "ticketRuled", inPlace := ["maps.clone"], unfollowed := true, recurses := true, plainKeys := false, apart := false }
def TicketRuledSaid : Prop := ticketRuledRow.holds Tryz.pinned (OpenSpec.ofChange ticketRuledSpec)

/-- ITS FALSE NEIGHBOUR: 'it returns false'. Refute it at one input. -/
def ticketRuledWrong : ChangeSpec := { name := "ticketRuled", fn := fun _ => fun
  | [d1, d2] => { results := [.lit (.bool false)], args := [d1, d2] }
  | _ => none }
def TicketRuledWrongFalsely : Prop := ticketRuledRow.holds Tryz.pinned (OpenSpec.ofChange ticketRuledWrong)

/-- 'zafralaw11.TicketCorrected': WHATEVER THE INPUT: true; the input reads as it did. -/
def ticketCorrectedSpec : ChangeSpec := { name := "ticketCorrected", fn := fun _ => fun
  | [d1, d2, d3] => { results := [.lit (.bool true)], args := [d1, d2, d3] }
  | _ => none }
def ticketCorrectedRow : OpenClaim := { program := "ythemjfloiapaaaagreat", sum := "ea5b8a7efb4179628fc1c0533c4beeab0f5e7e018995f180fa9144b889ce5001", func := "zafra/zafralaw11.TicketCorrected", spec := "ticketCorrected", inPlace := ["maps.clone"], unfollowed := true, recurses := true, plainKeys := false, apart := false }
def TicketCorrectedSaid : Prop := ticketCorrectedRow.holds Tryz.pinned (OpenSpec.ofChange ticketCorrectedSpec)

/-- ITS FALSE NEIGHBOUR: 'it returns false'. Refute it at one input. -/
def ticketCorrectedWrong : ChangeSpec := { name := "ticketCorrected", fn := fun _ => fun
  | [d1, d2, d3] => { results := [.lit (.bool false)], args := [d1, d2, d3] }
  | _ => none }
def TicketCorrectedWrongFalsely : Prop := ticketCorrectedRow.holds Tryz.pinned (OpenSpec.ofChange ticketCorrectedWrong)

/-- 'zafralaw11.TicketWaiting': WHATEVER THE INPUT: true; the input reads as it did. -/
def ticketWaitingSpec : ChangeSpec := { name := "ticketWaiting", fn := fun _ => fun
  | [d1, d2, d3] => { results := [.lit (.bool true)], args := [d1, d2, d3] }
  | _ => none }
def ticketWaitingRow : OpenClaim := { program := "ythemjfloiapaaaagreat", sum := "ea5b8a7efb4179628fc1c0533c4beeab0f5e7e018995f180fa9144b889ce5001", func := "zafra/zafralaw11.TicketWaiting", spec := "ticketWaiting", inPlace := ["maps.clone"], unfollowed := true, recurses := true, plainKeys := false, apart := false }
def TicketWaitingSaid : Prop := ticketWaitingRow.holds Tryz.pinned (OpenSpec.ofChange ticketWaitingSpec)

/-- ITS FALSE NEIGHBOUR: 'it returns false'. Refute it at one input. -/
def ticketWaitingWrong : ChangeSpec := { name := "ticketWaiting", fn := fun _ => fun
  | [d1, d2, d3] => { results := [.lit (.bool false)], args := [d1, d2, d3] }
  | _ => none }
def TicketWaitingWrongFalsely : Prop := ticketWaitingRow.holds Tryz.pinned (OpenSpec.ofChange ticketWaitingWrong)

/-- 'zafralaw11.TicketNames': WHATEVER THE INPUT: true; the input reads as it did. -/
def ticketNamesSpec : ChangeSpec := { name := "ticketNames", fn := fun _ => fun
  | [d1, d2] => { results := [.lit (.bool true)], args := [d1, d2] }
  | _ => none }
def ticketNamesRow : OpenClaim := { program := "ythemjfloiapaaaagreat", sum := "ea5b8a7efb4179628fc1c0533c4beeab0f5e7e018995f180fa9144b889ce5001", func := "zafra/zafralaw11.TicketNames", spec := "ticketNames", inPlace := ["maps.clone"], unfollowed := true, recurses := true, plainKeys := false, apart := false }
def TicketNamesSaid : Prop := ticketNamesRow.holds Tryz.pinned (OpenSpec.ofChange ticketNamesSpec)

/-- ITS FALSE NEIGHBOUR: 'it returns false'. Refute it at one input. -/
def ticketNamesWrong : ChangeSpec := { name := "ticketNames", fn := fun _ => fun
  | [d1, d2] => { results := [.lit (.bool false)], args := [d1, d2] }
  | _ => none }
def TicketNamesWrongFalsely : Prop := ticketNamesRow.holds Tryz.pinned (OpenSpec.ofChange ticketNamesWrong)

/-- 'zafralaw11.TicketKnown': WHATEVER THE INPUT: true; the input reads as it did. -/
def ticketKnownSpec : ChangeSpec := { name := "ticketKnown", fn := fun _ => fun
  | [] => { results := [.lit (.bool true)], args := [] }
  | _ => none }
def ticketKnownRow : OpenClaim := { program := "ythemjfloiapaaaagreat", sum := "ea5b8a7efb4179628fc1c0533c4beeab0f5e7e018995f180fa9144b889ce5001", func := "zafra/zafralaw11.TicketKnown", spec := "ticketKnown", inPlace := ["maps.clone"], unfollowed := true, recurses := true, plainKeys := false, apart := false }
def TicketKnownSaid : Prop := ticketKnownRow.holds Tryz.pinned (OpenSpec.ofChange ticketKnownSpec)

/-- ITS FALSE NEIGHBOUR: 'it returns false'. Refute it at one input. -/
def ticketKnownWrong : ChangeSpec := { name := "ticketKnown", fn := fun _ => fun
  | [] => { results := [.lit (.bool false)], args := [] }
  | _ => none }
def TicketKnownWrongFalsely : Prop := ticketKnownRow.holds Tryz.pinned (OpenSpec.ofChange ticketKnownWrong)

/-- 'zafralaw11.TicketJoins': WHATEVER THE INPUT: true; the input reads as it did. -/
def ticketJoinsSpec : ChangeSpec := { name := "ticketJoins", fn := fun _ => fun
  | [d1, d2, d3] => { results := [.lit (.bool true)], args := [d1, d2, d3] }
  | _ => none }
def ticketJoinsRow : OpenClaim := { program := "ythemjfloiapaaaagreat", sum := "ea5b8a7efb4179628fc1c0533c4beeab0f5e7e018995f180fa9144b889ce5001", func := "zafra/zafralaw11.TicketJoins", spec := "ticketJoins", inPlace := ["maps.clone"], unfollowed := true, recurses := true, plainKeys := false, apart := false }
def TicketJoinsSaid : Prop := ticketJoinsRow.holds Tryz.pinned (OpenSpec.ofChange ticketJoinsSpec)

/-- ITS FALSE NEIGHBOUR: 'it returns false'. Refute it at one input. -/
def ticketJoinsWrong : ChangeSpec := { name := "ticketJoins", fn := fun _ => fun
  | [d1, d2, d3] => { results := [.lit (.bool false)], args := [d1, d2, d3] }
  | _ => none }
def TicketJoinsWrongFalsely : Prop := ticketJoinsRow.holds Tryz.pinned (OpenSpec.ofChange ticketJoinsWrong)

/-- 'zafralaw11.TicketFull': WHATEVER THE INPUT: true; the input reads as it did. -/
def ticketFullSpec : ChangeSpec := { name := "ticketFull", fn := fun _ => fun
  | [d] => { results := [.lit (.bool true)], args := [d] }
  | _ => none }
def ticketFullRow : OpenClaim := { program := "ythemjfloiapaaaagreat", sum := "ea5b8a7efb4179628fc1c0533c4beeab0f5e7e018995f180fa9144b889ce5001", func := "zafra/zafralaw11.TicketFull", spec := "ticketFull", inPlace := ["maps.clone"], unfollowed := true, recurses := true, plainKeys := false, apart := false }
def TicketFullSaid : Prop := ticketFullRow.holds Tryz.pinned (OpenSpec.ofChange ticketFullSpec)

/-- ITS FALSE NEIGHBOUR: 'it returns false'. Refute it at one input. -/
def ticketFullWrong : ChangeSpec := { name := "ticketFull", fn := fun _ => fun
  | [d] => { results := [.lit (.bool false)], args := [d] }
  | _ => none }
def TicketFullWrongFalsely : Prop := ticketFullRow.holds Tryz.pinned (OpenSpec.ofChange ticketFullWrong)

/-- 'zafralaw11.TicketOrder': WHATEVER THE INPUT: true; the input reads as it did. -/
def ticketOrderSpec : ChangeSpec := { name := "ticketOrder", fn := fun _ => fun
  | [d1, d2] => { results := [.lit (.bool true)], args := [d1, d2] }
  | _ => none }
def ticketOrderRow : OpenClaim := { program := "ythemjfloiapaaaagreat", sum := "ea5b8a7efb4179628fc1c0533c4beeab0f5e7e018995f180fa9144b889ce5001", func := "zafra/zafralaw11.TicketOrder", spec := "ticketOrder", inPlace := ["maps.clone"], unfollowed := true, recurses := true, plainKeys := false, apart := false }
def TicketOrderSaid : Prop := ticketOrderRow.holds Tryz.pinned (OpenSpec.ofChange ticketOrderSpec)

/-- ITS FALSE NEIGHBOUR: 'it returns false'. Refute it at one input. -/
def ticketOrderWrong : ChangeSpec := { name := "ticketOrder", fn := fun _ => fun
  | [d1, d2] => { results := [.lit (.bool false)], args := [d1, d2] }
  | _ => none }
def TicketOrderWrongFalsely : Prop := ticketOrderRow.holds Tryz.pinned (OpenSpec.ofChange ticketOrderWrong)

/- THE SECOND FORM. 'bulk': how many values and letters a reading holds, each counted each time it is reached (what is shared counts as often as it is met; a slice's spare places count too). A statement '..UptoSaid' is the law's where the arguments, and the package variables that the reading takes, are together of bulk at most 1048576: NARROWER than '..Said'. Prove '..Said' where nothing that the law and all that it calls make is longer than what came in: it says more and counts as full. Else prove '..UptoSaid'. A law counts once. -/
mutual
def uptoBulk {H : Type} : DataW H → Nat
  | .lit (.string bytes) => bytes.length + 1
  | .lit _ => 1
  | .nil => 1
  | .ptr d => uptoBulk d + 1
  | .slice elems spare => uptoBulkAll elems + uptoBulkAll spare + 1
  | .agg parts => uptoBulkAll parts + 1
  | .iface _ d => uptoBulk d + 1
  | .map entries => uptoBulkEntries entries + 1
  | .held _ => 1
def uptoBulkAll {H : Type} : List (DataW H) → Nat
  | [] => 0
  | d :: r => uptoBulk d + uptoBulkAll r
def uptoBulkEntries {H : Type} : List (Lit × DataW H) → Nat
  | [] => 0
  | x :: r => uptoBulkEntry x + uptoBulkEntries r
def uptoBulkEntry {H : Type} : Lit × DataW H → Nat
  | (.string bytes, d) => bytes.length + uptoBulk d + 1
  | (_, d) => uptoBulk d + 1
 end
def uptoSmall : (H : Type) → List (DataW H) → Bool := fun _ ds => decide (uptoBulkAll ds ≤ 1048576)
def OpenSpec.upto (s : _root_.Go.ChangeSpec) : _root_.Go.OpenSpec := { _root_.Go.OpenSpec.ofChange s with cond := some uptoSmall }

/-- 'zafralaw11.TicketBooks', WHERE WHAT IT READS IS OF BULK AT MOST 1048576: true; the input reads as it did. -/
def ticketBooksUptoRow : OpenClaim := { program := "ythemjfloiapaaaagreat", sum := "ea5b8a7efb4179628fc1c0533c4beeab0f5e7e018995f180fa9144b889ce5001", func := "zafra/zafralaw11.TicketBooks", spec := "ticketBooks", inPlace := ["maps.clone"], unfollowed := true, recurses := true, plainKeys := false, apart := false, narrowed := true }
def TicketBooksUptoSaid : Prop := ticketBooksUptoRow.holds Tryz.pinned (OpenSpec.upto ticketBooksSpec)

/-- 'zafralaw11.TicketTotals', WHERE WHAT IT READS IS OF BULK AT MOST 1048576: true; the input reads as it did. -/
def ticketTotalsUptoRow : OpenClaim := { program := "ythemjfloiapaaaagreat", sum := "ea5b8a7efb4179628fc1c0533c4beeab0f5e7e018995f180fa9144b889ce5001", func := "zafra/zafralaw11.TicketTotals", spec := "ticketTotals", inPlace := ["maps.clone"], unfollowed := true, recurses := true, plainKeys := false, apart := false, narrowed := true }
def TicketTotalsUptoSaid : Prop := ticketTotalsUptoRow.holds Tryz.pinned (OpenSpec.upto ticketTotalsSpec)

/-- 'zafralaw11.TicketStates', WHERE WHAT IT READS IS OF BULK AT MOST 1048576: true; the input reads as it did. -/
def ticketStatesUptoRow : OpenClaim := { program := "ythemjfloiapaaaagreat", sum := "ea5b8a7efb4179628fc1c0533c4beeab0f5e7e018995f180fa9144b889ce5001", func := "zafra/zafralaw11.TicketStates", spec := "ticketStates", inPlace := ["maps.clone"], unfollowed := true, recurses := true, plainKeys := false, apart := false, narrowed := true }
def TicketStatesUptoSaid : Prop := ticketStatesUptoRow.holds Tryz.pinned (OpenSpec.upto ticketStatesSpec)

/-- 'zafralaw11.TicketExact', WHERE WHAT IT READS IS OF BULK AT MOST 1048576: true; the input reads as it did. -/
def ticketExactUptoRow : OpenClaim := { program := "ythemjfloiapaaaagreat", sum := "ea5b8a7efb4179628fc1c0533c4beeab0f5e7e018995f180fa9144b889ce5001", func := "zafra/zafralaw11.TicketExact", spec := "ticketExact", inPlace := ["maps.clone"], unfollowed := true, recurses := true, plainKeys := false, apart := false, narrowed := true }
def TicketExactUptoSaid : Prop := ticketExactUptoRow.holds Tryz.pinned (OpenSpec.upto ticketExactSpec)

/-- 'zafralaw11.TicketKept', WHERE WHAT IT READS IS OF BULK AT MOST 1048576: true; the input reads as it did. -/
def ticketKeptUptoRow : OpenClaim := { program := "ythemjfloiapaaaagreat", sum := "ea5b8a7efb4179628fc1c0533c4beeab0f5e7e018995f180fa9144b889ce5001", func := "zafra/zafralaw11.TicketKept", spec := "ticketKept", inPlace := ["maps.clone"], unfollowed := true, recurses := true, plainKeys := false, apart := false, narrowed := true }
def TicketKeptUptoSaid : Prop := ticketKeptUptoRow.holds Tryz.pinned (OpenSpec.upto ticketKeptSpec)

/-- 'zafralaw11.TicketRuled', WHERE WHAT IT READS IS OF BULK AT MOST 1048576: true; the input reads as it did. -/
def ticketRuledUptoRow : OpenClaim := { program := "ythemjfloiapaaaagreat", sum := "ea5b8a7efb4179628fc1c0533c4beeab0f5e7e018995f180fa9144b889ce5001", func := "zafra/zafralaw11.TicketRuled", spec := "ticketRuled", inPlace := ["maps.clone"], unfollowed := true, recurses := true, plainKeys := false, apart := false, narrowed := true }
def TicketRuledUptoSaid : Prop := ticketRuledUptoRow.holds Tryz.pinned (OpenSpec.upto ticketRuledSpec)

/-- 'zafralaw11.TicketCorrected', WHERE WHAT IT READS IS OF BULK AT MOST 1048576: true; the input reads as it did. -/
def ticketCorrectedUptoRow : OpenClaim := { program := "ythemjfloiapaaaagreat", sum := "ea5b8a7efb4179628fc1c0533c4beeab0f5e7e018995f180fa9144b889ce5001", func := "zafra/zafralaw11.TicketCorrected", spec := "ticketCorrected", inPlace := ["maps.clone"], unfollowed := true, recurses := true, plainKeys := false, apart := false, narrowed := true }
def TicketCorrectedUptoSaid : Prop := ticketCorrectedUptoRow.holds Tryz.pinned (OpenSpec.upto ticketCorrectedSpec)

/-- 'zafralaw11.TicketWaiting', WHERE WHAT IT READS IS OF BULK AT MOST 1048576: true; the input reads as it did. -/
def ticketWaitingUptoRow : OpenClaim := { program := "ythemjfloiapaaaagreat", sum := "ea5b8a7efb4179628fc1c0533c4beeab0f5e7e018995f180fa9144b889ce5001", func := "zafra/zafralaw11.TicketWaiting", spec := "ticketWaiting", inPlace := ["maps.clone"], unfollowed := true, recurses := true, plainKeys := false, apart := false, narrowed := true }
def TicketWaitingUptoSaid : Prop := ticketWaitingUptoRow.holds Tryz.pinned (OpenSpec.upto ticketWaitingSpec)

/-- 'zafralaw11.TicketNames', WHERE WHAT IT READS IS OF BULK AT MOST 1048576: true; the input reads as it did. -/
def ticketNamesUptoRow : OpenClaim := { program := "ythemjfloiapaaaagreat", sum := "ea5b8a7efb4179628fc1c0533c4beeab0f5e7e018995f180fa9144b889ce5001", func := "zafra/zafralaw11.TicketNames", spec := "ticketNames", inPlace := ["maps.clone"], unfollowed := true, recurses := true, plainKeys := false, apart := false, narrowed := true }
def TicketNamesUptoSaid : Prop := ticketNamesUptoRow.holds Tryz.pinned (OpenSpec.upto ticketNamesSpec)

/-- 'zafralaw11.TicketKnown', WHERE WHAT IT READS IS OF BULK AT MOST 1048576: true; the input reads as it did. -/
def ticketKnownUptoRow : OpenClaim := { program := "ythemjfloiapaaaagreat", sum := "ea5b8a7efb4179628fc1c0533c4beeab0f5e7e018995f180fa9144b889ce5001", func := "zafra/zafralaw11.TicketKnown", spec := "ticketKnown", inPlace := ["maps.clone"], unfollowed := true, recurses := true, plainKeys := false, apart := false, narrowed := true }
def TicketKnownUptoSaid : Prop := ticketKnownUptoRow.holds Tryz.pinned (OpenSpec.upto ticketKnownSpec)

/-- 'zafralaw11.TicketJoins', WHERE WHAT IT READS IS OF BULK AT MOST 1048576: true; the input reads as it did. -/
def ticketJoinsUptoRow : OpenClaim := { program := "ythemjfloiapaaaagreat", sum := "ea5b8a7efb4179628fc1c0533c4beeab0f5e7e018995f180fa9144b889ce5001", func := "zafra/zafralaw11.TicketJoins", spec := "ticketJoins", inPlace := ["maps.clone"], unfollowed := true, recurses := true, plainKeys := false, apart := false, narrowed := true }
def TicketJoinsUptoSaid : Prop := ticketJoinsUptoRow.holds Tryz.pinned (OpenSpec.upto ticketJoinsSpec)

/-- 'zafralaw11.TicketFull', WHERE WHAT IT READS IS OF BULK AT MOST 1048576: true; the input reads as it did. -/
def ticketFullUptoRow : OpenClaim := { program := "ythemjfloiapaaaagreat", sum := "ea5b8a7efb4179628fc1c0533c4beeab0f5e7e018995f180fa9144b889ce5001", func := "zafra/zafralaw11.TicketFull", spec := "ticketFull", inPlace := ["maps.clone"], unfollowed := true, recurses := true, plainKeys := false, apart := false, narrowed := true }
def TicketFullUptoSaid : Prop := ticketFullUptoRow.holds Tryz.pinned (OpenSpec.upto ticketFullSpec)

/-- 'zafralaw11.TicketOrder', WHERE WHAT IT READS IS OF BULK AT MOST 1048576: true; the input reads as it did. -/
def ticketOrderUptoRow : OpenClaim := { program := "ythemjfloiapaaaagreat", sum := "ea5b8a7efb4179628fc1c0533c4beeab0f5e7e018995f180fa9144b889ce5001", func := "zafra/zafralaw11.TicketOrder", spec := "ticketOrder", inPlace := ["maps.clone"], unfollowed := true, recurses := true, plainKeys := false, apart := false, narrowed := true }
def TicketOrderUptoSaid : Prop := ticketOrderUptoRow.holds Tryz.pinned (OpenSpec.upto ticketOrderSpec)

end Rows
end Go.Proofs.YthemjfloiapaaaaGreat
