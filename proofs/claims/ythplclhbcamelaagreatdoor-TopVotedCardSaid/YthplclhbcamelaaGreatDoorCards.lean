/-
  DERIVED. GIVEN WITH THE SEED: THE CARDS: each row of YthplclhbcamelaaGreatDoorRows.lean that lists a variable, with what it lists TIED to the program's text (the seventh form; the later family's looks); each row that meets fmt, with fmt's text TOLD by the authors' own Lean function (tested against real Go, not proved from fmt's source: count such statements apart). THE CARD IS WHAT COUNTS. Prove the row's statement (the work); the ties are given (YthplclhbcamelaaGreatDoorTie.lean); close each card by the builder's one call (the guide's Derived/Test/ToyasCard.lean, 'card_holds'). Laid BY PROGRAM, IN A SANDBOX (cutbox-door.mjs). By AI agents, Wed Nov 11 2026. No macro, syntax, notation, axiom, sorry.
-/
import Derived.Test.YthplclhbcamelaaGreatDoorRows
import GoSem.ClaimSeven
namespace Go.Proofs.YthplclhbcamelaaGreatDoor
namespace Rows

/-- THE TIED CARD OF 'zafratop.TopVoted'. -/
def topVotedCard : Claim7 := { stood := { row := topVotedRow, standIns := [], harness := (true, "305787d715745caac3f5b303a23effd807af27c421e5b979bc7b2e6d26363768"), looks := false }, kinds := [], alts := [], laidByText := true, laidKinds := [.data, .data], laidTests := true, laidLooks := .later }
def TopVotedCardSaid : Prop := Claim7.holds Tryz.pinned (.plain (OpenSpec.ofChange topVotedSpec)) topVotedCard

/-- THE SECOND FORM's CARD OF 'zafratop.TopVoted'. -/
def topVotedUptoCard : Claim7 := { stood := { row := topVotedUptoRow, standIns := [], harness := (true, "305787d715745caac3f5b303a23effd807af27c421e5b979bc7b2e6d26363768"), looks := false }, kinds := [], alts := [], laidByText := true, laidKinds := [.data, .data], laidTests := true, laidLooks := .later }
def TopVotedUptoCardSaid : Prop := Claim7.holds Tryz.pinned (.plain (OpenSpec.upto topVotedSpec)) topVotedUptoCard
end Rows
end Go.Proofs.YthplclhbcamelaaGreatDoor
