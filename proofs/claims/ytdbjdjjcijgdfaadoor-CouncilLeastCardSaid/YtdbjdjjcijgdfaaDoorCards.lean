/-
  DERIVED. GIVEN WITH THE SEED: THE CARDS: each row of YtdbjdjjcijgdfaaDoorRows.lean that lists a variable, with what it lists TIED to the program's text (the seventh form; the later family's looks); each row that meets fmt, with fmt's text TOLD by the authors' own Lean function (tested against real Go, not proved from fmt's source: count such statements apart). THE CARD IS WHAT COUNTS. Prove the row's statement (the work); the ties are given (YtdbjdjjcijgdfaaDoorTie.lean); close each card by the builder's one call (the guide's Derived/Test/ToyasCard.lean, 'card_holds'). Laid BY PROGRAM, IN A SANDBOX (cutbox-door.mjs). By AI agents, Wed Nov 11 2026. No macro, syntax, notation, axiom, sorry.
-/
import Derived.Test.YtdbjdjjcijgdfaaDoorRows
import GoSem.ClaimSeven
namespace Go.Proofs.YtdbjdjjcijgdfaaDoor
namespace Rows

/-- THE TIED CARD OF 'zafralaw12.CouncilPowers'. -/
def councilPowersCard : Claim7 := { stood := { row := councilPowersRow, standIns := [], harness := (true, "93e45c209984e11fa5460d5b73ab9da70e29a9974d4f28d0ec51192c787f2a6f"), looks := false }, kinds := [], alts := [], laidByText := true, laidKinds := [.data, .data], laidTests := true, laidLooks := .later }
def CouncilPowersCardSaid : Prop := Claim7.holds Tryd.pinned (.plain (OpenSpec.ofChange councilPowersSpec)) councilPowersCard

/-- THE TIED CARD OF 'zafralaw12.CouncilTrades'. -/
def councilTradesCard : Claim7 := { stood := { row := councilTradesRow, standIns := [], harness := (true, "93e45c209984e11fa5460d5b73ab9da70e29a9974d4f28d0ec51192c787f2a6f"), looks := false }, kinds := [], alts := [], laidByText := true, laidKinds := [.data, .data], laidTests := true, laidLooks := .later }
def CouncilTradesCardSaid : Prop := Claim7.holds Tryd.pinned (.plain (OpenSpec.ofChange councilTradesSpec)) councilTradesCard

/-- THE TIED CARD OF 'zafralaw12.CouncilBlocs'. -/
def councilBlocsCard : Claim7 := { stood := { row := councilBlocsRow, standIns := [], harness := (true, "93e45c209984e11fa5460d5b73ab9da70e29a9974d4f28d0ec51192c787f2a6f"), looks := false }, kinds := [], alts := [], laidByText := true, laidKinds := [.data, .data], laidTests := true, laidLooks := .later }
def CouncilBlocsCardSaid : Prop := Claim7.holds Tryd.pinned (.plain (OpenSpec.ofChange councilBlocsSpec)) councilBlocsCard

/-- THE TIED CARD OF 'zafralaw12.CouncilSpans'. -/
def councilSpansCard : Claim7 := { stood := { row := councilSpansRow, standIns := [], harness := (true, "93e45c209984e11fa5460d5b73ab9da70e29a9974d4f28d0ec51192c787f2a6f"), looks := false }, kinds := [], alts := [], laidByText := true, laidKinds := [.data, .data], laidTests := true, laidLooks := .later }
def CouncilSpansCardSaid : Prop := Claim7.holds Tryd.pinned (.plain (OpenSpec.ofChange councilSpansSpec)) councilSpansCard

/-- THE TIED CARD OF 'zafralaw12.CouncilTurns'. -/
def councilTurnsCard : Claim7 := { stood := { row := councilTurnsRow, standIns := [], harness := (true, "93e45c209984e11fa5460d5b73ab9da70e29a9974d4f28d0ec51192c787f2a6f"), looks := false }, kinds := [], alts := [], laidByText := true, laidKinds := [.data, .data], laidTests := true, laidLooks := .later }
def CouncilTurnsCardSaid : Prop := Claim7.holds Tryd.pinned (.plain (OpenSpec.ofChange councilTurnsSpec)) councilTurnsCard

/-- THE TIED CARD OF 'zafralaw12.CouncilStrong'. -/
def councilStrongCard : Claim7 := { stood := { row := councilStrongRow, standIns := [], harness := (true, "93e45c209984e11fa5460d5b73ab9da70e29a9974d4f28d0ec51192c787f2a6f"), looks := false }, kinds := [], alts := [], laidByText := true, laidKinds := [.data, .data], laidTests := true, laidLooks := .later }
def CouncilStrongCardSaid : Prop := Claim7.holds Tryd.pinned (.plain (OpenSpec.ofChange councilStrongSpec)) councilStrongCard

/-- THE TIED CARD OF 'zafralaw12.CouncilExchange'. -/
def councilExchangeCard : Claim7 := { stood := { row := councilExchangeRow, standIns := [], harness := (true, "93e45c209984e11fa5460d5b73ab9da70e29a9974d4f28d0ec51192c787f2a6f"), looks := false }, kinds := [], alts := [], laidByText := true, laidKinds := [.data, .data], laidTests := true, laidLooks := .later }
def CouncilExchangeCardSaid : Prop := Claim7.holds Tryd.pinned (.plain (OpenSpec.ofChange councilExchangeSpec)) councilExchangeCard

/-- THE TIED CARD OF 'zafralaw12.CouncilBloc'. -/
def councilBlocCard : Claim7 := { stood := { row := councilBlocRow, standIns := [], harness := (true, "93e45c209984e11fa5460d5b73ab9da70e29a9974d4f28d0ec51192c787f2a6f"), looks := false }, kinds := [], alts := [], laidByText := true, laidKinds := [.data, .data], laidTests := true, laidLooks := .later }
def CouncilBlocCardSaid : Prop := Claim7.holds Tryd.pinned (.plain (OpenSpec.ofChange councilBlocSpec)) councilBlocCard

/-- THE TIED CARD OF 'zafralaw12.CouncilSpan'. -/
def councilSpanCard : Claim7 := { stood := { row := councilSpanRow, standIns := [], harness := (true, "93e45c209984e11fa5460d5b73ab9da70e29a9974d4f28d0ec51192c787f2a6f"), looks := false }, kinds := [], alts := [], laidByText := true, laidKinds := [.data, .data], laidTests := true, laidLooks := .later }
def CouncilSpanCardSaid : Prop := Claim7.holds Tryd.pinned (.plain (OpenSpec.ofChange councilSpanSpec)) councilSpanCard

/-- THE TIED CARD OF 'zafralaw12.CouncilNumbers'. -/
def councilNumbersCard : Claim7 := { stood := { row := councilNumbersRow, standIns := [], harness := (true, "93e45c209984e11fa5460d5b73ab9da70e29a9974d4f28d0ec51192c787f2a6f"), looks := false }, kinds := [], alts := [], laidByText := true, laidKinds := [.data, .data], laidTests := true, laidLooks := .later }
def CouncilNumbersCardSaid : Prop := Claim7.holds Tryd.pinned (.plain (OpenSpec.ofChange councilNumbersSpec)) councilNumbersCard

/-- THE TIED CARD OF 'zafralaw12.CouncilWins'. -/
def councilWinsCard : Claim7 := { stood := { row := councilWinsRow, standIns := [], harness := (true, "93e45c209984e11fa5460d5b73ab9da70e29a9974d4f28d0ec51192c787f2a6f"), looks := false }, kinds := [], alts := [], laidByText := true, laidKinds := [.data, .data], laidTests := true, laidLooks := .later }
def CouncilWinsCardSaid : Prop := Claim7.holds Tryd.pinned (.plain (OpenSpec.ofChange councilWinsSpec)) councilWinsCard

/-- THE TIED CARD OF 'zafralaw12.CouncilLeast'. -/
def councilLeastCard : Claim7 := { stood := { row := councilLeastRow, standIns := [], harness := (true, "93e45c209984e11fa5460d5b73ab9da70e29a9974d4f28d0ec51192c787f2a6f"), looks := false }, kinds := [], alts := [], laidByText := true, laidKinds := [.data, .data], laidTests := true, laidLooks := .later }
def CouncilLeastCardSaid : Prop := Claim7.holds Tryd.pinned (.plain (OpenSpec.ofChange councilLeastSpec)) councilLeastCard

/-- THE SECOND FORM's CARD OF 'zafralaw12.CouncilPowers'. -/
def councilPowersUptoCard : Claim7 := { stood := { row := councilPowersUptoRow, standIns := [], harness := (true, "93e45c209984e11fa5460d5b73ab9da70e29a9974d4f28d0ec51192c787f2a6f"), looks := false }, kinds := [], alts := [], laidByText := true, laidKinds := [.data, .data], laidTests := true, laidLooks := .later }
def CouncilPowersUptoCardSaid : Prop := Claim7.holds Tryd.pinned (.plain (OpenSpec.upto councilPowersSpec)) councilPowersUptoCard

/-- THE SECOND FORM's CARD OF 'zafralaw12.CouncilTrades'. -/
def councilTradesUptoCard : Claim7 := { stood := { row := councilTradesUptoRow, standIns := [], harness := (true, "93e45c209984e11fa5460d5b73ab9da70e29a9974d4f28d0ec51192c787f2a6f"), looks := false }, kinds := [], alts := [], laidByText := true, laidKinds := [.data, .data], laidTests := true, laidLooks := .later }
def CouncilTradesUptoCardSaid : Prop := Claim7.holds Tryd.pinned (.plain (OpenSpec.upto councilTradesSpec)) councilTradesUptoCard

/-- THE SECOND FORM's CARD OF 'zafralaw12.CouncilBlocs'. -/
def councilBlocsUptoCard : Claim7 := { stood := { row := councilBlocsUptoRow, standIns := [], harness := (true, "93e45c209984e11fa5460d5b73ab9da70e29a9974d4f28d0ec51192c787f2a6f"), looks := false }, kinds := [], alts := [], laidByText := true, laidKinds := [.data, .data], laidTests := true, laidLooks := .later }
def CouncilBlocsUptoCardSaid : Prop := Claim7.holds Tryd.pinned (.plain (OpenSpec.upto councilBlocsSpec)) councilBlocsUptoCard

/-- THE SECOND FORM's CARD OF 'zafralaw12.CouncilSpans'. -/
def councilSpansUptoCard : Claim7 := { stood := { row := councilSpansUptoRow, standIns := [], harness := (true, "93e45c209984e11fa5460d5b73ab9da70e29a9974d4f28d0ec51192c787f2a6f"), looks := false }, kinds := [], alts := [], laidByText := true, laidKinds := [.data, .data], laidTests := true, laidLooks := .later }
def CouncilSpansUptoCardSaid : Prop := Claim7.holds Tryd.pinned (.plain (OpenSpec.upto councilSpansSpec)) councilSpansUptoCard

/-- THE SECOND FORM's CARD OF 'zafralaw12.CouncilTurns'. -/
def councilTurnsUptoCard : Claim7 := { stood := { row := councilTurnsUptoRow, standIns := [], harness := (true, "93e45c209984e11fa5460d5b73ab9da70e29a9974d4f28d0ec51192c787f2a6f"), looks := false }, kinds := [], alts := [], laidByText := true, laidKinds := [.data, .data], laidTests := true, laidLooks := .later }
def CouncilTurnsUptoCardSaid : Prop := Claim7.holds Tryd.pinned (.plain (OpenSpec.upto councilTurnsSpec)) councilTurnsUptoCard

/-- THE SECOND FORM's CARD OF 'zafralaw12.CouncilStrong'. -/
def councilStrongUptoCard : Claim7 := { stood := { row := councilStrongUptoRow, standIns := [], harness := (true, "93e45c209984e11fa5460d5b73ab9da70e29a9974d4f28d0ec51192c787f2a6f"), looks := false }, kinds := [], alts := [], laidByText := true, laidKinds := [.data, .data], laidTests := true, laidLooks := .later }
def CouncilStrongUptoCardSaid : Prop := Claim7.holds Tryd.pinned (.plain (OpenSpec.upto councilStrongSpec)) councilStrongUptoCard

/-- THE SECOND FORM's CARD OF 'zafralaw12.CouncilExchange'. -/
def councilExchangeUptoCard : Claim7 := { stood := { row := councilExchangeUptoRow, standIns := [], harness := (true, "93e45c209984e11fa5460d5b73ab9da70e29a9974d4f28d0ec51192c787f2a6f"), looks := false }, kinds := [], alts := [], laidByText := true, laidKinds := [.data, .data], laidTests := true, laidLooks := .later }
def CouncilExchangeUptoCardSaid : Prop := Claim7.holds Tryd.pinned (.plain (OpenSpec.upto councilExchangeSpec)) councilExchangeUptoCard

/-- THE SECOND FORM's CARD OF 'zafralaw12.CouncilBloc'. -/
def councilBlocUptoCard : Claim7 := { stood := { row := councilBlocUptoRow, standIns := [], harness := (true, "93e45c209984e11fa5460d5b73ab9da70e29a9974d4f28d0ec51192c787f2a6f"), looks := false }, kinds := [], alts := [], laidByText := true, laidKinds := [.data, .data], laidTests := true, laidLooks := .later }
def CouncilBlocUptoCardSaid : Prop := Claim7.holds Tryd.pinned (.plain (OpenSpec.upto councilBlocSpec)) councilBlocUptoCard

/-- THE SECOND FORM's CARD OF 'zafralaw12.CouncilSpan'. -/
def councilSpanUptoCard : Claim7 := { stood := { row := councilSpanUptoRow, standIns := [], harness := (true, "93e45c209984e11fa5460d5b73ab9da70e29a9974d4f28d0ec51192c787f2a6f"), looks := false }, kinds := [], alts := [], laidByText := true, laidKinds := [.data, .data], laidTests := true, laidLooks := .later }
def CouncilSpanUptoCardSaid : Prop := Claim7.holds Tryd.pinned (.plain (OpenSpec.upto councilSpanSpec)) councilSpanUptoCard

/-- THE SECOND FORM's CARD OF 'zafralaw12.CouncilNumbers'. -/
def councilNumbersUptoCard : Claim7 := { stood := { row := councilNumbersUptoRow, standIns := [], harness := (true, "93e45c209984e11fa5460d5b73ab9da70e29a9974d4f28d0ec51192c787f2a6f"), looks := false }, kinds := [], alts := [], laidByText := true, laidKinds := [.data, .data], laidTests := true, laidLooks := .later }
def CouncilNumbersUptoCardSaid : Prop := Claim7.holds Tryd.pinned (.plain (OpenSpec.upto councilNumbersSpec)) councilNumbersUptoCard

/-- THE SECOND FORM's CARD OF 'zafralaw12.CouncilWins'. -/
def councilWinsUptoCard : Claim7 := { stood := { row := councilWinsUptoRow, standIns := [], harness := (true, "93e45c209984e11fa5460d5b73ab9da70e29a9974d4f28d0ec51192c787f2a6f"), looks := false }, kinds := [], alts := [], laidByText := true, laidKinds := [.data, .data], laidTests := true, laidLooks := .later }
def CouncilWinsUptoCardSaid : Prop := Claim7.holds Tryd.pinned (.plain (OpenSpec.upto councilWinsSpec)) councilWinsUptoCard

/-- THE SECOND FORM's CARD OF 'zafralaw12.CouncilLeast'. -/
def councilLeastUptoCard : Claim7 := { stood := { row := councilLeastUptoRow, standIns := [], harness := (true, "93e45c209984e11fa5460d5b73ab9da70e29a9974d4f28d0ec51192c787f2a6f"), looks := false }, kinds := [], alts := [], laidByText := true, laidKinds := [.data, .data], laidTests := true, laidLooks := .later }
def CouncilLeastUptoCardSaid : Prop := Claim7.holds Tryd.pinned (.plain (OpenSpec.upto councilLeastSpec)) councilLeastUptoCard
end Rows
end Go.Proofs.YtdbjdjjcijgdfaaDoor
