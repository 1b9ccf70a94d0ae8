/-
  NARROWER THAN 'FOR EVERY INPUT', by the rows' own cells (each row's printed sentence says how): CouncilPowers: laid · CouncilTrades: laid · CouncilBlocs: laid · CouncilSpans: laid · CouncilTurns: laid · CouncilStrong: laid · CouncilExchange: laid · CouncilBloc: laid · CouncilSpan: laid · CouncilNumbers: laid · CouncilWins: laid · CouncilLeast: laid.
  DERIVED. THE GIVEN ROWS OF THIS SEAT. 12 by the template 'for every input the law returns true; each argument reads behind the call as it read before'; 0 by the template 'total and deterministic' (their statements: YtdbjdjjcijgdfaaDoorTotals.lean).
  GIVEN WITH THE SEED: the statements are not yours to turn. If you find one false, say at which input.
  Laid BY PROGRAM, IN A SANDBOX (cutbox-rows.mjs): the forced cells as the released guide's own fill.sh prints them over the translation 9b3e14ec49682511… (all of the seat's roots in one cut). By AI agents, Wed Nov 11 2026. No macro, syntax, notation, axiom, sorry.
-/
import Derived.Test.YtdbjdjjcijgdfaaDoorChecked
import GoSem.Claim
import GoSem.ClaimJoined
import GoSem.ClaimMapViews
import Derived.JoinedTies
import Derived.KernelRfl
namespace Go.Proofs.YtdbjdjjcijgdfaaDoor
/- THE CELL 'sum', in the pinned program and in every row, IS THE sha256 OF THE DUMP (.gsa) THAT YtdbjdjjcijgdfaaDoorProg.lean LOADS. Nothing in Lean hashes anything: it is a label: what it is worth is what the hold of that sum in a sandbox is worth. -/
noncomputable def Tryd.pinned : Pinned := { name := "ytdbjdjjcijgdfaadoor", sum := "9b3e14ec49682511bb58adae9fd7254bd47dfe44a3ac9b4933544252cbcd768c", checked := Tryd.checked }
namespace Rows
def none {H : Type} : Left H := { results := [], args := [] }

/- WHAT THE LISTED PACKAGE-LEVEL VARIABLES READ AS WHEN THE CALL BEGINS. Each datum BY PROGRAM (the guide's laid-datum.mjs) off the statement by which the dump's own 'gosem.cut.vars' lays the variable. In a bare row this is a premise. The card (YtdbjdjjcijgdfaaDoorCards.lean) ties it to the program's text. -/
def laid_math_bits_deBruijn32tab {H : Type} : DataW H := .agg [.lit (.int .u8 0), .lit (.int .u8 1), .lit (.int .u8 28), .lit (.int .u8 2), .lit (.int .u8 29), .lit (.int .u8 14), .lit (.int .u8 24), .lit (.int .u8 3), .lit (.int .u8 30), .lit (.int .u8 22), .lit (.int .u8 20), .lit (.int .u8 15), .lit (.int .u8 25), .lit (.int .u8 17), .lit (.int .u8 4), .lit (.int .u8 8), .lit (.int .u8 31), .lit (.int .u8 27), .lit (.int .u8 13), .lit (.int .u8 23), .lit (.int .u8 21), .lit (.int .u8 19), .lit (.int .u8 16), .lit (.int .u8 7), .lit (.int .u8 26), .lit (.int .u8 12), .lit (.int .u8 18), .lit (.int .u8 6), .lit (.int .u8 11), .lit (.int .u8 5), .lit (.int .u8 10), .lit (.int .u8 9)]
def laid_math_bits_deBruijn64tab {H : Type} : DataW H := .agg [.lit (.int .u8 0), .lit (.int .u8 1), .lit (.int .u8 56), .lit (.int .u8 2), .lit (.int .u8 57), .lit (.int .u8 49), .lit (.int .u8 28), .lit (.int .u8 3), .lit (.int .u8 61), .lit (.int .u8 58), .lit (.int .u8 42), .lit (.int .u8 50), .lit (.int .u8 38), .lit (.int .u8 29), .lit (.int .u8 17), .lit (.int .u8 4), .lit (.int .u8 62), .lit (.int .u8 47), .lit (.int .u8 59), .lit (.int .u8 36), .lit (.int .u8 45), .lit (.int .u8 43), .lit (.int .u8 51), .lit (.int .u8 22), .lit (.int .u8 53), .lit (.int .u8 39), .lit (.int .u8 33), .lit (.int .u8 30), .lit (.int .u8 24), .lit (.int .u8 18), .lit (.int .u8 12), .lit (.int .u8 5), .lit (.int .u8 63), .lit (.int .u8 55), .lit (.int .u8 48), .lit (.int .u8 27), .lit (.int .u8 60), .lit (.int .u8 41), .lit (.int .u8 37), .lit (.int .u8 16), .lit (.int .u8 46), .lit (.int .u8 35), .lit (.int .u8 44), .lit (.int .u8 21), .lit (.int .u8 52), .lit (.int .u8 32), .lit (.int .u8 23), .lit (.int .u8 11), .lit (.int .u8 54), .lit (.int .u8 26), .lit (.int .u8 40), .lit (.int .u8 15), .lit (.int .u8 34), .lit (.int .u8 20), .lit (.int .u8 31), .lit (.int .u8 10), .lit (.int .u8 25), .lit (.int .u8 14), .lit (.int .u8 19), .lit (.int .u8 9), .lit (.int .u8 13), .lit (.int .u8 8), .lit (.int .u8 7), .lit (.int .u8 6)]

/-- 'zafralaw12.CouncilPowers': WHATEVER THE INPUT: true; the input reads as it did. -/
def councilPowersSpec : ChangeSpec := { name := "councilPowers", fn := fun _ => fun
  | [d] => { results := [.lit (.bool true)], args := [d] }
  | _ => none }
def councilPowersRow : OpenClaim := { program := "ytdbjdjjcijgdfaadoor", sum := "9b3e14ec49682511bb58adae9fd7254bd47dfe44a3ac9b4933544252cbcd768c", func := "zafra/zafralaw12.CouncilPowers", spec := "councilPowers", unfollowed := true, recurses := true, named := ["math/bits.deBruijn32tab", "math/bits.deBruijn64tab"], apart := false, laid := [("math/bits.deBruijn32tab", laid_math_bits_deBruijn32tab), ("math/bits.deBruijn64tab", laid_math_bits_deBruijn64tab)] }
def CouncilPowersSaid : Prop := councilPowersRow.holds Tryd.pinned (OpenSpec.ofChange councilPowersSpec)

/-- ITS FALSE NEIGHBOUR: 'it returns false'. Refute it at one input. -/
def councilPowersWrong : ChangeSpec := { name := "councilPowers", fn := fun _ => fun
  | [d] => { results := [.lit (.bool false)], args := [d] }
  | _ => none }
def CouncilPowersWrongFalsely : Prop := councilPowersRow.holds Tryd.pinned (OpenSpec.ofChange councilPowersWrong)

/-- 'zafralaw12.CouncilTrades': WHATEVER THE INPUT: true; the input reads as it did. -/
def councilTradesSpec : ChangeSpec := { name := "councilTrades", fn := fun _ => fun
  | [d1, d2] => { results := [.lit (.bool true)], args := [d1, d2] }
  | _ => none }
def councilTradesRow : OpenClaim := { program := "ytdbjdjjcijgdfaadoor", sum := "9b3e14ec49682511bb58adae9fd7254bd47dfe44a3ac9b4933544252cbcd768c", func := "zafra/zafralaw12.CouncilTrades", spec := "councilTrades", unfollowed := true, recurses := true, named := ["math/bits.deBruijn32tab", "math/bits.deBruijn64tab"], apart := false, laid := [("math/bits.deBruijn32tab", laid_math_bits_deBruijn32tab), ("math/bits.deBruijn64tab", laid_math_bits_deBruijn64tab)] }
def CouncilTradesSaid : Prop := councilTradesRow.holds Tryd.pinned (OpenSpec.ofChange councilTradesSpec)

/-- ITS FALSE NEIGHBOUR: 'it returns false'. Refute it at one input. -/
def councilTradesWrong : ChangeSpec := { name := "councilTrades", fn := fun _ => fun
  | [d1, d2] => { results := [.lit (.bool false)], args := [d1, d2] }
  | _ => none }
def CouncilTradesWrongFalsely : Prop := councilTradesRow.holds Tryd.pinned (OpenSpec.ofChange councilTradesWrong)

/-- 'zafralaw12.CouncilBlocs': WHATEVER THE INPUT: true; the input reads as it did. -/
def councilBlocsSpec : ChangeSpec := { name := "councilBlocs", fn := fun _ => fun
  | [d1, d2] => { results := [.lit (.bool true)], args := [d1, d2] }
  | _ => none }
def councilBlocsRow : OpenClaim := { program := "ytdbjdjjcijgdfaadoor", sum := "9b3e14ec49682511bb58adae9fd7254bd47dfe44a3ac9b4933544252cbcd768c", func := "zafra/zafralaw12.CouncilBlocs", spec := "councilBlocs", unfollowed := true, recurses := true, named := ["math/bits.deBruijn32tab", "math/bits.deBruijn64tab"], apart := false, laid := [("math/bits.deBruijn32tab", laid_math_bits_deBruijn32tab), ("math/bits.deBruijn64tab", laid_math_bits_deBruijn64tab)] }
def CouncilBlocsSaid : Prop := councilBlocsRow.holds Tryd.pinned (OpenSpec.ofChange councilBlocsSpec)

/-- ITS FALSE NEIGHBOUR: 'it returns false'. Refute it at one input. -/
def councilBlocsWrong : ChangeSpec := { name := "councilBlocs", fn := fun _ => fun
  | [d1, d2] => { results := [.lit (.bool false)], args := [d1, d2] }
  | _ => none }
def CouncilBlocsWrongFalsely : Prop := councilBlocsRow.holds Tryd.pinned (OpenSpec.ofChange councilBlocsWrong)

/-- 'zafralaw12.CouncilSpans': WHATEVER THE INPUT: true; the input reads as it did. -/
def councilSpansSpec : ChangeSpec := { name := "councilSpans", fn := fun _ => fun
  | [d1, d2, d3] => { results := [.lit (.bool true)], args := [d1, d2, d3] }
  | _ => none }
def councilSpansRow : OpenClaim := { program := "ytdbjdjjcijgdfaadoor", sum := "9b3e14ec49682511bb58adae9fd7254bd47dfe44a3ac9b4933544252cbcd768c", func := "zafra/zafralaw12.CouncilSpans", spec := "councilSpans", unfollowed := true, recurses := true, named := ["math/bits.deBruijn32tab", "math/bits.deBruijn64tab"], apart := false, laid := [("math/bits.deBruijn32tab", laid_math_bits_deBruijn32tab), ("math/bits.deBruijn64tab", laid_math_bits_deBruijn64tab)] }
def CouncilSpansSaid : Prop := councilSpansRow.holds Tryd.pinned (OpenSpec.ofChange councilSpansSpec)

/-- ITS FALSE NEIGHBOUR: 'it returns false'. Refute it at one input. -/
def councilSpansWrong : ChangeSpec := { name := "councilSpans", fn := fun _ => fun
  | [d1, d2, d3] => { results := [.lit (.bool false)], args := [d1, d2, d3] }
  | _ => none }
def CouncilSpansWrongFalsely : Prop := councilSpansRow.holds Tryd.pinned (OpenSpec.ofChange councilSpansWrong)

/-- 'zafralaw12.CouncilTurns': WHATEVER THE INPUT: true; the input reads as it did. -/
def councilTurnsSpec : ChangeSpec := { name := "councilTurns", fn := fun _ => fun
  | [d] => { results := [.lit (.bool true)], args := [d] }
  | _ => none }
def councilTurnsRow : OpenClaim := { program := "ytdbjdjjcijgdfaadoor", sum := "9b3e14ec49682511bb58adae9fd7254bd47dfe44a3ac9b4933544252cbcd768c", func := "zafra/zafralaw12.CouncilTurns", spec := "councilTurns", unfollowed := true, recurses := true, named := ["math/bits.deBruijn32tab", "math/bits.deBruijn64tab"], apart := false, laid := [("math/bits.deBruijn32tab", laid_math_bits_deBruijn32tab), ("math/bits.deBruijn64tab", laid_math_bits_deBruijn64tab)] }
def CouncilTurnsSaid : Prop := councilTurnsRow.holds Tryd.pinned (OpenSpec.ofChange councilTurnsSpec)

/-- ITS FALSE NEIGHBOUR: 'it returns false'. Refute it at one input. -/
def councilTurnsWrong : ChangeSpec := { name := "councilTurns", fn := fun _ => fun
  | [d] => { results := [.lit (.bool false)], args := [d] }
  | _ => none }
def CouncilTurnsWrongFalsely : Prop := councilTurnsRow.holds Tryd.pinned (OpenSpec.ofChange councilTurnsWrong)

/-- 'zafralaw12.CouncilStrong': WHATEVER THE INPUT: true; the input reads as it did. -/
def councilStrongSpec : ChangeSpec := { name := "councilStrong", fn := fun _ => fun
  | [d1, d2, d3] => { results := [.lit (.bool true)], args := [d1, d2, d3] }
  | _ => none }
def councilStrongRow : OpenClaim := { program := "ytdbjdjjcijgdfaadoor", sum := "9b3e14ec49682511bb58adae9fd7254bd47dfe44a3ac9b4933544252cbcd768c", func := "zafra/zafralaw12.CouncilStrong", spec := "councilStrong", unfollowed := true, recurses := true, named := ["math/bits.deBruijn32tab", "math/bits.deBruijn64tab"], apart := false, laid := [("math/bits.deBruijn32tab", laid_math_bits_deBruijn32tab), ("math/bits.deBruijn64tab", laid_math_bits_deBruijn64tab)] }
def CouncilStrongSaid : Prop := councilStrongRow.holds Tryd.pinned (OpenSpec.ofChange councilStrongSpec)

/-- ITS FALSE NEIGHBOUR: 'it returns false'. Refute it at one input. -/
def councilStrongWrong : ChangeSpec := { name := "councilStrong", fn := fun _ => fun
  | [d1, d2, d3] => { results := [.lit (.bool false)], args := [d1, d2, d3] }
  | _ => none }
def CouncilStrongWrongFalsely : Prop := councilStrongRow.holds Tryd.pinned (OpenSpec.ofChange councilStrongWrong)

/-- 'zafralaw12.CouncilExchange': WHATEVER THE INPUT: true; the input reads as it did. -/
def councilExchangeSpec : ChangeSpec := { name := "councilExchange", fn := fun _ => fun
  | [d1, d2, d3, d4] => { results := [.lit (.bool true)], args := [d1, d2, d3, d4] }
  | _ => none }
def councilExchangeRow : OpenClaim := { program := "ytdbjdjjcijgdfaadoor", sum := "9b3e14ec49682511bb58adae9fd7254bd47dfe44a3ac9b4933544252cbcd768c", func := "zafra/zafralaw12.CouncilExchange", spec := "councilExchange", unfollowed := true, recurses := true, named := ["math/bits.deBruijn32tab", "math/bits.deBruijn64tab"], apart := false, laid := [("math/bits.deBruijn32tab", laid_math_bits_deBruijn32tab), ("math/bits.deBruijn64tab", laid_math_bits_deBruijn64tab)] }
def CouncilExchangeSaid : Prop := councilExchangeRow.holds Tryd.pinned (OpenSpec.ofChange councilExchangeSpec)

/-- ITS FALSE NEIGHBOUR: 'it returns false'. Refute it at one input. -/
def councilExchangeWrong : ChangeSpec := { name := "councilExchange", fn := fun _ => fun
  | [d1, d2, d3, d4] => { results := [.lit (.bool false)], args := [d1, d2, d3, d4] }
  | _ => none }
def CouncilExchangeWrongFalsely : Prop := councilExchangeRow.holds Tryd.pinned (OpenSpec.ofChange councilExchangeWrong)

/-- 'zafralaw12.CouncilBloc': WHATEVER THE INPUT: true; the input reads as it did. -/
def councilBlocSpec : ChangeSpec := { name := "councilBloc", fn := fun _ => fun
  | [d1, d2] => { results := [.lit (.bool true)], args := [d1, d2] }
  | _ => none }
def councilBlocRow : OpenClaim := { program := "ytdbjdjjcijgdfaadoor", sum := "9b3e14ec49682511bb58adae9fd7254bd47dfe44a3ac9b4933544252cbcd768c", func := "zafra/zafralaw12.CouncilBloc", spec := "councilBloc", unfollowed := true, recurses := true, named := ["math/bits.deBruijn32tab", "math/bits.deBruijn64tab"], apart := false, laid := [("math/bits.deBruijn32tab", laid_math_bits_deBruijn32tab), ("math/bits.deBruijn64tab", laid_math_bits_deBruijn64tab)] }
def CouncilBlocSaid : Prop := councilBlocRow.holds Tryd.pinned (OpenSpec.ofChange councilBlocSpec)

/-- ITS FALSE NEIGHBOUR: 'it returns false'. Refute it at one input. -/
def councilBlocWrong : ChangeSpec := { name := "councilBloc", fn := fun _ => fun
  | [d1, d2] => { results := [.lit (.bool false)], args := [d1, d2] }
  | _ => none }
def CouncilBlocWrongFalsely : Prop := councilBlocRow.holds Tryd.pinned (OpenSpec.ofChange councilBlocWrong)

/-- 'zafralaw12.CouncilSpan': WHATEVER THE INPUT: true; the input reads as it did. -/
def councilSpanSpec : ChangeSpec := { name := "councilSpan", fn := fun _ => fun
  | [d1, d2, d3, d4] => { results := [.lit (.bool true)], args := [d1, d2, d3, d4] }
  | _ => none }
def councilSpanRow : OpenClaim := { program := "ytdbjdjjcijgdfaadoor", sum := "9b3e14ec49682511bb58adae9fd7254bd47dfe44a3ac9b4933544252cbcd768c", func := "zafra/zafralaw12.CouncilSpan", spec := "councilSpan", unfollowed := true, recurses := true, named := ["math/bits.deBruijn32tab", "math/bits.deBruijn64tab"], apart := false, laid := [("math/bits.deBruijn32tab", laid_math_bits_deBruijn32tab), ("math/bits.deBruijn64tab", laid_math_bits_deBruijn64tab)] }
def CouncilSpanSaid : Prop := councilSpanRow.holds Tryd.pinned (OpenSpec.ofChange councilSpanSpec)

/-- ITS FALSE NEIGHBOUR: 'it returns false'. Refute it at one input. -/
def councilSpanWrong : ChangeSpec := { name := "councilSpan", fn := fun _ => fun
  | [d1, d2, d3, d4] => { results := [.lit (.bool false)], args := [d1, d2, d3, d4] }
  | _ => none }
def CouncilSpanWrongFalsely : Prop := councilSpanRow.holds Tryd.pinned (OpenSpec.ofChange councilSpanWrong)

/-- 'zafralaw12.CouncilNumbers': WHATEVER THE INPUT: true; the input reads as it did. -/
def councilNumbersSpec : ChangeSpec := { name := "councilNumbers", fn := fun _ => fun
  | [d1, d2] => { results := [.lit (.bool true)], args := [d1, d2] }
  | _ => none }
def councilNumbersRow : OpenClaim := { program := "ytdbjdjjcijgdfaadoor", sum := "9b3e14ec49682511bb58adae9fd7254bd47dfe44a3ac9b4933544252cbcd768c", func := "zafra/zafralaw12.CouncilNumbers", spec := "councilNumbers", unfollowed := true, recurses := true, named := ["math/bits.deBruijn32tab", "math/bits.deBruijn64tab"], apart := false, laid := [("math/bits.deBruijn32tab", laid_math_bits_deBruijn32tab), ("math/bits.deBruijn64tab", laid_math_bits_deBruijn64tab)] }
def CouncilNumbersSaid : Prop := councilNumbersRow.holds Tryd.pinned (OpenSpec.ofChange councilNumbersSpec)

/-- ITS FALSE NEIGHBOUR: 'it returns false'. Refute it at one input. -/
def councilNumbersWrong : ChangeSpec := { name := "councilNumbers", fn := fun _ => fun
  | [d1, d2] => { results := [.lit (.bool false)], args := [d1, d2] }
  | _ => none }
def CouncilNumbersWrongFalsely : Prop := councilNumbersRow.holds Tryd.pinned (OpenSpec.ofChange councilNumbersWrong)

/-- 'zafralaw12.CouncilWins': WHATEVER THE INPUT: true; the input reads as it did. -/
def councilWinsSpec : ChangeSpec := { name := "councilWins", fn := fun _ => fun
  | [d1, d2] => { results := [.lit (.bool true)], args := [d1, d2] }
  | _ => none }
def councilWinsRow : OpenClaim := { program := "ytdbjdjjcijgdfaadoor", sum := "9b3e14ec49682511bb58adae9fd7254bd47dfe44a3ac9b4933544252cbcd768c", func := "zafra/zafralaw12.CouncilWins", spec := "councilWins", unfollowed := true, recurses := true, named := ["math/bits.deBruijn32tab", "math/bits.deBruijn64tab"], apart := false, laid := [("math/bits.deBruijn32tab", laid_math_bits_deBruijn32tab), ("math/bits.deBruijn64tab", laid_math_bits_deBruijn64tab)] }
def CouncilWinsSaid : Prop := councilWinsRow.holds Tryd.pinned (OpenSpec.ofChange councilWinsSpec)

/-- ITS FALSE NEIGHBOUR: 'it returns false'. Refute it at one input. -/
def councilWinsWrong : ChangeSpec := { name := "councilWins", fn := fun _ => fun
  | [d1, d2] => { results := [.lit (.bool false)], args := [d1, d2] }
  | _ => none }
def CouncilWinsWrongFalsely : Prop := councilWinsRow.holds Tryd.pinned (OpenSpec.ofChange councilWinsWrong)

/-- 'zafralaw12.CouncilLeast': WHATEVER THE INPUT: true; the input reads as it did. -/
def councilLeastSpec : ChangeSpec := { name := "councilLeast", fn := fun _ => fun
  | [d] => { results := [.lit (.bool true)], args := [d] }
  | _ => none }
def councilLeastRow : OpenClaim := { program := "ytdbjdjjcijgdfaadoor", sum := "9b3e14ec49682511bb58adae9fd7254bd47dfe44a3ac9b4933544252cbcd768c", func := "zafra/zafralaw12.CouncilLeast", spec := "councilLeast", unfollowed := true, recurses := true, named := ["math/bits.deBruijn32tab", "math/bits.deBruijn64tab"], apart := false, laid := [("math/bits.deBruijn32tab", laid_math_bits_deBruijn32tab), ("math/bits.deBruijn64tab", laid_math_bits_deBruijn64tab)] }
def CouncilLeastSaid : Prop := councilLeastRow.holds Tryd.pinned (OpenSpec.ofChange councilLeastSpec)

/-- ITS FALSE NEIGHBOUR: 'it returns false'. Refute it at one input. -/
def councilLeastWrong : ChangeSpec := { name := "councilLeast", fn := fun _ => fun
  | [d] => { results := [.lit (.bool false)], args := [d] }
  | _ => none }
def CouncilLeastWrongFalsely : Prop := councilLeastRow.holds Tryd.pinned (OpenSpec.ofChange councilLeastWrong)

/- THE SECOND FORM. 'bulk': how many values and letters a reading holds, each counted each time it is reached (what is shared counts as often as it is met; a slice's spare places count too). A statement '..UptoSaid' is the law's where the arguments, and the package variables that the reading takes, are together of bulk at most 1048576: NARROWER than '..Said'. Prove '..Said' where nothing that the law and all that it calls make is longer than what came in: it says more and counts as full. Else prove '..UptoSaid'. A law counts once. -/
mutual
def uptoBulk {H : Type} : DataW H → Nat
  | .lit (.string bytes) => bytes.length + 1
  | .lit _ => 1
  | .nil => 1
  | .ptr d => uptoBulk d + 1
  | .slice elems spare => uptoBulkAll elems + uptoBulkAll spare + 1
  | .agg parts => uptoBulkAll parts + 1
  | .iface _ d => uptoBulk d + 1
  | .map entries => uptoBulkEntries entries + 1
  | .held _ => 1
def uptoBulkAll {H : Type} : List (DataW H) → Nat
  | [] => 0
  | d :: r => uptoBulk d + uptoBulkAll r
def uptoBulkEntries {H : Type} : List (Lit × DataW H) → Nat
  | [] => 0
  | x :: r => uptoBulkEntry x + uptoBulkEntries r
def uptoBulkEntry {H : Type} : Lit × DataW H → Nat
  | (.string bytes, d) => bytes.length + uptoBulk d + 1
  | (_, d) => uptoBulk d + 1
 end
def uptoSmall : (H : Type) → List (DataW H) → Bool := fun _ ds => decide (uptoBulkAll ds ≤ 1048576)
def OpenSpec.upto (s : _root_.Go.ChangeSpec) : _root_.Go.OpenSpec := { _root_.Go.OpenSpec.ofChange s with cond := some uptoSmall }

/-- 'zafralaw12.CouncilPowers', WHERE WHAT IT READS IS OF BULK AT MOST 1048576: true; the input reads as it did. -/
def councilPowersUptoRow : OpenClaim := { program := "ytdbjdjjcijgdfaadoor", sum := "9b3e14ec49682511bb58adae9fd7254bd47dfe44a3ac9b4933544252cbcd768c", func := "zafra/zafralaw12.CouncilPowers", spec := "councilPowers", unfollowed := true, recurses := true, named := ["math/bits.deBruijn32tab", "math/bits.deBruijn64tab"], apart := false, laid := [("math/bits.deBruijn32tab", laid_math_bits_deBruijn32tab), ("math/bits.deBruijn64tab", laid_math_bits_deBruijn64tab)], narrowed := true }
def CouncilPowersUptoSaid : Prop := councilPowersUptoRow.holds Tryd.pinned (OpenSpec.upto councilPowersSpec)

/-- 'zafralaw12.CouncilTrades', WHERE WHAT IT READS IS OF BULK AT MOST 1048576: true; the input reads as it did. -/
def councilTradesUptoRow : OpenClaim := { program := "ytdbjdjjcijgdfaadoor", sum := "9b3e14ec49682511bb58adae9fd7254bd47dfe44a3ac9b4933544252cbcd768c", func := "zafra/zafralaw12.CouncilTrades", spec := "councilTrades", unfollowed := true, recurses := true, named := ["math/bits.deBruijn32tab", "math/bits.deBruijn64tab"], apart := false, laid := [("math/bits.deBruijn32tab", laid_math_bits_deBruijn32tab), ("math/bits.deBruijn64tab", laid_math_bits_deBruijn64tab)], narrowed := true }
def CouncilTradesUptoSaid : Prop := councilTradesUptoRow.holds Tryd.pinned (OpenSpec.upto councilTradesSpec)

/-- 'zafralaw12.CouncilBlocs', WHERE WHAT IT READS IS OF BULK AT MOST 1048576: true; the input reads as it did. -/
def councilBlocsUptoRow : OpenClaim := { program := "ytdbjdjjcijgdfaadoor", sum := "9b3e14ec49682511bb58adae9fd7254bd47dfe44a3ac9b4933544252cbcd768c", func := "zafra/zafralaw12.CouncilBlocs", spec := "councilBlocs", unfollowed := true, recurses := true, named := ["math/bits.deBruijn32tab", "math/bits.deBruijn64tab"], apart := false, laid := [("math/bits.deBruijn32tab", laid_math_bits_deBruijn32tab), ("math/bits.deBruijn64tab", laid_math_bits_deBruijn64tab)], narrowed := true }
def CouncilBlocsUptoSaid : Prop := councilBlocsUptoRow.holds Tryd.pinned (OpenSpec.upto councilBlocsSpec)

/-- 'zafralaw12.CouncilSpans', WHERE WHAT IT READS IS OF BULK AT MOST 1048576: true; the input reads as it did. -/
def councilSpansUptoRow : OpenClaim := { program := "ytdbjdjjcijgdfaadoor", sum := "9b3e14ec49682511bb58adae9fd7254bd47dfe44a3ac9b4933544252cbcd768c", func := "zafra/zafralaw12.CouncilSpans", spec := "councilSpans", unfollowed := true, recurses := true, named := ["math/bits.deBruijn32tab", "math/bits.deBruijn64tab"], apart := false, laid := [("math/bits.deBruijn32tab", laid_math_bits_deBruijn32tab), ("math/bits.deBruijn64tab", laid_math_bits_deBruijn64tab)], narrowed := true }
def CouncilSpansUptoSaid : Prop := councilSpansUptoRow.holds Tryd.pinned (OpenSpec.upto councilSpansSpec)

/-- 'zafralaw12.CouncilTurns', WHERE WHAT IT READS IS OF BULK AT MOST 1048576: true; the input reads as it did. -/
def councilTurnsUptoRow : OpenClaim := { program := "ytdbjdjjcijgdfaadoor", sum := "9b3e14ec49682511bb58adae9fd7254bd47dfe44a3ac9b4933544252cbcd768c", func := "zafra/zafralaw12.CouncilTurns", spec := "councilTurns", unfollowed := true, recurses := true, named := ["math/bits.deBruijn32tab", "math/bits.deBruijn64tab"], apart := false, laid := [("math/bits.deBruijn32tab", laid_math_bits_deBruijn32tab), ("math/bits.deBruijn64tab", laid_math_bits_deBruijn64tab)], narrowed := true }
def CouncilTurnsUptoSaid : Prop := councilTurnsUptoRow.holds Tryd.pinned (OpenSpec.upto councilTurnsSpec)

/-- 'zafralaw12.CouncilStrong', WHERE WHAT IT READS IS OF BULK AT MOST 1048576: true; the input reads as it did. -/
def councilStrongUptoRow : OpenClaim := { program := "ytdbjdjjcijgdfaadoor", sum := "9b3e14ec49682511bb58adae9fd7254bd47dfe44a3ac9b4933544252cbcd768c", func := "zafra/zafralaw12.CouncilStrong", spec := "councilStrong", unfollowed := true, recurses := true, named := ["math/bits.deBruijn32tab", "math/bits.deBruijn64tab"], apart := false, laid := [("math/bits.deBruijn32tab", laid_math_bits_deBruijn32tab), ("math/bits.deBruijn64tab", laid_math_bits_deBruijn64tab)], narrowed := true }
def CouncilStrongUptoSaid : Prop := councilStrongUptoRow.holds Tryd.pinned (OpenSpec.upto councilStrongSpec)

/-- 'zafralaw12.CouncilExchange', WHERE WHAT IT READS IS OF BULK AT MOST 1048576: true; the input reads as it did. -/
def councilExchangeUptoRow : OpenClaim := { program := "ytdbjdjjcijgdfaadoor", sum := "9b3e14ec49682511bb58adae9fd7254bd47dfe44a3ac9b4933544252cbcd768c", func := "zafra/zafralaw12.CouncilExchange", spec := "councilExchange", unfollowed := true, recurses := true, named := ["math/bits.deBruijn32tab", "math/bits.deBruijn64tab"], apart := false, laid := [("math/bits.deBruijn32tab", laid_math_bits_deBruijn32tab), ("math/bits.deBruijn64tab", laid_math_bits_deBruijn64tab)], narrowed := true }
def CouncilExchangeUptoSaid : Prop := councilExchangeUptoRow.holds Tryd.pinned (OpenSpec.upto councilExchangeSpec)

/-- 'zafralaw12.CouncilBloc', WHERE WHAT IT READS IS OF BULK AT MOST 1048576: true; the input reads as it did. -/
def councilBlocUptoRow : OpenClaim := { program := "ytdbjdjjcijgdfaadoor", sum := "9b3e14ec49682511bb58adae9fd7254bd47dfe44a3ac9b4933544252cbcd768c", func := "zafra/zafralaw12.CouncilBloc", spec := "councilBloc", unfollowed := true, recurses := true, named := ["math/bits.deBruijn32tab", "math/bits.deBruijn64tab"], apart := false, laid := [("math/bits.deBruijn32tab", laid_math_bits_deBruijn32tab), ("math/bits.deBruijn64tab", laid_math_bits_deBruijn64tab)], narrowed := true }
def CouncilBlocUptoSaid : Prop := councilBlocUptoRow.holds Tryd.pinned (OpenSpec.upto councilBlocSpec)

/-- 'zafralaw12.CouncilSpan', WHERE WHAT IT READS IS OF BULK AT MOST 1048576: true; the input reads as it did. -/
def councilSpanUptoRow : OpenClaim := { program := "ytdbjdjjcijgdfaadoor", sum := "9b3e14ec49682511bb58adae9fd7254bd47dfe44a3ac9b4933544252cbcd768c", func := "zafra/zafralaw12.CouncilSpan", spec := "councilSpan", unfollowed := true, recurses := true, named := ["math/bits.deBruijn32tab", "math/bits.deBruijn64tab"], apart := false, laid := [("math/bits.deBruijn32tab", laid_math_bits_deBruijn32tab), ("math/bits.deBruijn64tab", laid_math_bits_deBruijn64tab)], narrowed := true }
def CouncilSpanUptoSaid : Prop := councilSpanUptoRow.holds Tryd.pinned (OpenSpec.upto councilSpanSpec)

/-- 'zafralaw12.CouncilNumbers', WHERE WHAT IT READS IS OF BULK AT MOST 1048576: true; the input reads as it did. -/
def councilNumbersUptoRow : OpenClaim := { program := "ytdbjdjjcijgdfaadoor", sum := "9b3e14ec49682511bb58adae9fd7254bd47dfe44a3ac9b4933544252cbcd768c", func := "zafra/zafralaw12.CouncilNumbers", spec := "councilNumbers", unfollowed := true, recurses := true, named := ["math/bits.deBruijn32tab", "math/bits.deBruijn64tab"], apart := false, laid := [("math/bits.deBruijn32tab", laid_math_bits_deBruijn32tab), ("math/bits.deBruijn64tab", laid_math_bits_deBruijn64tab)], narrowed := true }
def CouncilNumbersUptoSaid : Prop := councilNumbersUptoRow.holds Tryd.pinned (OpenSpec.upto councilNumbersSpec)

/-- 'zafralaw12.CouncilWins', WHERE WHAT IT READS IS OF BULK AT MOST 1048576: true; the input reads as it did. -/
def councilWinsUptoRow : OpenClaim := { program := "ytdbjdjjcijgdfaadoor", sum := "9b3e14ec49682511bb58adae9fd7254bd47dfe44a3ac9b4933544252cbcd768c", func := "zafra/zafralaw12.CouncilWins", spec := "councilWins", unfollowed := true, recurses := true, named := ["math/bits.deBruijn32tab", "math/bits.deBruijn64tab"], apart := false, laid := [("math/bits.deBruijn32tab", laid_math_bits_deBruijn32tab), ("math/bits.deBruijn64tab", laid_math_bits_deBruijn64tab)], narrowed := true }
def CouncilWinsUptoSaid : Prop := councilWinsUptoRow.holds Tryd.pinned (OpenSpec.upto councilWinsSpec)

/-- 'zafralaw12.CouncilLeast', WHERE WHAT IT READS IS OF BULK AT MOST 1048576: true; the input reads as it did. -/
def councilLeastUptoRow : OpenClaim := { program := "ytdbjdjjcijgdfaadoor", sum := "9b3e14ec49682511bb58adae9fd7254bd47dfe44a3ac9b4933544252cbcd768c", func := "zafra/zafralaw12.CouncilLeast", spec := "councilLeast", unfollowed := true, recurses := true, named := ["math/bits.deBruijn32tab", "math/bits.deBruijn64tab"], apart := false, laid := [("math/bits.deBruijn32tab", laid_math_bits_deBruijn32tab), ("math/bits.deBruijn64tab", laid_math_bits_deBruijn64tab)], narrowed := true }
def CouncilLeastUptoSaid : Prop := councilLeastUptoRow.holds Tryd.pinned (OpenSpec.upto councilLeastSpec)

end Rows
end Go.Proofs.YtdbjdjjcijgdfaaDoor
