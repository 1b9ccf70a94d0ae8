/-
  No cell of these rows narrows 'for every input' (looked for: loops, veiled, ifaces, maps, wideKeys, modest, calm, conditions, laid).
  DERIVED. THE GIVEN ROWS OF THIS SEAT. 12 by the template 'for every input the law returns true; each argument reads behind the call as it read before'; 0 by the template 'total and deterministic' (their statements: YtdhefcocaomhfaaTotals.lean).
  GIVEN WITH THE SEED: the statements are not yours to turn. If you find one false, say at which input.
  Laid BY PROGRAM, IN A SANDBOX (cutbox-rows.mjs): the forced cells as the released guide's own fill.sh prints them over the translation c7f5e1c05a56f107… (all of the seat's roots in one cut). By AI agents, Wed Nov 11 2026. No macro, syntax, notation, axiom, sorry.
-/
import Derived.Test.YtdhefcocaomhfaaChecked
import GoSem.Claim
import GoSem.ClaimJoined
import GoSem.ClaimMapViews
import Derived.JoinedTies
import Derived.KernelRfl
namespace Go.Proofs.Ytdhefcocaomhfaa
/- THE CELL 'sum', in the pinned program and in every row, IS THE sha256 OF THE DUMP (.gsa) THAT YtdhefcocaomhfaaProg.lean LOADS. Nothing in Lean hashes anything: it is a label: what it is worth is what the hold of that sum in a sandbox is worth. -/
noncomputable def Try.pinned : Pinned := { name := "ytdhefcocaomhfaa", sum := "c7f5e1c05a56f10761a15013b280dc418fdf8994a23fecc539e1f44639eeb3a8", checked := Try.checked }
namespace Rows
def none {H : Type} : Left H := { results := [], args := [] }

/-- 'zafralaw09.PaySugars': WHATEVER THE INPUT: true; the input reads as it did. -/
def paySugarsSpec : ChangeSpec := { name := "paySugars", fn := fun _ => fun
  | [d] => { results := [.lit (.bool true)], args := [d] }
  | _ => none }
def paySugarsRow : OpenClaim := { program := "ytdhefcocaomhfaa", sum := "c7f5e1c05a56f10761a15013b280dc418fdf8994a23fecc539e1f44639eeb3a8", func := "zafra/zafralaw09.PaySugars", spec := "paySugars", unfollowed := true, recurses := true, apart := false }
def PaySugarsSaid : Prop := paySugarsRow.holds Try.pinned (OpenSpec.ofChange paySugarsSpec)

/-- ITS FALSE NEIGHBOUR: 'it returns false'. Refute it at one input. -/
def paySugarsWrong : ChangeSpec := { name := "paySugars", fn := fun _ => fun
  | [d] => { results := [.lit (.bool false)], args := [d] }
  | _ => none }
def PaySugarsWrongFalsely : Prop := paySugarsRow.holds Try.pinned (OpenSpec.ofChange paySugarsWrong)

/-- 'zafralaw09.PayPays': WHATEVER THE INPUT: true; the input reads as it did. -/
def payPaysSpec : ChangeSpec := { name := "payPays", fn := fun _ => fun
  | [d] => { results := [.lit (.bool true)], args := [d] }
  | _ => none }
def payPaysRow : OpenClaim := { program := "ytdhefcocaomhfaa", sum := "c7f5e1c05a56f10761a15013b280dc418fdf8994a23fecc539e1f44639eeb3a8", func := "zafra/zafralaw09.PayPays", spec := "payPays", unfollowed := true, recurses := true, apart := false }
def PayPaysSaid : Prop := payPaysRow.holds Try.pinned (OpenSpec.ofChange payPaysSpec)

/-- ITS FALSE NEIGHBOUR: 'it returns false'. Refute it at one input. -/
def payPaysWrong : ChangeSpec := { name := "payPays", fn := fun _ => fun
  | [d] => { results := [.lit (.bool false)], args := [d] }
  | _ => none }
def PayPaysWrongFalsely : Prop := payPaysRow.holds Try.pinned (OpenSpec.ofChange payPaysWrong)

/-- 'zafralaw09.PayBounds': WHATEVER THE INPUT: true; the input reads as it did. -/
def payBoundsSpec : ChangeSpec := { name := "payBounds", fn := fun _ => fun
  | [d] => { results := [.lit (.bool true)], args := [d] }
  | _ => none }
def payBoundsRow : OpenClaim := { program := "ytdhefcocaomhfaa", sum := "c7f5e1c05a56f10761a15013b280dc418fdf8994a23fecc539e1f44639eeb3a8", func := "zafra/zafralaw09.PayBounds", spec := "payBounds", unfollowed := true, recurses := true, apart := false }
def PayBoundsSaid : Prop := payBoundsRow.holds Try.pinned (OpenSpec.ofChange payBoundsSpec)

/-- ITS FALSE NEIGHBOUR: 'it returns false'. Refute it at one input. -/
def payBoundsWrong : ChangeSpec := { name := "payBounds", fn := fun _ => fun
  | [d] => { results := [.lit (.bool false)], args := [d] }
  | _ => none }
def PayBoundsWrongFalsely : Prop := payBoundsRow.holds Try.pinned (OpenSpec.ofChange payBoundsWrong)

/-- 'zafralaw09.PayVerifies': WHATEVER THE INPUT: true; the input reads as it did. -/
def payVerifiesSpec : ChangeSpec := { name := "payVerifies", fn := fun _ => fun
  | [d1, d2, d3, d4] => { results := [.lit (.bool true)], args := [d1, d2, d3, d4] }
  | _ => none }
def payVerifiesRow : OpenClaim := { program := "ytdhefcocaomhfaa", sum := "c7f5e1c05a56f10761a15013b280dc418fdf8994a23fecc539e1f44639eeb3a8", func := "zafra/zafralaw09.PayVerifies", spec := "payVerifies", unfollowed := true, recurses := true, apart := false }
def PayVerifiesSaid : Prop := payVerifiesRow.holds Try.pinned (OpenSpec.ofChange payVerifiesSpec)

/-- ITS FALSE NEIGHBOUR: 'it returns false'. Refute it at one input. -/
def payVerifiesWrong : ChangeSpec := { name := "payVerifies", fn := fun _ => fun
  | [d1, d2, d3, d4] => { results := [.lit (.bool false)], args := [d1, d2, d3, d4] }
  | _ => none }
def PayVerifiesWrongFalsely : Prop := payVerifiesRow.holds Try.pinned (OpenSpec.ofChange payVerifiesWrong)

/-- 'zafralaw09.PayAll': WHATEVER THE INPUT: true; the input reads as it did. -/
def payAllSpec : ChangeSpec := { name := "payAll", fn := fun _ => fun
  | [d] => { results := [.lit (.bool true)], args := [d] }
  | _ => none }
def payAllRow : OpenClaim := { program := "ytdhefcocaomhfaa", sum := "c7f5e1c05a56f10761a15013b280dc418fdf8994a23fecc539e1f44639eeb3a8", func := "zafra/zafralaw09.PayAll", spec := "payAll", unfollowed := true, recurses := true, apart := false }
def PayAllSaid : Prop := payAllRow.holds Try.pinned (OpenSpec.ofChange payAllSpec)

/-- ITS FALSE NEIGHBOUR: 'it returns false'. Refute it at one input. -/
def payAllWrong : ChangeSpec := { name := "payAll", fn := fun _ => fun
  | [d] => { results := [.lit (.bool false)], args := [d] }
  | _ => none }
def PayAllWrongFalsely : Prop := payAllRow.holds Try.pinned (OpenSpec.ofChange payAllWrong)

/-- 'zafralaw09.PayCents': WHATEVER THE INPUT: true; the input reads as it did. -/
def payCentsSpec : ChangeSpec := { name := "payCents", fn := fun _ => fun
  | [d] => { results := [.lit (.bool true)], args := [d] }
  | _ => none }
def payCentsRow : OpenClaim := { program := "ytdhefcocaomhfaa", sum := "c7f5e1c05a56f10761a15013b280dc418fdf8994a23fecc539e1f44639eeb3a8", func := "zafra/zafralaw09.PayCents", spec := "payCents", unfollowed := true, recurses := true, apart := false }
def PayCentsSaid : Prop := payCentsRow.holds Try.pinned (OpenSpec.ofChange payCentsSpec)

/-- ITS FALSE NEIGHBOUR: 'it returns false'. Refute it at one input. -/
def payCentsWrong : ChangeSpec := { name := "payCents", fn := fun _ => fun
  | [d] => { results := [.lit (.bool false)], args := [d] }
  | _ => none }
def PayCentsWrongFalsely : Prop := payCentsRow.holds Try.pinned (OpenSpec.ofChange payCentsWrong)

/-- 'zafralaw09.PayTrue': WHATEVER THE INPUT: true; the input reads as it did. -/
def payTrueSpec : ChangeSpec := { name := "payTrue", fn := fun _ => fun
  | [d1, d2, d3] => { results := [.lit (.bool true)], args := [d1, d2, d3] }
  | _ => none }
def payTrueRow : OpenClaim := { program := "ytdhefcocaomhfaa", sum := "c7f5e1c05a56f10761a15013b280dc418fdf8994a23fecc539e1f44639eeb3a8", func := "zafra/zafralaw09.PayTrue", spec := "payTrue", unfollowed := true, recurses := true, apart := false }
def PayTrueSaid : Prop := payTrueRow.holds Try.pinned (OpenSpec.ofChange payTrueSpec)

/-- ITS FALSE NEIGHBOUR: 'it returns false'. Refute it at one input. -/
def payTrueWrong : ChangeSpec := { name := "payTrue", fn := fun _ => fun
  | [d1, d2, d3] => { results := [.lit (.bool false)], args := [d1, d2, d3] }
  | _ => none }
def PayTrueWrongFalsely : Prop := payTrueRow.holds Try.pinned (OpenSpec.ofChange payTrueWrong)

/-- 'zafralaw09.PayProved': WHATEVER THE INPUT: true; the input reads as it did. -/
def payProvedSpec : ChangeSpec := { name := "payProved", fn := fun _ => fun
  | [d1, d2, d3, d4, d5] => { results := [.lit (.bool true)], args := [d1, d2, d3, d4, d5] }
  | _ => none }
def payProvedRow : OpenClaim := { program := "ytdhefcocaomhfaa", sum := "c7f5e1c05a56f10761a15013b280dc418fdf8994a23fecc539e1f44639eeb3a8", func := "zafra/zafralaw09.PayProved", spec := "payProved", unfollowed := true, recurses := true, apart := false }
def PayProvedSaid : Prop := payProvedRow.holds Try.pinned (OpenSpec.ofChange payProvedSpec)

/-- ITS FALSE NEIGHBOUR: 'it returns false'. Refute it at one input. -/
def payProvedWrong : ChangeSpec := { name := "payProved", fn := fun _ => fun
  | [d1, d2, d3, d4, d5] => { results := [.lit (.bool false)], args := [d1, d2, d3, d4, d5] }
  | _ => none }
def PayProvedWrongFalsely : Prop := payProvedRow.holds Try.pinned (OpenSpec.ofChange payProvedWrong)

/-- 'zafralaw09.PayOrder': WHATEVER THE INPUT: true; the input reads as it did. -/
def payOrderSpec : ChangeSpec := { name := "payOrder", fn := fun _ => fun
  | [d1, d2] => { results := [.lit (.bool true)], args := [d1, d2] }
  | _ => none }
def payOrderRow : OpenClaim := { program := "ytdhefcocaomhfaa", sum := "c7f5e1c05a56f10761a15013b280dc418fdf8994a23fecc539e1f44639eeb3a8", func := "zafra/zafralaw09.PayOrder", spec := "payOrder", unfollowed := true, recurses := true, apart := false }
def PayOrderSaid : Prop := payOrderRow.holds Try.pinned (OpenSpec.ofChange payOrderSpec)

/-- ITS FALSE NEIGHBOUR: 'it returns false'. Refute it at one input. -/
def payOrderWrong : ChangeSpec := { name := "payOrder", fn := fun _ => fun
  | [d1, d2] => { results := [.lit (.bool false)], args := [d1, d2] }
  | _ => none }
def PayOrderWrongFalsely : Prop := payOrderRow.holds Try.pinned (OpenSpec.ofChange payOrderWrong)

/-- 'zafralaw09.PayMore': WHATEVER THE INPUT: true; the input reads as it did. -/
def payMoreSpec : ChangeSpec := { name := "payMore", fn := fun _ => fun
  | [d1, d2, d3, d4] => { results := [.lit (.bool true)], args := [d1, d2, d3, d4] }
  | _ => none }
def payMoreRow : OpenClaim := { program := "ytdhefcocaomhfaa", sum := "c7f5e1c05a56f10761a15013b280dc418fdf8994a23fecc539e1f44639eeb3a8", func := "zafra/zafralaw09.PayMore", spec := "payMore", unfollowed := true, recurses := true, apart := false }
def PayMoreSaid : Prop := payMoreRow.holds Try.pinned (OpenSpec.ofChange payMoreSpec)

/-- ITS FALSE NEIGHBOUR: 'it returns false'. Refute it at one input. -/
def payMoreWrong : ChangeSpec := { name := "payMore", fn := fun _ => fun
  | [d1, d2, d3, d4] => { results := [.lit (.bool false)], args := [d1, d2, d3, d4] }
  | _ => none }
def PayMoreWrongFalsely : Prop := payMoreRow.holds Try.pinned (OpenSpec.ofChange payMoreWrong)

/-- 'zafralaw09.PayTwo': WHATEVER THE INPUT: true; the input reads as it did. -/
def payTwoSpec : ChangeSpec := { name := "payTwo", fn := fun _ => fun
  | [d1, d2, d3] => { results := [.lit (.bool true)], args := [d1, d2, d3] }
  | _ => none }
def payTwoRow : OpenClaim := { program := "ytdhefcocaomhfaa", sum := "c7f5e1c05a56f10761a15013b280dc418fdf8994a23fecc539e1f44639eeb3a8", func := "zafra/zafralaw09.PayTwo", spec := "payTwo", unfollowed := true, recurses := true, apart := false }
def PayTwoSaid : Prop := payTwoRow.holds Try.pinned (OpenSpec.ofChange payTwoSpec)

/-- ITS FALSE NEIGHBOUR: 'it returns false'. Refute it at one input. -/
def payTwoWrong : ChangeSpec := { name := "payTwo", fn := fun _ => fun
  | [d1, d2, d3] => { results := [.lit (.bool false)], args := [d1, d2, d3] }
  | _ => none }
def PayTwoWrongFalsely : Prop := payTwoRow.holds Try.pinned (OpenSpec.ofChange payTwoWrong)

/-- 'zafralaw09.PayKnown': WHATEVER THE INPUT: true; the input reads as it did. -/
def payKnownSpec : ChangeSpec := { name := "payKnown", fn := fun _ => fun
  | [] => { results := [.lit (.bool true)], args := [] }
  | _ => none }
def payKnownRow : OpenClaim := { program := "ytdhefcocaomhfaa", sum := "c7f5e1c05a56f10761a15013b280dc418fdf8994a23fecc539e1f44639eeb3a8", func := "zafra/zafralaw09.PayKnown", spec := "payKnown", unfollowed := true, recurses := true, apart := false }
def PayKnownSaid : Prop := payKnownRow.holds Try.pinned (OpenSpec.ofChange payKnownSpec)

/-- ITS FALSE NEIGHBOUR: 'it returns false'. Refute it at one input. -/
def payKnownWrong : ChangeSpec := { name := "payKnown", fn := fun _ => fun
  | [] => { results := [.lit (.bool false)], args := [] }
  | _ => none }
def PayKnownWrongFalsely : Prop := payKnownRow.holds Try.pinned (OpenSpec.ofChange payKnownWrong)

/- THE SECOND FORM. 'bulk': how many values and letters a reading holds, each counted each time it is reached (what is shared counts as often as it is met; a slice's spare places count too). A statement '..UptoSaid' is the law's where the arguments, and the package variables that the reading takes, are together of bulk at most 1048576: NARROWER than '..Said'. Prove '..Said' where nothing that the law and all that it calls make is longer than what came in: it says more and counts as full. Else prove '..UptoSaid'. A law counts once. -/
mutual
def uptoBulk {H : Type} : DataW H → Nat
  | .lit (.string bytes) => bytes.length + 1
  | .lit _ => 1
  | .nil => 1
  | .ptr d => uptoBulk d + 1
  | .slice elems spare => uptoBulkAll elems + uptoBulkAll spare + 1
  | .agg parts => uptoBulkAll parts + 1
  | .iface _ d => uptoBulk d + 1
  | .map entries => uptoBulkEntries entries + 1
  | .held _ => 1
def uptoBulkAll {H : Type} : List (DataW H) → Nat
  | [] => 0
  | d :: r => uptoBulk d + uptoBulkAll r
def uptoBulkEntries {H : Type} : List (Lit × DataW H) → Nat
  | [] => 0
  | x :: r => uptoBulkEntry x + uptoBulkEntries r
def uptoBulkEntry {H : Type} : Lit × DataW H → Nat
  | (.string bytes, d) => bytes.length + uptoBulk d + 1
  | (_, d) => uptoBulk d + 1
 end
def uptoSmall : (H : Type) → List (DataW H) → Bool := fun _ ds => decide (uptoBulkAll ds ≤ 1048576)
def OpenSpec.upto (s : _root_.Go.ChangeSpec) : _root_.Go.OpenSpec := { _root_.Go.OpenSpec.ofChange s with cond := some uptoSmall }

/-- 'zafralaw09.PaySugars', WHERE WHAT IT READS IS OF BULK AT MOST 1048576: true; the input reads as it did. -/
def paySugarsUptoRow : OpenClaim := { program := "ytdhefcocaomhfaa", sum := "c7f5e1c05a56f10761a15013b280dc418fdf8994a23fecc539e1f44639eeb3a8", func := "zafra/zafralaw09.PaySugars", spec := "paySugars", unfollowed := true, recurses := true, apart := false, narrowed := true }
def PaySugarsUptoSaid : Prop := paySugarsUptoRow.holds Try.pinned (OpenSpec.upto paySugarsSpec)

/-- 'zafralaw09.PayPays', WHERE WHAT IT READS IS OF BULK AT MOST 1048576: true; the input reads as it did. -/
def payPaysUptoRow : OpenClaim := { program := "ytdhefcocaomhfaa", sum := "c7f5e1c05a56f10761a15013b280dc418fdf8994a23fecc539e1f44639eeb3a8", func := "zafra/zafralaw09.PayPays", spec := "payPays", unfollowed := true, recurses := true, apart := false, narrowed := true }
def PayPaysUptoSaid : Prop := payPaysUptoRow.holds Try.pinned (OpenSpec.upto payPaysSpec)

/-- 'zafralaw09.PayBounds', WHERE WHAT IT READS IS OF BULK AT MOST 1048576: true; the input reads as it did. -/
def payBoundsUptoRow : OpenClaim := { program := "ytdhefcocaomhfaa", sum := "c7f5e1c05a56f10761a15013b280dc418fdf8994a23fecc539e1f44639eeb3a8", func := "zafra/zafralaw09.PayBounds", spec := "payBounds", unfollowed := true, recurses := true, apart := false, narrowed := true }
def PayBoundsUptoSaid : Prop := payBoundsUptoRow.holds Try.pinned (OpenSpec.upto payBoundsSpec)

/-- 'zafralaw09.PayVerifies', WHERE WHAT IT READS IS OF BULK AT MOST 1048576: true; the input reads as it did. -/
def payVerifiesUptoRow : OpenClaim := { program := "ytdhefcocaomhfaa", sum := "c7f5e1c05a56f10761a15013b280dc418fdf8994a23fecc539e1f44639eeb3a8", func := "zafra/zafralaw09.PayVerifies", spec := "payVerifies", unfollowed := true, recurses := true, apart := false, narrowed := true }
def PayVerifiesUptoSaid : Prop := payVerifiesUptoRow.holds Try.pinned (OpenSpec.upto payVerifiesSpec)

/-- 'zafralaw09.PayAll', WHERE WHAT IT READS IS OF BULK AT MOST 1048576: true; the input reads as it did. -/
def payAllUptoRow : OpenClaim := { program := "ytdhefcocaomhfaa", sum := "c7f5e1c05a56f10761a15013b280dc418fdf8994a23fecc539e1f44639eeb3a8", func := "zafra/zafralaw09.PayAll", spec := "payAll", unfollowed := true, recurses := true, apart := false, narrowed := true }
def PayAllUptoSaid : Prop := payAllUptoRow.holds Try.pinned (OpenSpec.upto payAllSpec)

/-- 'zafralaw09.PayCents', WHERE WHAT IT READS IS OF BULK AT MOST 1048576: true; the input reads as it did. -/
def payCentsUptoRow : OpenClaim := { program := "ytdhefcocaomhfaa", sum := "c7f5e1c05a56f10761a15013b280dc418fdf8994a23fecc539e1f44639eeb3a8", func := "zafra/zafralaw09.PayCents", spec := "payCents", unfollowed := true, recurses := true, apart := false, narrowed := true }
def PayCentsUptoSaid : Prop := payCentsUptoRow.holds Try.pinned (OpenSpec.upto payCentsSpec)

/-- 'zafralaw09.PayTrue', WHERE WHAT IT READS IS OF BULK AT MOST 1048576: true; the input reads as it did. -/
def payTrueUptoRow : OpenClaim := { program := "ytdhefcocaomhfaa", sum := "c7f5e1c05a56f10761a15013b280dc418fdf8994a23fecc539e1f44639eeb3a8", func := "zafra/zafralaw09.PayTrue", spec := "payTrue", unfollowed := true, recurses := true, apart := false, narrowed := true }
def PayTrueUptoSaid : Prop := payTrueUptoRow.holds Try.pinned (OpenSpec.upto payTrueSpec)

/-- 'zafralaw09.PayProved', WHERE WHAT IT READS IS OF BULK AT MOST 1048576: true; the input reads as it did. -/
def payProvedUptoRow : OpenClaim := { program := "ytdhefcocaomhfaa", sum := "c7f5e1c05a56f10761a15013b280dc418fdf8994a23fecc539e1f44639eeb3a8", func := "zafra/zafralaw09.PayProved", spec := "payProved", unfollowed := true, recurses := true, apart := false, narrowed := true }
def PayProvedUptoSaid : Prop := payProvedUptoRow.holds Try.pinned (OpenSpec.upto payProvedSpec)

/-- 'zafralaw09.PayOrder', WHERE WHAT IT READS IS OF BULK AT MOST 1048576: true; the input reads as it did. -/
def payOrderUptoRow : OpenClaim := { program := "ytdhefcocaomhfaa", sum := "c7f5e1c05a56f10761a15013b280dc418fdf8994a23fecc539e1f44639eeb3a8", func := "zafra/zafralaw09.PayOrder", spec := "payOrder", unfollowed := true, recurses := true, apart := false, narrowed := true }
def PayOrderUptoSaid : Prop := payOrderUptoRow.holds Try.pinned (OpenSpec.upto payOrderSpec)

/-- 'zafralaw09.PayMore', WHERE WHAT IT READS IS OF BULK AT MOST 1048576: true; the input reads as it did. -/
def payMoreUptoRow : OpenClaim := { program := "ytdhefcocaomhfaa", sum := "c7f5e1c05a56f10761a15013b280dc418fdf8994a23fecc539e1f44639eeb3a8", func := "zafra/zafralaw09.PayMore", spec := "payMore", unfollowed := true, recurses := true, apart := false, narrowed := true }
def PayMoreUptoSaid : Prop := payMoreUptoRow.holds Try.pinned (OpenSpec.upto payMoreSpec)

/-- 'zafralaw09.PayTwo', WHERE WHAT IT READS IS OF BULK AT MOST 1048576: true; the input reads as it did. -/
def payTwoUptoRow : OpenClaim := { program := "ytdhefcocaomhfaa", sum := "c7f5e1c05a56f10761a15013b280dc418fdf8994a23fecc539e1f44639eeb3a8", func := "zafra/zafralaw09.PayTwo", spec := "payTwo", unfollowed := true, recurses := true, apart := false, narrowed := true }
def PayTwoUptoSaid : Prop := payTwoUptoRow.holds Try.pinned (OpenSpec.upto payTwoSpec)

/-- 'zafralaw09.PayKnown', WHERE WHAT IT READS IS OF BULK AT MOST 1048576: true; the input reads as it did. -/
def payKnownUptoRow : OpenClaim := { program := "ytdhefcocaomhfaa", sum := "c7f5e1c05a56f10761a15013b280dc418fdf8994a23fecc539e1f44639eeb3a8", func := "zafra/zafralaw09.PayKnown", spec := "payKnown", unfollowed := true, recurses := true, apart := false, narrowed := true }
def PayKnownUptoSaid : Prop := payKnownUptoRow.holds Try.pinned (OpenSpec.upto payKnownSpec)

end Rows
end Go.Proofs.Ytdhefcocaomhfaa
