/-
  No cell of these rows narrows 'for every input' (looked for: loops, veiled, ifaces, maps, wideKeys, modest, calm, conditions, laid).
  DERIVED. THE GIVEN ROWS OF THIS SEAT. 7 by the template 'for every input the law returns true; each argument reads behind the call as it read before'; 0 by the template 'total and deterministic' (their statements: YtpmpfolfjajjoaaTotals.lean).
  GIVEN WITH THE SEED: the statements are not yours to turn. If you find one false, say at which input.
  Laid BY PROGRAM, IN A SANDBOX (cutbox-rows.mjs): the forced cells as the released guide's own fill.sh prints them over the translation 401204d0071019fb… (all of the seat's roots in one cut). By AI agents, Wed Nov 11 2026. No macro, syntax, notation, axiom, sorry.
-/
import Derived.Test.YtpmpfolfjajjoaaChecked
import GoSem.Claim
import GoSem.ClaimJoined
import GoSem.ClaimMapViews
import Derived.JoinedTies
import Derived.KernelRfl
namespace Go.Proofs.Ytpmpfolfjajjoaa
/- THE CELL 'sum', in the pinned program and in every row, IS THE sha256 OF THE DUMP (.gsa) THAT YtpmpfolfjajjoaaProg.lean LOADS. Nothing in Lean hashes anything: it is a label: what it is worth is what the hold of that sum in a sandbox is worth. -/
noncomputable def Try.pinned : Pinned := { name := "ytpmpfolfjajjoaa", sum := "401204d0071019fbdd46eedc448dbeca092f687e48d0d9d19fc30c43a06eab52", checked := Try.checked }
namespace Rows
def none {H : Type} : Left H := { results := [], args := [] }

/-- 'zafralaw07.SteamEither': WHATEVER THE INPUT: true; the input reads as it did. -/
def steamEitherSpec : ChangeSpec := { name := "steamEither", fn := fun _ => fun
  | [d1, d2] => { results := [.lit (.bool true)], args := [d1, d2] }
  | _ => none }
def steamEitherRow : OpenClaim := { program := "ytpmpfolfjajjoaa", sum := "401204d0071019fbdd46eedc448dbeca092f687e48d0d9d19fc30c43a06eab52", func := "zafra/zafralaw07.SteamEither", spec := "steamEither", unfollowed := true, recurses := true, apart := false }
def SteamEitherSaid : Prop := steamEitherRow.holds Try.pinned (OpenSpec.ofChange steamEitherSpec)

/-- ITS FALSE NEIGHBOUR: 'it returns false'. Refute it at one input. -/
def steamEitherWrong : ChangeSpec := { name := "steamEither", fn := fun _ => fun
  | [d1, d2] => { results := [.lit (.bool false)], args := [d1, d2] }
  | _ => none }
def SteamEitherWrongFalsely : Prop := steamEitherRow.holds Try.pinned (OpenSpec.ofChange steamEitherWrong)

/-- 'zafralaw07.SteamAccepted': WHATEVER THE INPUT: true; the input reads as it did. -/
def steamAcceptedSpec : ChangeSpec := { name := "steamAccepted", fn := fun _ => fun
  | [d1, d2, d3, d4, d5] => { results := [.lit (.bool true)], args := [d1, d2, d3, d4, d5] }
  | _ => none }
def steamAcceptedRow : OpenClaim := { program := "ytpmpfolfjajjoaa", sum := "401204d0071019fbdd46eedc448dbeca092f687e48d0d9d19fc30c43a06eab52", func := "zafra/zafralaw07.SteamAccepted", spec := "steamAccepted", unfollowed := true, recurses := true, apart := false }
def SteamAcceptedSaid : Prop := steamAcceptedRow.holds Try.pinned (OpenSpec.ofChange steamAcceptedSpec)

/-- ITS FALSE NEIGHBOUR: 'it returns false'. Refute it at one input. -/
def steamAcceptedWrong : ChangeSpec := { name := "steamAccepted", fn := fun _ => fun
  | [d1, d2, d3, d4, d5] => { results := [.lit (.bool false)], args := [d1, d2, d3, d4, d5] }
  | _ => none }
def SteamAcceptedWrongFalsely : Prop := steamAcceptedRow.holds Try.pinned (OpenSpec.ofChange steamAcceptedWrong)

/-- 'zafralaw07.SteamMost': WHATEVER THE INPUT: true; the input reads as it did. -/
def steamMostSpec : ChangeSpec := { name := "steamMost", fn := fun _ => fun
  | [d1, d2, d3] => { results := [.lit (.bool true)], args := [d1, d2, d3] }
  | _ => none }
def steamMostRow : OpenClaim := { program := "ytpmpfolfjajjoaa", sum := "401204d0071019fbdd46eedc448dbeca092f687e48d0d9d19fc30c43a06eab52", func := "zafra/zafralaw07.SteamMost", spec := "steamMost", unfollowed := true, recurses := true, apart := false }
def SteamMostSaid : Prop := steamMostRow.holds Try.pinned (OpenSpec.ofChange steamMostSpec)

/-- ITS FALSE NEIGHBOUR: 'it returns false'. Refute it at one input. -/
def steamMostWrong : ChangeSpec := { name := "steamMost", fn := fun _ => fun
  | [d1, d2, d3] => { results := [.lit (.bool false)], args := [d1, d2, d3] }
  | _ => none }
def SteamMostWrongFalsely : Prop := steamMostRow.holds Try.pinned (OpenSpec.ofChange steamMostWrong)

/-- 'zafralaw07.SteamBetween': WHATEVER THE INPUT: true; the input reads as it did. -/
def steamBetweenSpec : ChangeSpec := { name := "steamBetween", fn := fun _ => fun
  | [d1, d2, d3, d4] => { results := [.lit (.bool true)], args := [d1, d2, d3, d4] }
  | _ => none }
def steamBetweenRow : OpenClaim := { program := "ytpmpfolfjajjoaa", sum := "401204d0071019fbdd46eedc448dbeca092f687e48d0d9d19fc30c43a06eab52", func := "zafra/zafralaw07.SteamBetween", spec := "steamBetween", unfollowed := true, recurses := true, apart := false }
def SteamBetweenSaid : Prop := steamBetweenRow.holds Try.pinned (OpenSpec.ofChange steamBetweenSpec)

/-- ITS FALSE NEIGHBOUR: 'it returns false'. Refute it at one input. -/
def steamBetweenWrong : ChangeSpec := { name := "steamBetween", fn := fun _ => fun
  | [d1, d2, d3, d4] => { results := [.lit (.bool false)], args := [d1, d2, d3, d4] }
  | _ => none }
def SteamBetweenWrongFalsely : Prop := steamBetweenRow.holds Try.pinned (OpenSpec.ofChange steamBetweenWrong)

/-- 'zafralaw07.SteamUnits': WHATEVER THE INPUT: true; the input reads as it did. -/
def steamUnitsSpec : ChangeSpec := { name := "steamUnits", fn := fun _ => fun
  | [d1, d2, d3, d4] => { results := [.lit (.bool true)], args := [d1, d2, d3, d4] }
  | _ => none }
def steamUnitsRow : OpenClaim := { program := "ytpmpfolfjajjoaa", sum := "401204d0071019fbdd46eedc448dbeca092f687e48d0d9d19fc30c43a06eab52", func := "zafra/zafralaw07.SteamUnits", spec := "steamUnits", unfollowed := true, recurses := true, apart := false }
def SteamUnitsSaid : Prop := steamUnitsRow.holds Try.pinned (OpenSpec.ofChange steamUnitsSpec)

/-- ITS FALSE NEIGHBOUR: 'it returns false'. Refute it at one input. -/
def steamUnitsWrong : ChangeSpec := { name := "steamUnits", fn := fun _ => fun
  | [d1, d2, d3, d4] => { results := [.lit (.bool false)], args := [d1, d2, d3, d4] }
  | _ => none }
def SteamUnitsWrongFalsely : Prop := steamUnitsRow.holds Try.pinned (OpenSpec.ofChange steamUnitsWrong)

/-- 'zafralaw07.SteamMidway': WHATEVER THE INPUT: true; the input reads as it did. -/
def steamMidwaySpec : ChangeSpec := { name := "steamMidway", fn := fun _ => fun
  | [d1, d2, d3] => { results := [.lit (.bool true)], args := [d1, d2, d3] }
  | _ => none }
def steamMidwayRow : OpenClaim := { program := "ytpmpfolfjajjoaa", sum := "401204d0071019fbdd46eedc448dbeca092f687e48d0d9d19fc30c43a06eab52", func := "zafra/zafralaw07.SteamMidway", spec := "steamMidway", unfollowed := true, recurses := true, apart := false }
def SteamMidwaySaid : Prop := steamMidwayRow.holds Try.pinned (OpenSpec.ofChange steamMidwaySpec)

/-- ITS FALSE NEIGHBOUR: 'it returns false'. Refute it at one input. -/
def steamMidwayWrong : ChangeSpec := { name := "steamMidway", fn := fun _ => fun
  | [d1, d2, d3] => { results := [.lit (.bool false)], args := [d1, d2, d3] }
  | _ => none }
def SteamMidwayWrongFalsely : Prop := steamMidwayRow.holds Try.pinned (OpenSpec.ofChange steamMidwayWrong)

/-- 'zafralaw07.SteamKnown': WHATEVER THE INPUT: true; the input reads as it did. -/
def steamKnownSpec : ChangeSpec := { name := "steamKnown", fn := fun _ => fun
  | [] => { results := [.lit (.bool true)], args := [] }
  | _ => none }
def steamKnownRow : OpenClaim := { program := "ytpmpfolfjajjoaa", sum := "401204d0071019fbdd46eedc448dbeca092f687e48d0d9d19fc30c43a06eab52", func := "zafra/zafralaw07.SteamKnown", spec := "steamKnown", unfollowed := true, recurses := true, apart := false }
def SteamKnownSaid : Prop := steamKnownRow.holds Try.pinned (OpenSpec.ofChange steamKnownSpec)

/-- ITS FALSE NEIGHBOUR: 'it returns false'. Refute it at one input. -/
def steamKnownWrong : ChangeSpec := { name := "steamKnown", fn := fun _ => fun
  | [] => { results := [.lit (.bool false)], args := [] }
  | _ => none }
def SteamKnownWrongFalsely : Prop := steamKnownRow.holds Try.pinned (OpenSpec.ofChange steamKnownWrong)

/- THE SECOND FORM. 'bulk': how many values and letters a reading holds, each counted each time it is reached (what is shared counts as often as it is met; a slice's spare places count too). A statement '..UptoSaid' is the law's where the arguments, and the package variables that the reading takes, are together of bulk at most 1048576: NARROWER than '..Said'. Prove '..Said' where nothing that the law and all that it calls make is longer than what came in: it says more and counts as full. Else prove '..UptoSaid'. A law counts once. -/
mutual
def uptoBulk {H : Type} : DataW H → Nat
  | .lit (.string bytes) => bytes.length + 1
  | .lit _ => 1
  | .nil => 1
  | .ptr d => uptoBulk d + 1
  | .slice elems spare => uptoBulkAll elems + uptoBulkAll spare + 1
  | .agg parts => uptoBulkAll parts + 1
  | .iface _ d => uptoBulk d + 1
  | .map entries => uptoBulkEntries entries + 1
  | .held _ => 1
def uptoBulkAll {H : Type} : List (DataW H) → Nat
  | [] => 0
  | d :: r => uptoBulk d + uptoBulkAll r
def uptoBulkEntries {H : Type} : List (Lit × DataW H) → Nat
  | [] => 0
  | x :: r => uptoBulkEntry x + uptoBulkEntries r
def uptoBulkEntry {H : Type} : Lit × DataW H → Nat
  | (.string bytes, d) => bytes.length + uptoBulk d + 1
  | (_, d) => uptoBulk d + 1
 end
def uptoSmall : (H : Type) → List (DataW H) → Bool := fun _ ds => decide (uptoBulkAll ds ≤ 1048576)
def OpenSpec.upto (s : _root_.Go.ChangeSpec) : _root_.Go.OpenSpec := { _root_.Go.OpenSpec.ofChange s with cond := some uptoSmall }

/-- 'zafralaw07.SteamEither', WHERE WHAT IT READS IS OF BULK AT MOST 1048576: true; the input reads as it did. -/
def steamEitherUptoRow : OpenClaim := { program := "ytpmpfolfjajjoaa", sum := "401204d0071019fbdd46eedc448dbeca092f687e48d0d9d19fc30c43a06eab52", func := "zafra/zafralaw07.SteamEither", spec := "steamEither", unfollowed := true, recurses := true, apart := false, narrowed := true }
def SteamEitherUptoSaid : Prop := steamEitherUptoRow.holds Try.pinned (OpenSpec.upto steamEitherSpec)

/-- 'zafralaw07.SteamAccepted', WHERE WHAT IT READS IS OF BULK AT MOST 1048576: true; the input reads as it did. -/
def steamAcceptedUptoRow : OpenClaim := { program := "ytpmpfolfjajjoaa", sum := "401204d0071019fbdd46eedc448dbeca092f687e48d0d9d19fc30c43a06eab52", func := "zafra/zafralaw07.SteamAccepted", spec := "steamAccepted", unfollowed := true, recurses := true, apart := false, narrowed := true }
def SteamAcceptedUptoSaid : Prop := steamAcceptedUptoRow.holds Try.pinned (OpenSpec.upto steamAcceptedSpec)

/-- 'zafralaw07.SteamMost', WHERE WHAT IT READS IS OF BULK AT MOST 1048576: true; the input reads as it did. -/
def steamMostUptoRow : OpenClaim := { program := "ytpmpfolfjajjoaa", sum := "401204d0071019fbdd46eedc448dbeca092f687e48d0d9d19fc30c43a06eab52", func := "zafra/zafralaw07.SteamMost", spec := "steamMost", unfollowed := true, recurses := true, apart := false, narrowed := true }
def SteamMostUptoSaid : Prop := steamMostUptoRow.holds Try.pinned (OpenSpec.upto steamMostSpec)

/-- 'zafralaw07.SteamBetween', WHERE WHAT IT READS IS OF BULK AT MOST 1048576: true; the input reads as it did. -/
def steamBetweenUptoRow : OpenClaim := { program := "ytpmpfolfjajjoaa", sum := "401204d0071019fbdd46eedc448dbeca092f687e48d0d9d19fc30c43a06eab52", func := "zafra/zafralaw07.SteamBetween", spec := "steamBetween", unfollowed := true, recurses := true, apart := false, narrowed := true }
def SteamBetweenUptoSaid : Prop := steamBetweenUptoRow.holds Try.pinned (OpenSpec.upto steamBetweenSpec)

/-- 'zafralaw07.SteamUnits', WHERE WHAT IT READS IS OF BULK AT MOST 1048576: true; the input reads as it did. -/
def steamUnitsUptoRow : OpenClaim := { program := "ytpmpfolfjajjoaa", sum := "401204d0071019fbdd46eedc448dbeca092f687e48d0d9d19fc30c43a06eab52", func := "zafra/zafralaw07.SteamUnits", spec := "steamUnits", unfollowed := true, recurses := true, apart := false, narrowed := true }
def SteamUnitsUptoSaid : Prop := steamUnitsUptoRow.holds Try.pinned (OpenSpec.upto steamUnitsSpec)

/-- 'zafralaw07.SteamMidway', WHERE WHAT IT READS IS OF BULK AT MOST 1048576: true; the input reads as it did. -/
def steamMidwayUptoRow : OpenClaim := { program := "ytpmpfolfjajjoaa", sum := "401204d0071019fbdd46eedc448dbeca092f687e48d0d9d19fc30c43a06eab52", func := "zafra/zafralaw07.SteamMidway", spec := "steamMidway", unfollowed := true, recurses := true, apart := false, narrowed := true }
def SteamMidwayUptoSaid : Prop := steamMidwayUptoRow.holds Try.pinned (OpenSpec.upto steamMidwaySpec)

/-- 'zafralaw07.SteamKnown', WHERE WHAT IT READS IS OF BULK AT MOST 1048576: true; the input reads as it did. -/
def steamKnownUptoRow : OpenClaim := { program := "ytpmpfolfjajjoaa", sum := "401204d0071019fbdd46eedc448dbeca092f687e48d0d9d19fc30c43a06eab52", func := "zafra/zafralaw07.SteamKnown", spec := "steamKnown", unfollowed := true, recurses := true, apart := false, narrowed := true }
def SteamKnownUptoSaid : Prop := steamKnownUptoRow.holds Try.pinned (OpenSpec.upto steamKnownSpec)

end Rows
end Go.Proofs.Ytpmpfolfjajjoaa
