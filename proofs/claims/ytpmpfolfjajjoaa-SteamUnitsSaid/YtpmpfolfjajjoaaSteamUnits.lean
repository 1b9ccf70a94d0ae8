/- SteamUnits returns true, whatever it is handed, and leaves its arguments as they were. No condition. -/
import Derived.Test.YtpmpfolfjajjoaaRows
import Derived.WalkKit
import Derived.ProofKit
import Derived.OpenShut
import Derived.Test.YtpmpfolfjajjoaaS7
namespace Go.Proofs.Ytpmpfolfjajjoaa.steamUnits
open Go.ChangeShapes Go.WideShapes Go.ChangeAt Go.RowKit

theorem own : ownKnob Try.prog.godebug = none := by kernel_rfl
theorem laidOut : laidOutB Try.prog = true := by kernel_rfl

set_option maxRecDepth 100000 in
theorem lifted (os : Os) (started : os.Started) (H : Type) (enc : TypeId × Value → H) :
    ReturnsInHanded {} Try.checked os 7 .any (Rows.steamUnitsSpec.pre6 enc Try.prog Try.f7 Rows.steamUnitsRow.domain false) (Rows.steamUnitsSpec.post enc Try.prog Try.f7 false true false false) := by
  refine returnsInHanded_of_change (C := Try.checked) own started (by kernel_rfl) Try.func7
    (ChangeSpec.witness6 (enc := enc) (C := Try.checked) false ⟨#[], #[.slice none 0 0, .slice none 0 0, .agg #[.int .i8 0, .int .i8 0], .agg #[.int .i8 0, .int .i8 0]], []⟩ 8 (by kernel_rfl) (by kernel_rfl) (by kernel_rfl) (by kernel_rfl)) ?_
  intro W base args ds gs before hval hW _ _
  exact Go.AM.law_contract (f := 7) (fn := Try.f7) (s := Rows.steamUnitsSpec) [(.list (.list (.prod (.int .i8) (.int .i8)))), (.list (.prod (.int .i8) (.int .i8))), (.prod (.int .i8) (.int .i8)), (.prod (.int .i8) (.int .i8))] laidOut rfl (by kernel_rfl) (tb := 4) (by kernel_rfl) Try.underlying4
    (fun ds h => match ds, h with | [_, _, _, _], _ => ⟨rfl, rfl, rfl⟩) (F := fun x => Go.AM.run0 (Try.F7 x.1 x.2.1 x.2.2.1 x.2.2.2.1)) Try.ct7_ok (fun x hx => Try.law7h x.1 x.2.1 x.2.2.1 x.2.2.2.1 hx) (by decide +kernel) hval hW

theorem over : Rows.steamUnitsRow.holds Try.pinned (OpenSpec.ofChange Rows.steamUnitsSpec) :=
  OpenClaim.holds_of_wide 7 Try.f7 rfl rfl rfl rfl rfl rfl rfl ⟨rfl, rfl, rfl, rfl, rfl⟩ rfl rfl rfl rfl rfl (by kernel_rfl) Try.func7 (by kernel_rfl)
    (of_decide_eq_true (by kernel_rfl)) (by unfold Func.isWrapper; first | (rw [if_pos (by decide +kernel)]; kernel_rfl) | (rw [if_neg (by decide +kernel)]; exact ⟨rfl, rfl⟩))
    (fun os started H enc _ => lifted os started H enc)

theorem proved : Rows.SteamUnitsSaid :=
  over
#print axioms proved
end Go.Proofs.Ytpmpfolfjajjoaa.steamUnits
