/- SteamBetween returns true, whatever it is handed, and leaves its arguments as they were. No condition. -/
import Derived.Test.YtpmpfolfjajjoaaRows
import Derived.WalkKit
import Derived.ProofKit
import Derived.OpenShut
import Derived.Test.YtpmpfolfjajjoaaS6
namespace Go.Proofs.Ytpmpfolfjajjoaa.steamBetween
open Go.ChangeShapes Go.WideShapes Go.ChangeAt Go.RowKit

theorem own : ownKnob Try.prog.godebug = none := by kernel_rfl
theorem laidOut : laidOutB Try.prog = true := by kernel_rfl

set_option maxRecDepth 100000 in
theorem lifted (os : Os) (started : os.Started) (H : Type) (enc : TypeId × Value → H) :
    ReturnsInHanded {} Try.checked os 6 .any (Rows.steamBetweenSpec.pre6 enc Try.prog Try.f6 Rows.steamBetweenRow.domain false) (Rows.steamBetweenSpec.post enc Try.prog Try.f6 false true false false) := by
  refine returnsInHanded_of_change (C := Try.checked) own started (by kernel_rfl) Try.func6
    (ChangeSpec.witness6 (enc := enc) (C := Try.checked) false ⟨#[], #[.slice none 0 0, .int .u8 0, .int .u8 0, .int .i8 0], []⟩ 8 (by kernel_rfl) (by kernel_rfl) (by kernel_rfl) (by kernel_rfl)) ?_
  intro W base args ds gs before hval hW _ _
  exact Go.AM.law_contract (f := 6) (fn := Try.f6) (s := Rows.steamBetweenSpec) [(.list (.list (.prod (.int .i8) (.int .i8)))), (.int .u8), (.int .u8), (.int .i8)] laidOut rfl (by kernel_rfl) (tb := 4) (by kernel_rfl) Try.underlying4
    (fun ds h => match ds, h with | [_, _, _, _], _ => ⟨rfl, rfl, rfl⟩) (F := fun x => Go.AM.run0 (Try.F6 x.1 x.2.1 x.2.2.1 x.2.2.2.1)) Try.ct6_ok (fun x hx => Try.law6h x.1 x.2.1 x.2.2.1 x.2.2.2.1 hx) (by decide +kernel) hval hW

theorem over : Rows.steamBetweenRow.holds Try.pinned (OpenSpec.ofChange Rows.steamBetweenSpec) :=
  OpenClaim.holds_of_wide 6 Try.f6 rfl rfl rfl rfl rfl rfl rfl ⟨rfl, rfl, rfl, rfl, rfl⟩ rfl rfl rfl rfl rfl (by kernel_rfl) Try.func6 (by kernel_rfl)
    (of_decide_eq_true (by kernel_rfl)) (by unfold Func.isWrapper; first | (rw [if_pos (by decide +kernel)]; kernel_rfl) | (rw [if_neg (by decide +kernel)]; exact ⟨rfl, rfl⟩))
    (fun os started H enc _ => lifted os started H enc)

theorem proved : Rows.SteamBetweenSaid :=
  over
#print axioms proved
end Go.Proofs.Ytpmpfolfjajjoaa.steamBetween
