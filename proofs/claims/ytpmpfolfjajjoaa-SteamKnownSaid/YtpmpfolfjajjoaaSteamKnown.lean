/- SteamKnown returns true, whatever it is handed, and leaves its arguments as they were. No condition. -/
import Derived.Test.YtpmpfolfjajjoaaRows
import Derived.WalkKit
import Derived.ProofKit
import Derived.OpenShut
import Derived.Test.YtpmpfolfjajjoaaS9
namespace Go.Proofs.Ytpmpfolfjajjoaa.steamKnown
open Go.ChangeShapes Go.WideShapes Go.ChangeAt Go.RowKit

theorem own : ownKnob Try.prog.godebug = none := by kernel_rfl
theorem laidOut : laidOutB Try.prog = true := by kernel_rfl

set_option maxRecDepth 100000 in
theorem lifted (os : Os) (started : os.Started) (H : Type) (enc : TypeId × Value → H) :
    ReturnsInHanded {} Try.checked os 9 .any (Rows.steamKnownSpec.pre6 enc Try.prog Try.f9 Rows.steamKnownRow.domain false) (Rows.steamKnownSpec.post enc Try.prog Try.f9 false true false false) := by
  refine returnsInHanded_of_change (C := Try.checked) own started (by kernel_rfl) Try.func9
    (ChangeSpec.witness6 (enc := enc) (C := Try.checked) false ⟨#[], #[], []⟩ 8 (by kernel_rfl) (by kernel_rfl) (by kernel_rfl) (by kernel_rfl)) ?_
  intro W base args ds gs before hval hW _ _
  exact Go.AM.law_contract (f := 9) (fn := Try.f9) (s := Rows.steamKnownSpec) [] laidOut rfl (by kernel_rfl) (tb := 4) (by kernel_rfl) Try.underlying4
    (fun ds h => match ds, h with | [], _ => ⟨rfl, rfl, rfl⟩) (F := fun x => Go.AM.run0 (Try.F9)) Try.ct9_ok (fun x hx => Try.law9 ) (by decide +kernel) hval hW

theorem over : Rows.steamKnownRow.holds Try.pinned (OpenSpec.ofChange Rows.steamKnownSpec) :=
  OpenClaim.holds_of_wide 9 Try.f9 rfl rfl rfl rfl rfl rfl rfl ⟨rfl, rfl, rfl, rfl, rfl⟩ rfl rfl rfl rfl rfl (by kernel_rfl) Try.func9 (by kernel_rfl)
    (of_decide_eq_true (by kernel_rfl)) (by unfold Func.isWrapper; first | (rw [if_pos (by decide +kernel)]; kernel_rfl) | (rw [if_neg (by decide +kernel)]; exact ⟨rfl, rfl⟩))
    (fun os started H enc _ => lifted os started H enc)

theorem proved : Rows.SteamKnownSaid :=
  over
#print axioms proved
end Go.Proofs.Ytpmpfolfjajjoaa.steamKnown
