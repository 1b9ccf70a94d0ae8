/- TopBooked returns true, whatever it is handed, and leaves its arguments as they were. No condition. -/
import Derived.Test.YtilhpkaklpdblaaGreatRows
import Derived.WalkKit
import Derived.ProofKit
import Derived.OpenShut
import Derived.Test.YtilhpkaklpdblaaGreatS3
namespace Go.Proofs.YtilhpkaklpdblaaGreat.topBooked
open Go.ChangeShapes Go.WideShapes Go.ChangeAt Go.RowKit

theorem own : ownKnob Tryz.prog.godebug = none := by kernel_rfl
theorem laidOut : laidOutB Tryz.prog = true := by kernel_rfl

set_option maxRecDepth 100000 in
theorem lifted (os : Os) (started : os.Started) (H : Type) (enc : TypeId × Value → H) :
    ReturnsInHanded {} Tryz.checked os 3 .any (Rows.topBookedSpec.pre6 enc Tryz.prog Tryz.f3 Rows.topBookedRow.domain false) (Rows.topBookedSpec.post enc Tryz.prog Tryz.f3 false true false false) := by
  refine returnsInHanded_of_change (C := Tryz.checked) own started (by kernel_rfl) Tryz.func3
    (ChangeSpec.witness6 (enc := enc) (C := Tryz.checked) false ⟨#[], #[.slice none 0 0, .int .u16 0, .agg #[.int .u8 0, .int .u8 0], .slice none 0 0, .bool false], []⟩ 8 (by kernel_rfl) (by kernel_rfl) (by kernel_rfl) (by kernel_rfl)) ?_
  intro W base args ds gs before hval hW _ _
  exact Go.AM.De (f := 3) (fn := Tryz.f3) (s := Rows.topBookedSpec) [(.list (.prod (.int .u8) (.prod (.int .u8) (.int .u8)))), (.int .u16), (.prod (.int .u8) (.int .u8)), (.list (.int .u8)), .bool] laidOut rfl (by kernel_rfl) (tb := 4) (by kernel_rfl) Tryz.underlying4
    (fun ds h => match ds, h with | [_, _, _, _, _], _ => ⟨rfl, rfl, rfl⟩) (F := fun x => Go.AM.ai (Tryz.F3 x.1 x.2.1 x.2.2.1 x.2.2.2.1 x.2.2.2.2.1)) Tryz.ac0 (fun x hx => Tryz.law3 x.1 x.2.1 x.2.2.1 x.2.2.2.1 x.2.2.2.2.1 hx) (by decide +kernel) hval hW

theorem over : Rows.topBookedRow.holds Tryz.pinned (OpenSpec.ofChange Rows.topBookedSpec) :=
  OpenClaim.holds_of_wide 3 Tryz.f3 rfl rfl rfl rfl rfl rfl rfl ⟨rfl, rfl, rfl, rfl, rfl⟩ rfl rfl rfl rfl rfl (by kernel_rfl) Tryz.func3 (by kernel_rfl)
    (of_decide_eq_true (by kernel_rfl)) (by unfold Func.isWrapper; first | (rw [if_pos (by decide +kernel)]; kernel_rfl) | (rw [if_neg (by decide +kernel)]; exact ⟨rfl, rfl⟩))
    (fun os started H enc _ => lifted os started H enc)

theorem proved : Rows.TopBookedSaid :=
  over
#print axioms proved
end Go.Proofs.YtilhpkaklpdblaaGreat.topBooked
