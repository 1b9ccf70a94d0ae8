/- TopFired returns true, whatever it is handed, and leaves its arguments as they were. No condition. -/
import Derived.Test.YtgmflfkhjjjhmaaRows
import Derived.WalkKit
import Derived.ProofKit
import Derived.OpenShut
import Derived.Test.YtgmflfkhjjjhmaaS3
namespace Go.Proofs.Ytgmflfkhjjjhmaa.topFired
open Go.ChangeShapes Go.WideShapes Go.ChangeAt Go.RowKit

theorem own : ownKnob Try.prog.godebug = none := by kernel_rfl
theorem laidOut : laidOutB Try.prog = true := by kernel_rfl

set_option maxRecDepth 100000 in
theorem lifted (os : Os) (started : os.Started) (H : Type) (enc : TypeId × Value → H) :
    ReturnsInHanded {} Try.checked os 3 .any (Rows.topFiredSpec.pre6 enc Try.prog Try.f3 Rows.topFiredRow.domain false) (Rows.topFiredSpec.post enc Try.prog Try.f3 false true false false) := by
  refine returnsInHanded_of_change (C := Try.checked) own started (by kernel_rfl) Try.func3
    (ChangeSpec.witness6 (enc := enc) (C := Try.checked) false ⟨#[], #[.agg #[.int .u8 0, .int .u8 0, .int .u8 0, .int .u8 0], .agg #[.int .u8 0, .int .u8 0, .int .u8 0, .int .u8 0], .agg #[.int .u8 0, .int .u8 0, .int .u8 0, .int .u8 0], .agg #[.int .u8 0, .int .u8 0], .agg #[.int .i8 0, .int .i8 0]], []⟩ 8 (by kernel_rfl) (by kernel_rfl) (by kernel_rfl) (by kernel_rfl)) ?_
  intro W base args ds gs before hval hW _ _
  exact Go.AM.wg (f := 3) (fn := Try.f3) (s := Rows.topFiredSpec) [(.prod (.int .u8) (.prod (.int .u8) (.prod (.int .u8) (.int .u8)))), (.prod (.int .u8) (.prod (.int .u8) (.prod (.int .u8) (.int .u8)))), (.prod (.int .u8) (.prod (.int .u8) (.prod (.int .u8) (.int .u8)))), (.prod (.int .u8) (.int .u8)), (.prod (.int .i8) (.int .i8))] laidOut rfl (by kernel_rfl) (tb := 4) (by kernel_rfl) Try.underlying4
    (fun ds h => match ds, h with | [_, _, _, _, _], _ => ⟨rfl, rfl, rfl⟩) (F := fun x => Go.AM.ag (Try.F3 x.1 x.2.1 x.2.2.1 x.2.2.2.1 x.2.2.2.2.1)) Try.RI (fun x hx => Try.law3 x.1 x.2.1 x.2.2.1 x.2.2.2.1 x.2.2.2.2.1 hx) (by decide +kernel) hval hW

theorem over : Rows.topFiredRow.holds Try.pinned (OpenSpec.ofChange Rows.topFiredSpec) :=
  OpenClaim.holds_of_wide 3 Try.f3 rfl rfl rfl rfl rfl rfl rfl ⟨rfl, rfl, rfl, rfl, rfl⟩ rfl rfl rfl rfl rfl (by kernel_rfl) Try.func3 (by kernel_rfl)
    (of_decide_eq_true (by kernel_rfl)) (by unfold Func.isWrapper; first | (rw [if_pos (by decide +kernel)]; kernel_rfl) | (rw [if_neg (by decide +kernel)]; exact ⟨rfl, rfl⟩))
    (fun os started H enc _ => lifted os started H enc)

theorem proved : Rows.TopFiredSaid :=
  over
#print axioms proved
end Go.Proofs.Ytgmflfkhjjjhmaa.topFired
