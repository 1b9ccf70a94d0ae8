/- TicketWaiting returns true, whatever it is handed, and leaves its arguments as they were. No condition. -/
import Derived.Test.YthemjfloiapaaaaGreatRows
import Derived.WalkKit
import Derived.ProofKit
import Derived.OpenShut
import Derived.Test.YthemjfloiapaaaaGreatS10
namespace Go.Proofs.YthemjfloiapaaaaGreat.ticketWaiting
open Go.ChangeShapes Go.WideShapes Go.ChangeAt Go.RowKit

theorem own : ownKnob Tryz.prog.godebug = none := by kernel_rfl
theorem laidOut : laidOutB Tryz.prog = true := by kernel_rfl

set_option maxRecDepth 100000 in
theorem lifted (os : Os) (started : os.Started) (H : Type) (enc : TypeId × Value → H) :
    ReturnsInHanded {} Tryz.checked os 10 .any (Rows.ticketWaitingSpec.pre6 enc Tryz.prog Tryz.f10 Rows.ticketWaitingRow.domain false) (Rows.ticketWaitingSpec.post enc Tryz.prog Tryz.f10 false true false false) := by
  refine returnsInHanded_of_change (C := Tryz.checked) own started (by kernel_rfl) Tryz.func10
    (ChangeSpec.witness6 (enc := enc) (C := Tryz.checked) false ⟨#[], #[.slice none 0 0, .agg #[.int .u8 0, .int .u8 0, .int .u8 0, .int .u8 0], .bool false], []⟩ 8 (by kernel_rfl) (by kernel_rfl) (by kernel_rfl) (by kernel_rfl)) ?_
  intro W base args ds gs before hval hW _ _
  exact Go.AM.BQ (f := 10) (fn := Tryz.f10) (s := Rows.ticketWaitingSpec) [(.list (.prod (.int .u8) (.prod (.int .u8) (.prod (.int .u8) (.int .u8))))), (.prod (.int .u8) (.prod (.int .u8) (.prod (.int .u8) (.int .u8)))), .bool] laidOut rfl (by kernel_rfl) (tb := 4) (by kernel_rfl) Tryz.underlying4
    (fun ds h => match ds, h with | [_, _, _], _ => ⟨rfl, rfl, rfl⟩) (F := fun x => Go.AM.ak (Tryz.F10 x.1 x.2.1 x.2.2.1)) Tryz.T8 (fun x hx => Tryz.ae7 x.1 x.2.1 x.2.2.1 hx) (by decide +kernel) hval hW

theorem over : Rows.ticketWaitingRow.holds Tryz.pinned (OpenSpec.ofChange Rows.ticketWaitingSpec) :=
  OpenClaim.holds_of_wide 10 Tryz.f10 rfl rfl rfl rfl rfl rfl rfl ⟨rfl, rfl, rfl, rfl, rfl⟩ rfl rfl rfl rfl rfl (by kernel_rfl) Tryz.func10 (by kernel_rfl)
    (of_decide_eq_true (by kernel_rfl)) (by unfold Func.isWrapper; first | (rw [if_pos (by decide +kernel)]; kernel_rfl) | (rw [if_neg (by decide +kernel)]; exact ⟨rfl, rfl⟩))
    (fun os started H enc _ => lifted os started H enc)

theorem proved : Rows.TicketWaitingSaid :=
  over
#print axioms proved
end Go.Proofs.YthemjfloiapaaaaGreat.ticketWaiting
