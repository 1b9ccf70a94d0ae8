/- TicketStates returns true, whatever it is handed, and leaves its arguments as they were. No condition. -/
import Derived.Test.YthemjfloiapaaaaGreatRows
import Derived.WalkKit
import Derived.ProofKit
import Derived.OpenShut
import Derived.Test.YthemjfloiapaaaaGreatS5
namespace Go.Proofs.YthemjfloiapaaaaGreat.ticketStates
open Go.ChangeShapes Go.WideShapes Go.ChangeAt Go.RowKit

theorem own : ownKnob Tryz.prog.godebug = none := by kernel_rfl
theorem laidOut : laidOutB Tryz.prog = true := by kernel_rfl

set_option maxRecDepth 100000 in
theorem lifted (os : Os) (started : os.Started) (H : Type) (enc : TypeId × Value → H) :
    ReturnsInHanded {} Tryz.checked os 5 .any (Rows.ticketStatesSpec.pre6 enc Tryz.prog Tryz.f5 Rows.ticketStatesRow.domain false) (Rows.ticketStatesSpec.post enc Tryz.prog Tryz.f5 false true false false) := by
  refine returnsInHanded_of_change (C := Tryz.checked) own started (by kernel_rfl) Tryz.func5
    (ChangeSpec.witness6 (enc := enc) (C := Tryz.checked) false ⟨#[], #[.slice none 0 0], []⟩ 8 (by kernel_rfl) (by kernel_rfl) (by kernel_rfl) (by kernel_rfl)) ?_
  intro W base args ds gs before hval hW _ _
  exact Go.AM.law_contract (f := 5) (fn := Tryz.f5) (s := Rows.ticketStatesSpec) [(.list (.prod (.int .u8) (.prod (.int .u8) (.prod (.int .u8) (.int .u8)))))] laidOut rfl (by kernel_rfl) (tb := 4) (by kernel_rfl) Tryz.underlying4
    (fun ds h => match ds, h with | [_], _ => ⟨rfl, rfl, rfl⟩) (F := fun x => Go.AM.run0 (Tryz.F5 x.1)) Tryz.ct5_ok (fun x hx => Tryz.law5 x.1 hx) (by decide +kernel) hval hW

theorem over : Rows.ticketStatesRow.holds Tryz.pinned (OpenSpec.ofChange Rows.ticketStatesSpec) :=
  OpenClaim.holds_of_wide 5 Tryz.f5 rfl rfl rfl rfl rfl rfl rfl ⟨rfl, rfl, rfl, rfl, rfl⟩ rfl rfl rfl rfl rfl (by kernel_rfl) Tryz.func5 (by kernel_rfl)
    (of_decide_eq_true (by kernel_rfl)) (by unfold Func.isWrapper; first | (rw [if_pos (by decide +kernel)]; kernel_rfl) | (rw [if_neg (by decide +kernel)]; exact ⟨rfl, rfl⟩))
    (fun os started H enc _ => lifted os started H enc)

theorem proved : Rows.TicketStatesSaid :=
  over
#print axioms proved
end Go.Proofs.YthemjfloiapaaaaGreat.ticketStates
