/- TicketFull returns true, whatever it is handed, and leaves its arguments as they were. No condition. -/
import Derived.Test.YthemjfloiapaaaaGreatRows
import Derived.WalkKit
import Derived.ProofKit
import Derived.OpenShut
import Derived.Test.YthemjfloiapaaaaGreatS14
namespace Go.Proofs.YthemjfloiapaaaaGreat.ticketFull
open Go.ChangeShapes Go.WideShapes Go.ChangeAt Go.RowKit

theorem own : ownKnob Tryz.prog.godebug = none := by kernel_rfl
theorem laidOut : laidOutB Tryz.prog = true := by kernel_rfl

set_option maxRecDepth 100000 in
theorem lifted (os : Os) (started : os.Started) (H : Type) (enc : TypeId × Value → H) :
    ReturnsInHanded {} Tryz.checked os 14 .any (Rows.ticketFullSpec.pre6 enc Tryz.prog Tryz.f14 Rows.ticketFullRow.domain false) (Rows.ticketFullSpec.post enc Tryz.prog Tryz.f14 false true false false) := by
  refine returnsInHanded_of_change (C := Tryz.checked) own started (by kernel_rfl) Tryz.func14
    (ChangeSpec.witness6 (enc := enc) (C := Tryz.checked) false ⟨#[], #[.int .u8 0], []⟩ 8 (by kernel_rfl) (by kernel_rfl) (by kernel_rfl) (by kernel_rfl)) ?_
  intro W base args ds gs before hval hW _ _
  exact Go.AM.B4 (f := 14) (fn := Tryz.f14) (s := Rows.ticketFullSpec) [(.int .u8)] laidOut rfl (by kernel_rfl) (tb := 4) (by kernel_rfl) Tryz.underlying4
    (fun ds h => match ds, h with | [_], _ => ⟨rfl, rfl, rfl⟩) (F := fun x => Go.AM.ai (Tryz.F14 x.1)) Tryz.Zg (fun x hx => Tryz.ajd x.1 hx) (by decide +kernel) hval hW

theorem over : Rows.ticketFullRow.holds Tryz.pinned (OpenSpec.ofChange Rows.ticketFullSpec) :=
  OpenClaim.holds_of_wide 14 Tryz.f14 rfl rfl rfl rfl rfl rfl rfl ⟨rfl, rfl, rfl, rfl, rfl⟩ rfl rfl rfl rfl rfl (by kernel_rfl) Tryz.func14 (by kernel_rfl)
    (of_decide_eq_true (by kernel_rfl)) (by unfold Func.isWrapper; first | (rw [if_pos (by decide +kernel)]; kernel_rfl) | (rw [if_neg (by decide +kernel)]; exact ⟨rfl, rfl⟩))
    (fun os started H enc _ => lifted os started H enc)

theorem proved : Rows.TicketFullSaid :=
  over
#print axioms proved
end Go.Proofs.YthemjfloiapaaaaGreat.ticketFull
