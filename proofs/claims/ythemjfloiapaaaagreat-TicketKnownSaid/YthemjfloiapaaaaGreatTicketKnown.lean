/- TicketKnown returns true, whatever it is handed, and leaves its arguments as they were. No condition. -/
import Derived.Test.YthemjfloiapaaaaGreatRows
import Derived.WalkKit
import Derived.ProofKit
import Derived.OpenShut
import Derived.Test.YthemjfloiapaaaaGreatS12
namespace Go.Proofs.YthemjfloiapaaaaGreat.ticketKnown
open Go.ChangeShapes Go.WideShapes Go.ChangeAt Go.RowKit

theorem own : ownKnob Tryz.prog.godebug = none := by kernel_rfl
theorem laidOut : laidOutB Tryz.prog = true := by kernel_rfl

set_option maxRecDepth 100000 in
theorem lifted (os : Os) (started : os.Started) (H : Type) (enc : TypeId × Value → H) :
    ReturnsInHanded {} Tryz.checked os 12 .any (Rows.ticketKnownSpec.pre6 enc Tryz.prog Tryz.f12 Rows.ticketKnownRow.domain false) (Rows.ticketKnownSpec.post enc Tryz.prog Tryz.f12 false true false false) := by
  refine returnsInHanded_of_change (C := Tryz.checked) own started (by kernel_rfl) Tryz.func12
    (ChangeSpec.witness6 (enc := enc) (C := Tryz.checked) false ⟨#[], #[], []⟩ 8 (by kernel_rfl) (by kernel_rfl) (by kernel_rfl) (by kernel_rfl)) ?_
  intro W base args ds gs before hval hW _ _
  exact Go.AM.law_contract (f := 12) (fn := Tryz.f12) (s := Rows.ticketKnownSpec) [] laidOut rfl (by kernel_rfl) (tb := 4) (by kernel_rfl) Tryz.underlying4
    (fun ds h => match ds, h with | [], _ => ⟨rfl, rfl, rfl⟩) (F := fun x => Go.AM.run0 (Tryz.F12)) Tryz.ct12_ok (fun x hx => Tryz.k12 ) (by decide +kernel) hval hW

theorem over : Rows.ticketKnownRow.holds Tryz.pinned (OpenSpec.ofChange Rows.ticketKnownSpec) :=
  OpenClaim.holds_of_wide 12 Tryz.f12 rfl rfl rfl rfl rfl rfl rfl ⟨rfl, rfl, rfl, rfl, rfl⟩ rfl rfl rfl rfl rfl (by kernel_rfl) Tryz.func12 (by kernel_rfl)
    (of_decide_eq_true (by kernel_rfl)) (by unfold Func.isWrapper; first | (rw [if_pos (by decide +kernel)]; kernel_rfl) | (rw [if_neg (by decide +kernel)]; exact ⟨rfl, rfl⟩))
    (fun os started H enc _ => lifted os started H enc)

theorem proved : Rows.TicketKnownSaid :=
  over
#print axioms proved
end Go.Proofs.YthemjfloiapaaaaGreat.ticketKnown
