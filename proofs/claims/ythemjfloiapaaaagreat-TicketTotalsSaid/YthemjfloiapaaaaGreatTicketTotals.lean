/- TicketTotals returns true, whatever it is handed, and leaves its arguments as they were. No condition. -/
import Derived.Test.YthemjfloiapaaaaGreatRows
import Derived.WalkKit
import Derived.ProofKit
import Derived.OpenShut
import Derived.Test.YthemjfloiapaaaaGreatS4
namespace Go.Proofs.YthemjfloiapaaaaGreat.ticketTotals
open Go.ChangeShapes Go.WideShapes Go.ChangeAt Go.RowKit

theorem own : ownKnob Tryz.prog.godebug = none := by kernel_rfl
theorem laidOut : laidOutB Tryz.prog = true := by kernel_rfl

set_option maxRecDepth 100000 in
theorem lifted (os : Os) (started : os.Started) (H : Type) (enc : TypeId × Value → H) :
    ReturnsInHanded {} Tryz.checked os 4 .any (Rows.ticketTotalsSpec.pre6 enc Tryz.prog Tryz.f4 Rows.ticketTotalsRow.domain false) (Rows.ticketTotalsSpec.post enc Tryz.prog Tryz.f4 false true false false) := by
  refine returnsInHanded_of_change (C := Tryz.checked) own started (by kernel_rfl) Tryz.func4
    (ChangeSpec.witness6 (enc := enc) (C := Tryz.checked) false ⟨#[], #[.slice none 0 0, .slice none 0 0], []⟩ 8 (by kernel_rfl) (by kernel_rfl) (by kernel_rfl) (by kernel_rfl)) ?_
  intro W base args ds gs before hval hW _ _
  exact Go.AM.BK (f := 4) (fn := Tryz.f4) (s := Rows.ticketTotalsSpec) [(.list (.prod .str (.prod (.int .i64) (.prod .str (.prod .str (.int .i64)))))), (.list .str)] laidOut rfl (by kernel_rfl) (tb := 4) (by kernel_rfl) Tryz.underlying4
    (fun ds h => match ds, h with | [_, _], _ => ⟨rfl, rfl, rfl⟩) (F := fun x => Go.AM.ah (Tryz.F4 x.1 x.2.1)) Tryz.aaj (fun x hx => Tryz.law4 x.1 x.2.1 hx) (by decide +kernel) hval hW

theorem over : Rows.ticketTotalsRow.holds Tryz.pinned (OpenSpec.ofChange Rows.ticketTotalsSpec) :=
  OpenClaim.holds_of_wide 4 Tryz.f4 rfl rfl rfl rfl rfl rfl rfl ⟨rfl, rfl, rfl, rfl, rfl⟩ rfl rfl rfl rfl rfl (by kernel_rfl) Tryz.func4 (by kernel_rfl)
    (of_decide_eq_true (by kernel_rfl)) (by unfold Func.isWrapper; first | (rw [if_pos (by decide +kernel)]; kernel_rfl) | (rw [if_neg (by decide +kernel)]; exact ⟨rfl, rfl⟩))
    (fun os started H enc _ => lifted os started H enc)

theorem proved : Rows.TicketTotalsSaid :=
  over
#print axioms proved
end Go.Proofs.YthemjfloiapaaaaGreat.ticketTotals
