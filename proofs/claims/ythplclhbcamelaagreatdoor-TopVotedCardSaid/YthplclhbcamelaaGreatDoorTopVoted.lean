/- TopVoted returns true, whatever it is handed, and leaves its arguments as they were. No condition. The tables of the package math/bits hold what the program's text lays. -/
import Derived.Test.YthplclhbcamelaaGreatDoorCards
import Derived.Test.YthplclhbcamelaaGreatDoorTie
import Derived.SevenTiedAt
import Derived.WalkKit
import Derived.ProofKit
import Derived.OpenShut
import Derived.Test.YthplclhbcamelaaGreatDoorG3
import Derived.Test.YthplclhbcamelaaGreatDoorS3
namespace Go.Proofs.YthplclhbcamelaaGreatDoor.topVoted
open Go.ChangeShapes Go.WideShapes Go.ChangeAt Go.RowKit

set_option maxRecDepth 100000 in
theorem lifted (os : Os) (started : os.Started) (H : Type) (enc : TypeId × Value → H) :
    ReturnsInHanded {} Tryz.checked os 3 .any (fun w args => (Rows.topVotedSpec.pre enc Tryz.prog Tryz.f3 Rows.topVotedRow.domain false w args ∧ laidMetH Tryz.prog EJ w) ∧ sizedMet enc Tryz.prog Tryz.f3 (OpenSpec.ofChange Rows.topVotedSpec) false w args) (Rows.topVotedSpec.post enc Tryz.prog Tryz.f3 false true false false) := by
  refine returnsInHanded_of_change_and (C := Tryz.checked) (X := fun w _ => laidMetH Tryz.prog EJ w) (fun _ _ _ hh h => h.of_heap hh) own started (by kernel_rfl) Tryz.func3
    (ChangeSpec.witness_shaped (enc := enc) (C := Tryz.checked) (os := os) (X := fun w _ => laidMetH Tryz.prog EJ w) false (World.doorLaid Tryz.prog 400 os) #[.agg #[.int .u8 0, .int .u8 0, .int .u8 0, .int .u8 0, .int .u8 0, .int .u8 0, .int .u8 0, .int .u8 0, .int .u8 0], .agg #[.int .u8 0, .int .u8 0, .int .u8 0], .int .u8 0] 8 rfl (World.shaped_of_RefB (by kernel_rfl) (by kernel_rfl)) (by kernel_rfl) (by kernel_rfl) (by kernel_rfl) (RL os _)) ?_
  intro W base args ds gs before hval hW _ _ hL _
  exact Go.AM.pY (f := 3) (fn := Tryz.f3) (s := Rows.topVotedSpec) [(.prod (.prod (.int .u8) (.prod (.int .u8) (.int .u8))) (.prod (.prod (.int .u8) (.prod (.int .u8) (.int .u8))) (.prod (.int .u8) (.prod (.int .u8) (.int .u8))))), (.prod (.int .u8) (.prod (.int .u8) (.int .u8))), (.int .u8)] laidOut rfl (by kernel_rfl) (tb := 4) (by kernel_rfl) Tryz.underlying4
    (fun ds h => match ds, h with | [_, _, _], _ => ⟨rfl, rfl, rfl⟩) (F := fun x => Go.AM.ag (Tryz.F3 x.1 x.2.1 x.2.2.1)) Tryz.abf (fun x hx => Tryz.law3 x.1 x.2.1 x.2.2.1 hx) (agP hL) hval hW

theorem over : Rows.topVotedRow.holds Tryz.pinned (OpenSpec.ofChange Rows.topVotedSpec) :=
  OpenClaim.holds_of_wide 3 Tryz.f3 rfl rfl rfl rfl rfl rfl rfl ⟨rfl, rfl, rfl, rfl, rfl⟩ rfl rfl rfl rfl rfl (by kernel_rfl) Tryz.func3 (by kernel_rfl)
    (of_decide_eq_true (by kernel_rfl)) (by unfold Func.isWrapper; first | (rw [if_pos (by decide +kernel)]; kernel_rfl) | (rw [if_neg (by decide +kernel)]; exact ⟨rfl, rfl⟩))
    (fun os started H enc _ => lifted os started H enc)

theorem proved : Rows.TopVotedCardSaid :=
  Claim7.holds_tied_plain_at .later [] [.data, .data] true (true, "305787d715745caac3f5b303a23effd807af27c421e5b979bc7b2e6d26363768") false
    over (fun _ h => by cases h) (by kernel_rfl) (fun _ h => by cases h) topVoted_row_tie rfl ⟨rfl, rfl⟩ (by kernel_rfl) rfl
    (fun f fn hf hfn => by
      obtain rfl : f = 3 := Option.some.inj ((show Tryz.prog.funcNamed Rows.topVotedRow.func = some 3 by kernel_rfl).symm.trans hf) |>.symm
      obtain rfl : fn = Tryz.f3 := (Option.some.inj (Tryz.func3.symm.trans hfn)).symm
      exact ⟨by kernel_rfl, fun j t ht => by
        have hall : (Tryz.f3.params.toList.all fun u => !Tryz.prog.wantsStandIn u) = true := by kernel_rfl
        have hm : t ∈ Tryz.f3.params.toList := Array.mem_toList_iff.2 (Array.mem_of_getElem? ht)
        exact (show Tryz.prog.wantsStandIn t = false by simpa using List.all_eq_true.1 hall t hm)⟩)
    (by kernel_rfl)
#print axioms proved
end Go.Proofs.YthplclhbcamelaaGreatDoor.topVoted
