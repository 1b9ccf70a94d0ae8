/- CouncilLeast returns true, whatever it is handed, and leaves its arguments as they were. No condition. The tables of the package math/bits hold what the program's text lays. -/
import Derived.Test.YtdbjdjjcijgdfaaDoorCards
import Derived.Test.YtdbjdjjcijgdfaaDoorTie
import Derived.SevenTiedAt
import Derived.WalkKit
import Derived.ProofKit
import Derived.OpenShut
import Derived.Test.YtdbjdjjcijgdfaaDoorG14
import Derived.Test.YtdbjdjjcijgdfaaDoorS14
namespace Go.Proofs.YtdbjdjjcijgdfaaDoor.councilLeast
open Go.ChangeShapes Go.WideShapes Go.ChangeAt Go.RowKit

set_option maxRecDepth 100000 in
theorem lifted (os : Os) (started : os.Started) (H : Type) (enc : TypeId × Value → H) :
    ReturnsInHanded {} Tryd.checked os 14 .any (fun w args => (Rows.councilLeastSpec.pre enc Tryd.prog Tryd.f14 Rows.councilLeastRow.domain false w args ∧ laidMetH Tryd.prog laidL w) ∧ sizedMet enc Tryd.prog Tryd.f14 (OpenSpec.ofChange Rows.councilLeastSpec) false w args) (Rows.councilLeastSpec.post enc Tryd.prog Tryd.f14 false true false false) := by
  refine returnsInHanded_of_change_and (C := Tryd.checked) (X := fun w _ => laidMetH Tryd.prog laidL w) (fun _ _ _ hh h => h.of_heap hh) own started (by kernel_rfl) Tryd.func14
    (ChangeSpec.witness_shaped (enc := enc) (C := Tryd.checked) (os := os) (X := fun w _ => laidMetH Tryd.prog laidL w) false (World.doorLaid Tryd.prog 400 os) #[.agg #[.int .u8 0, .slice none 0 0, .int .u8 0, .int .u8 0, .int .u8 0, .int .u8 0, .int .u8 0, .int .u8 0, .int .u8 0, .int .u8 0, .int .u8 0, .int .u8 0, .int .u8 0, .int .u8 0, .int .u8 0, .int .u8 0, .int .u8 0]] 8 rfl (World.shaped_of_RefB (by kernel_rfl) (by kernel_rfl)) (by kernel_rfl) (by kernel_rfl) (by kernel_rfl) (door_met os _)) ?_
  intro W base args ds gs before hval hW _ _ hL _
  exact Go.AM.law_contractG (f := 14) (fn := Tryd.f14) (s := Rows.councilLeastSpec) [(.prod (.int .u8) (.prod (.list (.int .u8)) (.prod (.prod (.int .u8) (.prod (.int .u8) (.prod (.int .u8) (.prod (.int .u8) (.int .u8))))) (.prod (.prod (.int .u8) (.prod (.int .u8) (.prod (.int .u8) (.prod (.int .u8) (.int .u8))))) (.prod (.int .u8) (.prod (.int .u8) (.prod (.int .u8) (.prod (.int .u8) (.int .u8)))))))))] laidOut rfl (by kernel_rfl) (tb := 4) (by kernel_rfl) Tryd.underlying4
    (fun ds h => match ds, h with | [_], _ => ⟨rfl, rfl, rfl⟩) (F := fun x => Go.AM.run0 (Tryd.F14 x.1)) Tryd.ct14_ok (fun x hx => Tryd.law14 x.1 hx) (gl_of hL) hval hW

theorem over : Rows.councilLeastRow.holds Tryd.pinned (OpenSpec.ofChange Rows.councilLeastSpec) :=
  OpenClaim.holds_of_wide 14 Tryd.f14 rfl rfl rfl rfl rfl rfl rfl ⟨rfl, rfl, rfl, rfl, rfl⟩ rfl rfl rfl rfl rfl (by kernel_rfl) Tryd.func14 (by kernel_rfl)
    (of_decide_eq_true (by kernel_rfl)) (by unfold Func.isWrapper; first | (rw [if_pos (by decide +kernel)]; kernel_rfl) | (rw [if_neg (by decide +kernel)]; exact ⟨rfl, rfl⟩))
    (fun os started H enc _ => lifted os started H enc)

theorem proved : Rows.CouncilLeastCardSaid :=
  Claim7.holds_tied_plain_at .later [] [.data, .data] true (true, "93e45c209984e11fa5460d5b73ab9da70e29a9974d4f28d0ec51192c787f2a6f") false
    over (fun _ h => by cases h) (by kernel_rfl) (fun _ h => by cases h) councilLeast_row_tie rfl ⟨rfl, rfl⟩ (by kernel_rfl) rfl
    (fun f fn hf hfn => by
      obtain rfl : f = 14 := Option.some.inj ((show Tryd.prog.funcNamed Rows.councilLeastRow.func = some 14 by kernel_rfl).symm.trans hf) |>.symm
      obtain rfl : fn = Tryd.f14 := (Option.some.inj (Tryd.func14.symm.trans hfn)).symm
      exact ⟨by kernel_rfl, fun j t ht => by
        have hall : (Tryd.f14.params.toList.all fun u => !Tryd.prog.wantsStandIn u) = true := by kernel_rfl
        have hm : t ∈ Tryd.f14.params.toList := Array.mem_toList_iff.2 (Array.mem_of_getElem? ht)
        exact (show Tryd.prog.wantsStandIn t = false by simpa using List.all_eq_true.1 hall t hm)⟩)
    (by kernel_rfl)
#print axioms proved
end Go.Proofs.YtdbjdjjcijgdfaaDoor.councilLeast
