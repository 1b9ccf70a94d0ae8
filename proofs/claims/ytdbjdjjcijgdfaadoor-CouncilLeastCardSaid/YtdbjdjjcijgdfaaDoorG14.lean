/- What the listed tables hold is what the machine reads. -/
import Derived.Test.YtdbjdjjcijgdfaaDoorW141
import Derived.Test.YtdbjdjjcijgdfaaDoorRows
import Derived.Test.YtdbjdjjcijgdfaaDoorTie
import Derived.ProofKit
import Derived.LaidMore
import Derived.OpenShut
import Derived.Stop.Joined
import Derived.Stop.LaidErr
import Derived.Lib.LaidTab
set_option linter.unusedSectionVars false
set_option linter.unusedVariables false
set_option linter.unusedSimpArgs false
section
namespace Go.Proofs.YtdbjdjjcijgdfaaDoor
open Go.ChangeShapes Go.WideShapes Go.ChangeAt Go.RowKit Go.AM
set_option maxRecDepth 100000
abbrev laidL : List (String × DataW Unit) := [("math/bits.deBruijn32tab", Rows.laid_math_bits_deBruijn32tab), ("math/bits.deBruijn64tab", Rows.laid_math_bits_deBruijn64tab)]
theorem own : ownKnob Tryd.prog.godebug = none := by kernel_rfl
theorem laidOut : laidOutB Tryd.prog = true := by kernel_rfl
theorem door_met (os : Os) (args : Array Value) : laidMetH Tryd.prog laidL ((World.doorLaid Tryd.prog 400 os).forCall (fun _ _ => 0) ⟨#[], args, []⟩).memory :=
 laidMetH_of_parts3 (fuel := 8) (laidMet_of_run' 8 (by kernel_rfl) (by kernel_rfl)) (by kernel_rfl) (by kernel_rfl)
theorem tab_ty : ∃ g t e, Tryd.prog.globalNamed "math/bits.deBruijn64tab" = some g ∧ (Tryd.prog.globals[g]?).map (·.type) = some t ∧ Tryd.prog.underlying t = some (.array 64 e) ∧ Tryd.prog.underlying e = some (.int .u8) ∧ Tryd.prog.cellsOf e = 1 ∧ Tryd.prog.cellsOf t = 64 ∧
  (List.range Tryd.prog.globals.size).all (fun k => k == g || (globTab Tryd.prog k).isNone) = true ∧ globTab Tryd.prog g = some deBruijn64 := by
 refine ⟨1, 163, 5, by kernel_rfl, by kernel_rfl, by kernel_rfl, by kernel_rfl, by kernel_rfl, by kernel_rfl, by kernel_rfl, by kernel_rfl⟩
theorem gl_of {W : World} (h : laidMetH Tryd.prog laidL W) : GlobOk Tryd.prog (allOf W) := by
 rw [MakeChecks.laidMetH_plain _ _ _ (by kernel_rfl)] at h
 obtain ⟨g, t, e, h1, h2, h3, h4, h5, h6, h7, h8⟩ := tab_ty
 have hT : Lib.TabIs Tryd.prog W "math/bits.deBruijn64tab" .u8 deBruijn64 := Lib.tabIs_of_head (rest := []) h1 h2 h3 h4 h5 h6 h.tail
 refine globOk_of fun g' tab hg i hi => ?_
 have e1 : g' = g := by
  have hs : g' < Tryd.prog.globals.size := by
   unfold globTab at hg
   split at hg
   ·rename_i gl h'; exact (Array.getElem?_eq_some_iff.1 h').1
   ·cases hg
  have := List.all_eq_true.1 h7 g' (List.mem_range.2 hs)
  rw [hg] at this
  simpa using this
 subst e1
 rw [h8] at hg
 cases hg
 exact hT.cell h1 i hi
end Go.Proofs.YtdbjdjjcijgdfaaDoor
end
