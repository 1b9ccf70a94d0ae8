/- What the listed tables hold is what the machine reads. -/
import Derived.Test.YthplclhbcamelaaGreatDoorW31
import Derived.Test.YthplclhbcamelaaGreatDoorRows
import Derived.Test.YthplclhbcamelaaGreatDoorTie
import Derived.ProofKit
import Derived.LaidMore
import Derived.OpenShut
import Derived.Stop.Joined
import Derived.Stop.LaidErr
import Derived.Lib.LaidTab
set_option linter.unusedSectionVars false
set_option linter.unusedVariables false
set_option linter.unusedSimpArgs false
section
namespace Go.Proofs.YthplclhbcamelaaGreatDoor
open Go.ChangeShapes Go.WideShapes Go.ChangeAt Go.RowKit Go.AM
set_option maxRecDepth 100000
abbrev EJ:List (String×DataW Unit):=[("math/bits.deBruijn32tab",Rows.laid_math_bits_deBruijn32tab),("math/bits.deBruijn64tab",Rows.laid_math_bits_deBruijn64tab)]
theorem own:ownKnob Tryz.prog.godebug=none:=by kernel_rfl
theorem laidOut:laidOutB Tryz.prog=true:=by kernel_rfl
theorem RL (os:Os) (args:Array Value):laidMetH Tryz.prog EJ ((World.doorLaid Tryz.prog 400 os).forCall (fun _ _=>0) ⟨#[],args,[]⟩).memory :=
 laidMetH_of_parts3 (fuel:=8) (laidMet_of_run' 8 (by kernel_rfl) (by kernel_rfl)) (by kernel_rfl) (by kernel_rfl)
theorem abg:∃g t e,Tryz.prog.globalNamed "math/bits.deBruijn64tab" = some g/\(Tryz.prog.globals[g]?).map (·.type)=some t/\Tryz.prog.underlying t=some (.array 64 e)/\Tryz.prog.underlying e=some (.int .u8)/\Tryz.prog.cellsOf e=1/\Tryz.prog.cellsOf t=64 /\
  (List.range Tryz.prog.globals.size).all (fun k=>k==g||(jh Tryz.prog k).isNone)=true/\jh Tryz.prog g=some qg:=by
 refine ⟨1,194,5,by kernel_rfl,by kernel_rfl,by kernel_rfl,by kernel_rfl,by kernel_rfl,by kernel_rfl,by kernel_rfl,by kernel_rfl⟩
theorem agP {W:World} (h:laidMetH Tryz.prog EJ W):iy Tryz.prog (iC W):=by
 rw [MakeChecks.laidMetH_plain _ _ _ (by kernel_rfl)] at h
 obtain ⟨g,t,e,h1,h2,h3,h4,h5,h6,h7,h8⟩:=abg
 have hT:Lib.TabIs Tryz.prog W "math/bits.deBruijn64tab" .u8 qg:=Lib.tabIs_of_head (rest:=[]) h1 h2 h3 h4 h5 h6 h.tail
 refine Lf fun g' c8 hg i hi=>?_
 have e1:g'=g:=by
  have hs:g'<Tryz.prog.globals.size:=by
   unfold jh at hg
   split at hg
   ·rename_i gl h';exact (Array.getElem?_eq_some_iff.1 h').1
   ·cases hg
  have:=List.all_eq_true.1 h7 g' (List.mem_range.2 hs)
  rw [hg] at this
  simpa using this
 subst e1
 rw [h8] at hg
 cases hg
 exact hT.cell h1 i hi
end Go.Proofs.YthplclhbcamelaaGreatDoor
end
