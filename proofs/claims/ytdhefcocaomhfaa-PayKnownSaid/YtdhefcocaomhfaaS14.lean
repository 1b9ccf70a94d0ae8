/- The known week, reckoned through. -/
import Derived.Test.YtdhefcocaomhfaaW140
set_option linter.unusedVariables false
set_option linter.unusedSimpArgs false
section
namespace Go.Proofs.Try
open Go.AM
set_option maxRecDepth 100000
theorem law14 : run0 F14 = some (true, ()) := cmp_done 200 (by kernel_rfl)
end Go.Proofs.Try
end
