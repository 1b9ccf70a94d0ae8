/- The chapter's examples, reckoned through. -/
import Derived.Test.YtpmpfolfjajjoaaW90
set_option linter.unusedSectionVars false
set_option linter.unusedVariables false
set_option linter.unusedSimpArgs false
section
namespace Go.Proofs.Try
open Go.AM
set_option maxRecDepth 100000
theorem law9 : run0 F9 = some (true, ()) := cmp_done 200 (by kernel_rfl)
end Go.Proofs.Try
end
