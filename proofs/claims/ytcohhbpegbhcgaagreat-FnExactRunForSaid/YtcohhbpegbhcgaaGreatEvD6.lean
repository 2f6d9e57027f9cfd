/- Text of this claim. -/
import Derived.Test.YtcohhbpegbhcgaaGreatEvK4
import Derived.Test.YtcohhbpegbhcgaaGreatEvD1
import Derived.Test.YtcohhbpegbhcgaaGreatEvD3
set_option linter.unusedVariables false
set_option linter.unusedSimpArgs false
set_option linter.unusedVariables false
set_option linter.unusedSimpArgs false
set_option maxRecDepth 100000
namespace Go.Proofs.Ev
noncomputable section
end
end Go.Proofs.Ev
