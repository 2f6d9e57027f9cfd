/- Text of this claim. -/
import Derived.Test.YtcohhbpegbhcgaaEvK4
import Derived.Test.YtcohhbpegbhcgaaEvD1
import Derived.Test.YtcohhbpegbhcgaaEvD3
set_option linter.unusedVariables false
set_option linter.unusedSimpArgs false
set_option linter.unusedVariables false
set_option linter.unusedSimpArgs false
set_option maxRecDepth 100000
namespace Go.Proofs.Ev
noncomputable section
end
end Go.Proofs.Ev
