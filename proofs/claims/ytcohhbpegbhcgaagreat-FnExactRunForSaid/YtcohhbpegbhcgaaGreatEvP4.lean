/- Plain laws: JoinBatch. -/
import Derived.Test.YtcohhbpegbhcgaaGreatEvP2
import Derived.Test.YtcohhbpegbhcgaaGreatEvB1
import Derived.Test.YtcohhbpegbhcgaaGreatEvD2
set_option linter.unusedVariables false
set_option linter.unusedSimpArgs false
set_option linter.unusedVariables false
set_option linter.unusedSimpArgs false
namespace Go.Proofs.Ev
end Go.Proofs.Ev
