/- Plain laws: JoinBatch. -/
import Derived.Test.YtcohhbpegbhcgaaEvP2
import Derived.Test.YtcohhbpegbhcgaaEvB1
import Derived.Test.YtcohhbpegbhcgaaEvD2
set_option linter.unusedVariables false
set_option linter.unusedSimpArgs false
set_option linter.unusedVariables false
set_option linter.unusedSimpArgs false
namespace Go.Proofs.Ev
end Go.Proofs.Ev
