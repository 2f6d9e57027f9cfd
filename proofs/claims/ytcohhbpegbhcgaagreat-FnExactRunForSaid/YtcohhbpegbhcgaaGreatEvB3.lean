/- What laws do with their arguments: sizes, copies, comparisons, marks. -/
import Derived.Test.YtcohhbpegbhcgaaGreatEvP1
import Derived.Test.YtcohhbpegbhcgaaGreatEvB1
import Derived.Test.YtcohhbpegbhcgaaGreatEvB2
import Derived.Test.YtcohhbpegbhcgaaGreatEvD6
set_option linter.unusedVariables false
set_option linter.unusedSimpArgs false
set_option linter.unusedVariables false
set_option linter.unusedSimpArgs false
namespace Go.Proofs.Ev
end Go.Proofs.Ev
