/- What laws do with their arguments: sizes, copies, comparisons, marks. -/
import Derived.Test.YtcohhbpegbhcgaaEvP1
import Derived.Test.YtcohhbpegbhcgaaEvB1
import Derived.Test.YtcohhbpegbhcgaaEvB2
import Derived.Test.YtcohhbpegbhcgaaEvB3
import Derived.Test.YtcohhbpegbhcgaaEvD9
import Derived.Test.YtcohhbpegbhcgaaEvP9
set_option linter.unusedVariables false
set_option linter.unusedSimpArgs false
set_option linter.unusedVariables false
set_option linter.unusedSimpArgs false
namespace Go.Proofs.Ev
end Go.Proofs.Ev
