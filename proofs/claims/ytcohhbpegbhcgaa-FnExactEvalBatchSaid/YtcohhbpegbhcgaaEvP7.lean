/- Plain laws: SavedBy, copies of models, CutModel, JobOk, StartJob. -/
import Derived.Test.YtcohhbpegbhcgaaEvP6
import Derived.Test.YtcohhbpegbhcgaaEvB2
import Derived.Test.YtcohhbpegbhcgaaEvD5
set_option linter.unusedVariables false
set_option linter.unusedSimpArgs false
set_option linter.unusedVariables false
set_option linter.unusedSimpArgs false
namespace Go.Proofs.Ev
end Go.Proofs.Ev
