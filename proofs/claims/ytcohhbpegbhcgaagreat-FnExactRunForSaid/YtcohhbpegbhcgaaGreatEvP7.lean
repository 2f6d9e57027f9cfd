/- Plain laws: SavedBy, copies of models, CutModel, JobOk, StartJob. -/
import Derived.Test.YtcohhbpegbhcgaaGreatEvP6
import Derived.Test.YtcohhbpegbhcgaaGreatEvB2
import Derived.Test.YtcohhbpegbhcgaaGreatEvD5
set_option linter.unusedVariables false
set_option linter.unusedSimpArgs false
set_option linter.unusedVariables false
set_option linter.unusedSimpArgs false
namespace Go.Proofs.Ev
end Go.Proofs.Ev
