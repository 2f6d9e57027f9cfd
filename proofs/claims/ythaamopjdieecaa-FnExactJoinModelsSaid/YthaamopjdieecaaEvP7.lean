/- Plain laws: SavedBy, copies of models, CutModel, JobOk, StartJob. -/
import Derived.Test.YthaamopjdieecaaEvP6
import Derived.Test.YthaamopjdieecaaEvB2
import Derived.Test.YthaamopjdieecaaEvD5
set_option linter.unusedVariables false
set_option linter.unusedSimpArgs false
set_option linter.unusedVariables false
set_option linter.unusedSimpArgs false
namespace Go.Proofs.Ev
end Go.Proofs.Ev
