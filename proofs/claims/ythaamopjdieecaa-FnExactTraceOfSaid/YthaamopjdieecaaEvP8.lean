/- Plain laws: copies of models, CutModel, JobOk, StartJob. -/
import Derived.Test.YthaamopjdieecaaEvP7
set_option linter.unusedVariables false
set_option linter.unusedSimpArgs false
set_option linter.unusedVariables false
set_option linter.unusedSimpArgs false
namespace Go.Proofs.Ev
end Go.Proofs.Ev
