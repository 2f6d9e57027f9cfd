/- Plain laws: EvalModel, EvalBatch. -/
import Derived.Test.YthaamopjdieecaaEvP25
import Derived.Test.YthaamopjdieecaaEvD10
set_option linter.unusedVariables false
set_option linter.unusedSimpArgs false
set_option linter.unusedVariables false
set_option linter.unusedSimpArgs false
namespace Go.Proofs.Ev
end Go.Proofs.Ev
