/- Plain laws: the readers of numbers. -/
import Derived.Test.YthaamopjdieecaaEvP10
set_option linter.unusedVariables false
set_option linter.unusedSimpArgs false
set_option linter.unusedVariables false
set_option linter.unusedSimpArgs false
namespace Go.Proofs.Ev
end Go.Proofs.Ev
