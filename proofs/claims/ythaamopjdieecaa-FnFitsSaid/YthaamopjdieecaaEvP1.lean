/- Plain laws: numbers, bytes, tensors, steps: copied, compared, counted. -/
import Derived.Test.YthaamopjdieecaaEvD1
import Derived.Test.YthaamopjdieecaaEvK7
set_option linter.unusedVariables false
set_option linter.unusedSimpArgs false
set_option linter.unusedVariables false
namespace Go.Proofs.Ev
end Go.Proofs.Ev
