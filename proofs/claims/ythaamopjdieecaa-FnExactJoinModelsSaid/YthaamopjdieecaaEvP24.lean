/- Plain laws: RunLayer. -/
import Derived.Test.YthaamopjdieecaaEvP23
set_option linter.unusedVariables false
set_option linter.unusedSimpArgs false
set_option linter.unusedVariables false
set_option linter.unusedSimpArgs false
namespace Go.Proofs.Ev
end Go.Proofs.Ev
