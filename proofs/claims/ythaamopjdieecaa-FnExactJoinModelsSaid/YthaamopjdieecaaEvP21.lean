/- Plain laws: arithmetic with rounding. -/
import Derived.Test.YthaamopjdieecaaEvP9
import Derived.Test.YthaamopjdieecaaEvD9
set_option linter.unusedVariables false
set_option linter.unusedSimpArgs false
set_option linter.unusedVariables false
set_option linter.unusedSimpArgs false
namespace Go.Proofs.Ev
end Go.Proofs.Ev
