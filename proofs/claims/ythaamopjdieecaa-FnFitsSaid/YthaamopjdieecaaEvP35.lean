/- Plain laws: FnScheds. -/
import Derived.Test.YthaamopjdieecaaEvP34
import Derived.Test.YthaamopjdieecaaEvD13
set_option linter.unusedVariables false
set_option linter.unusedSimpArgs false
set_option linter.unusedVariables false
set_option linter.unusedSimpArgs false
set_option maxRecDepth 100000
namespace Go.Proofs.Ev
end Go.Proofs.Ev
