/- Plain laws: jobs that step, finish, run for a while. -/
import Derived.Test.YthaamopjdieecaaEvP24
import Derived.Test.YthaamopjdieecaaEvB4
set_option linter.unusedVariables false
set_option linter.unusedSimpArgs false
set_option linter.unusedVariables false
set_option linter.unusedSimpArgs false
namespace Go.Proofs.Ev
end Go.Proofs.Ev
