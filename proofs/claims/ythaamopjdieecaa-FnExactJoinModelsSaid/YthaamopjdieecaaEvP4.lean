/- Plain laws: JoinBatch. -/
import Derived.Test.YthaamopjdieecaaEvP2
import Derived.Test.YthaamopjdieecaaEvB1
import Derived.Test.YthaamopjdieecaaEvD2
set_option linter.unusedVariables false
set_option linter.unusedSimpArgs false
set_option linter.unusedVariables false
set_option linter.unusedSimpArgs false
namespace Go.Proofs.Ev
end Go.Proofs.Ev
