/- Plain laws: TakeStep. -/
import Derived.Test.YthaamopjdieecaaEvP11
set_option linter.unusedVariables false
set_option linter.unusedSimpArgs false
set_option linter.unusedVariables false
set_option linter.unusedSimpArgs false
namespace Go.Proofs.Ev
end Go.Proofs.Ev
