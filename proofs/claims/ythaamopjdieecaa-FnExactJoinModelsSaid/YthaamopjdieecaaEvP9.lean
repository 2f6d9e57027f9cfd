/- Plain laws: JobOk, StartJob. -/
import Derived.Test.YthaamopjdieecaaEvP8
set_option linter.unusedVariables false
set_option linter.unusedSimpArgs false
set_option linter.unusedVariables false
set_option linter.unusedSimpArgs false
namespace Go.Proofs.Ev
end Go.Proofs.Ev
