/- Text of this claim. -/
import Derived.Test.YthaamopjdieecaaEvK5
import Derived.Test.YthaamopjdieecaaEvD1
set_option linter.unusedVariables false
set_option linter.unusedSimpArgs false
set_option linter.unusedVariables false
set_option linter.unusedSimpArgs false
set_option maxRecDepth 100000
namespace Go.Proofs.Ev
noncomputable section
end
end Go.Proofs.Ev
