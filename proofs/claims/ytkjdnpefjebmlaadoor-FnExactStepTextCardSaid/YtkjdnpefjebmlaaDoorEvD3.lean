/- Text of this claim. -/
import Derived.Test.YtkjdnpefjebmlaaDoorEvK6
import Derived.Test.YtkjdnpefjebmlaaDoorEvD1
set_option linter.unusedVariables false
set_option linter.unusedSimpArgs false
set_option linter.unusedSectionVars false
set_option maxRecDepth 100000
namespace Go.Proofs.Ev
noncomputable section
end
end Go.Proofs.Ev
