/- Plain laws: JoinBatch. -/
import Derived.Test.YtkjdnpefjebmlaaDoorEvP2
import Derived.Test.YtkjdnpefjebmlaaDoorEvB1
import Derived.Test.YtkjdnpefjebmlaaDoorEvD2
set_option linter.unusedVariables false
set_option linter.unusedSimpArgs false
set_option linter.unusedSectionVars false
namespace Go.Proofs.Ev
end Go.Proofs.Ev
