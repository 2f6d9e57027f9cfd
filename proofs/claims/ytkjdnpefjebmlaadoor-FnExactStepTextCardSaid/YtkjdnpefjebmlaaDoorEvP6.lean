/- Plain laws: layers, shapes of a model, costs: BatchCost. -/
import Derived.Test.YtkjdnpefjebmlaaDoorEvP5
set_option linter.unusedVariables false
set_option linter.unusedSimpArgs false
set_option linter.unusedSectionVars false
namespace Go.Proofs.Ev
end Go.Proofs.Ev
