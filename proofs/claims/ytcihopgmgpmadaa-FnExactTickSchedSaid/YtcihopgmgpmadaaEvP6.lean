/- Plain laws: layers, shapes of a model, costs: BatchCost. -/
import Derived.Test.YtcihopgmgpmadaaEvP5
set_option linter.unusedVariables false
set_option linter.unusedSimpArgs false
set_option linter.unusedVariables false
set_option linter.unusedSimpArgs false
namespace Go.Proofs.Ev
/-! ### layers -/
/-! ### the shapes of a model -/
/-! ### costs -/
end Go.Proofs.Ev
