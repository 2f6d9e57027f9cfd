/- Plain laws: JoinBatch. -/
import Derived.Test.YtcihopgmgpmadaaEvP2
import Derived.Test.YtcihopgmgpmadaaEvB1
import Derived.Test.YtcihopgmgpmadaaEvD2
set_option linter.unusedVariables false
set_option linter.unusedSimpArgs false
set_option linter.unusedVariables false
set_option linter.unusedSimpArgs false
namespace Go.Proofs.Ev
end Go.Proofs.Ev
