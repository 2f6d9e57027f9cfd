/- What laws do with their arguments: sizes, copies, comparisons, marks. -/
import Derived.Test.YtcihopgmgpmadaaEvP1
import Derived.Test.YtcihopgmgpmadaaEvB1
import Derived.Test.YtcihopgmgpmadaaEvD1
import Derived.Test.YtcihopgmgpmadaaEvD4
import Derived.Test.YtcihopgmgpmadaaEvD5
set_option linter.unusedVariables false
set_option linter.unusedSimpArgs false
set_option linter.unusedVariables false
set_option linter.unusedSimpArgs false
namespace Go.Proofs.Ev
end Go.Proofs.Ev
