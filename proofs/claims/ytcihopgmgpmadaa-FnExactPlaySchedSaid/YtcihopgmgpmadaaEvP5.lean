/- Plain laws: EndTick, TicksOf, CutTrace. -/
import Derived.Test.YtcihopgmgpmadaaEvP4
import Derived.Test.YtcihopgmgpmadaaEvD3
set_option linter.unusedVariables false
set_option linter.unusedSimpArgs false
set_option linter.unusedVariables false
set_option linter.unusedSimpArgs false
namespace Go.Proofs.Ev
/-! ### ticks -/
def takes (x : Step) : Int := cond (inB x.kind 4 5 && inB x.a 0 200) x.a 0
/-! ### copies of steps -/
/-! ### CutTrace -/
end Go.Proofs.Ev
