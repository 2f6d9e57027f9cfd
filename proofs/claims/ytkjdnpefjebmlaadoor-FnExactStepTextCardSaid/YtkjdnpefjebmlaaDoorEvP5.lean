/- Plain laws: EndTick, TicksOf, CutTrace. -/
import Derived.Test.YtkjdnpefjebmlaaDoorEvP4
import Derived.Test.YtkjdnpefjebmlaaDoorEvD3
set_option linter.unusedVariables false
set_option linter.unusedSimpArgs false
set_option linter.unusedSectionVars false
namespace Go.Proofs.Ev
def takes (x:Step):Int:=cond (inB x.kind 4 5&&inB x.a 0 200) x.a 0
end Go.Proofs.Ev
