/- What laws do with their arguments: sizes, copies, comparisons, marks. -/
import Derived.Test.YthaamopjdieecaaEvP1
import Derived.Test.YthaamopjdieecaaEvB1
import Derived.Test.YthaamopjdieecaaEvB2
import Derived.Test.YthaamopjdieecaaEvB3
import Derived.Test.YthaamopjdieecaaEvD9
import Derived.Test.YthaamopjdieecaaEvP9
set_option linter.unusedVariables false
set_option linter.unusedSimpArgs false
set_option linter.unusedVariables false
set_option linter.unusedSimpArgs false
namespace Go.Proofs.Ev
end Go.Proofs.Ev
