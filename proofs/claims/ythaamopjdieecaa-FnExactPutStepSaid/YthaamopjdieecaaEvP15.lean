/- Plain laws: ReadTrace. -/
import Derived.Test.YthaamopjdieecaaEvP14
set_option linter.unusedVariables false
set_option linter.unusedSimpArgs false
set_option linter.unusedVariables false
set_option linter.unusedSimpArgs false
namespace Go.Proofs.Ev
section
variable {R : Type} {k : Nat} {b : List Int} {m : Int}
end
end Go.Proofs.Ev
