/- Plain laws: TakeStep of the reference: its loop. -/
import Derived.Test.YthaamopjdieecaaEvP12
set_option linter.unusedVariables false
set_option linter.unusedSimpArgs false
set_option linter.unusedVariables false
set_option linter.unusedSimpArgs false
namespace Go.Proofs.Ev
section
variable {R : Type} {k : Nat} {b : List Int} {m : Int} {q1 q2 q3 q4 q5 q6 q7 q8 q9 q10 q11 q12 : Int} {d : List Int} {fin : Int × Bool × List Int → Option R}
end
end Go.Proofs.Ev
