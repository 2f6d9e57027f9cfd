/- Plain laws: JoinBatch. -/
import Derived.Test.YthaamopjdieecaaEvP2
import Derived.Test.YthaamopjdieecaaEvB1
import Derived.Test.YthaamopjdieecaaEvD2
set_option linter.unusedVariables false
set_option linter.unusedSimpArgs false
set_option linter.unusedVariables false
set_option linter.unusedSimpArgs false
namespace Go.Proofs.Ev
theorem totL_take {α : Type} (t : α → Nat) (xs : List α) (i : Nat) : totL t (xs.take i) ≤ totL t xs := by
  have := totL_append t (xs.take i) (xs.drop i)
  rw [List.take_append_drop] at this
  omega
end Go.Proofs.Ev
