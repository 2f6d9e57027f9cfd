/- Plain laws: layers, shapes of a model, costs: BatchCost. -/
import Derived.Test.YthaamopjdieecaaEvP5
set_option linter.unusedVariables false
set_option linter.unusedSimpArgs false
set_option linter.unusedVariables false
set_option linter.unusedSimpArgs false
namespace Go.Proofs.Ev
theorem inB_spec {x a b : Int} : inB x a b = true ↔ a ≤ x ∧ x ≤ b := by unfold inB; simp
end Go.Proofs.Ev
