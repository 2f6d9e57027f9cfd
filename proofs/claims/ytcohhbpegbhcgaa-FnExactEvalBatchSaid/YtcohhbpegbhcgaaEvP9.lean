/- Plain laws: JobOk, StartJob. -/
import Derived.Test.YtcohhbpegbhcgaaEvP8
set_option linter.unusedVariables false
set_option linter.unusedSimpArgs false
set_option linter.unusedVariables false
set_option linter.unusedSimpArgs false
namespace Go.Proofs.Ev
theorem shapeEq (a b : Shape) : (cond (a.h == b.h) (cond (a.w == b.w) (cond (a.c == b.c) (true) false) false) false) = decide (a = b) := by
  obtain ⟨a1, a2, a3⟩ := a
  obtain ⟨b1, b2, b3⟩ := b
  by_cases h1 : a1 = b1 <;> by_cases h2 : a2 = b2 <;> by_cases h3 : a3 = b3 <;> simp [h1, h2, h3]
end Go.Proofs.Ev
