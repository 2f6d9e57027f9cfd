/- FnExactJoinModels: facts of the program's text. -/
import Derived.Test.YthaamopjdieecaaRows
import Derived.Test.YthaamopjdieecaaEvK7
set_option linter.unusedVariables false
set_option linter.unusedSimpArgs false
namespace Go.Proofs.Ythaamopjdieecaa
open Go.ChangeShapes Go.WideShapes Go.ChangeAt Go.RowKit Go.Proofs.Ev
set_option maxRecDepth 100000
theorem fact1 : (Rows.fnExactJoinModelsRow.unfollowed == Try.prog.unfollowed 8) = true := by kernel_rfl
theorem fact2 : (Rows.fnExactJoinModelsRow.recurses == Try.prog.recurses 8) = true := by kernel_rfl
theorem fact3 : (Rows.fnExactJoinModelsRow.named == Try.prog.varsNamed 8) = true := by kernel_rfl
theorem fact4 : (Rows.fnExactJoinModelsRow.inPlace == Try.prog.inPlace 8) = true := by kernel_rfl
theorem fact5 : laidOutB Try.prog = true := by kernel_rfl
theorem closedB : joinedFacts Try.prog 8 Try.f8 Rows.fnExactJoinModelsSpec Rows.fnExactJoinModelsRow = true := by
  unfold joinedFacts
  rw [fact1, fact2, fact3, fact4, fact5]
  kernel_rfl
end Go.Proofs.Ythaamopjdieecaa
