/- Plain laws: jobs that step, finish, run for a while. -/
import Derived.Test.YtcohhbpegbhcgaaEvP24
import Derived.Test.YtcohhbpegbhcgaaEvB4
set_option linter.unusedVariables false
set_option linter.unusedSimpArgs false
set_option linter.unusedVariables false
set_option linter.unusedSimpArgs false
namespace Go.Proofs.Ev
def noLayer : Layer := ⟨0, 0, 0, 0, 0, 0, 0, [], []⟩
theorem shapes_get : ∀ (ls : List Layer) (s : Shape) (t : List Shape), shapesFrom s ls = some t → ∀ i, i < ls.length → layerB ((s :: t).getD i noShape) (ls.getD i noLayer) = true ∧ (s :: t).getD (i + 1) noShape = shapeOf ((s :: t).getD i noShape) (ls.getD i noLayer)
  | [], s, t, h, i, hi => by simp at hi
  | l :: ls, s, t, h, i, hi => by
    simp only [shapesFrom] at h
    cases hb : layerB s l <;> simp only [hb, cond_true, cond_false] at h
    · exact nomatch h
    · obtain ⟨t', h1, rfl⟩ := Option.map_eq_some_iff.1 h
      cases i with
      | zero => exact ⟨hb, rfl⟩
      | succ i => exact shapes_get ls (shapeOf s l) t' h1 i (by simpa using hi)
theorem modelB_get {m : Model} (h : modelB m = true) : (1 ≤ m.layers.length ∧ m.layers.length ≤ 6) ∧ ∀ i, i < m.layers.length → layerB ((shapesOf m).getD i noShape) (m.layers.getD i noLayer) = true ∧ (shapesOf m).getD (i + 1) noShape = shapeOf ((shapesOf m).getD i noShape) (m.layers.getD i noLayer) := by
  unfold shapesOf
  rw [h, cond_true]
  unfold modelB at h
  unfold modelShapes at h ⊢
  cases h1 : (m.inp.okB && inB (m.layers.length : Int) 1 6) <;> rw [h1] at h
  · exact nomatch h
  · simp only [cond_true] at h ⊢
    rw [Bool.and_eq_true, inB_spec] at h1
    cases h2 : shapesFrom m.inp m.layers with
    | none => rw [h2] at h; exact nomatch h
    | some t => exact ⟨by omega, shapes_get m.layers m.inp t h2⟩
end Go.Proofs.Ev
