/- What laws do with their arguments: sizes, copies, comparisons, marks. -/
import Derived.Test.YthaamopjdieecaaEvP1
import Derived.Test.YthaamopjdieecaaEvB1
import Derived.Test.YthaamopjdieecaaEvD1
import Derived.Test.YthaamopjdieecaaEvD4
import Derived.Test.YthaamopjdieecaaEvD5
set_option linter.unusedVariables false
set_option linter.unusedSimpArgs false
set_option linter.unusedVariables false
set_option linter.unusedSimpArgs false
namespace Go.Proofs.Ev
theorem L_markStep_m2_z {k : Nat} {x : Step} {m : Int} (hk : x.tot < k) (hN : x.tot ≤ maxN) (h0 : 0 ≤ m) (hB : m + 16 * x.tot ≤ bigB) :
    ∃ r y0 y1, L_markStep_m2 k x m = some (r, y0, y1) ∧ m ≤ r ∧ r ≤ m + 16 * x.tot ∧ L_heldStep k (⟨x.kind, x.a, x.b, y0, (⟨x.input.sh, y1⟩ : Tensor)⟩ : Step) m = some r := by
  unfold Step.tot Tensor.tot at hk hN hB ⊢
  unfold bigB at hB
  obtain ⟨r0, y0, e0, a0, b0, l0, h0⟩ := L_markByteS_m3_z (k := k) (xs := x.data) (m := m) (by omega) (by omega) (by omega) (by unfold bigB; omega)
  obtain ⟨r1, y1, e1, a1, b1, l1, h1⟩ := L_markIntS_m3_z (k := k) (xs := x.input.data) (m := r0) (by omega) (by omega) (by omega) (by unfold bigB; omega)
  refine ⟨r1, y0, y1, ?_, by omega, by omega, ?_⟩
  · simp only [L_markStep_m2, L_markTensor_m2, e0, e1, bind_some']
  · simp (disch := omega) only [L_heldStep, L_heldTensor, h0, h1, bind_some', cond_dec, if_neg]
end Go.Proofs.Ev
