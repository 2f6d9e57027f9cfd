/- Plain laws: what comes out of a layer. -/
import Derived.Test.YthaamopjdieecaaEvP21
set_option linter.unusedVariables false
set_option linter.unusedSimpArgs false
set_option linter.unusedVariables false
set_option linter.unusedSimpArgs false
namespace Go.Proofs.Ev
/-- A tensor that is right, its sides as natural numbers. -/
structure Right (H W C : Nat) (xs : List Int) : Prop where
  h1 : 1 ≤ H
  h8 : H ≤ 8
  w1 : 1 ≤ W
  w8 : W ≤ 8
  c1 : 1 ≤ C
  c8 : C ≤ 8
  len : xs.length = H * W * C
  mem : ∀ x ∈ xs, -128 ≤ x ∧ x ≤ 127
def tenN (H W C : Nat) (xs : List Int) : Tensor := ⟨⟨H, W, C⟩, xs⟩
theorem Right.sh {H W C : Nat} {xs : List Int} (r : Right H W C xs) : (⟨H, W, C⟩ : Shape).okB = true := by
  obtain ⟨a, b, c, d, e, f, _, _⟩ := r
  simp only [Shape.okB, inB, Bool.and_eq_true, decide_eq_true_eq]; omega
theorem Right.size {H W C : Nat} {xs : List Int} (r : Right H W C xs) : (⟨H, W, C⟩ : Shape).size = ((H * W * C : Nat) : Int) := by
  unfold Shape.size
  rw [r.sh, cond_true, Int.natCast_mul, Int.natCast_mul]
theorem Right.ok {H W C : Nat} {xs : List Int} (r : Right H W C xs) : (tenN H W C xs).okB = true := by
  unfold Tensor.okB tenN
  simp only [r.sh, r.size, r.len, decide_true, Bool.true_and]
  unfold itemsB
  rw [List.all_eq_true]
  intro x hx
  have := r.mem x hx
  rw [inB_spec]; omega
end Go.Proofs.Ev
