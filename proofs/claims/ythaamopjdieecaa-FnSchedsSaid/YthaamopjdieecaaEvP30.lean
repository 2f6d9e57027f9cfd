/- Plain laws: drawn schedules, all of them. -/
import Derived.Test.YthaamopjdieecaaEvP29
set_option linter.unusedVariables false
set_option linter.unusedSimpArgs false
set_option linter.unusedVariables false
set_option linter.unusedSimpArgs false
set_option maxRecDepth 100000
namespace Go.Proofs.Ev
theorem size_eq {b : List Int} (hb : b.length ≤ 1048576) (k : Nat) {most : Int} (h0 : 2 ≤ most) (h1 : most ≤ 1000000) : Gives (S_l01Size k b most) fun n => 2 ≤ n ∧ n ≤ most := by
  unfold S_l01Size
  have e : IntKind.i64.wrap ((b.length : Int).tdiv 16) = (b.length : Int).tdiv 16 := by
    have h2 : (b.length : Int).tdiv 16 = (b.length : Int) / 16 := Int.tdiv_eq_ediv_of_nonneg (by omega)
    rw [h2, wrapI (by omega) (by omega)]
  have h2 : (b.length : Int).tdiv 16 = (b.length : Int) / 16 := Int.tdiv_eq_ediv_of_nonneg (by omega)
  rw [e, h2, wrapI (n := 2 + (b.length : Int) / 16) (by omega) (by omega)]
  refine Gives.cond (fun h => Gives.some ⟨by omega, by omega⟩) fun h => ?_
  have h := of_decide_eq_false h
  exact Gives.some ⟨by omega, by omega⟩
end Go.Proofs.Ev
