/- Plain laws: layers, shapes of a model, costs: BatchCost. -/
import Derived.Test.YthaamopjdieecaaEvP5
set_option linter.unusedVariables false
set_option linter.unusedSimpArgs false
set_option linter.unusedVariables false
set_option linter.unusedSimpArgs false
namespace Go.Proofs.Ev
theorem inB_spec {x a b : Int} : inB x a b = true ↔ a ≤ x ∧ x ≤ b := by unfold inB; simp
theorem I_sum_eq {k : Nat} {xs : List Int} (hk : xs.length < k) (hN : xs.length ≤ maxN) : I_sum k xs = some (xs.foldl (fun s x => IntKind.i64.wrap (s + x)) 0) := by
  have hM := maxN_eq
  exact fold_loop xs (fun s x => IntKind.i64.wrap (s + x)) (g := fun u next => I_sum_g0 k (xs, (xs.length : Int)) u next (fun y2 => some y2)) (fin := some) 0 (fun i s hi next _ => by
    simp only [I_sum_g0]
    rw [cond_dec, if_pos (by omega), idx_nat, getD_get hi, bind_some', wrapNat1 hi (by omega)]) (fun next => by
    simp only [I_sum_g0]; rw [cond_dec, if_neg (by omega)]) hk
end Go.Proofs.Ev
