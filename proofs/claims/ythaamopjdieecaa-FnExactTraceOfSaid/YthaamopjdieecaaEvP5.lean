/- Plain laws: EndTick, TicksOf, CutTrace. -/
import Derived.Test.YthaamopjdieecaaEvP4
import Derived.Test.YthaamopjdieecaaEvD3
set_option linter.unusedVariables false
set_option linter.unusedSimpArgs false
set_option linter.unusedVariables false
set_option linter.unusedSimpArgs false
namespace Go.Proofs.Ev
def takes (x : Step) : Int := cond (inB x.kind 4 5 && inB x.a 0 200) x.a 0
theorem S_l01Bytes_eq {k : Nat} {xs : List Int} (hk : xs.length < k) (hx : xs.length ≤ maxN) : S_l01Bytes k xs = some xs := by
  rw [maxN_eq] at hx
  unfold S_l01Bytes
  have := app_loop xs (fun x => x) (g := fun u next => S_l01Bytes_g0 k xs u next (fun y => some y)) (fin := some) (fun i ys hi next hl => by
    simp only [S_l01Bytes_g0, cond_dec]
    rw [if_pos (by omega), idx_nat, getD_get hi, bind_some', ble_le (by rw [maxN_eq, hl]; simp; omega), wrapNat1 hi (by omega)]) (fun ys next => by
    simp only [S_l01Bytes_g0, cond_dec]; rw [if_neg (by omega)]) hk
  simpa using this
end Go.Proofs.Ev
