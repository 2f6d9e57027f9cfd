/- Plain laws: ReadTrace. -/
import Derived.Test.YthaamopjdieecaaEvP14
set_option linter.unusedVariables false
set_option linter.unusedSimpArgs false
set_option linter.unusedVariables false
set_option linter.unusedSimpArgs false
namespace Go.Proofs.Ev
def sumStep (s x : Int) : Int := (IntKind.i64.wrap ((IntKind.i64.wrap ((IntKind.i64.wrap ((257 : Int) * s)) + (IntKind.i64.wrap x))) + (1 : Int))).tmod (1000003 : Int)
def sumOf (b : List Int) : Int := b.foldl sumStep 1
theorem S_SumOf_eq {k : Nat} {b : List Int} (hk : b.length < k) (hl : b.length ≤ maxN) : S_SumOf k b = some (sumOf b) := by
  have hM := maxN_eq
  unfold S_SumOf
  exact fold_loop b sumStep (g := fun u next => S_SumOf_g0 k b u next (fun y2 => some y2)) (fin := some) 1 (fun i s hi next _ => by
    simp only [S_SumOf_g0]
    rw [cond_dec, if_pos (by omega), idx_nat, getD_get hi, bind_some', wrapNat1 hi (by omega)]; rfl) (fun next => by
    simp only [S_SumOf_g0]; rw [cond_dec, if_neg (by omega)]) hk
theorem I_SumOf_eq {k : Nat} {b : List Int} (hk : b.length < k) (hl : b.length ≤ maxN) : I_SumOf k b = some (sumOf b) := by
  have hM := maxN_eq
  unfold I_SumOf
  exact fold_loop b sumStep (g := fun u next => I_SumOf_g0 k (b, (b.length : Int)) u next (fun y2 => some y2)) (fin := some) 1 (fun i s hi next _ => by
    simp only [I_SumOf_g0]
    rw [cond_dec, if_pos (by omega), idx_nat, getD_get hi, bind_some', wrapNat1 hi (by omega), Int.mul_comm s 257]; rfl) (fun next => by
    simp only [I_SumOf_g0]; rw [cond_dec, if_neg (by omega)]) hk
section
variable {R : Type} {k : Nat} {b : List Int} {m : Int}
end
end Go.Proofs.Ev
