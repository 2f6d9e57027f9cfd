/- Plain laws: bits of wide numbers; TakeWide. -/
import Derived.Test.YthaamopjdieecaaEvP9
import Derived.Test.YthaamopjdieecaaEvB2
import Derived.Test.YthaamopjdieecaaEvD4
import Derived.KernelRfl
set_option linter.unusedVariables false
set_option linter.unusedSimpArgs false
set_option linter.unusedVariables false
set_option linter.unusedSimpArgs false
namespace Go.Proofs.Ev
theorem ofInt_nat (w a : Nat) : (BitVec.ofInt w (a : Int)).toNat = a % 2 ^ w := by
  simp
theorem I_isWide_eq (k : Nat) (x : Int) : I_isWide k x = some (inB x (-1099511627776) 1099511627775) := by unfold I_isWide; rw [I_in_eq]; rfl
end Go.Proofs.Ev
