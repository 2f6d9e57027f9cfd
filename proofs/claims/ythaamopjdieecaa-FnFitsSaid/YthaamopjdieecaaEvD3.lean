/- Text of this claim. -/
import Derived.Test.YthaamopjdieecaaEvK5
import Derived.Test.YthaamopjdieecaaEvD1
set_option linter.unusedVariables false
set_option linter.unusedSimpArgs false
set_option linter.unusedVariables false
set_option linter.unusedSimpArgs false
set_option maxRecDepth 100000
namespace Go.Proofs.Ev
noncomputable section
def I_sum_g0 {ρ : Type} (k : Nat) (p : List Int × Int) (v : Int × Int) (next : (Int × Int) → Option ρ) (x0 : Int → Option ρ) : Option ρ :=
  cond (decide (v.2 < p.2)) ((idx p.1 v.2).bind fun e1 => next (IntKind.i64.wrap (v.1 + e1), IntKind.i64.wrap (v.2 + (1 : Int)))) (x0 v.1)
def I_sum (k : Nat) (a0 : List Int) : Option (Int) :=
  iter (fun u3 n3 => I_sum_g0 k (a0, (a0.length : Int)) u3 n3 (fun y2 => some y2)) k ((0 : Int), (0 : Int))
end
end Go.Proofs.Ev
