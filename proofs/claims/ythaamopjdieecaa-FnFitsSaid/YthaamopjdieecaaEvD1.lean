/- Text of this claim. -/
import Derived.Test.YthaamopjdieecaaEvK5
set_option linter.unusedVariables false
set_option linter.unusedSimpArgs false
set_option linter.unusedVariables false
set_option linter.unusedSimpArgs false
set_option maxRecDepth 100000
namespace Go.Proofs.Ev
noncomputable section
def S_l01Copy_g0 {ρ : Type} (k : Nat) (p : List Int) (v : Int × List Int) (next : (Int × List Int) → Option ρ) (x0 : (List Int) → Option ρ) : Option ρ :=
  cond (decide (v.1 < (p.length : Int))) ((idx p v.1).bind fun e1 => cond (Nat.ble (v.2.length + [e1].length) maxN) (next (IntKind.i64.wrap (v.1 + (1 : Int)), v.2 ++ [e1])) none) (x0 v.2)
def S_l01Copy (k : Nat) (a0 : List Int) : Option (List Int) :=
  iter (fun u3 n3 => S_l01Copy_g0 k a0 u3 n3 (fun y2 => some y2)) k ((0 : Int), ([] : List Int))
def S_l01In (k : Nat) (a0 : Int) (a1 : Int) (a2 : Int) : Option (Bool) :=
  cond (decide (a1 ≤ a0)) (some (decide (a0 ≤ a2))) (some false)
def slices_Clone_lint_int (k : Nat) (a0 : List Int) : Option (List Int) :=
  cond (isNil a0) (both (some ([] : List Int)) (cond (Nat.ble (([] : List Int).length + a0.length) maxN) (some (([] : List Int) ++ a0)) none)) (cond (Nat.ble (([] : List Int).length + a0.length) maxN) (some (([] : List Int) ++ a0)) none)
def I_in (k : Nat) (a0 : Int) (a1 : Int) (a2 : Int) : Option (Bool) :=
  cond (decide (a1 ≤ a0)) (some (decide (a0 ≤ a2))) (some false)
end
end Go.Proofs.Ev
