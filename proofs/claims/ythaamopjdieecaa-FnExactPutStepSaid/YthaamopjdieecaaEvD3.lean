/- Text of this claim. -/
import Derived.Test.YthaamopjdieecaaEvK5
import Derived.Test.YthaamopjdieecaaEvD1
set_option linter.unusedVariables false
set_option linter.unusedSimpArgs false
set_option linter.unusedVariables false
set_option linter.unusedSimpArgs false
set_option maxRecDepth 100000
namespace Go.Proofs.Ev
noncomputable section
def L_markByteS_m3_g0 {ρ : Type} (k : Nat) (p : Unit) (v : Int × Int × List Int) (next : (Int × Int × List Int) → Option ρ) (x0 : (Int × List Int) → Option ρ) : Option ρ :=
  cond (decide (v.2.1 < (v.2.2.length : Int))) (cond (decide (0 ≤ v.2.1 ∧ v.2.1 < (v.2.2.length : Int))) (next (IntKind.i64.wrap (v.1 + (1 : Int)), IntKind.i64.wrap (v.2.1 + (1 : Int)), v.2.2.set v.2.1.toNat (IntKind.u8.wrap (v.1)))) none) (x0 (v.1, v.2.2))
def L_markByteS_m3 (k : Nat) (a0 : List Int) (a1 : Int) : Option (Int × List Int) :=
  iter (fun u2 n2 => L_markByteS_m3_g0 k () u2 n2 (fun y1 => some (y1.1, y1.2))) k (a1, (0 : Int), a0)
def S_l01Bytes_g0 {ρ : Type} (k : Nat) (p : List Int) (v : Int × List Int) (next : (Int × List Int) → Option ρ) (x0 : (List Int) → Option ρ) : Option ρ :=
  cond (decide (v.1 < (p.length : Int))) ((idx p v.1).bind fun e1 => cond (Nat.ble (v.2.length + [e1].length) maxN) (next (IntKind.i64.wrap (v.1 + (1 : Int)), v.2 ++ [e1])) none) (x0 v.2)
def S_l01Bytes (k : Nat) (a0 : List Int) : Option (List Int) :=
  iter (fun u3 n3 => S_l01Bytes_g0 k a0 u3 n3 (fun y2 => some y2)) k ((0 : Int), ([] : List Int))
def L_heldByteS_g0 {ρ : Type} (k : Nat) (p : List Int) (v : Int × Int) (next : (Int × Int) → Option ρ) (x0 : Int → Option ρ) (xret : Int → Option ρ) : Option ρ :=
  cond (decide (v.2 < (p.length : Int))) ((idx p v.2).bind fun e1 => cond (e1 != (IntKind.u8.wrap (v.1))) (xret (-1 : Int)) (next (IntKind.i64.wrap (v.1 + (1 : Int)), IntKind.i64.wrap (v.2 + (1 : Int))))) (x0 v.1)
def L_heldByteS (k : Nat) (a0 : List Int) (a1 : Int) : Option (Int) :=
  iter (fun u4 n4 => L_heldByteS_g0 k a0 u4 n4 (fun y2 => some y2) (fun y3 => some y3)) k (a1, (0 : Int))
end
end Go.Proofs.Ev
