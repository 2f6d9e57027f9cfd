/- Text of this claim. -/
import Derived.Test.YthaamopjdieecaaEvK5
set_option linter.unusedVariables false
set_option linter.unusedSimpArgs false
set_option linter.unusedVariables false
set_option linter.unusedSimpArgs false
set_option maxRecDepth 100000
namespace Go.Proofs.Ev
noncomputable section
def L_szIntS (k : Nat) (a0 : List Int) (a1 : Int) : Option (Int) :=
  cond (decide ((IntKind.i64.wrap (a1 - (a0.length : Int))) < (0 : Int))) (some (-1 : Int)) (some (IntKind.i64.wrap (a1 - (a0.length : Int))))
def L_toShape (k : Nat) (a0 : Shape) : Option (Shape) :=
  some a0
def L_toIntS_g0 {ρ : Type} (k : Nat) (p : List Int) (v : Int × List Int) (next : (Int × List Int) → Option ρ) (x0 : (List Int) → Option ρ) : Option ρ :=
  cond (decide (v.1 < (p.length : Int))) ((idx p v.1).bind fun e1 => cond (decide (0 ≤ v.1 ∧ v.1 < (v.2.length : Int))) (next (IntKind.i64.wrap (v.1 + (1 : Int)), v.2.set v.1.toNat e1)) none) (x0 v.2)
def L_toIntS (k : Nat) (a0 : List Int) : Option (List Int) :=
  cond (decide (0 ≤ (a0.length : Int) ∧ (a0.length : Int) ≤ (a0.length : Int) ∧ (a0.length : Int) ≤ (maxN : Int))) (iter (fun u3 n3 => L_toIntS_g0 k a0 u3 n3 (fun y2 => some y2)) k ((0 : Int), List.replicate ((a0.length : Int).toNat) (0 : Int))) none
def S_l01Copy_g0 {ρ : Type} (k : Nat) (p : List Int) (v : Int × List Int) (next : (Int × List Int) → Option ρ) (x0 : (List Int) → Option ρ) : Option ρ :=
  cond (decide (v.1 < (p.length : Int))) ((idx p v.1).bind fun e1 => cond (Nat.ble (v.2.length + [e1].length) maxN) (next (IntKind.i64.wrap (v.1 + (1 : Int)), v.2 ++ [e1])) none) (x0 v.2)
def S_l01Copy (k : Nat) (a0 : List Int) : Option (List Int) :=
  iter (fun u3 n3 => S_l01Copy_g0 k a0 u3 n3 (fun y2 => some y2)) k ((0 : Int), ([] : List Int))
def S_l01In (k : Nat) (a0 : Int) (a1 : Int) (a2 : Int) : Option (Bool) :=
  cond (decide (a1 ≤ a0)) (some (decide (a0 ≤ a2))) (some false)
def S_ShapeOk (k : Nat) (a0 : Shape) : Option (Bool) :=
  (S_l01In k a0.h (1 : Int) (8 : Int)).bind fun r1 => cond (r1) ((S_l01In k a0.w (1 : Int) (8 : Int)).bind fun r2 => cond (r2) ((S_l01In k a0.c (1 : Int) (8 : Int)).bind fun r3 => some r3) (some false)) (some false)
def S_SizeOf (k : Nat) (a0 : Shape) : Option (Int) :=
  (S_ShapeOk k a0).bind fun r1 => cond (!r1) (some (0 : Int)) (some (IntKind.i64.wrap ((IntKind.i64.wrap (a0.h * a0.w)) * a0.c)))
def S_l02Int8 (k : Nat) (a0 : Int) : Option (Bool) :=
  (S_l01In k a0 (-128 : Int) (127 : Int)).bind fun r1 => some r1
def slices_Clone_lint_int (k : Nat) (a0 : List Int) : Option (List Int) :=
  cond (isNil a0) (both (some ([] : List Int)) (cond (Nat.ble (([] : List Int).length + a0.length) maxN) (some (([] : List Int) ++ a0)) none)) (cond (Nat.ble (([] : List Int).length + a0.length) maxN) (some (([] : List Int) ++ a0)) none)
def I_in (k : Nat) (a0 : Int) (a1 : Int) (a2 : Int) : Option (Bool) :=
  cond (decide (a1 ≤ a0)) (some (decide (a0 ≤ a2))) (some false)
def I_ShapeOk (k : Nat) (a0 : Shape) : Option (Bool) :=
  (I_in k a0.h (1 : Int) (8 : Int)).bind fun r1 => cond (r1) ((I_in k a0.w (1 : Int) (8 : Int)).bind fun r2 => cond (r2) ((I_in k a0.c (1 : Int) (8 : Int)).bind fun r3 => some r3) (some false)) (some false)
def I_SizeOf (k : Nat) (a0 : Shape) : Option (Int) :=
  (I_ShapeOk k a0).bind fun r1 => cond (!r1) (some (0 : Int)) (some (IntKind.i64.wrap ((IntKind.i64.wrap (a0.h * a0.w)) * a0.c)))
def I_areItems_c1 (k : Nat) (a0 : Int) : Option (Bool) :=
  (I_in k a0 (-128 : Int) (127 : Int)).bind fun r1 => some (!r1)
def slices_IndexFunc_lint_int__I_areItems_c1_g0 {ρ : Type} (k : Nat) (p : List Int × Int) (v : Int) (next : Int → Option ρ) (x0 : Unit → Option ρ) (xret : Int → Option ρ) : Option ρ :=
  cond (decide (v < p.2)) ((idx p.1 v).bind fun e1 => (I_areItems_c1 k e1).bind fun r2 => cond (r2) (xret v) (next (IntKind.i64.wrap (v + (1 : Int))))) (x0 ())
def slices_IndexFunc_lint_int__I_areItems_c1 (k : Nat) (a0 : List Int) : Option (Int) :=
  iter (fun u5 n5 => slices_IndexFunc_lint_int__I_areItems_c1_g0 k (a0, (a0.length : Int)) u5 n5 (fun y3 => some (-1 : Int)) (fun y4 => some y4)) k (0 : Int)
def slices_ContainsFunc_lint_int__I_areItems_c1 (k : Nat) (a0 : List Int) : Option (Bool) :=
  (slices_IndexFunc_lint_int__I_areItems_c1 k a0).bind fun r1 => some (decide (r1 ≥ (0 : Int)))
def I_areItems (k : Nat) (a0 : List Int) : Option (Bool) :=
  (slices_ContainsFunc_lint_int__I_areItems_c1 k a0).bind fun r1 => some (!r1)
def L_eqShape (k : Nat) (a0 : Shape) (a1 : Shape) : Option (Bool) :=
  cond (a0.h != a1.h) (some false) (cond (a0.w != a1.w) (some false) (cond (a0.c != a1.c) (some false) (some true)))
def L_eqIntS_g0 {ρ : Type} (k : Nat) (p : List Int × List Int) (v : Int) (next : Int → Option ρ) (x0 : Unit → Option ρ) (xret : Bool → Option ρ) : Option ρ :=
  cond (decide (v < (p.1.length : Int))) ((idx p.1 v).bind fun e1 => (idx p.2 v).bind fun e2 => cond (e1 != e2) (xret false) (next (IntKind.i64.wrap (v + (1 : Int))))) (x0 ())
def L_eqIntS (k : Nat) (a0 : List Int) (a1 : List Int) : Option (Bool) :=
  cond ((a0.length : Int) != (a1.length : Int)) (some false) (iter (fun u5 n5 => L_eqIntS_g0 k (a0, a1) u5 n5 (fun y3 => some true) (fun y4 => some y4)) k (0 : Int))
def L_markIntS_m3_g0 {ρ : Type} (k : Nat) (p : Unit) (v : Int × Int × List Int) (next : (Int × Int × List Int) → Option ρ) (x0 : (Int × List Int) → Option ρ) : Option ρ :=
  cond (decide (v.2.1 < (v.2.2.length : Int))) (cond (decide (0 ≤ v.2.1 ∧ v.2.1 < (v.2.2.length : Int))) (next (IntKind.i64.wrap (v.1 + (1 : Int)), IntKind.i64.wrap (v.2.1 + (1 : Int)), v.2.2.set v.2.1.toNat v.1)) none) (x0 (v.1, v.2.2))
def L_markIntS_m3 (k : Nat) (a0 : List Int) (a1 : Int) : Option (Int × List Int) :=
  iter (fun u2 n2 => L_markIntS_m3_g0 k () u2 n2 (fun y1 => some (y1.1, y1.2))) k (a1, (0 : Int), a0)
def L_heldIntS_g0 {ρ : Type} (k : Nat) (p : List Int) (v : Int × Int) (next : (Int × Int) → Option ρ) (x0 : Int → Option ρ) (xret : Int → Option ρ) : Option ρ :=
  cond (decide (v.2 < (p.length : Int))) ((idx p v.2).bind fun e1 => cond (e1 != v.1) (xret (-1 : Int)) (next (IntKind.i64.wrap (v.1 + (1 : Int)), IntKind.i64.wrap (v.2 + (1 : Int))))) (x0 v.1)
def L_heldIntS (k : Nat) (a0 : List Int) (a1 : Int) : Option (Int) :=
  iter (fun u4 n4 => L_heldIntS_g0 k a0 u4 n4 (fun y2 => some y2) (fun y3 => some y3)) k (a1, (0 : Int))
end
end Go.Proofs.Ev
