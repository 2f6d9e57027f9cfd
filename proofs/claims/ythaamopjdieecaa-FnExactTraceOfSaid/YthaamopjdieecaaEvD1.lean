/- Text of this claim. -/
import Derived.Test.YthaamopjdieecaaEvK5
set_option linter.unusedVariables false
set_option linter.unusedSimpArgs false
set_option linter.unusedVariables false
set_option linter.unusedSimpArgs false
set_option maxRecDepth 100000
namespace Go.Proofs.Ev
noncomputable section
def L_szIntS (k : Nat) (a0 : List Int) (a1 : Int) : Option (Int) :=
  cond (decide ((IntKind.i64.wrap (a1 - (a0.length : Int))) < (0 : Int))) (some (-1 : Int)) (some (IntKind.i64.wrap (a1 - (a0.length : Int))))
def L_szTensor (k : Nat) (a0 : Tensor) (a1 : Int) : Option (Int) :=
  (L_szIntS k a0.data a1).bind fun r1 => cond (decide (r1 < (0 : Int))) (some (-1 : Int)) (some r1)
def L_toShape (k : Nat) (a0 : Shape) : Option (Shape) :=
  some a0
def L_toIntS_g0 {ρ : Type} (k : Nat) (p : List Int) (v : Int × List Int) (next : (Int × List Int) → Option ρ) (x0 : (List Int) → Option ρ) : Option ρ :=
  cond (decide (v.1 < (p.length : Int))) ((idx p v.1).bind fun e1 => cond (decide (0 ≤ v.1 ∧ v.1 < (v.2.length : Int))) (next (IntKind.i64.wrap (v.1 + (1 : Int)), v.2.set v.1.toNat e1)) none) (x0 v.2)
def L_toIntS (k : Nat) (a0 : List Int) : Option (List Int) :=
  cond (decide (0 ≤ (a0.length : Int) ∧ (a0.length : Int) ≤ (a0.length : Int) ∧ (a0.length : Int) ≤ (maxN : Int))) (iter (fun u3 n3 => L_toIntS_g0 k a0 u3 n3 (fun y2 => some y2)) k ((0 : Int), List.replicate ((a0.length : Int).toNat) (0 : Int))) none
def L_toTensor (k : Nat) (a0 : Tensor) : Option (Tensor) :=
  (L_toShape k a0.sh).bind fun r1 => (L_toIntS k a0.data).bind fun r2 => some (⟨r1, r2⟩ : Tensor)
def S_l01In (k : Nat) (a0 : Int) (a1 : Int) (a2 : Int) : Option (Bool) :=
  cond (decide (a1 ≤ a0)) (some (decide (a0 ≤ a2))) (some false)
def I_in (k : Nat) (a0 : Int) (a1 : Int) (a2 : Int) : Option (Bool) :=
  cond (decide (a1 ≤ a0)) (some (decide (a0 ≤ a2))) (some false)
def L_eqShape (k : Nat) (a0 : Shape) (a1 : Shape) : Option (Bool) :=
  cond (a0.h != a1.h) (some false) (cond (a0.w != a1.w) (some false) (cond (a0.c != a1.c) (some false) (some true)))
def L_eqIntS_g0 {ρ : Type} (k : Nat) (p : List Int × List Int) (v : Int) (next : Int → Option ρ) (x0 : Unit → Option ρ) (xret : Bool → Option ρ) : Option ρ :=
  cond (decide (v < (p.1.length : Int))) ((idx p.1 v).bind fun e1 => (idx p.2 v).bind fun e2 => cond (e1 != e2) (xret false) (next (IntKind.i64.wrap (v + (1 : Int))))) (x0 ())
def L_eqIntS (k : Nat) (a0 : List Int) (a1 : List Int) : Option (Bool) :=
  cond ((a0.length : Int) != (a1.length : Int)) (some false) (iter (fun u5 n5 => L_eqIntS_g0 k (a0, a1) u5 n5 (fun y3 => some true) (fun y4 => some y4)) k (0 : Int))
def L_eqTensor (k : Nat) (a0 : Tensor) (a1 : Tensor) : Option (Bool) :=
  (L_eqShape k a0.sh a1.sh).bind fun r1 => cond (!r1) (some false) ((L_eqIntS k a0.data a1.data).bind fun r2 => cond (!r2) (some false) (some true))
def L_markIntS_m3_g0 {ρ : Type} (k : Nat) (p : Unit) (v : Int × Int × List Int) (next : (Int × Int × List Int) → Option ρ) (x0 : (Int × List Int) → Option ρ) : Option ρ :=
  cond (decide (v.2.1 < (v.2.2.length : Int))) (cond (decide (0 ≤ v.2.1 ∧ v.2.1 < (v.2.2.length : Int))) (next (IntKind.i64.wrap (v.1 + (1 : Int)), IntKind.i64.wrap (v.2.1 + (1 : Int)), v.2.2.set v.2.1.toNat v.1)) none) (x0 (v.1, v.2.2))
def L_markIntS_m3 (k : Nat) (a0 : List Int) (a1 : Int) : Option (Int × List Int) :=
  iter (fun u2 n2 => L_markIntS_m3_g0 k () u2 n2 (fun y1 => some (y1.1, y1.2))) k (a1, (0 : Int), a0)
def L_heldIntS_g0 {ρ : Type} (k : Nat) (p : List Int) (v : Int × Int) (next : (Int × Int) → Option ρ) (x0 : Int → Option ρ) (xret : Int → Option ρ) : Option ρ :=
  cond (decide (v.2 < (p.length : Int))) ((idx p v.2).bind fun e1 => cond (e1 != v.1) (xret (-1 : Int)) (next (IntKind.i64.wrap (v.1 + (1 : Int)), IntKind.i64.wrap (v.2 + (1 : Int))))) (x0 v.1)
def L_heldIntS (k : Nat) (a0 : List Int) (a1 : Int) : Option (Int) :=
  iter (fun u4 n4 => L_heldIntS_g0 k a0 u4 n4 (fun y2 => some y2) (fun y3 => some y3)) k (a1, (0 : Int))
def L_szByteS (k : Nat) (a0 : List Int) (a1 : Int) : Option (Int) :=
  cond (decide ((IntKind.i64.wrap (a1 - (a0.length : Int))) < (0 : Int))) (some (-1 : Int)) (some (IntKind.i64.wrap (a1 - (a0.length : Int))))
def L_szStep (k : Nat) (a0 : Step) (a1 : Int) : Option (Int) :=
  (L_szByteS k a0.data a1).bind fun r1 => cond (decide (r1 < (0 : Int))) (some (-1 : Int)) ((L_szTensor k a0.input r1).bind fun r2 => cond (decide (r2 < (0 : Int))) (some (-1 : Int)) (some r2))
def L_toByteS_g0 {ρ : Type} (k : Nat) (p : List Int) (v : Int × List Int) (next : (Int × List Int) → Option ρ) (x0 : (List Int) → Option ρ) : Option ρ :=
  cond (decide (v.1 < (p.length : Int))) ((idx p v.1).bind fun e1 => cond (decide (0 ≤ v.1 ∧ v.1 < (v.2.length : Int))) (next (IntKind.i64.wrap (v.1 + (1 : Int)), v.2.set v.1.toNat e1)) none) (x0 v.2)
def L_toByteS (k : Nat) (a0 : List Int) : Option (List Int) :=
  cond (decide (0 ≤ (a0.length : Int) ∧ (a0.length : Int) ≤ (a0.length : Int) ∧ (a0.length : Int) ≤ (maxN : Int))) (iter (fun u3 n3 => L_toByteS_g0 k a0 u3 n3 (fun y2 => some y2)) k ((0 : Int), List.replicate ((a0.length : Int).toNat) (0 : Int))) none
def L_toStep (k : Nat) (a0 : Step) : Option (Step) :=
  (L_toByteS k a0.data).bind fun r1 => (L_toTensor k a0.input).bind fun r2 => some (⟨a0.kind, a0.a, a0.b, r1, r2⟩ : Step)
def L_eqByteS_g0 {ρ : Type} (k : Nat) (p : List Int × List Int) (v : Int) (next : Int → Option ρ) (x0 : Unit → Option ρ) (xret : Bool → Option ρ) : Option ρ :=
  cond (decide (v < (p.1.length : Int))) ((idx p.1 v).bind fun e1 => (idx p.2 v).bind fun e2 => cond (e1 != e2) (xret false) (next (IntKind.i64.wrap (v + (1 : Int))))) (x0 ())
def L_eqByteS (k : Nat) (a0 : List Int) (a1 : List Int) : Option (Bool) :=
  cond ((a0.length : Int) != (a1.length : Int)) (some false) (iter (fun u5 n5 => L_eqByteS_g0 k (a0, a1) u5 n5 (fun y3 => some true) (fun y4 => some y4)) k (0 : Int))
def L_eqStep (k : Nat) (a0 : Step) (a1 : Step) : Option (Bool) :=
  cond (a0.kind != a1.kind) (some false) (cond (a0.a != a1.a) (some false) (cond (a0.b != a1.b) (some false) ((L_eqByteS k a0.data a1.data).bind fun r1 => cond (!r1) (some false) ((L_eqTensor k a0.input a1.input).bind fun r2 => cond (!r2) (some false) (some true)))))
def L_szStepS_g0 {ρ : Type} (k : Nat) (p : List Step) (v : Int × Int) (next : (Int × Int) → Option ρ) (x0 : Int → Option ρ) (xret : Int → Option ρ) : Option ρ :=
  cond (decide (v.2 < (p.length : Int))) ((idx p v.2).bind fun e1 => (L_szStep k e1 v.1).bind fun r2 => cond (decide (r2 < (0 : Int))) (xret (-1 : Int)) (next (r2, IntKind.i64.wrap (v.2 + (1 : Int))))) (x0 v.1)
def L_szStepS (k : Nat) (a0 : List Step) (a1 : Int) : Option (Int) :=
  cond (decide ((IntKind.i64.wrap (a1 - (a0.length : Int))) < (0 : Int))) (some (-1 : Int)) (iter (fun u5 n5 => L_szStepS_g0 k a0 u5 n5 (fun y3 => some y3) (fun y4 => some y4)) k (IntKind.i64.wrap (a1 - (a0.length : Int)), (0 : Int)))
def L_toStepS_g0 {ρ : Type} (k : Nat) (p : List Step) (v : Int × List Step) (next : (Int × List Step) → Option ρ) (x0 : (List Step) → Option ρ) : Option ρ :=
  cond (decide (v.1 < (p.length : Int))) ((idx p v.1).bind fun e1 => (L_toStep k e1).bind fun r2 => cond (decide (0 ≤ v.1 ∧ v.1 < (v.2.length : Int))) (next (IntKind.i64.wrap (v.1 + (1 : Int)), v.2.set v.1.toNat r2)) none) (x0 v.2)
def L_toStepS (k : Nat) (a0 : List Step) : Option (List Step) :=
  cond (decide (0 ≤ (a0.length : Int) ∧ (a0.length : Int) ≤ (a0.length : Int) ∧ (a0.length : Int) ≤ (maxN : Int))) (iter (fun u4 n4 => L_toStepS_g0 k a0 u4 n4 (fun y3 => some y3)) k ((0 : Int), List.replicate ((a0.length : Int).toNat) (⟨(0 : Int), (0 : Int), (0 : Int), ([] : List Int), (⟨(⟨(0 : Int), (0 : Int), (0 : Int)⟩ : Shape), ([] : List Int)⟩ : Tensor)⟩ : Step))) none
def L_eqStepS_g0 {ρ : Type} (k : Nat) (p : List Step × List Step) (v : Int) (next : Int → Option ρ) (x0 : Unit → Option ρ) (xret : Bool → Option ρ) : Option ρ :=
  cond (decide (v < (p.1.length : Int))) ((idx p.1 v).bind fun e1 => (idx p.2 v).bind fun e2 => (L_eqStep k e1 e2).bind fun r3 => cond (!r3) (xret false) (next (IntKind.i64.wrap (v + (1 : Int))))) (x0 ())
def L_eqStepS (k : Nat) (a0 : List Step) (a1 : List Step) : Option (Bool) :=
  cond ((a0.length : Int) != (a1.length : Int)) (some false) (iter (fun u6 n6 => L_eqStepS_g0 k (a0, a1) u6 n6 (fun y4 => some true) (fun y5 => some y5)) k (0 : Int))
end
end Go.Proofs.Ev
