/- Text of this claim. -/
import Derived.Test.YtcohhbpegbhcgaaEvK4
import Derived.Test.YtcohhbpegbhcgaaEvD1
set_option linter.unusedVariables false
set_option linter.unusedSimpArgs false
set_option linter.unusedVariables false
set_option linter.unusedSimpArgs false
set_option maxRecDepth 100000
namespace Go.Proofs.Ev
noncomputable section
def L_markTensorS_m2_g0 {ρ : Type} (k : Nat) (p : Unit) (v : Int × Int × List Tensor) (next : (Int × Int × List Tensor) → Option ρ) (x0 : (Int × List Tensor) → Option ρ) : Option ρ :=
  cond (decide (v.2.1 < (v.2.2.length : Int))) (cond (decide (0 ≤ v.2.1 ∧ v.2.1 < (v.2.2.length : Int))) ((v.2.2[v.2.1.toNat]?).bind fun e1 => cond (decide (0 ≤ v.2.1 ∧ v.2.1 < ((v.2.2.set v.2.1.toNat (⟨(⟨v.1, e1.sh.w, e1.sh.c⟩ : Shape), e1.data⟩ : Tensor)).length : Int))) (((v.2.2.set v.2.1.toNat (⟨(⟨v.1, e1.sh.w, e1.sh.c⟩ : Shape), e1.data⟩ : Tensor))[v.2.1.toNat]?).bind fun e2 => cond (decide (0 ≤ v.2.1 ∧ v.2.1 < (((v.2.2.set v.2.1.toNat (⟨(⟨v.1, e1.sh.w, e1.sh.c⟩ : Shape), e1.data⟩ : Tensor)).set v.2.1.toNat (⟨(⟨e2.sh.h, (IntKind.i64.wrap (v.1 + (1 : Int))), e2.sh.c⟩ : Shape), e2.data⟩ : Tensor)).length : Int))) ((((v.2.2.set v.2.1.toNat (⟨(⟨v.1, e1.sh.w, e1.sh.c⟩ : Shape), e1.data⟩ : Tensor)).set v.2.1.toNat (⟨(⟨e2.sh.h, (IntKind.i64.wrap (v.1 + (1 : Int))), e2.sh.c⟩ : Shape), e2.data⟩ : Tensor))[v.2.1.toNat]?).bind fun e3 => cond (decide (0 ≤ v.2.1 ∧ v.2.1 < ((((v.2.2.set v.2.1.toNat (⟨(⟨v.1, e1.sh.w, e1.sh.c⟩ : Shape), e1.data⟩ : Tensor)).set v.2.1.toNat (⟨(⟨e2.sh.h, (IntKind.i64.wrap (v.1 + (1 : Int))), e2.sh.c⟩ : Shape), e2.data⟩ : Tensor)).set v.2.1.toNat (⟨(⟨e3.sh.h, e3.sh.w, (IntKind.i64.wrap ((IntKind.i64.wrap (v.1 + (1 : Int))) + (1 : Int)))⟩ : Shape), e3.data⟩ : Tensor)).length : Int))) (((((v.2.2.set v.2.1.toNat (⟨(⟨v.1, e1.sh.w, e1.sh.c⟩ : Shape), e1.data⟩ : Tensor)).set v.2.1.toNat (⟨(⟨e2.sh.h, (IntKind.i64.wrap (v.1 + (1 : Int))), e2.sh.c⟩ : Shape), e2.data⟩ : Tensor)).set v.2.1.toNat (⟨(⟨e3.sh.h, e3.sh.w, (IntKind.i64.wrap ((IntKind.i64.wrap (v.1 + (1 : Int))) + (1 : Int)))⟩ : Shape), e3.data⟩ : Tensor))[v.2.1.toNat]?).bind fun e4 => (L_markIntS_m3 k e4.data (IntKind.i64.wrap ((IntKind.i64.wrap ((IntKind.i64.wrap (v.1 + (1 : Int))) + (1 : Int))) + (1 : Int)))).bind fun r5 => next (r5.1, IntKind.i64.wrap (v.2.1 + (1 : Int)), (((v.2.2.set v.2.1.toNat (⟨(⟨v.1, e1.sh.w, e1.sh.c⟩ : Shape), e1.data⟩ : Tensor)).set v.2.1.toNat (⟨(⟨e2.sh.h, (IntKind.i64.wrap (v.1 + (1 : Int))), e2.sh.c⟩ : Shape), e2.data⟩ : Tensor)).set v.2.1.toNat (⟨(⟨e3.sh.h, e3.sh.w, (IntKind.i64.wrap ((IntKind.i64.wrap (v.1 + (1 : Int))) + (1 : Int)))⟩ : Shape), e3.data⟩ : Tensor)).set v.2.1.toNat (⟨e4.sh, r5.2⟩ : Tensor))) none) none) none) none) (x0 (v.1, v.2.2))
def L_markTensorS_m2 (k : Nat) (a0 : List Tensor) (a1 : Int) : Option (Int × List Tensor) :=
  iter (fun u7 n7 => L_markTensorS_m2_g0 k () u7 n7 (fun y6 => some (y6.1, y6.2))) k (a1, (0 : Int), a0)
end
end Go.Proofs.Ev
