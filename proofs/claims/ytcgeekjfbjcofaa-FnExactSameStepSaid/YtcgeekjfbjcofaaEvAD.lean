/- Text of this claim. -/
import Derived.Test.YtcgeekjfbjcofaaEvNorm
set_option linter.unusedSimpArgs false
set_option linter.unusedVariables false
set_option maxRecDepth 100000
namespace Go.Proofs.Ev
def L_szByteS (k : Nat) (a0 : List Int) (a1 : Int) : Option (Int) :=
  cond (decide ((IntKind.i64.wrap (a1 - (a0.length : Int))) < (0 : Int))) (some (-1 : Int)) (some (IntKind.i64.wrap (a1 - (a0.length : Int))))
def L_szIntS (k : Nat) (a0 : List Int) (a1 : Int) : Option (Int) :=
  cond (decide ((IntKind.i64.wrap (a1 - (a0.length : Int))) < (0 : Int))) (some (-1 : Int)) (some (IntKind.i64.wrap (a1 - (a0.length : Int))))
def L_szTensor (k : Nat) (a0 : Tensor) (a1 : Int) : Option (Int) :=
  (L_szIntS k a0.data a1).bind fun r1 => cond (decide (r1 < (0 : Int))) (some (-1 : Int)) (some r1)
def L_szStep (k : Nat) (a0 : Step) (a1 : Int) : Option (Int) :=
  (L_szByteS k a0.data a1).bind fun r1 => cond (decide (r1 < (0 : Int))) (some (-1 : Int)) ((L_szTensor k a0.input r1).bind fun r2 => cond (decide (r2 < (0 : Int))) (some (-1 : Int)) (some r2))
def L_toByteS_g0 {ρ : Type} (k : Nat) (p : List Int) (v : Int × List Int) (next : (Int × List Int) → Option ρ) (x0 : (List Int) → Option ρ) : Option ρ :=
  cond (decide (v.1 < (p.length : Int))) ((idx p v.1).bind fun e1 => cond (decide (0 ≤ v.1 ∧ v.1 < (v.2.length : Int))) (next (IntKind.i64.wrap (v.1 + (1 : Int)), v.2.set v.1.toNat e1)) none) (x0 v.2)
def L_toByteS (k : Nat) (a0 : List Int) : Option (List Int) :=
  cond (decide (0 ≤ (a0.length : Int) ∧ (a0.length : Int) ≤ (a0.length : Int) ∧ (a0.length : Int) ≤ (maxN : Int))) (iter (fun v next => L_toByteS_g0 k a0 v next (fun y2 => some y2)) k ((0 : Int), List.replicate ((a0.length : Int).toNat) (0 : Int))) none
def L_toShape (k : Nat) (a0 : Shape) : Option (Shape) :=
  some a0
def L_toIntS_g0 {ρ : Type} (k : Nat) (p : List Int) (v : Int × List Int) (next : (Int × List Int) → Option ρ) (x0 : (List Int) → Option ρ) : Option ρ :=
  cond (decide (v.1 < (p.length : Int))) ((idx p v.1).bind fun e1 => cond (decide (0 ≤ v.1 ∧ v.1 < (v.2.length : Int))) (next (IntKind.i64.wrap (v.1 + (1 : Int)), v.2.set v.1.toNat e1)) none) (x0 v.2)
def L_toIntS (k : Nat) (a0 : List Int) : Option (List Int) :=
  cond (decide (0 ≤ (a0.length : Int) ∧ (a0.length : Int) ≤ (a0.length : Int) ∧ (a0.length : Int) ≤ (maxN : Int))) (iter (fun v next => L_toIntS_g0 k a0 v next (fun y2 => some y2)) k ((0 : Int), List.replicate ((a0.length : Int).toNat) (0 : Int))) none
def L_toTensor (k : Nat) (a0 : Tensor) : Option (Tensor) :=
  (L_toShape k a0.sh).bind fun r1 => (L_toIntS k a0.data).bind fun r2 => some (⟨r1, r2⟩ : Tensor)
def L_toStep (k : Nat) (a0 : Step) : Option (Step) :=
  (L_toByteS k a0.data).bind fun r1 => (L_toTensor k a0.input).bind fun r2 => some (⟨a0.kind, a0.a, a0.b, r1, r2⟩ : Step)
def S_l01Same_g0 {ρ : Type} (k : Nat) (p : List Int × List Int) (v : Int) (next : Int → Option ρ) (x0 : Unit → Option ρ) (xret : Bool → Option ρ) : Option ρ :=
  cond (decide (v < (p.1.length : Int))) ((idx p.1 v).bind fun e1 => (idx p.2 v).bind fun e2 => cond (e1 != e2) (xret false) (next (IntKind.i64.wrap (v + (1 : Int))))) (x0 ())
def S_l01Same (k : Nat) (a0 : List Int) (a1 : List Int) : Option (Bool) :=
  cond ((a0.length : Int) != (a1.length : Int)) (some false) (iter (fun v next => S_l01Same_g0 k (a0, a1) v next (fun y3 => some true) (fun y4 => some y4)) k (0 : Int))
def S_l03Same_g0 {ρ : Type} (k : Nat) (p : List Int × List Int) (v : Int) (next : Int → Option ρ) (x0 : Unit → Option ρ) (xret : Bool → Option ρ) : Option ρ :=
  cond (decide (v < (p.1.length : Int))) ((idx p.1 v).bind fun e1 => (idx p.2 v).bind fun e2 => cond (e1 != e2) (xret false) (next (IntKind.i64.wrap (v + (1 : Int))))) (x0 ())
def S_l03Same (k : Nat) (a0 : List Int) (a1 : List Int) : Option (Bool) :=
  cond ((a0.length : Int) != (a1.length : Int)) (some false) (iter (fun v next => S_l03Same_g0 k (a0, a1) v next (fun y3 => some true) (fun y4 => some y4)) k (0 : Int))
def S_SameStep (k : Nat) (a0 : Step) (a1 : Step) : Option (Bool) :=
  cond (a0.kind == a1.kind) (cond (a0.a == a1.a) (cond (a0.b == a1.b) ((S_l01Same k a0.data a1.data).bind fun r1 => cond (r1) (cond (cond (a0.input.sh.h == a1.input.sh.h) (cond (a0.input.sh.w == a1.input.sh.w) (cond (a0.input.sh.c == a1.input.sh.c) (true) false) false) false) ((S_l03Same k a0.input.data a1.input.data).bind fun r2 => some r2) (some false)) (some false)) (some false)) (some false)) (some false)
def bytes_Equal (k : Nat) (a0 : List Int) (a1 : List Int) : Option (Bool) :=
  some ((bytesOf a0) == (bytesOf a1))
def slices_Equal_lint_int_g0 {ρ : Type} (k : Nat) (p : List Int × List Int × Int) (v : Int) (next : Int → Option ρ) (x0 : Unit → Option ρ) (xret : Bool → Option ρ) : Option ρ :=
  cond (decide (v < p.2.2)) ((idx p.1 v).bind fun e1 => (idx p.2.1 v).bind fun e2 => cond (e1 != e2) (xret false) (next (IntKind.i64.wrap (v + (1 : Int))))) (x0 ())
def slices_Equal_lint_int (k : Nat) (a0 : List Int) (a1 : List Int) : Option (Bool) :=
  cond ((a0.length : Int) != (a1.length : Int)) (some false) (iter (fun v next => slices_Equal_lint_int_g0 k (a0, a1, (a0.length : Int)) v next (fun y3 => some true) (fun y4 => some y4)) k (0 : Int))
def I_Tensor_same (k : Nat) (a0 : Tensor) (a1 : Tensor) : Option (Bool) :=
  cond (cond (a0.sh.h == a1.sh.h) (cond (a0.sh.w == a1.sh.w) (cond (a0.sh.c == a1.sh.c) (true) false) false) false) ((slices_Equal_lint_int k a0.data a1.data).bind fun r1 => some r1) (some false)
def I_SameStep (k : Nat) (a0 : Step) (a1 : Step) : Option (Bool) :=
  cond (a0.kind == a1.kind) (cond (a0.a == a1.a) (cond (a0.b == a1.b) ((bytes_Equal k a0.data a1.data).bind fun r1 => cond (r1) ((I_Tensor_same k a0.input a1.input).bind fun r2 => some r2) (some false)) (some false)) (some false)) (some false)
def L_eqByteS_g0 {ρ : Type} (k : Nat) (p : List Int × List Int) (v : Int) (next : Int → Option ρ) (x0 : Unit → Option ρ) (xret : Bool → Option ρ) : Option ρ :=
  cond (decide (v < (p.1.length : Int))) ((idx p.1 v).bind fun e1 => (idx p.2 v).bind fun e2 => cond (e1 != e2) (xret false) (next (IntKind.i64.wrap (v + (1 : Int))))) (x0 ())
def L_eqByteS (k : Nat) (a0 : List Int) (a1 : List Int) : Option (Bool) :=
  cond ((a0.length : Int) != (a1.length : Int)) (some false) (iter (fun v next => L_eqByteS_g0 k (a0, a1) v next (fun y3 => some true) (fun y4 => some y4)) k (0 : Int))
def L_eqShape (k : Nat) (a0 : Shape) (a1 : Shape) : Option (Bool) :=
  cond (a0.h != a1.h) (some false) (cond (a0.w != a1.w) (some false) (cond (a0.c != a1.c) (some false) (some true)))
def L_eqIntS_g0 {ρ : Type} (k : Nat) (p : List Int × List Int) (v : Int) (next : Int → Option ρ) (x0 : Unit → Option ρ) (xret : Bool → Option ρ) : Option ρ :=
  cond (decide (v < (p.1.length : Int))) ((idx p.1 v).bind fun e1 => (idx p.2 v).bind fun e2 => cond (e1 != e2) (xret false) (next (IntKind.i64.wrap (v + (1 : Int))))) (x0 ())
def L_eqIntS (k : Nat) (a0 : List Int) (a1 : List Int) : Option (Bool) :=
  cond ((a0.length : Int) != (a1.length : Int)) (some false) (iter (fun v next => L_eqIntS_g0 k (a0, a1) v next (fun y3 => some true) (fun y4 => some y4)) k (0 : Int))
def L_eqTensor (k : Nat) (a0 : Tensor) (a1 : Tensor) : Option (Bool) :=
  (L_eqShape k a0.sh a1.sh).bind fun r1 => cond (!r1) (some false) ((L_eqIntS k a0.data a1.data).bind fun r2 => cond (!r2) (some false) (some true))
def L_eqStep (k : Nat) (a0 : Step) (a1 : Step) : Option (Bool) :=
  cond (a0.kind != a1.kind) (some false) (cond (a0.a != a1.a) (some false) (cond (a0.b != a1.b) (some false) ((L_eqByteS k a0.data a1.data).bind fun r1 => cond (!r1) (some false) ((L_eqTensor k a0.input a1.input).bind fun r2 => cond (!r2) (some false) (some true)))))
def L_FnExactSameStep (k : Nat) (a0 : Step) (a1 : Step) : Option (Bool) :=
  (L_szStep k a0 (1048576 : Int)).bind fun r1 => cond (decide (r1 < (0 : Int))) (some true) ((L_szStep k a1 r1).bind fun r2 => cond (decide (r2 < (0 : Int))) (some true) ((L_toStep k a0).bind fun r3 => (L_toStep k a1).bind fun r4 => (S_SameStep k r3 r4).bind fun r5 => (L_toStep k a0).bind fun r6 => (L_toStep k a1).bind fun r7 => (I_SameStep k r6 r7).bind fun r8 => cond (!(r8 == r5)) (some false) ((L_toStep k a0).bind fun r9 => (L_eqStep k r6 r9).bind fun r10 => cond (!r10) (some false) ((L_toStep k a1).bind fun r11 => (L_eqStep k r7 r11).bind fun r12 => cond (!r12) (some false) (some true)))))
end Go.Proofs.Ev
