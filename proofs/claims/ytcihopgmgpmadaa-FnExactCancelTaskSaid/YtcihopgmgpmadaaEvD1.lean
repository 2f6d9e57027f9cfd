/- Text of this claim. -/
import Derived.Test.YtcihopgmgpmadaaEvK4
set_option linter.unusedVariables false
set_option linter.unusedSimpArgs false
set_option linter.unusedVariables false
set_option linter.unusedSimpArgs false
set_option maxRecDepth 100000
namespace Go.Proofs.Ev
noncomputable section
def L_szIntS (k : Nat) (a0 : List Int) (a1 : Int) : Option (Int) :=
  cond (decide ((IntKind.i64.wrap (a1 - (a0.length : Int))) < (0 : Int))) (some (-1 : Int)) (some (IntKind.i64.wrap (a1 - (a0.length : Int))))
def L_szTensor (k : Nat) (a0 : Tensor) (a1 : Int) : Option (Int) :=
  (L_szIntS k a0.data a1).bind fun r1 => cond (decide (r1 < (0 : Int))) (some (-1 : Int)) (some r1)
def L_toShape (k : Nat) (a0 : Shape) : Option (Shape) :=
  some a0
def L_toIntS_g0 {ρ : Type} (k : Nat) (p : List Int) (v : Int × List Int) (next : (Int × List Int) → Option ρ) (x0 : (List Int) → Option ρ) : Option ρ :=
  cond (decide (v.1 < (p.length : Int))) ((idx p v.1).bind fun e1 => cond (decide (0 ≤ v.1 ∧ v.1 < (v.2.length : Int))) (next (IntKind.i64.wrap (v.1 + (1 : Int)), v.2.set v.1.toNat e1)) none) (x0 v.2)
def L_toIntS (k : Nat) (a0 : List Int) : Option (List Int) :=
  cond (decide (0 ≤ (a0.length : Int) ∧ (a0.length : Int) ≤ (a0.length : Int) ∧ (a0.length : Int) ≤ (maxN : Int))) (iter (fun u3 n3 => L_toIntS_g0 k a0 u3 n3 (fun y2 => some y2)) k ((0 : Int), List.replicate ((a0.length : Int).toNat) (0 : Int))) none
def L_toTensor (k : Nat) (a0 : Tensor) : Option (Tensor) :=
  (L_toShape k a0.sh).bind fun r1 => (L_toIntS k a0.data).bind fun r2 => some (⟨r1, r2⟩ : Tensor)
def S_l01Copy_g0 {ρ : Type} (k : Nat) (p : List Int) (v : Int × List Int) (next : (Int × List Int) → Option ρ) (x0 : (List Int) → Option ρ) : Option ρ :=
  cond (decide (v.1 < (p.length : Int))) ((idx p v.1).bind fun e1 => cond (Nat.ble (v.2.length + [e1].length) maxN) (next (IntKind.i64.wrap (v.1 + (1 : Int)), v.2 ++ [e1])) none) (x0 v.2)
def S_l01Copy (k : Nat) (a0 : List Int) : Option (List Int) :=
  iter (fun u3 n3 => S_l01Copy_g0 k a0 u3 n3 (fun y2 => some y2)) k ((0 : Int), ([] : List Int))
def S_l02Copy (k : Nat) (a0 : Tensor) : Option (Tensor) :=
  (S_l01Copy k a0.data).bind fun r1 => some (⟨a0.sh, r1⟩ : Tensor)
def S_l01In (k : Nat) (a0 : Int) (a1 : Int) (a2 : Int) : Option (Bool) :=
  cond (decide (a1 ≤ a0)) (some (decide (a0 ≤ a2))) (some false)
def S_ShapeOk (k : Nat) (a0 : Shape) : Option (Bool) :=
  (S_l01In k a0.h (1 : Int) (8 : Int)).bind fun r1 => cond (r1) ((S_l01In k a0.w (1 : Int) (8 : Int)).bind fun r2 => cond (r2) ((S_l01In k a0.c (1 : Int) (8 : Int)).bind fun r3 => some r3) (some false)) (some false)
def S_SizeOf (k : Nat) (a0 : Shape) : Option (Int) :=
  (S_ShapeOk k a0).bind fun r1 => cond (!r1) (some (0 : Int)) (some (IntKind.i64.wrap ((IntKind.i64.wrap (a0.h * a0.w)) * a0.c)))
def S_l02Int8 (k : Nat) (a0 : Int) : Option (Bool) :=
  (S_l01In k a0 (-128 : Int) (127 : Int)).bind fun r1 => some r1
def S_TensorOk_g0 {ρ : Type} (k : Nat) (p : Int × Int × Int × List Int) (v : Int) (next : Int → Option ρ) (x0 : Unit → Option ρ) (xret : Bool → Option ρ) : Option ρ :=
  cond (decide (v < (p.2.2.2.length : Int))) ((idx p.2.2.2 v).bind fun e3 => (S_l02Int8 k e3).bind fun r4 => cond (!r4) (xret false) (next (IntKind.i64.wrap (v + (1 : Int))))) (x0 ())
def S_TensorOk (k : Nat) (a0 : Tensor) : Option (Bool) :=
  (S_ShapeOk k a0.sh).bind fun r1 => cond (!r1) (some false) ((S_SizeOf k a0.sh).bind fun r2 => cond ((a0.data.length : Int) != r2) (some false) (iter (fun u7 n7 => S_TensorOk_g0 k (a0.sh.h, a0.sh.w, a0.sh.c, a0.data) u7 n7 (fun y5 => some true) (fun y6 => some y6)) k (0 : Int)))
def S_Reshape (k : Nat) (a0 : Tensor) (a1 : Shape) : Option (Tensor × Bool) :=
  (S_l02Copy k a0).bind fun r1 => (S_TensorOk k a0).bind fun r2 => cond (!r2) (some (r1, false)) ((S_ShapeOk k a1).bind fun r3 => cond (!r3) (some (r1, false)) ((S_SizeOf k a1).bind fun r4 => cond (r4 != (a0.data.length : Int)) (some (r1, false)) (some ((⟨a1, r1.data⟩ : Tensor), true))))
def slices_Clone_lint_int (k : Nat) (a0 : List Int) : Option (List Int) :=
  cond (isNil a0) (both (some ([] : List Int)) (cond (Nat.ble (([] : List Int).length + a0.length) maxN) (some (([] : List Int) ++ a0)) none)) (cond (Nat.ble (([] : List Int).length + a0.length) maxN) (some (([] : List Int) ++ a0)) none)
def I_Tensor_copied (k : Nat) (a0 : Tensor) : Option (Tensor) :=
  (slices_Clone_lint_int k a0.data).bind fun r1 => some (⟨a0.sh, r1⟩ : Tensor)
def I_in (k : Nat) (a0 : Int) (a1 : Int) (a2 : Int) : Option (Bool) :=
  cond (decide (a1 ≤ a0)) (some (decide (a0 ≤ a2))) (some false)
def I_ShapeOk (k : Nat) (a0 : Shape) : Option (Bool) :=
  (I_in k a0.h (1 : Int) (8 : Int)).bind fun r1 => cond (r1) ((I_in k a0.w (1 : Int) (8 : Int)).bind fun r2 => cond (r2) ((I_in k a0.c (1 : Int) (8 : Int)).bind fun r3 => some r3) (some false)) (some false)
def I_SizeOf (k : Nat) (a0 : Shape) : Option (Int) :=
  (I_ShapeOk k a0).bind fun r1 => cond (!r1) (some (0 : Int)) (some (IntKind.i64.wrap ((IntKind.i64.wrap (a0.h * a0.w)) * a0.c)))
def I_areItems_c1 (k : Nat) (a0 : Int) : Option (Bool) :=
  (I_in k a0 (-128 : Int) (127 : Int)).bind fun r1 => some (!r1)
def slices_IndexFunc_lint_int__I_areItems_c1_g0 {ρ : Type} (k : Nat) (p : List Int × Int) (v : Int) (next : Int → Option ρ) (x0 : Unit → Option ρ) (xret : Int → Option ρ) : Option ρ :=
  cond (decide (v < p.2)) ((idx p.1 v).bind fun e1 => (I_areItems_c1 k e1).bind fun r2 => cond (r2) (xret v) (next (IntKind.i64.wrap (v + (1 : Int))))) (x0 ())
def slices_IndexFunc_lint_int__I_areItems_c1 (k : Nat) (a0 : List Int) : Option (Int) :=
  iter (fun u5 n5 => slices_IndexFunc_lint_int__I_areItems_c1_g0 k (a0, (a0.length : Int)) u5 n5 (fun y3 => some (-1 : Int)) (fun y4 => some y4)) k (0 : Int)
def slices_ContainsFunc_lint_int__I_areItems_c1 (k : Nat) (a0 : List Int) : Option (Bool) :=
  (slices_IndexFunc_lint_int__I_areItems_c1 k a0).bind fun r1 => some (decide (r1 ≥ (0 : Int)))
def I_areItems (k : Nat) (a0 : List Int) : Option (Bool) :=
  (slices_ContainsFunc_lint_int__I_areItems_c1 k a0).bind fun r1 => some (!r1)
def I_TensorOk (k : Nat) (a0 : Tensor) : Option (Bool) :=
  (I_ShapeOk k a0.sh).bind fun r1 => cond (r1) ((I_SizeOf k a0.sh).bind fun r2 => cond ((a0.data.length : Int) == r2) ((I_areItems k a0.data).bind fun r3 => some r3) (some false)) (some false)
def I_Reshape (k : Nat) (a0 : Tensor) (a1 : Shape) : Option (Tensor × Bool) :=
  (I_Tensor_copied k a0).bind fun r1 => (I_TensorOk k a0).bind fun r2 => cond (!r2) (some (r1, false)) ((I_ShapeOk k a1).bind fun r3 => cond (!r3) (some (r1, false)) ((I_SizeOf k a1).bind fun r4 => cond (r4 != (a0.data.length : Int)) (some (r1, false)) (some ((⟨a1, r1.data⟩ : Tensor), true))))
def L_eqShape (k : Nat) (a0 : Shape) (a1 : Shape) : Option (Bool) :=
  cond (a0.h != a1.h) (some false) (cond (a0.w != a1.w) (some false) (cond (a0.c != a1.c) (some false) (some true)))
def L_eqIntS_g0 {ρ : Type} (k : Nat) (p : List Int × List Int) (v : Int) (next : Int → Option ρ) (x0 : Unit → Option ρ) (xret : Bool → Option ρ) : Option ρ :=
  cond (decide (v < (p.1.length : Int))) ((idx p.1 v).bind fun e1 => (idx p.2 v).bind fun e2 => cond (e1 != e2) (xret false) (next (IntKind.i64.wrap (v + (1 : Int))))) (x0 ())
def L_eqIntS (k : Nat) (a0 : List Int) (a1 : List Int) : Option (Bool) :=
  cond ((a0.length : Int) != (a1.length : Int)) (some false) (iter (fun u5 n5 => L_eqIntS_g0 k (a0, a1) u5 n5 (fun y3 => some true) (fun y4 => some y4)) k (0 : Int))
def L_eqTensor (k : Nat) (a0 : Tensor) (a1 : Tensor) : Option (Bool) :=
  (L_eqShape k a0.sh a1.sh).bind fun r1 => cond (!r1) (some false) ((L_eqIntS k a0.data a1.data).bind fun r2 => cond (!r2) (some false) (some true))
def L_markIntS_m3_g0 {ρ : Type} (k : Nat) (p : Unit) (v : Int × Int × List Int) (next : (Int × Int × List Int) → Option ρ) (x0 : (Int × List Int) → Option ρ) : Option ρ :=
  cond (decide (v.2.1 < (v.2.2.length : Int))) (cond (decide (0 ≤ v.2.1 ∧ v.2.1 < (v.2.2.length : Int))) (next (IntKind.i64.wrap (v.1 + (1 : Int)), IntKind.i64.wrap (v.2.1 + (1 : Int)), v.2.2.set v.2.1.toNat v.1)) none) (x0 (v.1, v.2.2))
def L_markIntS_m3 (k : Nat) (a0 : List Int) (a1 : Int) : Option (Int × List Int) :=
  iter (fun u2 n2 => L_markIntS_m3_g0 k () u2 n2 (fun y1 => some (y1.1, y1.2))) k (a1, (0 : Int), a0)
def L_markTensor_m2 (k : Nat) (a0 : Tensor) (a1 : Int) : Option (Int × List Int) :=
  (L_markIntS_m3 k a0.data a1).bind fun r1 => some (r1.1, r1.2)
def L_heldIntS_g0 {ρ : Type} (k : Nat) (p : List Int) (v : Int × Int) (next : (Int × Int) → Option ρ) (x0 : Int → Option ρ) (xret : Int → Option ρ) : Option ρ :=
  cond (decide (v.2 < (p.length : Int))) ((idx p v.2).bind fun e1 => cond (e1 != v.1) (xret (-1 : Int)) (next (IntKind.i64.wrap (v.1 + (1 : Int)), IntKind.i64.wrap (v.2 + (1 : Int))))) (x0 v.1)
def L_heldIntS (k : Nat) (a0 : List Int) (a1 : Int) : Option (Int) :=
  iter (fun u4 n4 => L_heldIntS_g0 k a0 u4 n4 (fun y2 => some y2) (fun y3 => some y3)) k (a1, (0 : Int))
def L_heldTensor (k : Nat) (a0 : Tensor) (a1 : Int) : Option (Int) :=
  (L_heldIntS k a0.data a1).bind fun r1 => cond (decide (r1 < (0 : Int))) (some (-1 : Int)) (some r1)
def L_FnExactReshape (k : Nat) (a0 : Tensor) (a1 : Shape) : Option (Bool) :=
  (L_szTensor k a0 (1048576 : Int)).bind fun r1 => cond (decide (r1 < (0 : Int))) (some true) ((L_toTensor k a0).bind fun r2 => (L_toShape k a1).bind fun r3 => (S_Reshape k r2 r3).bind fun r4 => (L_toTensor k a0).bind fun r5 => (L_toShape k a1).bind fun r6 => (I_Reshape k r5 r6).bind fun r7 => (L_eqTensor k r7.1 r4.1).bind fun r8 => cond (!r8) (some false) (cond (!(r7.2 == r4.2)) (some false) ((L_toTensor k a0).bind fun r9 => (L_eqTensor k r5 r9).bind fun r10 => cond (!r10) (some false) ((L_markTensor_m2 k r5 (1 : Int)).bind fun r11 => cond (decide (r11.1 < (0 : Int))) (some false) ((L_eqTensor k r7.1 r4.1).bind fun r12 => cond (!r12) (some false) (cond (!(r7.2 == r4.2)) (some false) ((L_markTensor_m2 k r7.1 (1 : Int)).bind fun r13 => (L_heldTensor k (⟨r7.1.sh, r13.2⟩ : Tensor) (1 : Int)).bind fun r14 => cond (decide (r14 < (0 : Int))) (some false) (cond (r14 != r13.1) (some false) ((L_toTensor k a0).bind fun r15 => (L_toShape k a1).bind fun r16 => (I_Reshape k r15 r16).bind fun r17 => (L_eqTensor k r17.1 r4.1).bind fun r18 => cond (!r18) (some false) (cond (!(r17.2 == r4.2)) (some false) ((L_heldTensor k (⟨r7.1.sh, r13.2⟩ : Tensor) (1 : Int)).bind fun r19 => cond (decide (r19 < (0 : Int))) (some false) (cond (r19 != r13.1) (some false) (some true)))))))))))))
def L_szByteS (k : Nat) (a0 : List Int) (a1 : Int) : Option (Int) :=
  cond (decide ((IntKind.i64.wrap (a1 - (a0.length : Int))) < (0 : Int))) (some (-1 : Int)) (some (IntKind.i64.wrap (a1 - (a0.length : Int))))
def L_szStep (k : Nat) (a0 : Step) (a1 : Int) : Option (Int) :=
  (L_szByteS k a0.data a1).bind fun r1 => cond (decide (r1 < (0 : Int))) (some (-1 : Int)) ((L_szTensor k a0.input r1).bind fun r2 => cond (decide (r2 < (0 : Int))) (some (-1 : Int)) (some r2))
def L_toByteS_g0 {ρ : Type} (k : Nat) (p : List Int) (v : Int × List Int) (next : (Int × List Int) → Option ρ) (x0 : (List Int) → Option ρ) : Option ρ :=
  cond (decide (v.1 < (p.length : Int))) ((idx p v.1).bind fun e1 => cond (decide (0 ≤ v.1 ∧ v.1 < (v.2.length : Int))) (next (IntKind.i64.wrap (v.1 + (1 : Int)), v.2.set v.1.toNat e1)) none) (x0 v.2)
def L_toByteS (k : Nat) (a0 : List Int) : Option (List Int) :=
  cond (decide (0 ≤ (a0.length : Int) ∧ (a0.length : Int) ≤ (a0.length : Int) ∧ (a0.length : Int) ≤ (maxN : Int))) (iter (fun u3 n3 => L_toByteS_g0 k a0 u3 n3 (fun y2 => some y2)) k ((0 : Int), List.replicate ((a0.length : Int).toNat) (0 : Int))) none
def L_toStep (k : Nat) (a0 : Step) : Option (Step) :=
  (L_toByteS k a0.data).bind fun r1 => (L_toTensor k a0.input).bind fun r2 => some (⟨a0.kind, a0.a, a0.b, r1, r2⟩ : Step)
def S_l01Same_g0 {ρ : Type} (k : Nat) (p : List Int × List Int) (v : Int) (next : Int → Option ρ) (x0 : Unit → Option ρ) (xret : Bool → Option ρ) : Option ρ :=
  cond (decide (v < (p.1.length : Int))) ((idx p.1 v).bind fun e1 => (idx p.2 v).bind fun e2 => cond (e1 != e2) (xret false) (next (IntKind.i64.wrap (v + (1 : Int))))) (x0 ())
def S_l01Same (k : Nat) (a0 : List Int) (a1 : List Int) : Option (Bool) :=
  cond ((a0.length : Int) != (a1.length : Int)) (some false) (iter (fun u5 n5 => S_l01Same_g0 k (a0, a1) u5 n5 (fun y3 => some true) (fun y4 => some y4)) k (0 : Int))
def S_l03Same_g0 {ρ : Type} (k : Nat) (p : List Int × List Int) (v : Int) (next : Int → Option ρ) (x0 : Unit → Option ρ) (xret : Bool → Option ρ) : Option ρ :=
  cond (decide (v < (p.1.length : Int))) ((idx p.1 v).bind fun e1 => (idx p.2 v).bind fun e2 => cond (e1 != e2) (xret false) (next (IntKind.i64.wrap (v + (1 : Int))))) (x0 ())
def S_l03Same (k : Nat) (a0 : List Int) (a1 : List Int) : Option (Bool) :=
  cond ((a0.length : Int) != (a1.length : Int)) (some false) (iter (fun u5 n5 => S_l03Same_g0 k (a0, a1) u5 n5 (fun y3 => some true) (fun y4 => some y4)) k (0 : Int))
def S_SameStep (k : Nat) (a0 : Step) (a1 : Step) : Option (Bool) :=
  cond (a0.kind == a1.kind) (cond (a0.a == a1.a) (cond (a0.b == a1.b) ((S_l01Same k a0.data a1.data).bind fun r1 => cond (r1) (cond (cond (a0.input.sh.h == a1.input.sh.h) (cond (a0.input.sh.w == a1.input.sh.w) (cond (a0.input.sh.c == a1.input.sh.c) (true) false) false) false) ((S_l03Same k a0.input.data a1.input.data).bind fun r2 => some r2) (some false)) (some false)) (some false)) (some false)) (some false)
def bytes_Equal (k : Nat) (a0 : List Int) (a1 : List Int) : Option (Bool) :=
  some ((bytesOf a0) == (bytesOf a1))
def slices_Equal_lint_int_g0 {ρ : Type} (k : Nat) (p : List Int × List Int × Int) (v : Int) (next : Int → Option ρ) (x0 : Unit → Option ρ) (xret : Bool → Option ρ) : Option ρ :=
  cond (decide (v < p.2.2)) ((idx p.1 v).bind fun e1 => (idx p.2.1 v).bind fun e2 => cond (e1 != e2) (xret false) (next (IntKind.i64.wrap (v + (1 : Int))))) (x0 ())
def slices_Equal_lint_int (k : Nat) (a0 : List Int) (a1 : List Int) : Option (Bool) :=
  cond ((a0.length : Int) != (a1.length : Int)) (some false) (iter (fun u5 n5 => slices_Equal_lint_int_g0 k (a0, a1, (a0.length : Int)) u5 n5 (fun y3 => some true) (fun y4 => some y4)) k (0 : Int))
def I_Tensor_same (k : Nat) (a0 : Tensor) (a1 : Tensor) : Option (Bool) :=
  cond (cond (a0.sh.h == a1.sh.h) (cond (a0.sh.w == a1.sh.w) (cond (a0.sh.c == a1.sh.c) (true) false) false) false) ((slices_Equal_lint_int k a0.data a1.data).bind fun r1 => some r1) (some false)
def I_SameStep (k : Nat) (a0 : Step) (a1 : Step) : Option (Bool) :=
  cond (a0.kind == a1.kind) (cond (a0.a == a1.a) (cond (a0.b == a1.b) ((bytes_Equal k a0.data a1.data).bind fun r1 => cond (r1) ((I_Tensor_same k a0.input a1.input).bind fun r2 => some r2) (some false)) (some false)) (some false)) (some false)
def L_eqByteS_g0 {ρ : Type} (k : Nat) (p : List Int × List Int) (v : Int) (next : Int → Option ρ) (x0 : Unit → Option ρ) (xret : Bool → Option ρ) : Option ρ :=
  cond (decide (v < (p.1.length : Int))) ((idx p.1 v).bind fun e1 => (idx p.2 v).bind fun e2 => cond (e1 != e2) (xret false) (next (IntKind.i64.wrap (v + (1 : Int))))) (x0 ())
def L_eqByteS (k : Nat) (a0 : List Int) (a1 : List Int) : Option (Bool) :=
  cond ((a0.length : Int) != (a1.length : Int)) (some false) (iter (fun u5 n5 => L_eqByteS_g0 k (a0, a1) u5 n5 (fun y3 => some true) (fun y4 => some y4)) k (0 : Int))
def L_eqStep (k : Nat) (a0 : Step) (a1 : Step) : Option (Bool) :=
  cond (a0.kind != a1.kind) (some false) (cond (a0.a != a1.a) (some false) (cond (a0.b != a1.b) (some false) ((L_eqByteS k a0.data a1.data).bind fun r1 => cond (!r1) (some false) ((L_eqTensor k a0.input a1.input).bind fun r2 => cond (!r2) (some false) (some true)))))
def L_FnExactSameStep (k : Nat) (a0 : Step) (a1 : Step) : Option (Bool) :=
  (L_szStep k a0 (1048576 : Int)).bind fun r1 => cond (decide (r1 < (0 : Int))) (some true) ((L_szStep k a1 r1).bind fun r2 => cond (decide (r2 < (0 : Int))) (some true) ((L_toStep k a0).bind fun r3 => (L_toStep k a1).bind fun r4 => (S_SameStep k r3 r4).bind fun r5 => (L_toStep k a0).bind fun r6 => (L_toStep k a1).bind fun r7 => (I_SameStep k r6 r7).bind fun r8 => cond (!(r8 == r5)) (some false) ((L_toStep k a0).bind fun r9 => (L_eqStep k r6 r9).bind fun r10 => cond (!r10) (some false) ((L_toStep k a1).bind fun r11 => (L_eqStep k r7 r11).bind fun r12 => cond (!r12) (some false) (some true)))))
def S_FlatOf (k : Nat) (a0 : Tensor) : Option (Tensor × Bool) :=
  (S_Reshape k a0 (⟨(1 : Int), (1 : Int), (a0.data.length : Int)⟩ : Shape)).bind fun r1 => some (r1.1, r1.2)
def I_FlatOf (k : Nat) (a0 : Tensor) : Option (Tensor × Bool) :=
  (I_Reshape k a0 (⟨(1 : Int), (1 : Int), (a0.data.length : Int)⟩ : Shape)).bind fun r1 => some (r1.1, r1.2)
def L_FnExactFlatOf (k : Nat) (a0 : Tensor) : Option (Bool) :=
  (L_szTensor k a0 (1048576 : Int)).bind fun r1 => cond (decide (r1 < (0 : Int))) (some true) ((L_toTensor k a0).bind fun r2 => (S_FlatOf k r2).bind fun r3 => (L_toTensor k a0).bind fun r4 => (I_FlatOf k r4).bind fun r5 => (L_eqTensor k r5.1 r3.1).bind fun r6 => cond (!r6) (some false) (cond (!(r5.2 == r3.2)) (some false) ((L_toTensor k a0).bind fun r7 => (L_eqTensor k r4 r7).bind fun r8 => cond (!r8) (some false) ((L_markTensor_m2 k r4 (1 : Int)).bind fun r9 => cond (decide (r9.1 < (0 : Int))) (some false) ((L_eqTensor k r5.1 r3.1).bind fun r10 => cond (!r10) (some false) (cond (!(r5.2 == r3.2)) (some false) ((L_markTensor_m2 k r5.1 (1 : Int)).bind fun r11 => (L_heldTensor k (⟨r5.1.sh, r11.2⟩ : Tensor) (1 : Int)).bind fun r12 => cond (decide (r12 < (0 : Int))) (some false) (cond (r12 != r11.1) (some false) ((L_toTensor k a0).bind fun r13 => (I_FlatOf k r13).bind fun r14 => (L_eqTensor k r14.1 r3.1).bind fun r15 => cond (!r15) (some false) (cond (!(r14.2 == r3.2)) (some false) ((L_heldTensor k (⟨r5.1.sh, r11.2⟩ : Tensor) (1 : Int)).bind fun r16 => cond (decide (r16 < (0 : Int))) (some false) (cond (r16 != r11.1) (some false) (some true)))))))))))))
def L_szTensorS_g0 {ρ : Type} (k : Nat) (p : List Tensor) (v : Int × Int) (next : (Int × Int) → Option ρ) (x0 : Int → Option ρ) (xret : Int → Option ρ) : Option ρ :=
  cond (decide (v.2 < (p.length : Int))) ((idx p v.2).bind fun e1 => (L_szTensor k e1 v.1).bind fun r2 => cond (decide (r2 < (0 : Int))) (xret (-1 : Int)) (next (r2, IntKind.i64.wrap (v.2 + (1 : Int))))) (x0 v.1)
def L_szTensorS (k : Nat) (a0 : List Tensor) (a1 : Int) : Option (Int) :=
  cond (decide ((IntKind.i64.wrap (a1 - (a0.length : Int))) < (0 : Int))) (some (-1 : Int)) (iter (fun u5 n5 => L_szTensorS_g0 k a0 u5 n5 (fun y3 => some y3) (fun y4 => some y4)) k (IntKind.i64.wrap (a1 - (a0.length : Int)), (0 : Int)))
def L_toTensorS_g0 {ρ : Type} (k : Nat) (p : List Tensor) (v : Int × List Tensor) (next : (Int × List Tensor) → Option ρ) (x0 : (List Tensor) → Option ρ) : Option ρ :=
  cond (decide (v.1 < (p.length : Int))) ((idx p v.1).bind fun e1 => (L_toTensor k e1).bind fun r2 => cond (decide (0 ≤ v.1 ∧ v.1 < (v.2.length : Int))) (next (IntKind.i64.wrap (v.1 + (1 : Int)), v.2.set v.1.toNat r2)) none) (x0 v.2)
def L_toTensorS (k : Nat) (a0 : List Tensor) : Option (List Tensor) :=
  cond (decide (0 ≤ (a0.length : Int) ∧ (a0.length : Int) ≤ (a0.length : Int) ∧ (a0.length : Int) ≤ (maxN : Int))) (iter (fun u4 n4 => L_toTensorS_g0 k a0 u4 n4 (fun y3 => some y3)) k ((0 : Int), List.replicate ((a0.length : Int).toNat) (⟨(⟨(0 : Int), (0 : Int), (0 : Int)⟩ : Shape), ([] : List Int)⟩ : Tensor))) none
def S_JoinBatch_g1 {ρ : Type} (k : Nat) (p : List Tensor × Int × Int × Int × Int × Int × Int × Int × Int × Int × Int × List Int) (v : Int × List Int) (next : (Int × List Int) → Option ρ) (x2 : (List Int) → Option ρ) : Option ρ :=
  cond (decide (v.1 < (p.2.2.2.2.2.2.2.2.2.2.2.length : Int))) ((idx p.2.2.2.2.2.2.2.2.2.2.2 v.1).bind fun e5 => cond (Nat.ble (v.2.length + [e5].length) maxN) (next (IntKind.i64.wrap (v.1 + (1 : Int)), v.2 ++ [e5])) none) (x2 v.2)
def S_JoinBatch_g0 {ρ : Type} (k : Nat) (p : List Tensor × Int × Int × Int × Int × Int × Int) (v : Int × List Int) (next : (Int × List Int) → Option ρ) (x0 : (List Int) → Option ρ) (xret : (Bool × Int × Int × Int) → Option ρ) : Option ρ :=
  cond (decide (v.1 < (p.1.length : Int))) ((idx p.1 v.1).bind fun e2 => (S_TensorOk k e2).bind fun r3 => cond (!r3) (xret (false, (0 : Int), (0 : Int), (0 : Int))) (cond (e2.sh.h != (1 : Int)) (xret (false, (0 : Int), (0 : Int), (0 : Int))) (cond (e2.sh.w != (1 : Int)) (xret (false, (0 : Int), (0 : Int), (0 : Int))) ((idx p.1 (0 : Int)).bind fun e4 => cond (e2.sh.c != e4.sh.c) (xret (false, (0 : Int), (0 : Int), (0 : Int))) (iter (fun u7 n7 => S_JoinBatch_g1 k (p.1, v.1, p.2.1, p.2.2.1, p.2.2.2.1, p.2.2.2.2.1, p.2.2.2.2.2.1, p.2.2.2.2.2.2, e2.sh.h, e2.sh.w, e2.sh.c, e2.data) u7 n7 (fun y6 => next (IntKind.i64.wrap (v.1 + (1 : Int)), y6))) k ((0 : Int), v.2)))))) (x0 v.2)
def S_JoinBatch (k : Nat) (a0 : List Tensor) : Option (Tensor × Bool) :=
  (S_l01In k (a0.length : Int) (1 : Int) (8 : Int)).bind fun r1 => cond (!r1) (some ((⟨(⟨(0 : Int), (0 : Int), (0 : Int)⟩ : Shape), ([] : List Int)⟩ : Tensor), false)) (iter (fun u11 n11 => S_JoinBatch_g0 k (a0, (0 : Int), (0 : Int), (0 : Int), (0 : Int), (0 : Int), (0 : Int)) u11 n11 (fun y8 => (idx a0 (0 : Int)).bind fun e9 => some ((⟨(⟨(a0.length : Int), (1 : Int), e9.sh.c⟩ : Shape), y8⟩ : Tensor), true)) (fun y10 => some ((⟨(⟨y10.2.1, y10.2.2.1, y10.2.2.2⟩ : Shape), ([] : List Int)⟩ : Tensor), y10.1))) k ((0 : Int), ([] : List Int)))
def I_JoinBatch_g0 {ρ : Type} (k : Nat) (p : List Tensor × Int × Int × Int × Int × Int × Int × Int) (v : Int × List Int) (next : (Int × List Int) → Option ρ) (x0 : (List Int) → Option ρ) (xret : (Bool × Int × Int × Int) → Option ρ) : Option ρ :=
  cond (decide (v.1 < p.2.1)) ((idx p.1 v.1).bind fun e3 => (I_TensorOk k e3).bind fun r4 => cond (!r4) (xret (false, (0 : Int), (0 : Int), (0 : Int))) (cond (!(cond (e3.sh.h == (1 : Int)) (cond (e3.sh.w == (1 : Int)) (cond (e3.sh.c == p.2.2.2.2.2.2.2) (true) false) false) false)) (xret (false, (0 : Int), (0 : Int), (0 : Int))) (cond (Nat.ble (v.2.length + e3.data.length) maxN) (next (IntKind.i64.wrap (v.1 + (1 : Int)), v.2 ++ e3.data)) none))) (x0 v.2)
def I_JoinBatch (k : Nat) (a0 : List Tensor) : Option (Tensor × Bool) :=
  (I_in k (a0.length : Int) (1 : Int) (8 : Int)).bind fun r1 => cond (!r1) (some ((⟨(⟨(0 : Int), (0 : Int), (0 : Int)⟩ : Shape), ([] : List Int)⟩ : Tensor), false)) ((idx a0 (0 : Int)).bind fun e2 => iter (fun u7 n7 => I_JoinBatch_g0 k (a0, (a0.length : Int), (0 : Int), (0 : Int), (0 : Int), (a0.length : Int), (1 : Int), e2.sh.c) u7 n7 (fun y5 => some ((⟨(⟨(a0.length : Int), (1 : Int), e2.sh.c⟩ : Shape), y5⟩ : Tensor), true)) (fun y6 => some ((⟨(⟨y6.2.1, y6.2.2.1, y6.2.2.2⟩ : Shape), ([] : List Int)⟩ : Tensor), y6.1))) k ((0 : Int), ([] : List Int)))
def L_eqTensorS_g0 {ρ : Type} (k : Nat) (p : List Tensor × List Tensor) (v : Int) (next : Int → Option ρ) (x0 : Unit → Option ρ) (xret : Bool → Option ρ) : Option ρ :=
  cond (decide (v < (p.1.length : Int))) ((idx p.1 v).bind fun e1 => (idx p.2 v).bind fun e2 => (L_eqTensor k e1 e2).bind fun r3 => cond (!r3) (xret false) (next (IntKind.i64.wrap (v + (1 : Int))))) (x0 ())
def L_eqTensorS (k : Nat) (a0 : List Tensor) (a1 : List Tensor) : Option (Bool) :=
  cond ((a0.length : Int) != (a1.length : Int)) (some false) (iter (fun u6 n6 => L_eqTensorS_g0 k (a0, a1) u6 n6 (fun y4 => some true) (fun y5 => some y5)) k (0 : Int))
def L_szStepS_g0 {ρ : Type} (k : Nat) (p : List Step) (v : Int × Int) (next : (Int × Int) → Option ρ) (x0 : Int → Option ρ) (xret : Int → Option ρ) : Option ρ :=
  cond (decide (v.2 < (p.length : Int))) ((idx p v.2).bind fun e1 => (L_szStep k e1 v.1).bind fun r2 => cond (decide (r2 < (0 : Int))) (xret (-1 : Int)) (next (r2, IntKind.i64.wrap (v.2 + (1 : Int))))) (x0 v.1)
def L_szStepS (k : Nat) (a0 : List Step) (a1 : Int) : Option (Int) :=
  cond (decide ((IntKind.i64.wrap (a1 - (a0.length : Int))) < (0 : Int))) (some (-1 : Int)) (iter (fun u5 n5 => L_szStepS_g0 k a0 u5 n5 (fun y3 => some y3) (fun y4 => some y4)) k (IntKind.i64.wrap (a1 - (a0.length : Int)), (0 : Int)))
def L_toStepS_g0 {ρ : Type} (k : Nat) (p : List Step) (v : Int × List Step) (next : (Int × List Step) → Option ρ) (x0 : (List Step) → Option ρ) : Option ρ :=
  cond (decide (v.1 < (p.length : Int))) ((idx p v.1).bind fun e1 => (L_toStep k e1).bind fun r2 => cond (decide (0 ≤ v.1 ∧ v.1 < (v.2.length : Int))) (next (IntKind.i64.wrap (v.1 + (1 : Int)), v.2.set v.1.toNat r2)) none) (x0 v.2)
def L_toStepS (k : Nat) (a0 : List Step) : Option (List Step) :=
  cond (decide (0 ≤ (a0.length : Int) ∧ (a0.length : Int) ≤ (a0.length : Int) ∧ (a0.length : Int) ≤ (maxN : Int))) (iter (fun u4 n4 => L_toStepS_g0 k a0 u4 n4 (fun y3 => some y3)) k ((0 : Int), List.replicate ((a0.length : Int).toNat) (⟨(0 : Int), (0 : Int), (0 : Int), ([] : List Int), (⟨(⟨(0 : Int), (0 : Int), (0 : Int)⟩ : Shape), ([] : List Int)⟩ : Tensor)⟩ : Step))) none
def S_FirstOther_g0 {ρ : Type} (k : Nat) (p : List Step × List Step) (v : Int) (next : Int → Option ρ) (x0 : Unit → Option ρ) (xret : Int → Option ρ) : Option ρ :=
  cond (decide (v < (p.1.length : Int))) (cond (decide (v < (p.2.length : Int))) ((idx p.1 v).bind fun e1 => (idx p.2 v).bind fun e2 => (S_SameStep k e1 e2).bind fun r3 => cond (!r3) (xret v) (next (IntKind.i64.wrap (v + (1 : Int))))) (x0 ())) (x0 ())
def S_FirstOther (k : Nat) (a0 : List Step) (a1 : List Step) : Option (Int) :=
  iter (fun u6 n6 => S_FirstOther_g0 k (a0, a1) u6 n6 (fun y4 => cond ((a0.length : Int) == (a1.length : Int)) (some (-1 : Int)) (cond (decide ((a0.length : Int) < (a1.length : Int))) (some (a0.length : Int)) (some (a1.length : Int)))) (fun y5 => some y5)) k (0 : Int)
def I_FirstOther_g0 {ρ : Type} (k : Nat) (p : List Step × List Step × Int × Int) (v : Int) (next : Int → Option ρ) (x0 : Unit → Option ρ) (xret : Int → Option ρ) : Option ρ :=
  cond (decide (v < p.2.2.2)) ((idx p.1 v).bind fun e1 => (idx p.2.1 v).bind fun e2 => (I_SameStep k e1 e2).bind fun r3 => cond (!r3) (xret v) (next (IntKind.i64.wrap (v + (1 : Int))))) (x0 ())
def I_FirstOther (k : Nat) (a0 : List Step) (a1 : List Step) : Option (Int) :=
  iter (fun u6 n6 => I_FirstOther_g0 k (a0, a1, if (a1.length : Int) < (a0.length : Int) then (a1.length : Int) else (a0.length : Int), if (a1.length : Int) < (a0.length : Int) then (a1.length : Int) else (a0.length : Int)) u6 n6 (fun y4 => cond ((a0.length : Int) == (a1.length : Int)) (some (-1 : Int)) (some (if (a1.length : Int) < (a0.length : Int) then (a1.length : Int) else (a0.length : Int)))) (fun y5 => some y5)) k (0 : Int)
def L_eqStepS_g0 {ρ : Type} (k : Nat) (p : List Step × List Step) (v : Int) (next : Int → Option ρ) (x0 : Unit → Option ρ) (xret : Bool → Option ρ) : Option ρ :=
  cond (decide (v < (p.1.length : Int))) ((idx p.1 v).bind fun e1 => (idx p.2 v).bind fun e2 => (L_eqStep k e1 e2).bind fun r3 => cond (!r3) (xret false) (next (IntKind.i64.wrap (v + (1 : Int))))) (x0 ())
def L_eqStepS (k : Nat) (a0 : List Step) (a1 : List Step) : Option (Bool) :=
  cond ((a0.length : Int) != (a1.length : Int)) (some false) (iter (fun u6 n6 => L_eqStepS_g0 k (a0, a1) u6 n6 (fun y4 => some true) (fun y5 => some y5)) k (0 : Int))
def L_FnExactFirstOther (k : Nat) (a0 : List Step) (a1 : List Step) : Option (Bool) :=
  (L_szStepS k a0 (1048576 : Int)).bind fun r1 => cond (decide (r1 < (0 : Int))) (some true) ((L_szStepS k a1 r1).bind fun r2 => cond (decide (r2 < (0 : Int))) (some true) ((L_toStepS k a0).bind fun r3 => (L_toStepS k a1).bind fun r4 => (S_FirstOther k r3 r4).bind fun r5 => (L_toStepS k a0).bind fun r6 => (L_toStepS k a1).bind fun r7 => (I_FirstOther k r6 r7).bind fun r8 => cond (r8 != r5) (some false) ((L_toStepS k a0).bind fun r9 => (L_eqStepS k r6 r9).bind fun r10 => cond (!r10) (some false) ((L_toStepS k a1).bind fun r11 => (L_eqStepS k r7 r11).bind fun r12 => cond (!r12) (some false) (some true)))))
end
end Go.Proofs.Ev
