/- Text of this claim. -/
import Derived.Test.YthaamopjdieecaaEvK5
import Derived.Test.YthaamopjdieecaaEvD1
import Derived.Test.YthaamopjdieecaaEvD3
set_option linter.unusedVariables false
set_option linter.unusedSimpArgs false
set_option linter.unusedVariables false
set_option linter.unusedSimpArgs false
set_option maxRecDepth 100000
namespace Go.Proofs.Ev
noncomputable section
def S_l14Wide (k : Nat) (a0 : Int) : Option (Bool) :=
  (S_l01In k a0 (-1099511627776 : Int) (1099511627775 : Int)).bind fun r1 => some r1
def S_PutWide_g0 {ρ : Type} (k : Nat) (p : Unit) (v : Int × List Int) (next : (Int × List Int) → Option ρ) (x0 : (Int × List Int) → Option ρ) : Option ρ :=
  cond (decide (v.1 ≥ (128 : Int))) (cond (Nat.ble (v.2.length + [(IntKind.u8.wrap (IntKind.i64.wrap ((128 : Int) + (v.1.tmod (128 : Int)))))].length) maxN) (next (IntKind.i64.wrap (v.1.tdiv (128 : Int)), v.2 ++ [(IntKind.u8.wrap (IntKind.i64.wrap ((128 : Int) + (v.1.tmod (128 : Int)))))])) none) (x0 (v.1, v.2))
def S_PutWide (k : Nat) (a0 : Int) : Option (List Int) :=
  (S_l01In k a0 (-1099511627776 : Int) (1099511627775 : Int)).bind fun r1 => cond (!r1) (some ([] : List Int)) (cond (decide (a0 < (0 : Int))) (iter (fun u3 n3 => S_PutWide_g0 k () u3 n3 (fun y2 => cond (Nat.ble (y2.2.length + [(IntKind.u8.wrap (y2.1))].length) maxN) (some (y2.2 ++ [(IntKind.u8.wrap (y2.1))])) none)) k (IntKind.i64.wrap ((IntKind.i64.wrap ((-2 : Int) * a0)) - (1 : Int)), ([] : List Int))) (iter (fun u5 n5 => S_PutWide_g0 k () u5 n5 (fun y4 => cond (Nat.ble (y4.2.length + [(IntKind.u8.wrap (y4.1))].length) maxN) (some (y4.2 ++ [(IntKind.u8.wrap (y4.1))])) none)) k (IntKind.i64.wrap ((2 : Int) * a0), ([] : List Int))))
def S_l05Put_m2_g1 {ρ : Type} (k : Nat) (p : Int × List Int × List Int) (v : Int × List Int) (next : (Int × List Int) → Option ρ) (x2 : (List Int) → Option ρ) : Option ρ :=
  cond (decide (v.1 < (p.2.2.length : Int))) (cond (decide (0 ≤ v.1 ∧ v.1 < (p.2.2.length : Int))) ((p.2.2[v.1.toNat]?).bind fun e3 => cond (Nat.ble (v.2.length + [e3].length) maxN) (next (IntKind.i64.wrap (v.1 + (1 : Int)), v.2 ++ [e3])) none) none) (x2 v.2)
def S_l05Put_m2_g0 {ρ : Type} (k : Nat) (p : List Int) (v : Int × List Int) (next : (Int × List Int) → Option ρ) (x0 : (List Int) → Option ρ) : Option ρ :=
  cond (decide (v.1 < (p.length : Int))) (cond (decide (0 ≤ v.1 ∧ v.1 < (p.length : Int))) ((p[v.1.toNat]?).bind fun e1 => (S_PutWide k e1).bind fun r2 => iter (fun u5 n5 => S_l05Put_m2_g1 k (v.1, p, r2) u5 n5 (fun y4 => next (IntKind.i64.wrap (v.1 + (1 : Int)), y4))) k ((0 : Int), v.2)) none) (x0 v.2)
def S_l05Put_m2 (k : Nat) (a1 : List Int) : Option (List Int) :=
  iter (fun u7 n7 => S_l05Put_m2_g0 k a1 u7 n7 (fun y6 => some y6)) k ((0 : Int), ([] : List Int))
def S_l01Join_g0 {ρ : Type} (k : Nat) (p : List Int) (v : Int × List Int) (next : (Int × List Int) → Option ρ) (x0 : (List Int) → Option ρ) : Option ρ :=
  cond (decide (v.1 < (p.length : Int))) ((idx p v.1).bind fun e2 => cond (Nat.ble (v.2.length + [e2].length) maxN) (next (IntKind.i64.wrap (v.1 + (1 : Int)), v.2 ++ [e2])) none) (x0 v.2)
def S_l01Join (k : Nat) (a0 : List Int) (a1 : List Int) : Option (List Int) :=
  (S_l01Bytes k a0).bind fun r1 => iter (fun u4 n4 => S_l01Join_g0 k a1 u4 n4 (fun y3 => some y3)) k ((0 : Int), r1)
def S_l05Put_m3_g1 {ρ : Type} (k : Nat) (p : Int × List Int × List Int) (v : Int × List Int) (next : (Int × List Int) → Option ρ) (x2 : (List Int) → Option ρ) : Option ρ :=
  cond (decide (v.1 < (p.2.2.length : Int))) (cond (decide (0 ≤ v.1 ∧ v.1 < (p.2.2.length : Int))) ((p.2.2[v.1.toNat]?).bind fun e3 => cond (Nat.ble (v.2.length + [e3].length) maxN) (next (IntKind.i64.wrap (v.1 + (1 : Int)), v.2 ++ [e3])) none) none) (x2 v.2)
def S_l05Put_m3_g0 {ρ : Type} (k : Nat) (p : List Int) (v : Int × List Int) (next : (Int × List Int) → Option ρ) (x0 : (List Int) → Option ρ) : Option ρ :=
  cond (decide (v.1 < (p.length : Int))) (cond (decide (0 ≤ v.1 ∧ v.1 < (p.length : Int))) ((p[v.1.toNat]?).bind fun e1 => (S_PutWide k e1).bind fun r2 => iter (fun u5 n5 => S_l05Put_m3_g1 k (v.1, p, r2) u5 n5 (fun y4 => next (IntKind.i64.wrap (v.1 + (1 : Int)), y4))) k ((0 : Int), v.2)) none) (x0 v.2)
def S_l05Put_m3 (k : Nat) (a0 : List Int) (a1 : List Int) : Option (List Int) :=
  iter (fun u7 n7 => S_l05Put_m3_g0 k a1 u7 n7 (fun y6 => cond (decide (a1 = a1)) (some y6) none)) k ((0 : Int), a0)
def S_l05Put_m4_g1 {ρ : Type} (k : Nat) (p : List Int × Int × List Int) (v : Int × List Int) (next : (Int × List Int) → Option ρ) (x2 : (List Int) → Option ρ) : Option ρ :=
  cond (decide (v.1 < (p.2.2.length : Int))) (cond (decide (0 ≤ v.1 ∧ v.1 < (p.2.2.length : Int))) ((p.2.2[v.1.toNat]?).bind fun e3 => cond (Nat.ble (v.2.length + [e3].length) maxN) (next (IntKind.i64.wrap (v.1 + (1 : Int)), v.2 ++ [e3])) none) none) (x2 v.2)
def S_l05Put_m4_g0 {ρ : Type} (k : Nat) (p : List Int) (v : Int × List Int) (next : (Int × List Int) → Option ρ) (x0 : (List Int) → Option ρ) : Option ρ :=
  cond (decide (v.1 < (p.length : Int))) ((idx p v.1).bind fun e1 => (S_PutWide k e1).bind fun r2 => iter (fun u5 n5 => S_l05Put_m4_g1 k (p, v.1, r2) u5 n5 (fun y4 => next (IntKind.i64.wrap (v.1 + (1 : Int)), y4))) k ((0 : Int), v.2)) (x0 v.2)
def S_l05Put_m4 (k : Nat) (a0 : List Int) (a1 : List Int) : Option (List Int) :=
  iter (fun u7 n7 => S_l05Put_m4_g0 k a1 u7 n7 (fun y6 => some y6)) k ((0 : Int), a0)
def S_PutStep_g0 {ρ : Type} (k : Nat) (p : Int × Int × Int × List Int × Int × Int × Int × List Int × Int × Int × Int × List Int) (v : Int) (next : Int → Option ρ) (x0 : Unit → Option ρ) (xret : Bool → Option ρ) : Option ρ :=
  cond (decide (v < (p.2.2.2.2.2.2.2.2.2.2.2.length : Int))) ((idx p.2.2.2.2.2.2.2.2.2.2.2 v).bind fun e7 => (S_l14Wide k e7).bind fun r8 => cond (!r8) (xret false) (next (IntKind.i64.wrap (v + (1 : Int))))) (x0 ())
def S_PutStep (k : Nat) (a0 : Step) : Option (List Int × Bool) :=
  cond (decide ((a0.data.length : Int) > (6000 : Int))) (some (([] : List Int), false)) (cond (decide ((a0.input.data.length : Int) > (512 : Int))) (some (([] : List Int), false)) ((S_l14Wide k a0.kind).bind fun r1 => cond (!r1) (some (([] : List Int), false)) ((S_l14Wide k a0.a).bind fun r2 => cond (!r2) (some (([] : List Int), false)) ((S_l14Wide k a0.b).bind fun r3 => cond (!r3) (some (([] : List Int), false)) ((S_l14Wide k a0.input.sh.h).bind fun r4 => cond (!r4) (some (([] : List Int), false)) ((S_l14Wide k a0.input.sh.w).bind fun r5 => cond (!r5) (some (([] : List Int), false)) ((S_l14Wide k a0.input.sh.c).bind fun r6 => cond (!r6) (some (([] : List Int), false)) (iter (fun u15 n15 => S_PutStep_g0 k (a0.kind, a0.a, a0.b, a0.data, a0.input.sh.h, a0.input.sh.w, a0.input.sh.c, a0.input.data, a0.input.sh.h, a0.input.sh.w, a0.input.sh.c, a0.input.data) u15 n15 (fun y9 => (S_l05Put_m2 k [a0.kind, a0.a, a0.b, (a0.data.length : Int)]).bind fun r10 => (S_l01Join k r10 a0.data).bind fun r11 => (S_l05Put_m3 k r11 [a0.input.sh.h, a0.input.sh.w, a0.input.sh.c, (a0.input.data.length : Int)]).bind fun r12 => (S_l05Put_m4 k r12 a0.input.data).bind fun r13 => some (r13, true)) (fun y14 => some (([] : List Int), y14))) k (0 : Int)))))))))
def I_isWide (k : Nat) (a0 : Int) : Option (Bool) :=
  (I_in k a0 (-1099511627776 : Int) (1099511627775 : Int)).bind fun r1 => some r1
def I_PutStep_c1 (k : Nat) (a0 : Int) : Option (Bool) :=
  (I_isWide k a0).bind fun r1 => some (!r1)
def slices_IndexFunc_lint_int__I_PutStep_c1_g0 {ρ : Type} (k : Nat) (p : List Int × Int) (v : Int) (next : Int → Option ρ) (x0 : Unit → Option ρ) (xret : Int → Option ρ) : Option ρ :=
  cond (decide (v < p.2)) ((idx p.1 v).bind fun e1 => (I_PutStep_c1 k e1).bind fun r2 => cond (r2) (xret v) (next (IntKind.i64.wrap (v + (1 : Int))))) (x0 ())
def slices_IndexFunc_lint_int__I_PutStep_c1 (k : Nat) (a0 : List Int) : Option (Int) :=
  iter (fun u5 n5 => slices_IndexFunc_lint_int__I_PutStep_c1_g0 k (a0, (a0.length : Int)) u5 n5 (fun y3 => some (-1 : Int)) (fun y4 => some y4)) k (0 : Int)
def slices_ContainsFunc_lint_int__I_PutStep_c1 (k : Nat) (a0 : List Int) : Option (Bool) :=
  (slices_IndexFunc_lint_int__I_PutStep_c1 k a0).bind fun r1 => some (decide (r1 ≥ (0 : Int)))
def S_SumOf_g0 {ρ : Type} (k : Nat) (p : List Int) (v : Int × Int) (next : (Int × Int) → Option ρ) (x0 : Int → Option ρ) : Option ρ :=
  cond (decide (v.2 < (p.length : Int))) ((idx p v.2).bind fun e1 => next ((IntKind.i64.wrap ((IntKind.i64.wrap ((IntKind.i64.wrap ((257 : Int) * v.1)) + (IntKind.i64.wrap (e1)))) + (1 : Int))).tmod (1000003 : Int), IntKind.i64.wrap (v.2 + (1 : Int)))) (x0 v.1)
def S_SumOf (k : Nat) (a0 : List Int) : Option (Int) :=
  iter (fun u3 n3 => S_SumOf_g0 k a0 u3 n3 (fun y2 => some y2)) k ((1 : Int), (0 : Int))
def S_TraceOf_g0 {ρ : Type} (k : Nat) (p : List Step) (v : Int × List Int) (next : (Int × List Int) → Option ρ) (x0 : (List Int) → Option ρ) (xret : Bool → Option ρ) : Option ρ :=
  cond (decide (v.1 < (p.length : Int))) ((idx p v.1).bind fun e2 => (S_PutStep k e2).bind fun r3 => cond (!r3.2) (xret false) (cond (decide ((v.2.length : Int) > (20000 : Int))) (xret false) ((S_l01Join k v.2 r3.1).bind fun r4 => next (IntKind.i64.wrap (v.1 + (1 : Int)), r4)))) (x0 v.2)
def S_TraceOf (k : Nat) (a0 : List Step) : Option (List Int × Bool) :=
  cond (decide ((a0.length : Int) > (200 : Int))) (some (([] : List Int), false)) ((S_l05Put_m3 k [(84 : Int), (49 : Int)] [(a0.length : Int)]).bind fun r1 => iter (fun u9 n9 => S_TraceOf_g0 k a0 u9 n9 (fun y5 => (S_SumOf k y5).bind fun r6 => (S_l05Put_m3 k y5 [r6]).bind fun r7 => cond (decide ((r7.length : Int) > (20000 : Int))) (some (([] : List Int), false)) (some (r7, true))) (fun y8 => some (([] : List Int), y8))) k ((0 : Int), r1))
def I_SumOf_g0 {ρ : Type} (k : Nat) (p : List Int × Int) (v : Int × Int) (next : (Int × Int) → Option ρ) (x0 : Int → Option ρ) : Option ρ :=
  cond (decide (v.2 < p.2)) ((idx p.1 v.2).bind fun e1 => next ((IntKind.i64.wrap ((IntKind.i64.wrap ((IntKind.i64.wrap (v.1 * (257 : Int))) + (IntKind.i64.wrap (e1)))) + (1 : Int))).tmod (1000003 : Int), IntKind.i64.wrap (v.2 + (1 : Int)))) (x0 v.1)
def I_SumOf (k : Nat) (a0 : List Int) : Option (Int) :=
  iter (fun u3 n3 => I_SumOf_g0 k (a0, (a0.length : Int)) u3 n3 (fun y2 => some y2)) k ((1 : Int), (0 : Int))
end
end Go.Proofs.Ev
