/- Text of this claim. -/
import Derived.Test.YthaamopjdieecaaEvK6
import Derived.Test.YthaamopjdieecaaEvD1
import Derived.Test.YthaamopjdieecaaEvD3
import Derived.Test.YthaamopjdieecaaEvD4
set_option linter.unusedVariables false
set_option linter.unusedSimpArgs false
set_option linter.unusedVariables false
set_option linter.unusedSimpArgs false
set_option maxRecDepth 100000
set_option maxHeartbeats 4000000
namespace Go.Proofs.Ev
noncomputable section
def I_putWide_m4_g1 {ρ : Type} (k : Nat) (p : List Int × Int × Int) (v : Int × List Int) (next : (Int × List Int) → Option ρ) (x2 : (Int × List Int) → Option ρ) : Option ρ :=
  cond (decide (v.1 > (127 : Int))) (cond (Nat.ble (v.2.length + [(IntKind.u8.wrap (((BitVec.ofInt IntKind.u8.bits (IntKind.u8.wrap (v.1)) ||| BitVec.ofInt IntKind.u8.bits (128 : Int)).toNat : Int)))].length) maxN) (next (v.1.fdiv (2 ^ (min (7 : Int).toNat IntKind.i64.bits)), v.2 ++ [(IntKind.u8.wrap (((BitVec.ofInt IntKind.u8.bits (IntKind.u8.wrap (v.1)) ||| BitVec.ofInt IntKind.u8.bits (128 : Int)).toNat : Int)))])) none) (x2 (v.1, v.2))
def I_putWide_m4_g0 {ρ : Type} (k : Nat) (p : List Int × Int) (v : Int × List Int) (next : (Int × List Int) → Option ρ) (x0 : (List Int) → Option ρ) : Option ρ :=
  cond (decide (v.1 < p.2)) ((idx p.1 v.1).bind fun e1 => cond (decide (e1 < (0 : Int))) (iter (fun u3 n3 => I_putWide_m4_g1 k (p.1, p.2, v.1) u3 n3 (fun y2 => cond (Nat.ble (y2.2.length + [(IntKind.u8.wrap (y2.1))].length) maxN) (next (IntKind.i64.wrap (v.1 + (1 : Int)), y2.2 ++ [(IntKind.u8.wrap (y2.1))])) none)) k (IntKind.i64.wrap ((IntKind.i64.wrap ((-2 : Int) * e1)) - (1 : Int)), v.2)) (iter (fun u5 n5 => I_putWide_m4_g1 k (p.1, p.2, v.1) u5 n5 (fun y4 => cond (Nat.ble (y4.2.length + [(IntKind.u8.wrap (y4.1))].length) maxN) (next (IntKind.i64.wrap (v.1 + (1 : Int)), y4.2 ++ [(IntKind.u8.wrap (y4.1))])) none)) k (IntKind.i64.wrap ((2 : Int) * e1), v.2))) (x0 v.2)
def I_putWide_m4 (k : Nat) (a1 : List Int) : Option (List Int) :=
  iter (fun u7 n7 => I_putWide_m4_g0 k (a1, (a1.length : Int)) u7 n7 (fun y6 => some y6)) k ((0 : Int), ([] : List Int))
def I_putWide_m5_g1 {ρ : Type} (k : Nat) (p : List Int × Int × Int) (v : Int × List Int) (next : (Int × List Int) → Option ρ) (x2 : (Int × List Int) → Option ρ) : Option ρ :=
  cond (decide (v.1 > (127 : Int))) (cond (Nat.ble (v.2.length + [(IntKind.u8.wrap (((BitVec.ofInt IntKind.u8.bits (IntKind.u8.wrap (v.1)) ||| BitVec.ofInt IntKind.u8.bits (128 : Int)).toNat : Int)))].length) maxN) (next (v.1.fdiv (2 ^ (min (7 : Int).toNat IntKind.i64.bits)), v.2 ++ [(IntKind.u8.wrap (((BitVec.ofInt IntKind.u8.bits (IntKind.u8.wrap (v.1)) ||| BitVec.ofInt IntKind.u8.bits (128 : Int)).toNat : Int)))])) none) (x2 (v.1, v.2))
def I_putWide_m5_g0 {ρ : Type} (k : Nat) (p : List Int × Int) (v : Int × List Int) (next : (Int × List Int) → Option ρ) (x0 : (List Int) → Option ρ) : Option ρ :=
  cond (decide (v.1 < p.2)) ((idx p.1 v.1).bind fun e1 => cond (decide (e1 < (0 : Int))) (iter (fun u3 n3 => I_putWide_m5_g1 k (p.1, p.2, v.1) u3 n3 (fun y2 => cond (Nat.ble (y2.2.length + [(IntKind.u8.wrap (y2.1))].length) maxN) (next (IntKind.i64.wrap (v.1 + (1 : Int)), y2.2 ++ [(IntKind.u8.wrap (y2.1))])) none)) k (IntKind.i64.wrap ((IntKind.i64.wrap ((-2 : Int) * e1)) - (1 : Int)), v.2)) (iter (fun u5 n5 => I_putWide_m5_g1 k (p.1, p.2, v.1) u5 n5 (fun y4 => cond (Nat.ble (y4.2.length + [(IntKind.u8.wrap (y4.1))].length) maxN) (next (IntKind.i64.wrap (v.1 + (1 : Int)), y4.2 ++ [(IntKind.u8.wrap (y4.1))])) none)) k (IntKind.i64.wrap ((2 : Int) * e1), v.2))) (x0 v.2)
def I_putWide_m5 (k : Nat) (a0 : List Int) (a1 : List Int) : Option (List Int) :=
  iter (fun u7 n7 => I_putWide_m5_g0 k (a1, (a1.length : Int)) u7 n7 (fun y6 => some y6)) k ((0 : Int), a0)
def I_PutStep (k : Nat) (a0 : Step) : Option (List Int × Bool) :=
  cond (Nat.ble ([a0.input.sh.h, a0.input.sh.w, a0.input.sh.c, (a0.input.data.length : Int)].length + a0.input.data.length) maxN) (cond (decide ((a0.data.length : Int) > (6000 : Int))) (some (([] : List Int), false)) (cond (decide ((a0.input.data.length : Int) > (512 : Int))) (some (([] : List Int), false)) ((slices_ContainsFunc_lint_int__I_PutStep_c1 k [a0.kind, a0.a, a0.b, (a0.data.length : Int)]).bind fun r1 => cond (r1) (some (([] : List Int), false)) ((slices_ContainsFunc_lint_int__I_PutStep_c1 k ([a0.input.sh.h, a0.input.sh.w, a0.input.sh.c, (a0.input.data.length : Int)] ++ a0.input.data)).bind fun r2 => cond (r2) (some (([] : List Int), false)) ((I_putWide_m4 k [a0.kind, a0.a, a0.b, (a0.data.length : Int)]).bind fun r3 => cond (Nat.ble (r3.length + a0.data.length) maxN) ((I_putWide_m5 k (r3 ++ a0.data) ([a0.input.sh.h, a0.input.sh.w, a0.input.sh.c, (a0.input.data.length : Int)] ++ a0.input.data)).bind fun r4 => some (r4, true)) none))))) none
def I_TraceOf_g0 {ρ : Type} (k : Nat) (p : List Step × Int) (v : Int × List Int) (next : (Int × List Int) → Option ρ) (x0 : (List Int) → Option ρ) (xret : Bool → Option ρ) : Option ρ :=
  cond (decide (v.1 < p.2)) ((idx p.1 v.1).bind fun e2 => (I_PutStep k e2).bind fun r3 => cond (!r3.2) (xret false) (cond (Nat.ble (v.2.length + r3.1.length) maxN) (next (IntKind.i64.wrap (v.1 + (1 : Int)), v.2 ++ r3.1)) none)) (x0 v.2)
def I_TraceOf (k : Nat) (a0 : List Step) : Option (List Int × Bool) :=
  cond (decide ((a0.length : Int) > (200 : Int))) (some (([] : List Int), false)) ((I_putWide_m5 k [(84 : Int), (49 : Int)] [(a0.length : Int)]).bind fun r1 => iter (fun u8 n8 => I_TraceOf_g0 k (a0, (a0.length : Int)) u8 n8 (fun y4 => (I_SumOf k y4).bind fun r5 => (I_putWide_m5 k y4 [r5]).bind fun r6 => cond (decide ((r6.length : Int) > (20000 : Int))) (some (([] : List Int), false)) (some (r6, true))) (fun y7 => some (([] : List Int), y7))) k ((0 : Int), r1))
def L_FnExactTraceOf (k : Nat) (a0 : List Step) : Option (Bool) :=
  (L_szStepS k a0 (1048576 : Int)).bind fun r1 => cond (decide (r1 < (0 : Int))) (some true) ((L_toStepS k a0).bind fun r2 => (S_TraceOf k r2).bind fun r3 => (L_toStepS k a0).bind fun r4 => (I_TraceOf k r4).bind fun r5 => (L_eqByteS k r5.1 r3.1).bind fun r6 => cond (!r6) (some false) (cond (!(r5.2 == r3.2)) (some false) ((L_toStepS k a0).bind fun r7 => (L_eqStepS k r4 r7).bind fun r8 => cond (!r8) (some false) ((L_markStepS_m2 k r4 (1 : Int)).bind fun r9 => cond (decide (r9.1 < (0 : Int))) (some false) ((L_eqByteS k r5.1 r3.1).bind fun r10 => cond (!r10) (some false) (cond (!(r5.2 == r3.2)) (some false) ((L_markByteS_m3 k r5.1 (1 : Int)).bind fun r11 => (L_heldByteS k r11.2 (1 : Int)).bind fun r12 => cond (decide (r12 < (0 : Int))) (some false) (cond (r12 != r11.1) (some false) ((L_toStepS k a0).bind fun r13 => (I_TraceOf k r13).bind fun r14 => (L_eqByteS k r14.1 r3.1).bind fun r15 => cond (!r15) (some false) (cond (!(r14.2 == r3.2)) (some false) ((L_heldByteS k r11.2 (1 : Int)).bind fun r16 => cond (decide (r16 < (0 : Int))) (some false) (cond (r16 != r11.1) (some false) (some true)))))))))))))
end
end Go.Proofs.Ev
