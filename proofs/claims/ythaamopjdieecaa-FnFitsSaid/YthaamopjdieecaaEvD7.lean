/- Text of this claim. -/
import Derived.Test.YthaamopjdieecaaEvK6
import Derived.Test.YthaamopjdieecaaEvD1
import Derived.Test.YthaamopjdieecaaEvD6
set_option linter.unusedVariables false
set_option linter.unusedSimpArgs false
set_option linter.unusedVariables false
set_option linter.unusedSimpArgs false
set_option maxRecDepth 100000
namespace Go.Proofs.Ev
noncomputable section
def S_l07Off_m3_g0 {ρ : Type} (k : Nat) (p : Int × Int × Int × Int × Int × Int × Int × Int × List TaskK) (v : Int × List TaskK) (next : (Int × List TaskK) → Option ρ) (x0 : (List TaskK) → Option ρ) : Option ρ :=
  cond (decide (v.1 < (p.2.2.2.2.2.2.2.2.length : Int))) (cond (decide (0 ≤ v.1 ∧ v.1 < (p.2.2.2.2.2.2.2.2.length : Int))) ((p.2.2.2.2.2.2.2.2[v.1.toNat]?).bind fun e1 => cond (e1.id != p.1) (cond (decide (0 ≤ v.1 ∧ v.1 < (p.2.2.2.2.2.2.2.2.length : Int))) ((p.2.2.2.2.2.2.2.2[v.1.toNat]?).bind fun e2 => cond (Nat.ble (v.2.length + [e2].length) maxN) (next (IntKind.i64.wrap (v.1 + (1 : Int)), v.2 ++ [e2])) none) none) (next (IntKind.i64.wrap (v.1 + (1 : Int)), v.2))) none) (x0 v.2)
def S_l07Off_m3 (k : Nat) (a0_0 : Int) (a0_1 : Int) (a0_2 : Int) (a0_3 : List TaskK) (a0_4 : Int) (a0_5 : Int) (a0_6 : Int) (a0_7 : Int) (a1 : Int) : Option (List TaskK) :=
  iter (fun u4 n4 => S_l07Off_m3_g0 k (a1, a0_0, a0_1, a0_2, a0_4, a0_5, a0_6, a0_7, a0_3) u4 n4 (fun y3 => cond (decide (a0_0 = a0_0)) (cond (decide (a0_1 = a0_1)) (cond (decide (a0_2 = a0_2)) (cond (decide (a0_4 = a0_4)) (cond (decide (a0_5 = a0_5)) (cond (decide (a0_6 = a0_6)) (cond (decide (a0_7 = a0_7)) (some y3) none) none) none) none) none) none) none)) k ((0 : Int), ([] : List TaskK))
def S_CancelTask (k : Nat) (a0 : Sched) (a1 : Int) : Option (Sched × Bool) :=
  (S_l07Copy k a0).bind fun r1 => (S_SchedOk k a0).bind fun r2 => cond (!r2) (some (r1, false)) ((S_l07At k a0 a1).bind fun r3 => cond (decide (r3 < (0 : Int))) (some (r1, false)) ((numTask r1.tasks).bind fun y4 => (S_l07Off_m3 k r1.now r1.slack r1.age y4 r1.run r1.left r1.turns r1.next a1).bind fun r5 => cond (nodTask r5) ((unTask r1.tasks r5).bind fun z6 => cond (r1.run == a1) (some ((⟨r1.now, r1.slack, r1.age, z6, (0 : Int), (0 : Int), r1.turns, r1.next⟩ : Sched), true)) (some ((⟨r1.now, r1.slack, r1.age, z6, r1.run, r1.left, r1.turns, r1.next⟩ : Sched), true))) none))
def pI_Sched_drop_c1_m3 (k : Nat) (a0 : TaskK) (a1_0 : Int) : Option (Bool) :=
  cond (decide (a1_0 = a1_0)) (some (a0.id == a1_0)) none
def slices_IndexFunc_lI_Task_I_Task_m5_g0 {ρ : Type} (k : Nat) (p : List TaskK × Int × Int) (v : Int) (next : Int → Option ρ) (x0 : Unit → Option ρ) (xret : Int → Option ρ) : Option ρ :=
  cond (decide (v < p.2.1)) ((idx p.1 v).bind fun e1 => (pI_Sched_drop_c1_m3 k e1 p.2.2).bind fun r2 => cond (r2) (xret v) (next (IntKind.i64.wrap (v + (1 : Int))))) (x0 ())
def slices_IndexFunc_lI_Task_I_Task_m5 (k : Nat) (a0 : List TaskK) (a1c0_0 : Int) : Option (Int) :=
  iter (fun u5 n5 => slices_IndexFunc_lI_Task_I_Task_m5_g0 k (a0, (a0.length : Int), a1c0_0) u5 n5 (fun y3 => cond (decide (a1c0_0 = a1c0_0)) (some (-1 : Int)) none) (fun y4 => cond (decide (a1c0_0 = a1c0_0)) (some y4) none)) k (0 : Int)
def slices_DeleteFunc_lI_Task_I_Task_m4_g0 {ρ : Type} (k : Nat) (p : Int) (v : Int × Int × List TaskK) (next : (Int × Int × List TaskK) → Option ρ) (x0 : (Int × List TaskK) → Option ρ) : Option ρ :=
  cond (decide (v.2.1 < (v.2.2.length : Int))) (cond (decide (0 ≤ v.2.1 ∧ v.2.1 < (v.2.2.length : Int))) ((v.2.2[v.2.1.toNat]?).bind fun e2 => (pI_Sched_drop_c1_m3 k e2 p).bind fun r3 => cond (!r3) (cond (decide (0 ≤ v.1 ∧ v.1 < (v.2.2.length : Int))) (next (IntKind.i64.wrap (v.1 + (1 : Int)), IntKind.i64.wrap (v.2.1 + (1 : Int)), v.2.2.set v.1.toNat e2)) none) (next (v.1, IntKind.i64.wrap (v.2.1 + (1 : Int)), v.2.2))) none) (x0 (v.1, v.2.2))
def slices_DeleteFunc_lI_Task_I_Task_m4 (k : Nat) (a0 : List TaskK) (a1c0_0 : Int) : Option (List TaskK) :=
  (slices_IndexFunc_lI_Task_I_Task_m5 k a0 a1c0_0).bind fun r1 => cond (r1 == (-1 : Int)) (cond (decide (a1c0_0 = a1c0_0)) (some a0) none) (iter (fun u5 n5 => slices_DeleteFunc_lI_Task_I_Task_m4_g0 k a1c0_0 u5 n5 (fun y4 => cond (decide (0 ≤ y4.1 ∧ y4.1 ≤ (y4.2.length : Int))) (cond (decide (0 ≤ y4.1 ∧ y4.1 ≤ (((y4.2).take y4.1.toNat ++ List.replicate (y4.2.length - y4.1.toNat) (⟨(0 : Int), (0 : Nat), (0 : Int), (0 : Int), (0 : Int)⟩ : TaskK) ++ (y4.2).drop (y4.1.toNat + (y4.2.length - y4.1.toNat))).length : Int))) (cond (decide (a1c0_0 = a1c0_0)) (some (((y4.2).take y4.1.toNat ++ List.replicate (y4.2.length - y4.1.toNat) (⟨(0 : Int), (0 : Nat), (0 : Int), (0 : Int), (0 : Int)⟩ : TaskK) ++ (y4.2).drop (y4.1.toNat + (y4.2.length - y4.1.toNat))).take (y4.1.toNat - 0))) none) none) none)) k (r1, IntKind.i64.wrap (r1 + (1 : Int)), a0))
def pI_Sched_drop_m3 (k : Nat) (a0_0 : Int) (a0_1 : Int) (a0_2 : Int) (a0_3 : List TaskK) (a0_4 : Int) (a0_5 : Int) (a0_6 : Int) (a0_7 : Int) (a1 : Int) : Option (List TaskK × Int × Int) :=
  (slices_DeleteFunc_lI_Task_I_Task_m4 k a0_3 a1).bind fun r1 => cond (a0_4 == a1) (cond (decide (a0_0 = a0_0)) (cond (decide (a0_1 = a0_1)) (cond (decide (a0_2 = a0_2)) (cond (decide (a0_6 = a0_6)) (cond (decide (a0_7 = a0_7)) (some (r1, (0 : Int), (0 : Int))) none) none) none) none) none) (cond (decide (a0_0 = a0_0)) (cond (decide (a0_1 = a0_1)) (cond (decide (a0_2 = a0_2)) (cond (decide (a0_6 = a0_6)) (cond (decide (a0_7 = a0_7)) (some (r1, a0_4, a0_5)) none) none) none) none) none)
end
end Go.Proofs.Ev
