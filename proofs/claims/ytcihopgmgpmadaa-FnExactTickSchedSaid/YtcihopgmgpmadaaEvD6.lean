/- Text of this claim. -/
import Derived.Test.YtcihopgmgpmadaaEvK4
import Derived.Test.YtcihopgmgpmadaaEvD1
import Derived.Test.YtcihopgmgpmadaaEvD3
set_option linter.unusedVariables false
set_option linter.unusedSimpArgs false
set_option linter.unusedVariables false
set_option linter.unusedSimpArgs false
set_option maxRecDepth 100000
namespace Go.Proofs.Ev
noncomputable section
def L_szTask (k : Nat) (a0 : Task) (a1 : Int) : Option (Int) :=
  (L_szIntS k a0.costs a1).bind fun r1 => cond (decide (r1 < (0 : Int))) (some (-1 : Int)) (some r1)
def L_szTaskS_g0 {ρ : Type} (k : Nat) (p : List Task) (v : Int × Int) (next : (Int × Int) → Option ρ) (x0 : Int → Option ρ) (xret : Int → Option ρ) : Option ρ :=
  cond (decide (v.2 < (p.length : Int))) ((idx p v.2).bind fun e1 => (L_szTask k e1 v.1).bind fun r2 => cond (decide (r2 < (0 : Int))) (xret (-1 : Int)) (next (r2, IntKind.i64.wrap (v.2 + (1 : Int))))) (x0 v.1)
def L_szTaskS (k : Nat) (a0 : List Task) (a1 : Int) : Option (Int) :=
  cond (decide ((IntKind.i64.wrap (a1 - (a0.length : Int))) < (0 : Int))) (some (-1 : Int)) (iter (fun u5 n5 => L_szTaskS_g0 k a0 u5 n5 (fun y3 => some y3) (fun y4 => some y4)) k (IntKind.i64.wrap (a1 - (a0.length : Int)), (0 : Int)))
def L_szSched (k : Nat) (a0 : Sched) (a1 : Int) : Option (Int) :=
  (L_szTaskS k a0.tasks a1).bind fun r1 => cond (decide (r1 < (0 : Int))) (some (-1 : Int)) (some r1)
def L_toTask (k : Nat) (a0 : Task) : Option (Task) :=
  (L_toIntS k a0.costs).bind fun r1 => some (⟨a0.id, r1, a0.at_, a0.due, a0.born⟩ : Task)
def L_toTaskS_g0 {ρ : Type} (k : Nat) (p : List Task) (v : Int × List Task) (next : (Int × List Task) → Option ρ) (x0 : (List Task) → Option ρ) : Option ρ :=
  cond (decide (v.1 < (p.length : Int))) ((idx p v.1).bind fun e1 => (L_toTask k e1).bind fun r2 => cond (decide (0 ≤ v.1 ∧ v.1 < (v.2.length : Int))) (next (IntKind.i64.wrap (v.1 + (1 : Int)), v.2.set v.1.toNat r2)) none) (x0 v.2)
def L_toTaskS (k : Nat) (a0 : List Task) : Option (List Task) :=
  cond (decide (0 ≤ (a0.length : Int) ∧ (a0.length : Int) ≤ (a0.length : Int) ∧ (a0.length : Int) ≤ (maxN : Int))) (iter (fun u4 n4 => L_toTaskS_g0 k a0 u4 n4 (fun y3 => some y3)) k ((0 : Int), List.replicate ((a0.length : Int).toNat) (⟨(0 : Int), ([] : List Int), (0 : Int), (0 : Int), (0 : Int)⟩ : Task))) none
def L_toSched (k : Nat) (a0 : Sched) : Option (Sched) :=
  (L_toTaskS k a0.tasks).bind fun r1 => some (⟨a0.now, a0.slack, a0.age, r1, a0.run, a0.left, a0.turns, a0.next⟩ : Sched)
def S_l07Copy_g0 {ρ : Type} (k : Nat) (p : Int × Int × Int × List Task × Int × Int × Int × Int × Int × Int × Int × Int × Int × Int × Int × Int × Int × Int × Int × Int × Int × Int) (v : Int × List Task) (next : (Int × List Task) → Option ρ) (x0 : (List Task) → Option ρ) : Option ρ :=
  cond (decide (v.1 < (p.2.2.2.1.length : Int))) ((idx p.2.2.2.1 v.1).bind fun e1 => (S_l01Copy k e1.costs).bind fun r2 => cond (Nat.ble (v.2.length + 1) maxN) (next (IntKind.i64.wrap (v.1 + (1 : Int)), v.2 ++ [(⟨e1.id, r2, e1.at_, e1.due, e1.born⟩ : Task)])) none) (x0 v.2)
def S_l07Copy (k : Nat) (a0 : Sched) : Option (Sched) :=
  iter (fun u4 n4 => S_l07Copy_g0 k (a0.now, a0.slack, a0.age, a0.tasks, a0.run, a0.left, a0.turns, a0.next, (0 : Int), (0 : Int), (0 : Int), (0 : Int), (0 : Int), (0 : Int), (0 : Int), a0.now, a0.slack, a0.age, a0.run, a0.left, a0.turns, a0.next) u4 n4 (fun y3 => some (⟨a0.now, a0.slack, a0.age, y3, a0.run, a0.left, a0.turns, a0.next⟩ : Sched))) k ((0 : Int), ([] : List Task))
def S_l07Tick (k : Nat) (a0 : Int) : Option (Bool) :=
  (S_l01In k a0 (0 : Int) (1000000 : Int)).bind fun r1 => some r1
def S_TaskOk_g0 {ρ : Type} (k : Nat) (p : Int × List Int × Int × Int × Int) (v : Int) (next : Int → Option ρ) (x0 : Unit → Option ρ) (xret : Bool → Option ρ) : Option ρ :=
  cond (decide (v < (p.2.1.length : Int))) ((idx p.2.1 v).bind fun e6 => (S_l01In k e6 (1 : Int) (1000 : Int)).bind fun r7 => cond (!r7) (xret false) (next (IntKind.i64.wrap (v + (1 : Int))))) (x0 ())
def S_TaskOk (k : Nat) (a0 : Task) : Option (Bool) :=
  (S_l01In k a0.id (1 : Int) (1000000 : Int)).bind fun r1 => cond (!r1) (some false) ((S_l01In k (a0.costs.length : Int) (1 : Int) (6 : Int)).bind fun r2 => cond (!r2) (some false) ((S_l01In k a0.at_ (0 : Int) (IntKind.i64.wrap ((a0.costs.length : Int) - (1 : Int)))).bind fun r3 => cond (!r3) (some false) ((S_l07Tick k a0.due).bind fun r4 => cond (!r4) (some false) ((S_l07Tick k a0.born).bind fun r5 => cond (!r5) (some false) (iter (fun u10 n10 => S_TaskOk_g0 k (a0.id, a0.costs, a0.at_, a0.due, a0.born) u10 n10 (fun y8 => some true) (fun y9 => some y9)) k (0 : Int))))))
def S_l07At_g0 {ρ : Type} (k : Nat) (p : Int × Int × Int × Int × List Task × Int × Int × Int × Int) (v : Int) (next : Int → Option ρ) (x0 : Unit → Option ρ) (xret : Int → Option ρ) : Option ρ :=
  cond (decide (v < (p.2.2.2.2.1.length : Int))) ((idx p.2.2.2.2.1 v).bind fun e1 => cond (e1.id == p.1) (xret v) (next (IntKind.i64.wrap (v + (1 : Int))))) (x0 ())
def S_l07At (k : Nat) (a0 : Sched) (a1 : Int) : Option (Int) :=
  iter (fun u4 n4 => S_l07At_g0 k (a1, a0.now, a0.slack, a0.age, a0.tasks, a0.run, a0.left, a0.turns, a0.next) u4 n4 (fun y2 => some (-1 : Int)) (fun y3 => some y3)) k (0 : Int)
def S_SchedOk_g0 {ρ : Type} (k : Nat) (p : Int × Int × Int × List Task × Int × Int × Int × Int) (v : Int) (next : Int → Option ρ) (x0 : Unit → Option ρ) (xret : Bool → Option ρ) : Option ρ :=
  cond (decide (v < (p.2.2.2.1.length : Int))) ((idx p.2.2.2.1 v).bind fun e6 => (S_TaskOk k e6).bind fun r7 => cond (!r7) (xret false) (cond (decide (e6.id ≥ p.2.2.2.2.2.2.2)) (xret false) (cond (decide (e6.born > p.1)) (xret false) (cond (decide (v > (0 : Int))) ((idx p.2.2.2.1 (IntKind.i64.wrap (v - (1 : Int)))).bind fun e8 => cond (decide (e8.id ≥ e6.id)) (xret false) (next (IntKind.i64.wrap (v + (1 : Int))))) (next (IntKind.i64.wrap (v + (1 : Int)))))))) (x0 ())
def S_SchedOk (k : Nat) (a0 : Sched) : Option (Bool) :=
  (S_l07Tick k a0.now).bind fun r1 => cond (!r1) (some false) ((S_l01In k a0.slack (0 : Int) (1000 : Int)).bind fun r2 => cond (!r2) (some false) ((S_l01In k a0.age (0 : Int) (20 : Int)).bind fun r3 => cond (!r3) (some false) (cond (decide ((a0.tasks.length : Int) > (12 : Int))) (some false) ((S_l07Tick k a0.turns).bind fun r4 => cond (!r4) (some false) ((S_l01In k a0.next (1 : Int) (1000000 : Int)).bind fun r5 => cond (!r5) (some false) (iter (fun u16 n16 => S_SchedOk_g0 k (a0.now, a0.slack, a0.age, a0.tasks, a0.run, a0.left, a0.turns, a0.next) u16 n16 (fun y9 => cond (a0.run == (0 : Int)) (some (a0.left == (0 : Int))) ((S_l07At k a0 a0.run).bind fun r10 => cond (decide (r10 ≥ (0 : Int))) ((idx a0.tasks r10).bind fun e11 => (idx a0.tasks r10).bind fun e12 => (idx e11.costs e12.at_).bind fun e13 => (S_l01In k a0.left (1 : Int) e13).bind fun r14 => some r14) (some false))) (fun y15 => some y15)) k (0 : Int)))))))
def I_Sched_copied_g0 {ρ : Type} (k : Nat) (p : List Task × Int × Int × Int × Int × Int × Int × Int × Int × Int × Int × Int × Int × Int × Int × Int) (v : Int × List Task) (next : (Int × List Task) → Option ρ) (x0 : (List Task) → Option ρ) : Option ρ :=
  cond (decide (v.1 < p.2.1)) ((idx p.1 v.1).bind fun e1 => (slices_Clone_lint_int k e1.costs).bind fun r2 => cond (Nat.ble (v.2.length + 1) maxN) (next (IntKind.i64.wrap (v.1 + (1 : Int)), v.2 ++ [(⟨e1.id, r2, e1.at_, e1.due, e1.born⟩ : Task)])) none) (x0 v.2)
def I_Sched_copied (k : Nat) (a0 : Sched) : Option (Sched) :=
  iter (fun u4 n4 => I_Sched_copied_g0 k (a0.tasks, (a0.tasks.length : Int), a0.now, a0.slack, a0.age, a0.run, a0.left, a0.turns, a0.next, (0 : Int), (0 : Int), (0 : Int), (0 : Int), (0 : Int), (0 : Int), (0 : Int)) u4 n4 (fun y3 => some (⟨a0.now, a0.slack, a0.age, y3, a0.run, a0.left, a0.turns, a0.next⟩ : Sched))) k ((0 : Int), ([] : List Task))
def I_isTick (k : Nat) (a0 : Int) : Option (Bool) :=
  (I_in k a0 (0 : Int) (1000000 : Int)).bind fun r1 => some r1
def I_TaskOk_c1 (k : Nat) (a0 : Int) : Option (Bool) :=
  (I_in k a0 (1 : Int) (1000 : Int)).bind fun r1 => some (!r1)
def slices_IndexFunc_lint_int__I_TaskOk_c1_g0 {ρ : Type} (k : Nat) (p : List Int × Int) (v : Int) (next : Int → Option ρ) (x0 : Unit → Option ρ) (xret : Int → Option ρ) : Option ρ :=
  cond (decide (v < p.2)) ((idx p.1 v).bind fun e1 => (I_TaskOk_c1 k e1).bind fun r2 => cond (r2) (xret v) (next (IntKind.i64.wrap (v + (1 : Int))))) (x0 ())
def slices_IndexFunc_lint_int__I_TaskOk_c1 (k : Nat) (a0 : List Int) : Option (Int) :=
  iter (fun u5 n5 => slices_IndexFunc_lint_int__I_TaskOk_c1_g0 k (a0, (a0.length : Int)) u5 n5 (fun y3 => some (-1 : Int)) (fun y4 => some y4)) k (0 : Int)
def slices_ContainsFunc_lint_int__I_TaskOk_c1 (k : Nat) (a0 : List Int) : Option (Bool) :=
  (slices_IndexFunc_lint_int__I_TaskOk_c1 k a0).bind fun r1 => some (decide (r1 ≥ (0 : Int)))
def I_TaskOk (k : Nat) (a0 : Task) : Option (Bool) :=
  (I_in k a0.id (1 : Int) (1000000 : Int)).bind fun r1 => cond (r1) ((I_in k (a0.costs.length : Int) (1 : Int) (6 : Int)).bind fun r2 => cond (r2) ((slices_ContainsFunc_lint_int__I_TaskOk_c1 k a0.costs).bind fun r3 => cond (!r3) ((I_in k a0.at_ (0 : Int) (IntKind.i64.wrap ((a0.costs.length : Int) - (1 : Int)))).bind fun r4 => cond (r4) ((I_isTick k a0.due).bind fun r5 => cond (r5) ((I_isTick k a0.born).bind fun r6 => some r6) (some false)) (some false)) (some false)) (some false)) (some false)
def I_Sched_areTasks_g0 {ρ : Type} (k : Nat) (p : List Task × Int × Int × Int × Int × List Task × Int × Int × Int × Int) (v : Int) (next : Int → Option ρ) (x0 : Unit → Option ρ) (xret : Bool → Option ρ) : Option ρ :=
  cond (decide (v < p.2.1)) ((idx p.1 v).bind fun e1 => (I_TaskOk k e1).bind fun r2 => cond (!r2) (xret false) (cond (decide (e1.id ≥ p.2.2.2.2.2.2.2.2.2)) (xret false) (cond (decide (e1.born > p.2.2.1)) (xret false) (cond (decide (v > (0 : Int))) ((idx p.2.2.2.2.2.1 (IntKind.i64.wrap (v - (1 : Int)))).bind fun e3 => cond (decide (e3.id ≥ e1.id)) (xret false) (next (IntKind.i64.wrap (v + (1 : Int))))) (next (IntKind.i64.wrap (v + (1 : Int)))))))) (x0 ())
def I_Sched_areTasks (k : Nat) (a0 : Sched) : Option (Bool) :=
  iter (fun u6 n6 => I_Sched_areTasks_g0 k (a0.tasks, (a0.tasks.length : Int), a0.now, a0.slack, a0.age, a0.tasks, a0.run, a0.left, a0.turns, a0.next) u6 n6 (fun y4 => some (decide ((a0.tasks.length : Int) ≤ (12 : Int)))) (fun y5 => some y5)) k (0 : Int)
def I_Sched_find_c1_m (k : Nat) (a0 : Task) (a1_0 : Int) : Option (Bool) :=
  cond (decide (a1_0 = a1_0)) (some (a0.id == a1_0)) none
def slices_IndexFunc_lI_Task_I_Task_m_g0 {ρ : Type} (k : Nat) (p : List Task × Int × Int) (v : Int) (next : Int → Option ρ) (x0 : Unit → Option ρ) (xret : Int → Option ρ) : Option ρ :=
  cond (decide (v < p.2.1)) ((idx p.1 v).bind fun e1 => (I_Sched_find_c1_m k e1 p.2.2).bind fun r2 => cond (r2) (xret v) (next (IntKind.i64.wrap (v + (1 : Int))))) (x0 ())
def slices_IndexFunc_lI_Task_I_Task_m (k : Nat) (a0 : List Task) (a1c0_0 : Int) : Option (Int) :=
  iter (fun u5 n5 => slices_IndexFunc_lI_Task_I_Task_m_g0 k (a0, (a0.length : Int), a1c0_0) u5 n5 (fun y3 => cond (decide (a1c0_0 = a1c0_0)) (some (-1 : Int)) none) (fun y4 => cond (decide (a1c0_0 = a1c0_0)) (some y4) none)) k (0 : Int)
def I_Sched_find (k : Nat) (a0 : Sched) (a1 : Int) : Option (Int) :=
  (slices_IndexFunc_lI_Task_I_Task_m k a0.tasks a1).bind fun r1 => some r1
def I_SchedOk (k : Nat) (a0 : Sched) : Option (Bool) :=
  (I_isTick k a0.now).bind fun r1 => cond (!r1) (some false) ((I_in k a0.slack (0 : Int) (1000 : Int)).bind fun r2 => cond (!r2) (some false) ((I_in k a0.age (0 : Int) (20 : Int)).bind fun r3 => cond (!r3) (some false) ((I_isTick k a0.turns).bind fun r4 => cond (!r4) (some false) ((I_in k a0.next (1 : Int) (1000000 : Int)).bind fun r5 => cond (!r5) (some false) ((I_Sched_areTasks k a0).bind fun r6 => cond (!r6) (some false) ((I_Sched_find k a0 a0.run).bind fun r7 => cond (a0.run == (0 : Int)) (cond (a0.run == (0 : Int)) (some (a0.left == (0 : Int))) (some false)) (cond (decide (r7 < (0 : Int))) (cond (a0.run == (0 : Int)) (some (a0.left == (0 : Int))) (some false)) ((idx a0.tasks r7).bind fun e8 => (idx a0.tasks r7).bind fun e9 => (idx e8.costs e9.at_).bind fun e10 => (I_in k a0.left (1 : Int) e10).bind fun r11 => some r11))))))))
def I_Sched_isLate (k : Nat) (a0 : Sched) (a1 : Task) : Option (Bool) :=
  some (decide (a1.due ≤ a0.now))
def L_eqTask (k : Nat) (a0 : Task) (a1 : Task) : Option (Bool) :=
  cond (a0.id != a1.id) (some false) ((L_eqIntS k a0.costs a1.costs).bind fun r1 => cond (!r1) (some false) (cond (a0.at_ != a1.at_) (some false) (cond (a0.due != a1.due) (some false) (cond (a0.born != a1.born) (some false) (some true)))))
def L_eqTaskS_g0 {ρ : Type} (k : Nat) (p : List Task × List Task) (v : Int) (next : Int → Option ρ) (x0 : Unit → Option ρ) (xret : Bool → Option ρ) : Option ρ :=
  cond (decide (v < (p.1.length : Int))) ((idx p.1 v).bind fun e1 => (idx p.2 v).bind fun e2 => (L_eqTask k e1 e2).bind fun r3 => cond (!r3) (xret false) (next (IntKind.i64.wrap (v + (1 : Int))))) (x0 ())
def L_eqTaskS (k : Nat) (a0 : List Task) (a1 : List Task) : Option (Bool) :=
  cond ((a0.length : Int) != (a1.length : Int)) (some false) (iter (fun u6 n6 => L_eqTaskS_g0 k (a0, a1) u6 n6 (fun y4 => some true) (fun y5 => some y5)) k (0 : Int))
def L_eqSched (k : Nat) (a0 : Sched) (a1 : Sched) : Option (Bool) :=
  cond (a0.now != a1.now) (some false) (cond (a0.slack != a1.slack) (some false) (cond (a0.age != a1.age) (some false) ((L_eqTaskS k a0.tasks a1.tasks).bind fun r1 => cond (!r1) (some false) (cond (a0.run != a1.run) (some false) (cond (a0.left != a1.left) (some false) (cond (a0.turns != a1.turns) (some false) (cond (a0.next != a1.next) (some false) (some true))))))))
def L_markTaskS_m3_g0 {ρ : Type} (k : Nat) (p : Unit) (v : Int × Int × List Task) (next : (Int × Int × List Task) → Option ρ) (x0 : (Int × List Task) → Option ρ) : Option ρ :=
  cond (decide (v.2.1 < (v.2.2.length : Int))) (cond (decide (0 ≤ v.2.1 ∧ v.2.1 < (v.2.2.length : Int))) ((v.2.2[v.2.1.toNat]?).bind fun e1 => cond (decide (0 ≤ v.2.1 ∧ v.2.1 < ((v.2.2.set v.2.1.toNat (⟨v.1, e1.costs, e1.at_, e1.due, e1.born⟩ : Task)).length : Int))) (((v.2.2.set v.2.1.toNat (⟨v.1, e1.costs, e1.at_, e1.due, e1.born⟩ : Task))[v.2.1.toNat]?).bind fun e2 => (L_markIntS_m3 k e2.costs (IntKind.i64.wrap (v.1 + (1 : Int)))).bind fun r3 => cond (decide (0 ≤ v.2.1 ∧ v.2.1 < (((v.2.2.set v.2.1.toNat (⟨v.1, e1.costs, e1.at_, e1.due, e1.born⟩ : Task)).set v.2.1.toNat (⟨e2.id, r3.2, e2.at_, e2.due, e2.born⟩ : Task)).length : Int))) ((((v.2.2.set v.2.1.toNat (⟨v.1, e1.costs, e1.at_, e1.due, e1.born⟩ : Task)).set v.2.1.toNat (⟨e2.id, r3.2, e2.at_, e2.due, e2.born⟩ : Task))[v.2.1.toNat]?).bind fun e4 => cond (decide (0 ≤ v.2.1 ∧ v.2.1 < ((((v.2.2.set v.2.1.toNat (⟨v.1, e1.costs, e1.at_, e1.due, e1.born⟩ : Task)).set v.2.1.toNat (⟨e2.id, r3.2, e2.at_, e2.due, e2.born⟩ : Task)).set v.2.1.toNat (⟨e4.id, e4.costs, r3.1, e4.due, e4.born⟩ : Task)).length : Int))) (((((v.2.2.set v.2.1.toNat (⟨v.1, e1.costs, e1.at_, e1.due, e1.born⟩ : Task)).set v.2.1.toNat (⟨e2.id, r3.2, e2.at_, e2.due, e2.born⟩ : Task)).set v.2.1.toNat (⟨e4.id, e4.costs, r3.1, e4.due, e4.born⟩ : Task))[v.2.1.toNat]?).bind fun e5 => cond (decide (0 ≤ v.2.1 ∧ v.2.1 < (((((v.2.2.set v.2.1.toNat (⟨v.1, e1.costs, e1.at_, e1.due, e1.born⟩ : Task)).set v.2.1.toNat (⟨e2.id, r3.2, e2.at_, e2.due, e2.born⟩ : Task)).set v.2.1.toNat (⟨e4.id, e4.costs, r3.1, e4.due, e4.born⟩ : Task)).set v.2.1.toNat (⟨e5.id, e5.costs, e5.at_, (IntKind.i64.wrap (r3.1 + (1 : Int))), e5.born⟩ : Task)).length : Int))) ((((((v.2.2.set v.2.1.toNat (⟨v.1, e1.costs, e1.at_, e1.due, e1.born⟩ : Task)).set v.2.1.toNat (⟨e2.id, r3.2, e2.at_, e2.due, e2.born⟩ : Task)).set v.2.1.toNat (⟨e4.id, e4.costs, r3.1, e4.due, e4.born⟩ : Task)).set v.2.1.toNat (⟨e5.id, e5.costs, e5.at_, (IntKind.i64.wrap (r3.1 + (1 : Int))), e5.born⟩ : Task))[v.2.1.toNat]?).bind fun e6 => next (IntKind.i64.wrap ((IntKind.i64.wrap ((IntKind.i64.wrap (r3.1 + (1 : Int))) + (1 : Int))) + (1 : Int)), IntKind.i64.wrap (v.2.1 + (1 : Int)), ((((v.2.2.set v.2.1.toNat (⟨v.1, e1.costs, e1.at_, e1.due, e1.born⟩ : Task)).set v.2.1.toNat (⟨e2.id, r3.2, e2.at_, e2.due, e2.born⟩ : Task)).set v.2.1.toNat (⟨e4.id, e4.costs, r3.1, e4.due, e4.born⟩ : Task)).set v.2.1.toNat (⟨e5.id, e5.costs, e5.at_, (IntKind.i64.wrap (r3.1 + (1 : Int))), e5.born⟩ : Task)).set v.2.1.toNat (⟨e6.id, e6.costs, e6.at_, e6.due, (IntKind.i64.wrap ((IntKind.i64.wrap (r3.1 + (1 : Int))) + (1 : Int)))⟩ : Task))) none) none) none) none) none) (x0 (v.1, v.2.2))
def L_markTaskS_m3 (k : Nat) (a0 : List Task) (a1 : Int) : Option (Int × List Task) :=
  iter (fun u8 n8 => L_markTaskS_m3_g0 k () u8 n8 (fun y7 => some (y7.1, y7.2))) k (a1, (0 : Int), a0)
def L_markSched_m2 (k : Nat) (a0 : Sched) (a1 : Int) : Option (Int × List Task) :=
  (L_markTaskS_m3 k a0.tasks a1).bind fun r1 => some (r1.1, r1.2)
def L_heldTaskS_g0 {ρ : Type} (k : Nat) (p : List Task) (v : Int × Int) (next : (Int × Int) → Option ρ) (x0 : Int → Option ρ) (xret : Int → Option ρ) : Option ρ :=
  cond (decide (v.2 < (p.length : Int))) ((idx p v.2).bind fun e1 => cond (e1.id != v.1) (xret (-1 : Int)) ((idx p v.2).bind fun e2 => (L_heldIntS k e2.costs (IntKind.i64.wrap (v.1 + (1 : Int)))).bind fun r3 => cond (decide (r3 < (0 : Int))) (xret (-1 : Int)) ((idx p v.2).bind fun e4 => cond (e4.at_ != r3) (xret (-1 : Int)) ((idx p v.2).bind fun e5 => cond (e5.due != (IntKind.i64.wrap (r3 + (1 : Int)))) (xret (-1 : Int)) ((idx p v.2).bind fun e6 => cond (e6.born != (IntKind.i64.wrap ((IntKind.i64.wrap (r3 + (1 : Int))) + (1 : Int)))) (xret (-1 : Int)) (next (IntKind.i64.wrap ((IntKind.i64.wrap ((IntKind.i64.wrap (r3 + (1 : Int))) + (1 : Int))) + (1 : Int)), IntKind.i64.wrap (v.2 + (1 : Int))))))))) (x0 v.1)
def L_heldTaskS (k : Nat) (a0 : List Task) (a1 : Int) : Option (Int) :=
  iter (fun u9 n9 => L_heldTaskS_g0 k a0 u9 n9 (fun y7 => some y7) (fun y8 => some y8)) k (a1, (0 : Int))
def L_heldSched (k : Nat) (a0 : Sched) (a1 : Int) : Option (Int) :=
  (L_heldTaskS k a0.tasks a1).bind fun r1 => cond (decide (r1 < (0 : Int))) (some (-1 : Int)) (some r1)
end
end Go.Proofs.Ev
