/- What laws do with their arguments: sizes, copies, comparisons, marks. -/
import Derived.Test.YtcihopgmgpmadaaEvP1
import Derived.Test.YtcihopgmgpmadaaEvB1
import Derived.Test.YtcihopgmgpmadaaEvB2
import Derived.Test.YtcihopgmgpmadaaEvD6
set_option linter.unusedVariables false
set_option linter.unusedSimpArgs false
set_option linter.unusedVariables false
set_option linter.unusedSimpArgs false
namespace Go.Proofs.Ev
theorem L_eqTask_z {k : Nat} {x y : Task} (hk : x.tot < k) (hN : x.tot ≤ maxN) : L_eqTask k x y = some (decide (x = y)) := by
  unfold Task.tot at hk hN
  refine (eq_i (eq_o (L_eqIntS_z (by omega) (by omega)) (eq_i (eq_i (eq_i (eq_end)))))).trans ?_
  congr 1
  rw [decide_eq_decide]
  cases x; cases y
  simp only [Task.mk.injEq, and_true]
theorem L_eqTaskS_z {k : Nat} {xs ys : List Task} (hk : totL Task.tot xs < k) (hN : totL Task.tot xs ≤ maxN) : L_eqTaskS k xs ys = some (decide (xs = ys)) := by
  have hl : xs.length ≤ totL Task.tot xs := totL_len _ _
  have h2 := maxN_eq
  exact eq_list (f := fun x y => L_eqTask k x y) (g := fun u next => L_eqTaskS_g0 k (xs, ys) u next (fun y => some true) (fun y => some y)) (by omega) (fun x hm y => L_eqTask_z (by have := totL_mem Task.tot hm; omega) (by have := totL_mem Task.tot hm; omega))
    (fun i hi hi' next => by simp only [L_eqTaskS_g0]; rw [cond_dec, if_pos (by omega), idx_nat, idx_nat, getD_get hi, getD_get hi', bind_some', bind_some']) (fun next => by simp only [L_eqTaskS_g0]; rw [cond_dec, if_neg (by omega)]) (by omega)
theorem L_markTaskS_m3_z {k : Nat} {xs : List Task} {m : Int} (hk : totL Task.tot xs < k) (hN : totL Task.tot xs ≤ maxN) (h0 : 0 ≤ m) (hB : m + 16 * totL Task.tot xs ≤ bigB) :
    ∃ r ys, L_markTaskS_m3 k xs m = some (r, ys) ∧ m ≤ r ∧ r ≤ m + 16 * totL Task.tot xs ∧ ys.length = xs.length ∧ L_heldTaskS k ys m = some r := by
  have ht : totL Task.tot xs = totL Task.tot xs := rfl
  have hN2 := maxN_eq
  have hlen := totL_len Task.tot xs
  unfold bigB at hB
  obtain ⟨r, out, a1, a2, a3, a4, a5⟩ := mark_list (t := Task.tot) (N := xs.length) (g := fun u next => L_markTaskS_m3_g0 k () u next (fun y => some (y.1, y.2))) (fin := fun y => some (y.1, y.2)) (hd := fun ys u next => L_heldTaskS_g0 k ys u next (fun y => some y) (fun y => some y))
    (fun m ys next hl => by simp only [L_markTaskS_m3_g0, cond_dec]; rw [if_neg (by omega)]) (fun ys m next hl => by simp only [L_heldTaskS_g0, cond_dec]; rw [if_neg (by omega)]) xs [] m k (by simp) (by omega) h0 (by unfold bigB; omega)
    (fun x hm m h0 hB => by
      have hmt := totL_mem Task.tot hm
      rw [ht] at hmt
      unfold bigB at hB
      have hxk : x.tot < k := by omega
      have hxN : x.tot ≤ maxN := by omega
      clear hmt hm
      unfold Task.tot at hxk hxN hB ⊢
      obtain ⟨r0, y0, e0, a0, b0, l0, h0⟩ := L_markIntS_m3_z (k := k) (xs := x.costs) (m := m + 1) (by omega) (by omega) (by omega) (by unfold bigB; omega)
      refine ⟨r0 + 1 + 1 + 1, (⟨m, y0, r0, r0 + 1, r0 + 1 + 1⟩ : Task), by omega, by omega, fun i ys next hl hi hx => ?_, fun i ys next hl hi hy => ?_⟩
      · simp (disch := first | omega | (simp only [List.length_set]; omega)) only [L_markTaskS_m3_g0, cond_dec, if_pos, Int.toNat_natCast, wrapI, List.length_set, List.getElem?_set_self, List.set_set, hx, bind_some', e0]
      · simp (disch := omega) only [L_heldTaskS_g0, cond_dec, if_pos, if_neg, idx_nat, hy, bind_some', cond_bne, wrapI, if_true, h0])
  rw [ht] at a4
  exact ⟨r, out, a2, a3, a4, a1, a5 k (by omega)⟩
theorem L_eqSched_z {k : Nat} {x y : Sched} (hk : x.tot < k) (hN : x.tot ≤ maxN) : L_eqSched k x y = some (decide (x = y)) := by
  unfold Sched.tot at hk hN
  refine (eq_i (eq_i (eq_i (eq_o (L_eqTaskS_z (by omega) (by omega)) (eq_i (eq_i (eq_i (eq_i (eq_end))))))))).trans ?_
  congr 1
  rw [decide_eq_decide]
  cases x; cases y
  simp only [Sched.mk.injEq, and_true]
theorem L_markSched_m2_z {k : Nat} {x : Sched} {m : Int} (hk : x.tot < k) (hN : x.tot ≤ maxN) (h0 : 0 ≤ m) (hB : m + 16 * x.tot ≤ bigB) :
    ∃ r y0, L_markSched_m2 k x m = some (r, y0) ∧ m ≤ r ∧ r ≤ m + 16 * x.tot ∧ L_heldSched k (⟨x.now, x.slack, x.age, y0, x.run, x.left, x.turns, x.next⟩ : Sched) m = some r := by
  unfold Sched.tot at hk hN hB ⊢
  unfold bigB at hB
  obtain ⟨r0, y0, e0, a0, b0, l0, h0⟩ := L_markTaskS_m3_z (k := k) (xs := x.tasks) (m := m) (by omega) (by omega) (by omega) (by unfold bigB; omega)
  refine ⟨r0, y0, ?_, by omega, by omega, ?_⟩
  · simp only [L_markSched_m2, e0, bind_some']
  · simp (disch := omega) only [L_heldSched, h0, bind_some', cond_dec, if_neg]
end Go.Proofs.Ev
