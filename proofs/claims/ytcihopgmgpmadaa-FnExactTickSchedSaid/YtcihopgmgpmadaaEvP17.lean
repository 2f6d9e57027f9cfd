/- Plain laws: what is left of a task, what fits, Admit. -/
import Derived.Test.YtcihopgmgpmadaaEvP16
set_option linter.unusedVariables false
set_option linter.unusedSimpArgs false
set_option linter.unusedVariables false
set_option linter.unusedSimpArgs false
namespace Go.Proofs.Ev
/-! ### copies -/
theorem S_l07Copy_eq {k : Nat} {s : Sched} (hk : s.tot < k) (hN : s.tot ≤ maxN) : S_l07Copy k s = some s := by
  have hM := maxN_eq
  unfold Sched.tot at hk hN
  have hlen := totL_len Task.tot s.tasks
  unfold S_l07Copy
  refine (app_loop s.tasks (fun t => t) (g := fun u4 n4 => S_l07Copy_g0 k (s.now, s.slack, s.age, s.tasks, s.run, s.left, s.turns, s.next, (0 : Int), (0 : Int), (0 : Int), (0 : Int), (0 : Int), (0 : Int), (0 : Int), s.now, s.slack, s.age, s.run, s.left, s.turns, s.next) u4 n4 (fun y3 => some (⟨s.now, s.slack, s.age, y3, s.run, s.left, s.turns, s.next⟩ : Sched)))
    (fin := fun y3 => some (⟨s.now, s.slack, s.age, y3, s.run, s.left, s.turns, s.next⟩ : Sched)) (fun i ys hi next hl => by
    have hm := totL_mem Task.tot (List.getElem_mem hi)
    have hm0 : s.tasks[i].tot = s.tasks[i].costs.length + 0 := rfl
    simp only [S_l07Copy_g0]
    rw [cond_dec, if_pos (by omega), idx_nat, getD_get hi, bind_some', S_l01Copy_eq (by omega) (by omega), bind_some', ble_le (by omega), wrapNat1 hi (by omega)]) (fun ys next => by
    simp only [S_l07Copy_g0]; rw [cond_dec, if_neg (by omega)]) (by omega)).trans ?_
  simp
theorem I_Sched_copied_eq {k : Nat} {s : Sched} (hk : s.tot < k) (hN : s.tot ≤ maxN) : I_Sched_copied k s = some s := by
  have hM := maxN_eq
  unfold Sched.tot at hk hN
  have hlen := totL_len Task.tot s.tasks
  unfold I_Sched_copied
  refine (app_loop s.tasks (fun t => t) (g := fun u4 n4 => I_Sched_copied_g0 k (s.tasks, (s.tasks.length : Int), s.now, s.slack, s.age, s.run, s.left, s.turns, s.next, (0 : Int), (0 : Int), (0 : Int), (0 : Int), (0 : Int), (0 : Int), (0 : Int)) u4 n4 (fun y3 => some (⟨s.now, s.slack, s.age, y3, s.run, s.left, s.turns, s.next⟩ : Sched)))
    (fin := fun y3 => some (⟨s.now, s.slack, s.age, y3, s.run, s.left, s.turns, s.next⟩ : Sched)) (fun i ys hi next hl => by
    have hm := totL_mem Task.tot (List.getElem_mem hi)
    have hm0 : s.tasks[i].tot = s.tasks[i].costs.length + 0 := rfl
    simp only [I_Sched_copied_g0]
    rw [cond_dec, if_pos (by omega), idx_nat, getD_get hi, bind_some', slices_Clone_lint_int_eq (by omega), bind_some', ble_le (by omega), wrapNat1 hi (by omega)]) (fun ys next => by
    simp only [I_Sched_copied_g0]; rw [cond_dec, if_neg (by omega)]) (by omega)).trans ?_
  simp
/-! ### what is left -/
/-- The sum of the layers from a task's place on. -/
def restOf (t : Task) : Int := (t.costs.drop t.at_.toNat).sum
/-- The layer at a task's place. -/
def costAt (t : Task) : Int := (idx t.costs t.at_).getD 0
def remain (s : Sched) (t : Task) : Int := cond (s.run == t.id) (restOf t - costAt t + s.left) (restOf t)
theorem idx_costAt {t : Task} (h : taskB t = true) : idx t.costs t.at_ = some (costAt t) ∧ 1 ≤ costAt t ∧ costAt t ≤ 1000 := by
  have ht := taskB_spec h
  have hlt : t.at_.toNat < t.costs.length := by omega
  have e : idx t.costs t.at_ = some t.costs[t.at_.toNat] := by rw [idx_pos _ ht.2.2.1.1]; exact getD_get hlt
  unfold costAt
  rw [e, Option.getD_some]
  exact ⟨rfl, ht.2.2.2.2.2 _ (List.getElem_mem hlt)⟩
theorem run_left {s : Sched} (h : schedB s = true) {t : Task} (hm : t ∈ s.tasks) (hr : s.run = t.id) : 1 ≤ s.left ∧ s.left ≤ costAt t := by
  have hs := schedB_spec h
  obtain ⟨i, hi, rfl⟩ := List.mem_iff_getElem.1 hm
  have hT := (tasksB_spec hs.2.2.2.2.2.2.1 hi).1
  have ht := taskB_spec hT
  have hrun := hs.2.2.2.2.2.2.2
  unfold runB at hrun
  have h0 : (s.run == 0) = false := by rw [hr]; simp; omega
  rw [h0, cond_false, hr, find_id hs.2.2.2.2.2.2.1 hi, Option.elim_some, getD_get hi, Option.elim_some, (idx_costAt hT).1, Option.elim_some] at hrun
  exact of_decide_eq_true hrun
/-! ### demand -/
def demand (s : Sched) (d : Int) : Int := (s.tasks.map fun t => cond (decide (t.due ≤ d)) (remain s t) 0).sum
def block (s : Sched) (d : Int) : Int := (s.tasks.findIdx? fun t => t.id == s.run).elim 0 fun i => (s.tasks[i]?).elim 0 fun t => cond (decide (t.due > d)) s.left 0
/-! ### what fits -/
def lateB (s : Sched) (t : Task) : Bool := decide (t.due ≤ s.now)
/-! ### Admit -/
end Go.Proofs.Ev
