/- Plain laws: FnAdmits. -/
import Derived.Test.YthaamopjdieecaaEvP30
set_option linter.unusedVariables false
set_option linter.unusedSimpArgs false
set_option linter.unusedVariables false
set_option linter.unusedSimpArgs false
set_option maxRecDepth 100000
namespace Go.Proofs.Ev
/-- What is left of all. -/
def workS (s : Sched) : Int := (s.tasks.map (remain s)).sum
theorem remain_pos {s : Sched} (h : schedB s = true) {t : Task} (hm : t ∈ s.tasks) : 1 ≤ remain s t := by
  have hs := schedB_spec h
  obtain ⟨i, hi, e⟩ := List.mem_iff_getElem.1 hm
  have hT : taskB t = true := e ▸ (tasksB_spec hs.2.2.2.2.2.2.1 hi).1
  have hc := idx_costAt hT
  have hb := restOf_bd hT
  unfold remain
  cases hr : s.run == t.id
  · simp only [cond_false]; omega
  · have := run_left h hm (by simpa using hr)
    simp only [cond_true]; omega
theorem work_bd {s : Sched} (h : schedB s = true) : 0 ≤ workS s ∧ workS s ≤ 72000 := by
  have hs := schedB_spec h
  have := sum_bd' (f := remain s) (B := 6000) s.tasks (fun t ht => remain_bd h ht)
  unfold workS
  omega
theorem I_workLeft_eq {k : Nat} {s : Sched} (hk : s.tot < k) (hN : s.tot ≤ maxN) (h : schedB s = true) : I_Sched_workLeft k s = some (workS s) := by
  have hM := maxN_eq
  have hs := schedB_spec h
  have hlen := totL_len Task.tot s.tasks
  have hst : s.tot = totL Task.tot s.tasks + 0 := rfl
  unfold I_Sched_workLeft
  exact sum_loop s.tasks (remain s) (B := 6000) (fun t ht => remain_bd h ht) (g := fun u4 n4 => I_Sched_workLeft_g0 k (s.tasks, (s.tasks.length : Int), s.now, s.slack, s.age, s.tasks, s.run, s.left, s.turns, s.next) u4 n4 (fun y3 => some y3)) (fin := some)
    (fun i z hi next h0 h1 => by
      have hr := remain_bd h (List.getElem_mem hi)
      have e := I_remain_eq hk hN h (List.getElem_mem hi)
      simp only [I_Sched_workLeft_g0]
      rw [cond_dec, if_pos (by omega), idx_nat, getD_get hi, bind_some', wrapNat1 hi (by omega)]
      rw [show (⟨s.now, s.slack, s.age, s.tasks, s.run, s.left, s.turns, s.next⟩ : Sched) = s from rfl, e, bind_some', wrapI (by omega) (by omega)])
    (fun z next => by simp only [I_Sched_workLeft_g0]; rw [cond_dec, if_neg (by omega)]) (by omega)
theorem I_WorkLeft_eq {k : Nat} {s : Sched} (hk : s.tot < k) (hN : s.tot ≤ maxN) : I_WorkLeft k s = some (cond (schedB s) (workS s) (-1)) := by
  unfold I_WorkLeft
  rw [I_SchedOk_eq hk hN, bind_some']
  cases h : schedB s
  · rfl
  · rw [I_workLeft_eq hk hN h]; rfl
/-- What Admit does, by its answers. -/
theorem admit_cases (s : Sched) (costs : List Int) (due : Int) :
    ((admitS s costs due).2.2 = 0 ∧ 0 < (admitS s costs due).2.1 ∧ schedB s = true ∧ fitsB (admitS s costs due).1 = true ∧ (admitS s costs due).1 = ⟨s.now, s.slack, s.age, s.tasks ++ [⟨s.next, costs, 0, due, s.now⟩], s.run, s.left, s.turns, s.next + 1⟩) ∨
    ((admitS s costs due).2.2 ≠ 0 ∧ (admitS s costs due).2.1 = 0 ∧ (admitS s costs due).1 = s) := by
  unfold admitS
  cases h : schedB s && taskB ⟨s.next, costs, 0, due, s.now⟩
  · right; simp
  have hb := (Bool.and_eq_true_iff.1 h).1
  have hs := schedB_spec hb
  cases ((s.tasks.length : Int) == 12 || s.next == 1000000)
  · cases hf : fitsB ⟨s.now, s.slack, s.age, s.tasks ++ [⟨s.next, costs, 0, due, s.now⟩], s.run, s.left, s.turns, s.next + 1⟩
    · right; simp
    · left; simp only [cond_true, cond_false]
      exact ⟨trivial, by omega, hb, hf, trivial⟩
  · right; simp
end Go.Proofs.Ev
