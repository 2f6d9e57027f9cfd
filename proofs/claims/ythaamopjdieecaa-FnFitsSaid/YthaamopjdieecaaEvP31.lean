/- Plain laws: FnAdmits. -/
import Derived.Test.YthaamopjdieecaaEvP30
set_option linter.unusedVariables false
set_option linter.unusedSimpArgs false
set_option linter.unusedVariables false
set_option linter.unusedSimpArgs false
set_option maxRecDepth 100000
namespace Go.Proofs.Ev
theorem remain_pos {s : Sched} (h : schedB s = true) {t : Task} (hm : t ∈ s.tasks) : 1 ≤ remain s t := by
  have hs := schedB_spec h
  obtain ⟨i, hi, e⟩ := List.mem_iff_getElem.1 hm
  have hT : taskB t = true := e ▸ (tasksB_spec hs.2.2.2.2.2.2.1 hi).1
  have hc := idx_costAt hT
  have hb := restOf_bd hT
  unfold remain
  cases hr : s.run == t.id
  · simp only [cond_false]; omega
  · have := run_left h hm (by simpa using hr)
    simp only [cond_true]; omega
end Go.Proofs.Ev
