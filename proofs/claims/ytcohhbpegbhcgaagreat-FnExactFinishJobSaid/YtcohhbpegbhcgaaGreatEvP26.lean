/- Plain laws: jobs that finish, or run for a while. -/
import Derived.Test.YtcohhbpegbhcgaaGreatEvP25
set_option linter.unusedVariables false
set_option linter.unusedSimpArgs false
set_option linter.unusedVariables false
set_option linter.unusedSimpArgs false
namespace Go.Proofs.Ev
def finJ : Nat → Job → Job
  | 0, j => j
  | d + 1, j => finJ d (stepJ j)
def leftJ (j : Job) : Nat := j.model.layers.length - j.at_.toNat
def finishJ (j : Job) : Tensor × Bool := cond (jobB j) ((finJ (leftJ j) j).act, true) (⟨noShape, []⟩, false)
def tupS (j : Job) : Int × Int × Int × Int × Int × Int × Int × Int × List Layer × List Int := (j.model.inp.h, j.model.inp.w, j.model.inp.c, j.at_, j.act.sh.h, j.act.sh.w, j.act.sh.c, j.spent, j.model.layers, j.act.data)
theorem left_zero {j : Job} (h : jobB j = true) (e : leftJ j = 0) : j.at_ = (j.model.layers.length : Int) := by
  have := (jobB_spec h).2.1
  unfold leftJ at e; omega
theorem left_succ {j : Job} {d : Nat} (h : jobB j = true) (e : leftJ j = d + 1) : j.at_ ≠ (j.model.layers.length : Int) ∧ leftJ (stepJ j) = d := by
  have := (jobB_spec h).2.1
  unfold leftJ at e ⊢
  refine ⟨by omega, ?_⟩
  show j.model.layers.length - (j.at_ + 1).toNat = d
  omega
theorem S_fin_loop {k : Nat} {R : Type} {fin : (Int × Int × Int × Int × Int × Int × Int × Int × List Layer × List Int) → Option R} : ∀ (d : Nat) (j : Job) (kf : Nat), jobB j = true → leftJ j = d → d < kf → j.model.tot + 1025 < k → j.model.tot + 512 ≤ maxN →
    iter (fun u6 n6 => S_FinishJob_g0 k ((0 : Int), (0 : Int), (0 : Int)) u6 n6 fin) kf (tupS j) = fin (tupS (finJ d j))
  | _, _, 0, _, _, h, _, _ => by omega
  | 0, j, kf + 1, h, e, _, hk, hN => by
    have ht := job_small h
    rw [iter_succ]
    unfold S_FinishJob_g0 tupS
    show (S_JobDone k j).bind _ = _
    rw [S_JobDone_eq (by omega) (by omega) h, bind_some', left_zero h e, beq_self_eq_true]
    show fin _ = fin _
    rw [← left_zero h e]; rfl
  | d + 1, j, kf + 1, h, e, hd, hk, hN => by
    have ht := job_small h
    obtain ⟨c, e2⟩ := left_succ h e
    have ih := S_fin_loop (fin := fin) d (stepJ j) kf (jobB_step h c) e2 (by omega) hk hN
    rw [iter_succ]
    refine Eq.trans ?_ ih
    unfold S_FinishJob_g0
    show (S_JobDone k j).bind _ = _
    rw [S_JobDone_eq (by omega) (by omega) h, bind_some', bneqI c]
    show (S_StepJob k j).bind _ = _
    rw [S_StepJob_eq (by omega) (by omega), bind_some']
    unfold stepB
    rw [h, bneqI c]
    rfl
theorem S_FinishJob_eq {k : Nat} {j : Job} (hk : j.tot + 1025 < k) (hN : j.tot + 512 ≤ maxN) : S_FinishJob k j = some (finishJ j) := by
  have hM := maxN_eq
  have ht : j.tot = j.model.tot + (j.act.data.length + 0 + 0) := rfl
  unfold S_FinishJob finishJ
  rw [S_JobOk_eq (by omega) (by omega), bind_some']
  cases h : jobB j
  · rfl
  simp only [Bool.not_true, cond_false, cond_true]
  rw [S_l06Copy_eq (by omega) (by omega), bind_some']
  have h6 := (modelB_get (jobB_spec h).1).1
  exact S_fin_loop (k := k) (fin := fun y5 => some ((⟨(⟨y5.2.2.2.2.1, y5.2.2.2.2.2.1, y5.2.2.2.2.2.2.1⟩ : Shape), y5.2.2.2.2.2.2.2.2.2⟩ : Tensor), true)) (leftJ j) j k h rfl (by unfold leftJ; omega) (by omega) (by omega)
def tupI (j : Job) : Int × Int × Int × Int × Int × List Int := (j.at_, j.act.sh.h, j.act.sh.w, j.act.sh.c, j.spent, j.act.data)
theorem I_fin_loop {k : Nat} {R : Type} {fin : (Int × Int × Int × Int × Int × List Int) → Option R} {m : Model} : ∀ (d : Nat) (j : Job) (kf : Nat), j.model = m → jobB j = true → leftJ j = d → d < kf → m.tot + 1025 < k → m.tot + 512 < maxN →
    iter (fun u6 n6 => I_FinishJob_g0 k ((0 : Int), (0 : Int), (0 : Int), m.inp.h, m.inp.w, m.inp.c, m.layers) u6 n6 fin) kf (tupI j) = fin (tupI (finJ d j))
  | _, _, 0, _, _, _, h, _, _ => by omega
  | 0, j, kf + 1, em, h, e, _, hk, hN => by
    subst em
    have ht := job_small h
    rw [iter_succ]
    unfold I_FinishJob_g0 tupI
    show (I_Job_isDone k j).bind _ = _
    unfold I_Job_isDone
    rw [bind_some', left_zero h e, beq_self_eq_true]
    show fin _ = fin _
    rw [← left_zero h e]; rfl
  | d + 1, j, kf + 1, em, h, e, hd, hk, hN => by
    subst em
    have ht := job_small h
    obtain ⟨c, e2⟩ := left_succ h e
    have ih := I_fin_loop (fin := fin) (m := j.model) d (stepJ j) kf rfl (jobB_step h c) e2 (by omega) hk hN
    rw [iter_succ]
    refine Eq.trans ?_ ih
    unfold I_FinishJob_g0
    show (I_Job_isDone k j).bind _ = _
    unfold I_Job_isDone
    rw [bind_some', bneqI c]
    show (pI_Job_step_m k j).bind _ = _
    rw [I_step_eq (by omega) (by omega) h c]
    rfl
theorem I_FinishJob_eq {k : Nat} {j : Job} (hk : j.tot + 1025 < k) (hN : j.tot + 512 < maxN) : I_FinishJob k j = some (finishJ j) := by
  have hM := maxN_eq
  have ht : j.tot = j.model.tot + (j.act.data.length + 0 + 0) := rfl
  unfold I_FinishJob finishJ
  rw [I_JobOk_eq (by omega) (by omega), bind_some']
  cases h : jobB j
  · rfl
  simp only [Bool.not_true, cond_false, cond_true]
  rw [I_Job_copied_eq (by omega) (by omega), bind_some']
  have h6 := (modelB_get (jobB_spec h).1).1
  exact I_fin_loop (k := k) (m := j.model) (fin := fun y5 => some ((⟨(⟨y5.2.1, y5.2.2.1, y5.2.2.2.1⟩ : Shape), y5.2.2.2.2.2⟩ : Tensor), true)) (leftJ j) j k rfl h rfl (by unfold leftJ; omega) (by omega) (by omega)
theorem finJ_ok : ∀ (d : Nat) (j : Job), jobB j = true → leftJ j = d → jobB (finJ d j) = true
  | 0, j, h, _ => h
  | d + 1, j, h, e => by
    obtain ⟨c, e2⟩ := left_succ h e
    exact finJ_ok d (stepJ j) (jobB_step h c) e2
theorem finishJ_tot (j : Job) : (finishJ j).1.tot ≤ 512 := by
  unfold finishJ
  cases h : jobB j
  · exact Nat.zero_le _
  · have := (job_small (finJ_ok _ j h rfl)).1
    show (finJ (leftJ j) j).act.data.length + 0 ≤ 512
    omega
theorem L_FnExactFinishJob_eq (j : Job) (hj : j.Ok) : ∃ k, L_FnExactFinishJob k j = some true := by
  refine ⟨j.tot + 1026, ?_⟩
  have hM := maxN_eq
  unfold L_FnExactFinishJob
  rw [L_szJob_z (n := 1048576) hj (by omega) (by omega) (by omega), bind_some', cond_dec]
  by_cases c2 : (1048576 : Int) < (j.tot : Int)
  · simp only [if_pos c2]; rfl
  simp only [if_neg c2]
  rw [if_neg (by omega)]
  have hk : j.tot < j.tot + 1026 := by omega
  have hN : j.tot ≤ maxN := by omega
  have ht := finishJ_tot j
  obtain ⟨r1, y1, z1, e1, a1, b1, h1⟩ := L_markJob_m2_z (k := j.tot + 1026) (x := j) (m := 1) hk hN (by omega) (by unfold bigB; omega)
  obtain ⟨r2, y2, e2, a2, b2, h2⟩ := L_markTensor_m2_z (k := j.tot + 1026) (x := (finishJ j).1) (m := 1) (by omega) (by omega) (by omega) (by unfold bigB; omega)
  have n1 : ¬ r1 < 0 := by omega
  have n2 : ¬ r2 < 0 := by omega
  simp only [L_toJob_z hk hN, bind_some', S_FinishJob_eq (j := j) (k := j.tot + 1026) (by omega) (by omega), I_FinishJob_eq (j := j) (k := j.tot + 1026) (by omega) (by omega), L_eqTensor_z (x := (finishJ j).1) (y := (finishJ j).1) (k := j.tot + 1026) (by omega) (by omega), L_eqJob_z (y := j) hk hN, e1, e2, h2, decide_true, cond_not, cond_true, cond_dec, cond_bne, n1, n2, if_true, if_false, beq_self_eq_true]
end Go.Proofs.Ev
