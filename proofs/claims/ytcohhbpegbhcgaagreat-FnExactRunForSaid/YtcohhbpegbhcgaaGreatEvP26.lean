/- Plain laws: jobs that finish, or run for a while. -/
import Derived.Test.YtcohhbpegbhcgaaGreatEvP25
set_option linter.unusedVariables false
set_option linter.unusedSimpArgs false
set_option linter.unusedVariables false
set_option linter.unusedSimpArgs false
namespace Go.Proofs.Ev
def leftJ (j : Job) : Nat := j.model.layers.length - j.at_.toNat
def tupS (j : Job) : Int × Int × Int × Int × Int × Int × Int × Int × List Layer × List Int := (j.model.inp.h, j.model.inp.w, j.model.inp.c, j.at_, j.act.sh.h, j.act.sh.w, j.act.sh.c, j.spent, j.model.layers, j.act.data)
theorem left_zero {j : Job} (h : jobB j = true) (e : leftJ j = 0) : j.at_ = (j.model.layers.length : Int) := by
  have := (jobB_spec h).2.1
  unfold leftJ at e; omega
theorem left_succ {j : Job} {d : Nat} (h : jobB j = true) (e : leftJ j = d + 1) : j.at_ ≠ (j.model.layers.length : Int) ∧ leftJ (stepJ j) = d := by
  have := (jobB_spec h).2.1
  unfold leftJ at e ⊢
  refine ⟨by omega, ?_⟩
  show j.model.layers.length - (j.at_ + 1).toNat = d
  omega
def tupI (j : Job) : Int × Int × Int × Int × Int × List Int := (j.at_, j.act.sh.h, j.act.sh.w, j.act.sh.c, j.spent, j.act.data)
def runJ : Nat → Int → Job → Job × Int
  | 0, c, j => (j, c)
  | d + 1, c, j => cond (decide (nextC j ≤ c)) (runJ d (IntKind.i64.wrap (c - nextC j)) (stepJ j)) (j, c)
def runForJ (j : Job) (c : Int) : Job × Int := cond (jobB j) (runJ (leftJ j) (if 0 > c then 0 else c) j) (j, c)
theorem S_run_loop {k : Nat} {R : Type} {fin : (Int × Int × Int × Int × Int × Int × Int × Int × Int × List Layer × List Int) → Option R} : ∀ (d : Nat) (j : Job) (c : Int) (kf : Nat), jobB j = true → leftJ j = d → d < kf → j.model.tot + 1025 < k → j.model.tot + 512 ≤ maxN →
    iter (fun u6 n6 => S_RunFor_g0 k ((0 : Int), (0 : Int), (0 : Int), (0 : Int), (0 : Int), (0 : Int), (0 : Int), (0 : Int)) u6 n6 fin) kf (c, tupS j) = fin ((runJ d c j).2, tupS (runJ d c j).1)
  | _, _, _, 0, _, _, h, _, _ => by omega
  | 0, j, c, kf + 1, h, e, _, hk, hN => by
    have ht := job_small h
    rw [iter_succ]
    unfold S_RunFor_g0 tupS
    show (S_JobDone k j).bind _ = _
    rw [S_JobDone_eq (by omega) (by omega) h, bind_some', left_zero h e, beq_self_eq_true]
    show fin _ = fin _
    rw [← left_zero h e]; rfl
  | d + 1, j, c, kf + 1, h, e, hd, hk, hN => by
    have ht := job_small h
    obtain ⟨c0, e2⟩ := left_succ h e
    rw [iter_succ]
    unfold S_RunFor_g0
    show (S_JobDone k j).bind _ = _
    rw [S_JobDone_eq (by omega) (by omega) h, bind_some', bneqI c0]
    show (S_NextCost k j).bind (fun r4 => cond (decide (r4 ≤ c)) ((S_NextCost k j).bind _) _) = _
    rw [S_NextCost_eq (by omega) (by omega) h, bind_some', bind_some']
    unfold runJ
    by_cases c1 : nextC j ≤ c
    · rw [decide_eq_true c1]
      simp only [cond_true]
      refine Eq.trans ?_ (S_run_loop (fin := fin) d (stepJ j) (IntKind.i64.wrap (c - nextC j)) kf (jobB_step h c0) e2 (by omega) hk hN)
      show (S_StepJob k j).bind _ = _
      rw [S_StepJob_eq (by omega) (by omega), bind_some']
      unfold stepB
      rw [h, bneqI c0]
      rfl
    · rw [decide_eq_false c1]; rfl
theorem S_RunFor_eq {k : Nat} {j : Job} {c : Int} (hk : j.tot + 1025 < k) (hN : j.tot + 512 ≤ maxN) : S_RunFor k j c = some (runForJ j c) := by
  have hM := maxN_eq
  have ht : j.tot = j.model.tot + (j.act.data.length + 0 + 0) := rfl
  unfold S_RunFor runForJ
  rw [S_l06Copy_eq (by omega) (by omega), bind_some', S_JobOk_eq (by omega) (by omega), bind_some']
  cases h : jobB j
  · rfl
  simp only [Bool.not_true, cond_false, cond_true]
  have h6 := (modelB_get (jobB_spec h).1).1
  rw [cond_dec]
  by_cases c0 : c < 0
  · rw [if_pos c0, if_pos (by omega)]
    exact S_run_loop (k := k) (fin := fun y7 => some ((⟨(⟨(⟨y7.2.1, y7.2.2.1, y7.2.2.2.1⟩ : Shape), y7.2.2.2.2.2.2.2.2.2.1⟩ : Model), y7.2.2.2.2.1, (⟨(⟨y7.2.2.2.2.2.1, y7.2.2.2.2.2.2.1, y7.2.2.2.2.2.2.2.1⟩ : Shape), y7.2.2.2.2.2.2.2.2.2.2⟩ : Tensor), y7.2.2.2.2.2.2.2.2.1⟩ : Job), y7.1)) (leftJ j) j 0 k h rfl (by unfold leftJ; omega) (by omega) (by omega)
  · rw [if_neg c0, if_neg (by omega)]
    exact S_run_loop (k := k) (fin := fun y7 => some ((⟨(⟨(⟨y7.2.1, y7.2.2.1, y7.2.2.2.1⟩ : Shape), y7.2.2.2.2.2.2.2.2.2.1⟩ : Model), y7.2.2.2.2.1, (⟨(⟨y7.2.2.2.2.2.1, y7.2.2.2.2.2.2.1, y7.2.2.2.2.2.2.2.1⟩ : Shape), y7.2.2.2.2.2.2.2.2.2.2⟩ : Tensor), y7.2.2.2.2.2.2.2.2.1⟩ : Job), y7.1)) (leftJ j) j c k h rfl (by unfold leftJ; omega) (by omega) (by omega)
theorem I_run_loop {k : Nat} {R : Type} {fin : (Int × Int × Int × Int × Int × Int × List Int) → Option R} {m : Model} : ∀ (d : Nat) (j : Job) (c : Int) (kf : Nat), j.model = m → jobB j = true → leftJ j = d → d < kf → m.tot + 1025 < k → m.tot + 512 < maxN →
    iter (fun u6 n6 => I_RunFor_g0 k ((0 : Int), (0 : Int), (0 : Int), (0 : Int), (0 : Int), (0 : Int), (0 : Int), (0 : Int), m.inp.h, m.inp.w, m.inp.c, m.layers) u6 n6 fin) kf (c, tupI j) = fin ((runJ d c j).2, tupI (runJ d c j).1)
  | _, _, _, 0, _, _, _, h, _, _ => by omega
  | 0, j, c, kf + 1, em, h, e, _, hk, hN => by
    subst em
    rw [iter_succ]
    unfold I_RunFor_g0 tupI
    show (I_Job_isDone k j).bind _ = _
    unfold I_Job_isDone
    rw [bind_some', left_zero h e, beq_self_eq_true]
    show fin _ = fin _
    rw [← left_zero h e]; rfl
  | d + 1, j, c, kf + 1, em, h, e, hd, hk, hN => by
    subst em
    have ht := job_small h
    obtain ⟨c0, e2⟩ := left_succ h e
    rw [iter_succ]
    unfold I_RunFor_g0
    show (I_Job_isDone k j).bind _ = _
    unfold I_Job_isDone
    rw [bind_some', bneqI c0]
    show (I_NextCost k j).bind (fun r4 => cond (decide (r4 ≤ c)) ((I_NextCost k j).bind _) _) = _
    rw [I_NextCost_eq (by omega) (by omega) h, bind_some', bind_some']
    unfold runJ
    by_cases c1 : nextC j ≤ c
    · rw [decide_eq_true c1]
      simp only [cond_true]
      refine Eq.trans ?_ (I_run_loop (fin := fin) (m := j.model) d (stepJ j) (IntKind.i64.wrap (c - nextC j)) kf rfl (jobB_step h c0) e2 (by omega) hk hN)
      show (pI_Job_step_m k j).bind _ = _
      rw [I_step_eq (by omega) (by omega) h c0]
      rfl
    · rw [decide_eq_false c1]; rfl
theorem runJ_model : ∀ (d : Nat) (c : Int) (j : Job), (runJ d c j).1.model = j.model
  | 0, _, _ => rfl
  | d + 1, c, j => by
    unfold runJ
    cases decide (nextC j ≤ c)
    · rfl
    · exact runJ_model d _ (stepJ j)
theorem I_RunFor_eq {k : Nat} {j : Job} {c : Int} (hk : j.tot + 1025 < k) (hN : j.tot + 512 < maxN) : I_RunFor k j c = some (runForJ j c) := by
  have hM := maxN_eq
  have ht : j.tot = j.model.tot + (j.act.data.length + 0 + 0) := rfl
  unfold I_RunFor runForJ
  rw [I_Job_copied_eq (by omega) (by omega), bind_some', I_JobOk_eq (by omega) (by omega), bind_some']
  cases h : jobB j
  · rfl
  simp only [Bool.not_true, cond_false, cond_true]
  have h6 := (modelB_get (jobB_spec h).1).1
  refine (I_run_loop (k := k) (m := j.model) (fin := fun y7 => some ((⟨j.model, y7.2.1, (⟨(⟨y7.2.2.1, y7.2.2.2.1, y7.2.2.2.2.1⟩ : Shape), y7.2.2.2.2.2.2⟩ : Tensor), y7.2.2.2.2.2.1⟩ : Job), y7.1)) (leftJ j) j (if 0 > c then 0 else c) k rfl h rfl (by unfold leftJ; omega) (by omega) (by omega)).trans ?_
  have e := runJ_model (leftJ j) (if 0 > c then 0 else c) j
  generalize runJ (leftJ j) (if 0 > c then 0 else c) j = x at e
  obtain ⟨⟨m, a, t, s⟩, c'⟩ := x
  have e : m = j.model := e
  subst e
  rfl
theorem runJ_ok : ∀ (d : Nat) (c : Int) (j : Job), jobB j = true → leftJ j = d → jobB (runJ d c j).1 = true
  | 0, _, j, h, _ => h
  | d + 1, c, j, h, e => by
    obtain ⟨c0, e2⟩ := left_succ h e
    unfold runJ
    cases decide (nextC j ≤ c)
    · exact h
    · exact runJ_ok d _ (stepJ j) (jobB_step h c0) e2
theorem runForJ_tot (j : Job) (c : Int) : (runForJ j c).1.tot ≤ j.tot + 512 := by
  have ht : j.tot = j.model.tot + (j.act.data.length + 0 + 0) := rfl
  unfold runForJ
  cases h : jobB j
  · show j.tot ≤ _; omega
  · have := (job_small (runJ_ok _ (if 0 > c then 0 else c) j h rfl)).2
    rw [runJ_model] at this
    show (runJ (leftJ j) (if 0 > c then 0 else c) j).1.tot ≤ _
    omega
theorem L_FnExactRunFor_eq (j : Job) (c : Int) (hj : j.Ok) (hc : okI c) : ∃ k, L_FnExactRunFor k j c = some true := by
  refine ⟨j.tot + 1026, ?_⟩
  have hM := maxN_eq
  unfold L_FnExactRunFor
  rw [L_szJob_z (n := 1048576) hj (by omega) (by omega) (by omega), bind_some', cond_dec]
  by_cases c2 : (1048576 : Int) < (j.tot : Int)
  · simp only [if_pos c2]; rfl
  simp only [if_neg c2]
  rw [if_neg (by omega)]
  have hk : j.tot < j.tot + 1026 := by omega
  have hN : j.tot ≤ maxN := by omega
  have ht := runForJ_tot j c
  obtain ⟨r1, y1, z1, e1, a1, b1, h1⟩ := L_markJob_m2_z (k := j.tot + 1026) (x := j) (m := 1) hk hN (by omega) (by unfold bigB; omega)
  obtain ⟨r2, y2, z2, e2, a2, b2, h2⟩ := L_markJob_m2_z (k := j.tot + 1026) (x := (runForJ j c).1) (m := 1) (by omega) (by omega) (by omega) (by unfold bigB; omega)
  have n1 : ¬ r1 < 0 := by omega
  have n2 : ¬ r2 < 0 := by omega
  simp only [L_toJob_z hk hN, bind_some', S_RunFor_eq (j := j) (c := c) (k := j.tot + 1026) (by omega) (by omega), I_RunFor_eq (j := j) (c := c) (k := j.tot + 1026) (by omega) (by omega), L_eqJob_z (x := (runForJ j c).1) (y := (runForJ j c).1) (k := j.tot + 1026) (by omega) (by omega), L_eqJob_z (y := j) hk hN, e1, e2, h2, decide_true, cond_not, cond_true, cond_dec, cond_bne, n1, n2, if_true, if_false, beq_self_eq_true]
end Go.Proofs.Ev
