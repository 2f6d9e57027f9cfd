/- Plain laws: JobOk, StartJob. -/
import Derived.Test.YtcihopgmgpmadaaEvP8
set_option linter.unusedVariables false
set_option linter.unusedSimpArgs false
set_option linter.unusedVariables false
set_option linter.unusedSimpArgs false
namespace Go.Proofs.Ev
def wsum (xs : List Int) : Int := xs.foldl (fun s x => IntKind.i64.wrap (s + x)) 0
theorem shapeEq (a b : Shape) : (cond (a.h == b.h) (cond (a.w == b.w) (cond (a.c == b.c) (true) false) false) false) = decide (a = b) := by
  obtain ⟨a1, a2, a3⟩ := a
  obtain ⟨b1, b2, b3⟩ := b
  by_cases h1 : a1 = b1 <;> by_cases h2 : a2 = b2 <;> by_cases h3 : a3 = b3 <;> simp [h1, h2, h3]
def jobB (j : Job) : Bool := modelB j.model && (inB j.at_ 0 j.model.layers.length && (j.act.okB && (decide (j.act.sh = (shapesOf j.model).getD j.at_.toNat noShape) && decide (j.spent = wsum ((costsOf j.model).take j.at_.toNat)))))
theorem costsOf_len' {m : Model} (h : modelB m = true) : (costsOf m).length = m.layers.length := by
  unfold costsOf
  rw [h]; simp
theorem I_JobOk_eq {k : Nat} {j : Job} (hk : j.tot + 1 < k) (hN : j.tot < maxN) : I_JobOk k j = some (jobB j) := by
  have hM := maxN_eq
  unfold Job.tot Tensor.tot at hk hN
  have hmk : j.model.tot + 1 < k := by omega
  have hmN : j.model.tot < maxN := by omega
  obtain ⟨hlk, hlN⟩ := layers_len (show j.model.tot < k by omega) (Nat.le_of_lt hmN)
  unfold I_JobOk jobB
  rw [I_ModelOk_eq (by omega) hmN, bind_some']
  cases hm : modelB j.model
  · rfl
  have hsl := shapesOf_len hm
  have hcl := costsOf_len' hm
  simp only [cond_true, Bool.true_and, I_in_eq, bind_some']
  cases hin : inB j.at_ 0 j.model.layers.length
  · rfl
  rw [inB_spec] at hin
  simp only [cond_true, Bool.true_and]
  rw [I_TensorOk_eq (by omega) (by unfold maxL; omega), bind_some']
  cases j.act.okB
  · rfl
  have hi : j.at_.toNat < (shapesOf j.model).length := by omega
  simp only [cond_true, Bool.true_and]
  rw [I_ShapesOf_eq (by omega) hmN, bind_some', cond_dec, if_pos (by omega), getD_get hi, bind_some', shapeEq, getD_of hi]
  cases decide (j.act.sh = (shapesOf j.model)[j.at_.toNat])
  · rfl
  simp only [cond_true, Bool.true_and]
  have htl : (((costsOf j.model).drop 0).take (j.at_.toNat - 0)).length ≤ (costsOf j.model).length := by simp; omega
  rw [I_CostsOf_eq hmk hmN, bind_some', cond_dec, if_pos (by omega), I_sum_eq (by omega) (by omega), bind_some', beqD, List.drop_zero, Nat.sub_zero]
  rfl
theorem S_JobOk_eq {k : Nat} {j : Job} (hk : j.tot < k) (hN : j.tot ≤ maxN) : S_JobOk k j = some (jobB j) := by
  have hM := maxN_eq
  unfold Job.tot Tensor.tot at hk hN
  have hmk : j.model.tot < k := by omega
  have hmN : j.model.tot ≤ maxN := by omega
  obtain ⟨hlk, hlN⟩ := layers_len hmk hmN
  unfold S_JobOk jobB
  rw [S_l04Shapes_eq hmk hmN, bind_some', cond_swap]
  show cond (modelB j.model) _ _ = _
  cases hm : modelB j.model
  · rfl
  have hsl := shapesOf_len hm
  have hcl := costsOf_len' hm
  have e : (modelShapes j.model).1 = shapesOf j.model := by unfold shapesOf; rw [hm]; rfl
  simp only [cond_true, Bool.true_and, S_l01In_eq, bind_some', cond_swap, e]
  cases hin : inB j.at_ 0 j.model.layers.length
  · rfl
  rw [inB_spec] at hin
  simp only [cond_true, Bool.true_and]
  rw [S_TensorOk_eq (by omega) (by unfold maxL; omega), bind_some']
  cases j.act.okB
  · rfl
  have hi : j.at_.toNat < (shapesOf j.model).length := by omega
  simp only [cond_true, Bool.true_and]
  rw [cond_dec, if_pos (by omega), getD_get hi, bind_some', shapeEq, getD_of hi]
  cases decide (j.act.sh = (shapesOf j.model)[j.at_.toNat])
  · rfl
  simp only [cond_true, Bool.true_and]
  rw [S_CostsOf_eq hmk hmN, bind_some']
  have htl : ((costsOf j.model).take j.at_.toNat).length = j.at_.toNat := by simp; omega
  have := fold_loop ((costsOf j.model).take j.at_.toNat) (fun s x => IntKind.i64.wrap (s + x)) (R := Bool)
    (g := fun u next => S_JobOk_g0 k (j.model.inp.h, j.model.inp.w, j.model.inp.c, j.model.layers, j.at_, j.act.sh.h, j.act.sh.w, j.act.sh.c, j.act.data, j.spent, costsOf j.model) u next (fun y7 => some (j.spent == y7))) (fin := fun y7 => some (j.spent == y7)) 0 (fun i s hi next _ => by
      rw [htl] at hi
      have hi2 : i < (costsOf j.model).length := by omega
      simp only [S_JobOk_g0]
      rw [cond_dec, if_pos (by omega), cond_dec, if_pos (by omega), Int.toNat_natCast, getD_get hi2, bind_some', wrapNat1 hi2 (by omega), List.getElem_take]) (fun next => by
      simp only [S_JobOk_g0]; rw [cond_dec, if_neg (by omega)]) (k := k) (by omega)
  rw [this, beqD]
  rfl
def noJob : Job := ⟨⟨⟨0, 0, 0⟩, []⟩, 0, ⟨⟨0, 0, 0⟩, []⟩, 0⟩
def startJob (m : Model) (t : Tensor) : Job × Bool := cond (jobB ⟨m, 0, t, 0⟩) (⟨m, 0, t, 0⟩, true) (noJob, false)
theorem S_StartJob_eq {k : Nat} {m : Model} {t : Tensor} (hk : m.tot + t.tot < k) (hN : m.tot + t.tot ≤ maxN) : S_StartJob k m t = some (startJob m t) := by
  have ht : t.tot = t.data.length := rfl
  unfold S_StartJob startJob
  rw [S_l04Copy_eq (by omega) (by omega), bind_some', S_l02Copy_eq (by omega) (by omega), bind_some', S_JobOk_eq (by simp only [Job.tot]; omega) (by simp only [Job.tot]; omega), bind_some', cond_swap]
  cases jobB ⟨m, 0, t, 0⟩ <;> rfl
theorem I_StartJob_eq {k : Nat} {m : Model} {t : Tensor} (hk : m.tot + t.tot + 1 < k) (hN : m.tot + t.tot < maxN) : I_StartJob k m t = some (startJob m t) := by
  unfold I_StartJob startJob
  rw [I_JobOk_eq (by simp only [Job.tot]; omega) (by simp only [Job.tot]; omega), bind_some', cond_swap]
  cases jobB ⟨m, 0, t, 0⟩
  · rfl
  · simp only [cond_true]
    rw [I_Job_copied_eq (by simp only [Job.tot]; omega) (by simp only [Job.tot]; omega)]; rfl
theorem startJob_tot (m : Model) (t : Tensor) : (startJob m t).1.tot ≤ m.tot + t.tot := by
  unfold startJob
  cases jobB ⟨m, 0, t, 0⟩
  · exact Nat.zero_le _
  · simp only [cond_true, Job.tot]; omega
theorem L_FnExactStartJob_eq (m : Model) (t : Tensor) (hm : m.Ok) (ht : t.Ok) : ∃ k, L_FnExactStartJob k m t = some true := by
  refine ⟨m.tot + t.tot + 2, ?_⟩
  have hM := maxN_eq
  unfold L_FnExactStartJob
  rw [L_szModel_z (n := 1048576) hm (by omega) (by omega) (by omega), bind_some', cond_dec]
  by_cases c : (1048576 : Int) < (m.tot : Int)
  · simp only [if_pos c]; rfl
  simp only [if_neg c]
  rw [if_neg (by omega), L_szTensor_z (n := 1048576 - (m.tot : Int)) ht (by omega) (by omega) (by omega), bind_some', cond_dec]
  by_cases c2 : (1048576 : Int) - (m.tot : Int) < (t.tot : Int)
  · simp only [if_pos c2]; rfl
  simp only [if_neg c2]
  rw [if_neg (by omega)]
  have hk : m.tot < m.tot + t.tot + 2 := by omega
  have hN : m.tot ≤ maxN := by omega
  have hkt : t.tot < m.tot + t.tot + 2 := by omega
  have hNt : t.tot ≤ maxN := by omega
  have hr := startJob_tot m t
  obtain ⟨r1, y1, e1, a1, b1, h1⟩ := L_markModel_m2_z (k := m.tot + t.tot + 2) (x := m) (m := 1) hk hN (by omega) (by unfold bigB; omega)
  obtain ⟨r3, y3, e3, a3, b3, h3⟩ := L_markTensor_m2_z (k := m.tot + t.tot + 2) (x := t) (m := r1) hkt hNt (by omega) (by unfold bigB; omega)
  obtain ⟨r2, y2, z2, e2, a2, b2, h2⟩ := L_markJob_m2_z (k := m.tot + t.tot + 2) (x := (startJob m t).1) (m := 1) (by omega) (by omega) (by omega) (by unfold bigB; omega)
  simp only [L_toModel_z hk hN, L_toTensor_z hkt hNt, bind_some', S_StartJob_eq (m := m) (t := t) (k := m.tot + t.tot + 2) (by omega) (by omega), I_StartJob_eq (m := m) (t := t) (k := m.tot + t.tot + 2) (by omega) (by omega), L_eqJob_z (x := (startJob m t).1) (y := (startJob m t).1) (k := m.tot + t.tot + 2) (by omega) (by omega), L_eqModel_z (y := m) hk hN, L_eqTensor_z (y := t) hkt hNt, e1, e2, e3, h2, decide_true, cond_not, cond_true, cond_dec, cond_bne]
  rw [if_neg (by omega)]
  simp
  repeat rw [if_neg (by omega)]
end Go.Proofs.Ev
