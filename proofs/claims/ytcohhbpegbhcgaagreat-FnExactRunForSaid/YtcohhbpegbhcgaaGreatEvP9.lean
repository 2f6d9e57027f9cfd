/- Plain laws: JobOk, StartJob. -/
import Derived.Test.YtcohhbpegbhcgaaGreatEvP8
set_option linter.unusedVariables false
set_option linter.unusedSimpArgs false
set_option linter.unusedVariables false
set_option linter.unusedSimpArgs false
namespace Go.Proofs.Ev
def wsum (xs : List Int) : Int := xs.foldl (fun s x => IntKind.i64.wrap (s + x)) 0
theorem shapeEq (a b : Shape) : (cond (a.h == b.h) (cond (a.w == b.w) (cond (a.c == b.c) (true) false) false) false) = decide (a = b) := by
  obtain ⟨a1, a2, a3⟩ := a
  obtain ⟨b1, b2, b3⟩ := b
  by_cases h1 : a1 = b1 <;> by_cases h2 : a2 = b2 <;> by_cases h3 : a3 = b3 <;> simp [h1, h2, h3]
def jobB (j : Job) : Bool := modelB j.model && (inB j.at_ 0 j.model.layers.length && (j.act.okB && (decide (j.act.sh = (shapesOf j.model).getD j.at_.toNat noShape) && decide (j.spent = wsum ((costsOf j.model).take j.at_.toNat)))))
theorem costsOf_len' {m : Model} (h : modelB m = true) : (costsOf m).length = m.layers.length := by
  unfold costsOf
  rw [h]; simp
theorem I_JobOk_eq {k : Nat} {j : Job} (hk : j.tot + 1 < k) (hN : j.tot < maxN) : I_JobOk k j = some (jobB j) := by
  have hM := maxN_eq
  unfold Job.tot Tensor.tot at hk hN
  have hmk : j.model.tot + 1 < k := by omega
  have hmN : j.model.tot < maxN := by omega
  obtain ⟨hlk, hlN⟩ := layers_len (show j.model.tot < k by omega) (Nat.le_of_lt hmN)
  unfold I_JobOk jobB
  rw [I_ModelOk_eq (by omega) hmN, bind_some']
  cases hm : modelB j.model
  · rfl
  have hsl := shapesOf_len hm
  have hcl := costsOf_len' hm
  simp only [cond_true, Bool.true_and, I_in_eq, bind_some']
  cases hin : inB j.at_ 0 j.model.layers.length
  · rfl
  rw [inB_spec] at hin
  simp only [cond_true, Bool.true_and]
  rw [I_TensorOk_eq (by omega) (by unfold maxL; omega), bind_some']
  cases j.act.okB
  · rfl
  have hi : j.at_.toNat < (shapesOf j.model).length := by omega
  simp only [cond_true, Bool.true_and]
  rw [I_ShapesOf_eq (by omega) hmN, bind_some', cond_dec, if_pos (by omega), getD_get hi, bind_some', shapeEq, getD_of hi]
  cases decide (j.act.sh = (shapesOf j.model)[j.at_.toNat])
  · rfl
  simp only [cond_true, Bool.true_and]
  have htl : (((costsOf j.model).drop 0).take (j.at_.toNat - 0)).length ≤ (costsOf j.model).length := by simp; omega
  rw [I_CostsOf_eq hmk hmN, bind_some', cond_dec, if_pos (by omega), I_sum_eq (by omega) (by omega), bind_some', beqD, List.drop_zero, Nat.sub_zero]
  rfl
theorem S_JobOk_eq {k : Nat} {j : Job} (hk : j.tot < k) (hN : j.tot ≤ maxN) : S_JobOk k j = some (jobB j) := by
  have hM := maxN_eq
  unfold Job.tot Tensor.tot at hk hN
  have hmk : j.model.tot < k := by omega
  have hmN : j.model.tot ≤ maxN := by omega
  obtain ⟨hlk, hlN⟩ := layers_len hmk hmN
  unfold S_JobOk jobB
  rw [S_l04Shapes_eq hmk hmN, bind_some', cond_swap]
  show cond (modelB j.model) _ _ = _
  cases hm : modelB j.model
  · rfl
  have hsl := shapesOf_len hm
  have hcl := costsOf_len' hm
  have e : (modelShapes j.model).1 = shapesOf j.model := by unfold shapesOf; rw [hm]; rfl
  simp only [cond_true, Bool.true_and, S_l01In_eq, bind_some', cond_swap, e]
  cases hin : inB j.at_ 0 j.model.layers.length
  · rfl
  rw [inB_spec] at hin
  simp only [cond_true, Bool.true_and]
  rw [S_TensorOk_eq (by omega) (by unfold maxL; omega), bind_some']
  cases j.act.okB
  · rfl
  have hi : j.at_.toNat < (shapesOf j.model).length := by omega
  simp only [cond_true, Bool.true_and]
  rw [cond_dec, if_pos (by omega), getD_get hi, bind_some', shapeEq, getD_of hi]
  cases decide (j.act.sh = (shapesOf j.model)[j.at_.toNat])
  · rfl
  simp only [cond_true, Bool.true_and]
  rw [S_CostsOf_eq hmk hmN, bind_some']
  have htl : ((costsOf j.model).take j.at_.toNat).length = j.at_.toNat := by simp; omega
  have := fold_loop ((costsOf j.model).take j.at_.toNat) (fun s x => IntKind.i64.wrap (s + x)) (R := Bool)
    (g := fun u next => S_JobOk_g0 k (j.model.inp.h, j.model.inp.w, j.model.inp.c, j.model.layers, j.at_, j.act.sh.h, j.act.sh.w, j.act.sh.c, j.act.data, j.spent, costsOf j.model) u next (fun y7 => some (j.spent == y7))) (fin := fun y7 => some (j.spent == y7)) 0 (fun i s hi next _ => by
      rw [htl] at hi
      have hi2 : i < (costsOf j.model).length := by omega
      simp only [S_JobOk_g0]
      rw [cond_dec, if_pos (by omega), cond_dec, if_pos (by omega), Int.toNat_natCast, getD_get hi2, bind_some', wrapNat1 hi2 (by omega), List.getElem_take]) (fun next => by
      simp only [S_JobOk_g0]; rw [cond_dec, if_neg (by omega)]) (k := k) (by omega)
  rw [this, beqD]
  rfl
end Go.Proofs.Ev
