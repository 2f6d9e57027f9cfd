/- Plain laws: copies of models, CutModel, JobOk, StartJob. -/
import Derived.Test.YtcihopgmgpmadaaEvP7
set_option linter.unusedVariables false
set_option linter.unusedSimpArgs false
set_option linter.unusedVariables false
set_option linter.unusedSimpArgs false
namespace Go.Proofs.Ev
/-! ### copies -/
theorem S_l03Copy_eq {k : Nat} {l : Layer} (hk : l.tot < k) (hN : l.tot ≤ maxN) : S_l03Copy k l = some l := by
  unfold Layer.tot at hk hN
  unfold S_l03Copy
  rw [S_l01Copy_eq (by omega) (by omega), bind_some', S_l01Copy_eq (by omega) (by omega)]; rfl
theorem I_Layer_copied_eq {k : Nat} {l : Layer} (hN : l.tot ≤ maxN) : I_Layer_copied k l = some l := by
  unfold Layer.tot at hN
  unfold I_Layer_copied
  rw [slices_Clone_lint_int_eq (by omega), bind_some', slices_Clone_lint_int_eq (by omega)]; rfl
theorem I_copiedLayers_eq {k : Nat} {xs : List Layer} (hk : totL Layer.tot xs < k) (hN : totL Layer.tot xs ≤ maxN) : I_copiedLayers k xs = some xs := by
  have hM := maxN_eq
  have hl := totL_len Layer.tot xs
  have := app_loop xs (fun x => x) (g := fun u next => I_copiedLayers_g0 k (xs, (xs.length : Int)) u next (fun y3 => some y3)) (fin := some) (fun i ys hi next hys => by
    have hm := totL_mem Layer.tot (List.getElem_mem hi)
    simp only [I_copiedLayers_g0]
    rw [cond_dec, if_pos (by omega), idx_nat, getD_get hi, bind_some', I_Layer_copied_eq (by omega), bind_some', ble_le (by omega), wrapNat1 hi (by omega)]) (fun ys next => by
    simp only [I_copiedLayers_g0]; rw [cond_dec, if_neg (by omega)]) (k := k) (by omega)
  rw [List.map_id'] at this
  exact this
theorem I_Model_copied_eq {k : Nat} {m : Model} (hk : m.tot < k) (hN : m.tot ≤ maxN) : I_Model_copied k m = some m := by
  unfold Model.tot at hk hN
  unfold I_Model_copied
  rw [I_copiedLayers_eq (by omega) (by omega)]; rfl
theorem S_l04Copy_eq {k : Nat} {m : Model} (hk : m.tot < k) (hN : m.tot ≤ maxN) : S_l04Copy k m = some m := by
  have hM := maxN_eq
  obtain ⟨hlk, hlN⟩ := layers_len hk hN
  have := app_loop m.layers (fun x => x) (g := fun u next => S_l04Copy_g0 k (m.inp.h, m.inp.w, m.inp.c, m.layers, (0 : Int), (0 : Int), (0 : Int), m.inp.h, m.inp.w, m.inp.c) u next (fun y3 => some (⟨m.inp, y3⟩ : Model))) (fin := fun y3 => some (⟨m.inp, y3⟩ : Model)) (fun i ys hi next hys => by
    obtain ⟨a1, a2⟩ := layer_in hk hN (List.getElem_mem hi)
    simp only [S_l04Copy_g0]
    rw [cond_dec, if_pos (by omega), idx_nat, getD_get hi, bind_some', S_l03Copy_eq a1 a2, bind_some', ble_le (by omega), wrapNat1 hi (by omega)]) (fun ys next => by
    simp only [S_l04Copy_g0]; rw [cond_dec, if_neg (by omega)]) (k := k) hlk
  rw [List.map_id'] at this
  exact this
theorem I_Job_copied_eq {k : Nat} {j : Job} (hk : j.tot < k) (hN : j.tot ≤ maxN) : I_Job_copied k j = some j := by
  unfold Job.tot Tensor.tot at hk hN
  unfold I_Job_copied
  rw [I_Model_copied_eq (by omega) (by omega), bind_some', I_Tensor_copied_eq (by omega)]; rfl
/-! ### CutModel -/
def noModel : Model := ⟨⟨0, 0, 0⟩, []⟩
def cutModel (m : Model) (a b : Int) : Model × Bool :=
  cond (modelB m && (decide (0 ≤ a) && (decide (a < b) && decide (b ≤ m.layers.length)))) (⟨(shapesOf m).getD a.toNat noShape, (m.layers.take b.toNat).drop a.toNat⟩, true) (noModel, false)
theorem totL_drop {α : Type} (t : α → Nat) (xs : List α) (i : Nat) : totL t (xs.drop i) ≤ totL t xs := by
  have := totL_append t (xs.take i) (xs.drop i)
  rw [List.take_append_drop] at this
  omega
theorem I_CutModel_eq {k : Nat} {m : Model} {a b : Int} (hk : m.tot < k) (hN : m.tot < maxN) : I_CutModel k m a b = some (cutModel m a b) := by
  unfold I_CutModel cutModel
  rw [I_ModelOk_eq hk hN, bind_some', cond_swap]
  cases hm : modelB m
  · rfl
  have hsl := shapesOf_len hm
  simp only [cond_true, Bool.true_and]
  by_cases h1 : 0 ≤ a
  · rw [decide_eq_false (show ¬ a < 0 by omega), decide_eq_true h1]
    simp only [cond_false, Bool.true_and]
    by_cases h2 : a < b
    · rw [decide_eq_false (show ¬ a ≥ b by omega), decide_eq_true h2]
      simp only [cond_false, Bool.true_and]
      by_cases h3 : b ≤ m.layers.length
      · rw [decide_eq_false (show ¬ b > m.layers.length by omega), decide_eq_true h3]
        have hi : a.toNat < (shapesOf m).length := by omega
        have ht := totL_drop Layer.tot (m.layers.take b.toNat) a.toNat
        have ht2 := totL_take Layer.tot m.layers b.toNat
        have hk2 := hk
        have hN2 := hN
        unfold Model.tot at hk2 hN2
        simp only [cond_false, cond_true]
        rw [I_ShapesOf_eq hk hN, bind_some', cond_dec, if_pos (by omega), getD_get hi, bind_some', cond_dec, if_pos (by omega), cond_dec, if_pos (by omega), I_copiedLayers_eq (by omega) (by omega), bind_some', getD_of hi]
      · rw [decide_eq_true (show b > m.layers.length by omega), decide_eq_false h3]; rfl
    · rw [decide_eq_true (show a ≥ b by omega), decide_eq_false h2]; rfl
  · rw [decide_eq_true (show a < 0 by omega), decide_eq_false h1]; rfl
theorem S_CutModel_eq {k : Nat} {m : Model} {a b : Int} (hk : m.tot < k) (hN : m.tot ≤ maxN) (ha : okI a) (hb : okI b) : S_CutModel k m a b = some (cutModel m a b) := by
  have hM := maxN_eq
  obtain ⟨hlk, hlN⟩ := layers_len hk hN
  unfold okI at ha hb
  unfold S_CutModel cutModel
  rw [S_l04Shapes_eq hk hN, bind_some', cond_swap]
  show cond (modelB m) _ _ = _
  cases hm : modelB m
  · rfl
  have hsl := shapesOf_len hm
  have e : (modelShapes m).1 = shapesOf m := by unfold shapesOf; rw [hm]; rfl
  simp only [cond_true, Bool.true_and, e, S_l01In_eq, bind_some', cond_swap]
  rw [wrapI (n := (m.layers.length : Int) - 1) (by omega) (by omega)]
  by_cases h : 0 ≤ a ∧ a ≤ (m.layers.length : Int) - 1
  · have e1 : inB a 0 ((m.layers.length : Int) - 1) = true := inB_spec.2 h
    rw [e1, decide_eq_true h.1, wrapI (n := a + 1) (by omega) (by omega)]
    simp only [cond_true, Bool.true_and]
    by_cases h2 : a < b ∧ b ≤ (m.layers.length : Int)
    · have e2 : inB b (a + 1) (m.layers.length : Int) = true := inB_spec.2 (by omega)
      rw [e2, decide_eq_true h2.1, decide_eq_true h2.2]
      have hi : a.toNat < (shapesOf m).length := by omega
      simp only [cond_true, Bool.and_self]
      rw [cond_dec, if_pos (by omega), getD_get hi, bind_some', getD_of hi]
      have hdl : ((m.layers.take b.toNat).drop a.toNat).length = b.toNat - a.toNat := by simp; omega
      have := iter_run (R := Model × Bool) (g := fun u next => S_CutModel_g0 k (b, m.inp.h, m.inp.w, m.inp.c, m.layers, (0 : Int), (0 : Int), (0 : Int), (shapesOf m)[a.toNat].h, (shapesOf m)[a.toNat].w, (shapesOf m)[a.toNat].c) u next (fun y7 => some ((⟨(shapesOf m)[a.toNat], y7⟩ : Model), true))) (n := b.toNat - a.toNat)
        (st := fun i => (a + (i : Int), ((m.layers.take b.toNat).drop a.toNat).take i)) (r := some ((⟨(shapesOf m)[a.toNat], (m.layers.take b.toNat).drop a.toNat⟩ : Model), true)) (fun i hi2 next => by
          have hlt : a.toNat + i < m.layers.length := by omega
          obtain ⟨a1, a2⟩ := layer_in hk hN (List.getElem_mem hlt)
          simp only [S_CutModel_g0]
          rw [cond_dec, if_pos (by omega), show a + (i : Int) = ((a.toNat + i : Nat) : Int) from by omega, idx_nat, getD_get hlt, bind_some', S_l03Copy_eq a1 a2, bind_some', ble_le (by simp; omega), wrapNat1 hlt (by omega)]
          congr 2
          · omega
          · rw [take_step (show i < ((m.layers.take b.toNat).drop a.toNat).length by omega)]
            congr 2
            simp) (fun next => by
          simp only [S_CutModel_g0]
          rw [cond_dec, if_neg (by omega), List.take_of_length_le (by omega)]) (k := k) (by omega)
      simpa using this
    · have e2 : inB b (a + 1) (m.layers.length : Int) = false := by rw [← Bool.not_eq_true, inB_spec]; omega
      have e3 : (decide (a < b) && decide (b ≤ (m.layers.length : Int))) = false := by rw [← Bool.not_eq_true, Bool.and_eq_true, decide_eq_true_eq, decide_eq_true_eq]; exact h2
      rw [e2, e3]; rfl
  · have e1 : inB a 0 ((m.layers.length : Int) - 1) = false := by rw [← Bool.not_eq_true, inB_spec]; exact h
    have e3 : (decide (0 ≤ a) && (decide (a < b) && decide (b ≤ (m.layers.length : Int)))) = false := by
      rw [← Bool.not_eq_true, Bool.and_eq_true, Bool.and_eq_true, decide_eq_true_eq, decide_eq_true_eq, decide_eq_true_eq]; omega
    rw [e1, e3]; rfl
theorem cutModel_tot (m : Model) (a b : Int) : (cutModel m a b).1.tot ≤ m.tot := by
  unfold cutModel
  cases (modelB m && (decide (0 ≤ a) && (decide (a < b) && decide (b ≤ m.layers.length))))
  · exact Nat.zero_le _
  · simp only [cond_true, Model.tot]
    have ht := totL_drop Layer.tot (m.layers.take b.toNat) a.toNat
    have ht2 := totL_take Layer.tot m.layers b.toNat
    omega
theorem L_FnExactCutModel_eq (m : Model) (a b : Int) (hm : m.Ok) (ha : okI a) (hb : okI b) : ∃ k, L_FnExactCutModel k m a b = some true := by
  refine ⟨m.tot + 2, ?_⟩
  have hM := maxN_eq
  unfold L_FnExactCutModel
  rw [L_szModel_z (n := 1048576) hm (by omega) (by omega) (by omega), bind_some', cond_dec]
  by_cases c : (1048576 : Int) < (m.tot : Int)
  · simp only [if_pos c]; rfl
  simp only [if_neg c]
  rw [if_neg (by omega)]
  have hk : m.tot < m.tot + 2 := by omega
  have hN : m.tot ≤ maxN := by omega
  have hr := cutModel_tot m a b
  obtain ⟨r1, y1, e1, a1, b1, h1⟩ := L_markModel_m2_z (k := m.tot + 2) (x := m) (m := 1) hk hN (by omega) (by unfold bigB; omega)
  obtain ⟨r2, y2, e2, a2, b2, h2⟩ := L_markModel_m2_z (k := m.tot + 2) (x := (cutModel m a b).1) (m := 1) (by omega) (by omega) (by omega) (by unfold bigB; omega)
  simp only [L_toModel_z hk hN, bind_some', S_CutModel_eq hk hN ha hb, I_CutModel_eq (m := m) (a := a) (b := b) (k := m.tot + 2) (by omega) (by omega), L_eqModel_z (x := (cutModel m a b).1) (y := (cutModel m a b).1) (k := m.tot + 2) (by omega) (by omega), L_eqModel_z (y := m) hk hN, e1, e2, h2, decide_true, cond_not, cond_true, cond_dec, cond_bne]
  rw [if_neg (by omega)]
  simp
  repeat rw [if_neg (by omega)]
end Go.Proofs.Ev
