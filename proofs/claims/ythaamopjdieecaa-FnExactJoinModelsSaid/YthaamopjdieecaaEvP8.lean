/- Plain laws: copies of models, CutModel, JobOk, StartJob. -/
import Derived.Test.YthaamopjdieecaaEvP7
set_option linter.unusedVariables false
set_option linter.unusedSimpArgs false
set_option linter.unusedVariables false
set_option linter.unusedSimpArgs false
namespace Go.Proofs.Ev
theorem S_l03Copy_eq {k : Nat} {l : Layer} (hk : l.tot < k) (hN : l.tot ≤ maxN) : S_l03Copy k l = some l := by
  unfold Layer.tot at hk hN
  unfold S_l03Copy
  rw [S_l01Copy_eq (by omega) (by omega), bind_some', S_l01Copy_eq (by omega) (by omega)]; rfl
theorem I_Layer_copied_eq {k : Nat} {l : Layer} (hN : l.tot ≤ maxN) : I_Layer_copied k l = some l := by
  unfold Layer.tot at hN
  unfold I_Layer_copied
  rw [slices_Clone_lint_int_eq (by omega), bind_some', slices_Clone_lint_int_eq (by omega)]; rfl
theorem I_copiedLayers_eq {k : Nat} {xs : List Layer} (hk : totL Layer.tot xs < k) (hN : totL Layer.tot xs ≤ maxN) : I_copiedLayers k xs = some xs := by
  have hM := maxN_eq
  have hl := totL_len Layer.tot xs
  have := app_loop xs (fun x => x) (g := fun u next => I_copiedLayers_g0 k (xs, (xs.length : Int)) u next (fun y3 => some y3)) (fin := some) (fun i ys hi next hys => by
    have hm := totL_mem Layer.tot (List.getElem_mem hi)
    simp only [I_copiedLayers_g0]
    rw [cond_dec, if_pos (by omega), idx_nat, getD_get hi, bind_some', I_Layer_copied_eq (by omega), bind_some', ble_le (by omega), wrapNat1 hi (by omega)]) (fun ys next => by
    simp only [I_copiedLayers_g0]; rw [cond_dec, if_neg (by omega)]) (k := k) (by omega)
  rw [List.map_id'] at this
  exact this
theorem S_l04Copy_eq {k : Nat} {m : Model} (hk : m.tot < k) (hN : m.tot ≤ maxN) : S_l04Copy k m = some m := by
  have hM := maxN_eq
  obtain ⟨hlk, hlN⟩ := layers_len hk hN
  have := app_loop m.layers (fun x => x) (g := fun u next => S_l04Copy_g0 k (m.inp.h, m.inp.w, m.inp.c, m.layers, (0 : Int), (0 : Int), (0 : Int), m.inp.h, m.inp.w, m.inp.c) u next (fun y3 => some (⟨m.inp, y3⟩ : Model))) (fin := fun y3 => some (⟨m.inp, y3⟩ : Model)) (fun i ys hi next hys => by
    obtain ⟨a1, a2⟩ := layer_in hk hN (List.getElem_mem hi)
    simp only [S_l04Copy_g0]
    rw [cond_dec, if_pos (by omega), idx_nat, getD_get hi, bind_some', S_l03Copy_eq a1 a2, bind_some', ble_le (by omega), wrapNat1 hi (by omega)]) (fun ys next => by
    simp only [S_l04Copy_g0]; rw [cond_dec, if_neg (by omega)]) (k := k) hlk
  rw [List.map_id'] at this
  exact this
def noModel : Model := ⟨⟨0, 0, 0⟩, []⟩
end Go.Proofs.Ev
