/- What laws do with their arguments: sizes, copies, comparisons, marks. -/
import Derived.Test.YthaamopjdieecaaEvP1
import Derived.Test.YthaamopjdieecaaEvB1
import Derived.Test.YthaamopjdieecaaEvD1
import Derived.Test.YthaamopjdieecaaEvD4
import Derived.Test.YthaamopjdieecaaEvD5
set_option linter.unusedVariables false
set_option linter.unusedSimpArgs false
set_option linter.unusedVariables false
set_option linter.unusedSimpArgs false
namespace Go.Proofs.Ev
theorem L_markLayerS_m3_z {k : Nat} {xs : List Layer} {m : Int} (hk : totL Layer.tot xs < k) (hN : totL Layer.tot xs ≤ maxN) (h0 : 0 ≤ m) (hB : m + 16 * totL Layer.tot xs ≤ bigB) :
    ∃ r ys, L_markLayerS_m3 k xs m = some (r, ys) ∧ m ≤ r ∧ r ≤ m + 16 * totL Layer.tot xs ∧ ys.length = xs.length ∧ L_heldLayerS k ys m = some r := by
  have ht : totL Layer.tot xs = totL Layer.tot xs := rfl
  have hN2 := maxN_eq
  have hlen := totL_len Layer.tot xs
  unfold bigB at hB
  obtain ⟨r, out, a1, a2, a3, a4, a5⟩ := mark_list (t := Layer.tot) (N := xs.length) (g := fun u next => L_markLayerS_m3_g0 k () u next (fun y => some (y.1, y.2))) (fin := fun y => some (y.1, y.2)) (hd := fun ys u next => L_heldLayerS_g0 k ys u next (fun y => some y) (fun y => some y))
    (fun m ys next hl => by simp only [L_markLayerS_m3_g0, cond_dec]; rw [if_neg (by omega)]) (fun ys m next hl => by simp only [L_heldLayerS_g0, cond_dec]; rw [if_neg (by omega)]) xs [] m k (by simp) (by omega) h0 (by unfold bigB; omega)
    (fun x hm m h0 hB => by
      have hmt := totL_mem Layer.tot hm
      rw [ht] at hmt
      unfold bigB at hB
      have hxk : x.tot < k := by omega
      have hxN : x.tot ≤ maxN := by omega
      clear hmt hm
      unfold Layer.tot at hxk hxN hB ⊢
      obtain ⟨r0, y0, e0, a0, b0, l0, h0⟩ := L_markIntS_m3_z (k := k) (xs := x.weights) (m := m + 1 + 1 + 1 + 1 + 1 + 1 + 1) (by omega) (by omega) (by omega) (by unfold bigB; omega)
      obtain ⟨r1, y1, e1, a1, b1, l1, h1⟩ := L_markIntS_m3_z (k := k) (xs := x.bias) (m := r0) (by omega) (by omega) (by omega) (by unfold bigB; omega)
      refine ⟨r1, (⟨m, m + 1, m + 1 + 1, m + 1 + 1 + 1, m + 1 + 1 + 1 + 1, m + 1 + 1 + 1 + 1 + 1, m + 1 + 1 + 1 + 1 + 1 + 1, y0, y1⟩ : Layer), by omega, by omega, fun i ys next hl hi hx => ?_, fun i ys next hl hi hy => ?_⟩
      · simp (disch := first | omega | (simp only [List.length_set]; omega)) only [L_markLayerS_m3_g0, cond_dec, if_pos, Int.toNat_natCast, wrapI, List.length_set, List.getElem?_set_self, List.set_set, hx, bind_some', e0, e1]
      · simp (disch := omega) only [L_heldLayerS_g0, cond_dec, if_pos, if_neg, idx_nat, hy, bind_some', cond_bne, wrapI, if_true, h0, h1])
  rw [ht] at a4
  exact ⟨r, out, a2, a3, a4, a1, a5 k (by omega)⟩
theorem L_markModel_m2_z {k : Nat} {x : Model} {m : Int} (hk : x.tot < k) (hN : x.tot ≤ maxN) (h0 : 0 ≤ m) (hB : m + 16 * x.tot ≤ bigB) :
    ∃ r y0, L_markModel_m2 k x m = some (r, y0) ∧ m ≤ r ∧ r ≤ m + 16 * x.tot ∧ L_heldModel k (⟨x.inp, y0⟩ : Model) m = some r := by
  unfold Model.tot at hk hN hB ⊢
  unfold bigB at hB
  obtain ⟨r0, y0, e0, a0, b0, l0, h0⟩ := L_markLayerS_m3_z (k := k) (xs := x.layers) (m := m) (by omega) (by omega) (by omega) (by unfold bigB; omega)
  refine ⟨r0, y0, ?_, by omega, by omega, ?_⟩
  · simp only [L_markModel_m2, e0, bind_some']
  · simp (disch := omega) only [L_heldModel, h0, bind_some', cond_dec, if_neg]
end Go.Proofs.Ev
