/- Plain laws: EvalModel, EvalBatch. -/
import Derived.Test.YtcohhbpegbhcgaaEvP25
import Derived.Test.YtcohhbpegbhcgaaEvD10
set_option linter.unusedVariables false
set_option linter.unusedSimpArgs false
set_option linter.unusedVariables false
set_option linter.unusedSimpArgs false
namespace Go.Proofs.Ev
theorem runL_len (t : Tensor) (l : Layer) : (runL t l).1.data.length ≤ 512 := by
  cases h1 : t.okB
  · unfold runL; rw [h1]; exact Nat.zero_le _
  cases h2 : layerB t.sh l
  · unfold runL; rw [h1, h2]; exact Nat.zero_le _
  obtain ⟨h3, _, _⟩ := runL_right h1 h2
  unfold Tensor.okB at h3
  simp only [Bool.and_eq_true, decide_eq_true_eq] at h3
  have := Shape.size_bd (runL t l).1.sh
  omega
def runAll (t : Tensor) (ls : List Layer) : Tensor := ls.foldl (fun t l => (runL t l).1) t
theorem runAll_len : ∀ (ls : List Layer) (t : Tensor), (runAll t ls).data.length ≤ t.data.length + 512
  | [], t => Nat.le_add_right _ _
  | l :: ls, t => by
    have : ∀ (ls : List Layer) (t : Tensor), t.data.length ≤ 512 → (runAll t ls).data.length ≤ 512 := fun ls => by
      induction ls with
      | nil => exact fun t h => h
      | cons l ls ih => exact fun t _ => ih _ (runL_len t l)
    have := this ls (runL t l).1 (runL_len t l)
    show (runAll (runL t l).1 ls).data.length ≤ _
    omega
theorem runAll_take {t : Tensor} {ls : List Layer} {i : Nat} (h : i < ls.length) : runAll t (ls.take (i + 1)) = (runL (runAll t (ls.take i)) ls[i]).1 := by
  unfold runAll
  rw [take_step h, List.foldl_append]; rfl
def evalM (m : Model) (t : Tensor) : Tensor × Bool := cond (modelB m && (t.okB && decide (t.sh = m.inp))) (runAll t m.layers, true) (⟨noShape, []⟩, false)
def stE (i : Nat) (t : Tensor) : Int × Int × Int × Int × List Int := ((i : Int), t.sh.h, t.sh.w, t.sh.c, t.data)
theorem S_EvalModel_eq {k : Nat} {m : Model} {t : Tensor} (hk : m.tot + t.data.length + 520 < k) (hN : m.tot + t.data.length + 520 ≤ maxN) : S_EvalModel k m t = some (evalM m t) := by
  have hM := maxN_eq
  unfold S_EvalModel evalM
  rw [S_ModelOk_eq (by omega) (by omega), bind_some']
  cases hm : modelB m
  · rfl
  simp only [Bool.not_true, cond_false, Bool.true_and]
  rw [S_TensorOk_eq (by omega) (by unfold maxL; omega), bind_some', shapeEq]
  cases t.okB
  · rfl
  simp only [Bool.not_true, cond_false, Bool.true_and]
  cases decide (t.sh = m.inp)
  · rfl
  simp only [Bool.not_true, cond_false, cond_true]
  rw [S_l02Copy_eq (by omega) (by omega), bind_some']
  obtain ⟨hl, _⟩ := modelB_get hm
  exact iter_run (g := fun u7 n7 => S_EvalModel_g0 k (m.inp.h, m.inp.w, m.inp.c, m.layers, (0 : Int), (0 : Int), (0 : Int)) u7 n7 (fun y6 => some ((⟨(⟨y6.1, y6.2.1, y6.2.2.1⟩ : Shape), y6.2.2.2⟩ : Tensor), true)))
    (st := fun i => stE i (runAll t (m.layers.take i))) (n := m.layers.length) (r := some (runAll t m.layers, true)) (fun i hi next => by
      have hlen := runAll_len (m.layers.take i) t
      have hlt := layer_in (k := k) (m := m) (by omega) (by omega) (List.getElem_mem hi)
      unfold stE
      simp only [S_EvalModel_g0]
      rw [cond_dec, if_pos (by omega), idx_nat, getD_get hi, bind_some', show (⟨⟨(runAll t (m.layers.take i)).sh.h, (runAll t (m.layers.take i)).sh.w, (runAll t (m.layers.take i)).sh.c⟩, (runAll t (m.layers.take i)).data⟩ : Tensor) = runAll t (m.layers.take i) from rfl,
        S_RunLayer_eq (by omega) (by omega) (by omega) hlt.1 hlt.2, bind_some', wrapNat1 hi (by omega), runAll_take hi]) (fun next => by
      rw [List.take_length]
      unfold stE
      simp only [S_EvalModel_g0]
      rw [cond_dec, if_neg (by omega)]) (k := k) (by omega)
theorem I_EvalModel_eq {k : Nat} {m : Model} {t : Tensor} (hk : m.tot + t.data.length + 520 < k) (hN : m.tot + t.data.length + 520 ≤ maxN) : I_EvalModel k m t = some (evalM m t) := by
  have hM := maxN_eq
  unfold I_EvalModel evalM
  rw [I_ModelOk_eq (by omega) (by omega), bind_some']
  cases hm : modelB m
  · rfl
  simp only [Bool.not_true, cond_false, Bool.true_and]
  rw [I_TensorOk_eq (by omega) (by unfold maxL; omega), bind_some', shapeEq]
  cases t.okB
  · rfl
  simp only [Bool.not_true, cond_false, Bool.true_and]
  cases decide (t.sh = m.inp)
  · rfl
  simp only [Bool.not_true, cond_false, cond_true]
  obtain ⟨hl, _⟩ := modelB_get hm
  have h0 : 0 < m.layers.length := by omega
  have hlt0 := layer_in (k := k) (m := m) (by omega) (by omega) (List.getElem_mem h0)
  rw [cond_dec, if_pos (by omega), idx_zero, getD_get h0, bind_some', I_RunLayer_eq (by omega) (by omega) (by omega) hlt0.1 hlt0.2, bind_some']
  have e0 : ((1 : Int), (runL t m.layers[0]).1.sh.h, (runL t m.layers[0]).1.sh.w, (runL t m.layers[0]).1.sh.c, (runL t m.layers[0]).1.data) = stE (0 + 1) (runAll t (m.layers.take (0 + 1))) := by
    rw [runAll_take h0]; rfl
  rw [e0]
  exact iter_run (g := fun u8 n8 => I_EvalModel_g0 k (m.layers, (m.layers.length : Int), (0 : Int), (0 : Int), (0 : Int)) u8 n8 (fun y7 => some ((⟨(⟨y7.1, y7.2.1, y7.2.2.1⟩ : Shape), y7.2.2.2⟩ : Tensor), true)))
    (st := fun i => stE (i + 1) (runAll t (m.layers.take (i + 1)))) (n := m.layers.length - 1) (r := some (runAll t m.layers, true)) (fun i hi next => by
      have hi : i + 1 < m.layers.length := by omega
      have hlen := runAll_len (m.layers.take (i + 1)) t
      have hlt := layer_in (k := k) (m := m) (by omega) (by omega) (List.getElem_mem hi)
      unfold stE
      simp only [I_EvalModel_g0]
      rw [cond_dec, if_pos (by omega), idx_nat, getD_get hi, bind_some', show (⟨⟨(runAll t (m.layers.take (i + 1))).sh.h, (runAll t (m.layers.take (i + 1))).sh.w, (runAll t (m.layers.take (i + 1))).sh.c⟩, (runAll t (m.layers.take (i + 1))).data⟩ : Tensor) = runAll t (m.layers.take (i + 1)) from rfl,
        I_RunLayer_eq (by omega) (by omega) (by omega) hlt.1 hlt.2, bind_some', wrapNat1 hi (by omega), runAll_take hi]) (fun next => by
      rw [show m.layers.length - 1 + 1 = m.layers.length from by omega, List.take_length]
      unfold stE
      simp only [I_EvalModel_g0]
      rw [cond_dec, if_neg (by omega)]) (k := k) (by omega)
theorem evalM_len (m : Model) (t : Tensor) : (evalM m t).1.tot ≤ t.tot + 512 := by
  unfold evalM
  cases (modelB m && (t.okB && decide (t.sh = m.inp)))
  · exact Nat.zero_le _
  · have := runAll_len m.layers t
    show (runAll t m.layers).data.length + 0 ≤ t.data.length + 0 + 512
    omega
theorem try_loop {α β R : Type} (xs : List α) (ok : α → Bool) (f : α → β) {g : Int × List β → (Int × List β → Option R) → Option R} {fin : List β → Option R} {bad : Option R} {k : Nat}
    (h : ∀ (i : Nat) ys next (hi : i < xs.length), ys.length = i → g ((i : Int), ys) next = cond (ok xs[i]) (next (((i + 1 : Nat) : Int), ys ++ [f xs[i]])) bad)
    (hn : ∀ ys next, g ((xs.length : Int), ys) next = fin ys) (hk : xs.length < k) : iter g k ((0 : Int), []) = cond (xs.all ok) (fin (xs.map f)) bad := by
  have := iter_rec (g := g) (st := fun i => ((i : Int), (xs.take i).map f)) (n := xs.length) (P := fun i => cond ((xs.drop i).all ok) (fin (xs.map f)) bad) (fun i hi next e => by
    rw [h i _ next hi (by simp; omega), drop_step hi, List.all_cons]
    cases ho : ok xs[i]
    · rfl
    · simp only [cond_true, Bool.true_and]
      rw [← e, take_step hi, List.map_append]; rfl) (fun next => by
    rw [hn, List.take_length, List.drop_length]; rfl) k 0 (Nat.zero_le _) (by omega)
  exact this
def batchE (m : Model) (ts : List Tensor) : List Tensor × Bool := cond (inB (ts.length : Int) 1 8 && ts.all fun t => (evalM m t).2) (ts.map fun t => (evalM m t).1, true) ([], false)
theorem S_EvalBatch_eq {k : Nat} {m : Model} {ts : List Tensor} (hk : m.tot + totL Tensor.tot ts + 520 < k) (hN : m.tot + totL Tensor.tot ts + 520 ≤ maxN) : S_EvalBatch k m ts = some (batchE m ts) := by
  have hM := maxN_eq
  have hlen := totL_len Tensor.tot ts
  unfold S_EvalBatch batchE
  rw [S_l01In_eq, bind_some']
  cases inB (ts.length : Int) 1 8
  · rfl
  simp only [Bool.not_true, cond_false, Bool.true_and]
  rw [try_loop ts (fun t => (evalM m t).2) (fun t => (evalM m t).1) (fin := fun y4 => some (y4, true)) (bad := some (([] : List Tensor), false)) (fun i ys next hi hl => by
    have ht := totL_mem Tensor.tot (List.getElem_mem hi)
    have htt : ts[i].tot = ts[i].data.length + 0 := rfl
    simp only [S_EvalBatch_g0]
    rw [cond_dec, if_pos (by omega), idx_nat, getD_get hi, bind_some', show (⟨⟨m.inp.h, m.inp.w, m.inp.c⟩, m.layers⟩ : Model) = m from rfl, S_EvalModel_eq (by omega) (by omega), bind_some', cond_not, ble_le (by omega), wrapNat1 hi (by omega)]) (fun ys next => by
    simp only [S_EvalBatch_g0]; rw [cond_dec, if_neg (by omega)]) (by omega)]
  cases ts.all fun t => (evalM m t).2 <;> rfl
theorem I_EvalBatch_eq {k : Nat} {m : Model} {ts : List Tensor} (hk : m.tot + totL Tensor.tot ts + 520 < k) (hN : m.tot + totL Tensor.tot ts + 520 ≤ maxN) : I_EvalBatch k m ts = some (batchE m ts) := by
  have hM := maxN_eq
  have hlen := totL_len Tensor.tot ts
  unfold I_EvalBatch batchE
  rw [I_in_eq, bind_some']
  cases inB (ts.length : Int) 1 8
  · rfl
  simp only [Bool.not_true, cond_false, Bool.true_and]
  rw [try_loop ts (fun t => (evalM m t).2) (fun t => (evalM m t).1) (fin := fun y4 => some (y4, true)) (bad := some (([] : List Tensor), false)) (fun i ys next hi hl => by
    have ht := totL_mem Tensor.tot (List.getElem_mem hi)
    have htt : ts[i].tot = ts[i].data.length + 0 := rfl
    simp only [I_EvalBatch_g0]
    rw [cond_dec, if_pos (by omega), idx_nat, getD_get hi, bind_some', show (⟨⟨m.inp.h, m.inp.w, m.inp.c⟩, m.layers⟩ : Model) = m from rfl, I_EvalModel_eq (by omega) (by omega), bind_some', cond_not, ble_le (by omega), wrapNat1 hi (by omega)]) (fun ys next => by
    simp only [I_EvalBatch_g0]; rw [cond_dec, if_neg (by omega)]) (by omega)]
  cases ts.all fun t => (evalM m t).2 <;> rfl
theorem map_tot (m : Model) : ∀ ts : List Tensor, totL Tensor.tot (ts.map fun t => (evalM m t).1) ≤ totL Tensor.tot ts + 512 * ts.length
  | [] => Nat.zero_le _
  | t :: ts => by
    have := map_tot m ts
    have := evalM_len m t
    rw [List.map_cons, totL_cons, totL_cons, List.length_cons]; omega
theorem batchE_tot (m : Model) (ts : List Tensor) : totL Tensor.tot (batchE m ts).1 ≤ totL Tensor.tot ts + 512 * ts.length := by
  unfold batchE
  cases (inB (ts.length : Int) 1 8 && ts.all fun t => (evalM m t).2)
  · exact Nat.zero_le _
  · exact map_tot m ts
theorem L_markTensorS_m2_h {k : Nat} {xs : List Tensor} {m : Int} (hk : totL Tensor.tot xs < k) (hN : totL Tensor.tot xs ≤ maxN) (h0 : 0 ≤ m) (hB : m + 16 * totL Tensor.tot xs ≤ bigB) :
    ∃ r ys, L_markTensorS_m2 k xs m = some (r, ys) ∧ m ≤ r ∧ r ≤ m + 16 * totL Tensor.tot xs ∧ ys.length = xs.length ∧ L_heldTensorS k ys m = some r := by
  have ht : totL Tensor.tot xs = totL Tensor.tot xs := rfl
  have hN2 := maxN_eq
  have hlen := totL_len Tensor.tot xs
  unfold bigB at hB
  obtain ⟨r, out, a1, a2, a3, a4, a5⟩ := mark_list (t := Tensor.tot) (N := xs.length) (g := fun u next => L_markTensorS_m2_g0 k () u next (fun y => some (y.1, y.2))) (fin := fun y => some (y.1, y.2)) (hd := fun ys u next => L_heldTensorS_g0 k ys u next (fun y => some y) (fun y => some y))
    (fun m ys next hl => by simp only [L_markTensorS_m2_g0, cond_dec]; rw [if_neg (by omega)]) (fun ys m next hl => by simp only [L_heldTensorS_g0, cond_dec]; rw [if_neg (by omega)]) xs [] m k (by simp) (by omega) h0 (by unfold bigB; omega)
    (fun x hm m h0 hB => by
      have hmt := totL_mem Tensor.tot hm
      rw [ht] at hmt
      unfold bigB at hB
      have hxk : x.tot < k := by omega
      have hxN : x.tot ≤ maxN := by omega
      clear hmt hm
      unfold Tensor.tot at hxk hxN hB ⊢
      obtain ⟨r0, y0, e0, a0, b0, l0, h0⟩ := L_markIntS_m3_z (k := k) (xs := x.data) (m := m + 1 + 1 + 1) (by omega) (by omega) (by omega) (by unfold bigB; omega)
      refine ⟨r0, (⟨⟨m, m + 1, m + 1 + 1⟩, y0⟩ : Tensor), by omega, by omega, fun i ys next hl hi hx => ?_, fun i ys next hl hi hy => ?_⟩
      · simp (disch := first | omega | (simp only [List.length_set]; omega)) only [L_markTensorS_m2_g0, cond_dec, if_pos, Int.toNat_natCast, wrapI, List.length_set, List.getElem?_set_self, List.set_set, hx, bind_some', e0]
      · simp (disch := omega) only [L_heldTensorS_g0, cond_dec, if_pos, if_neg, idx_nat, hy, bind_some', cond_bne, wrapI, if_true, h0])
  rw [ht] at a4
  exact ⟨r, out, a2, a3, a4, a1, a5 k (by omega)⟩
theorem L_FnExactEvalBatch_eq (m : Model) (ts : List Tensor) (hm : m.Ok) (ht : okS Tensor.Ok ts) : ∃ k, L_FnExactEvalBatch k m ts = some true := by
  have hlen := totL_len Tensor.tot ts
  obtain ⟨k, hkk⟩ : ∃ k, k = m.tot + totL Tensor.tot ts + 512 * ts.length + 521 := ⟨_, rfl⟩
  refine ⟨k, ?_⟩
  have hM := maxN_eq
  unfold L_FnExactEvalBatch
  rw [L_szModel_z (n := 1048576) hm (by omega) (by omega) (by omega), bind_some', cond_dec]
  by_cases c : (1048576 : Int) < (m.tot : Int)
  · simp only [if_pos c]; rfl
  simp only [if_neg c]
  rw [if_neg (by omega), L_szTensorS_z (n := 1048576 - (m.tot : Int)) ht (by omega) (by omega) (by omega), bind_some', cond_dec]
  by_cases c2 : (1048576 : Int) - (m.tot : Int) < (totL Tensor.tot ts : Int)
  · simp only [if_pos c2]; rfl
  simp only [if_neg c2]
  rw [if_neg (by omega)]
  have hmk : m.tot < k := by omega
  have hmN : m.tot ≤ maxN := by omega
  have htk : totL Tensor.tot ts < k := by omega
  have htN : totL Tensor.tot ts ≤ maxN := by omega
  have hb := batchE_tot m ts
  obtain ⟨r1, y1, e1, a1, b1, h1⟩ := L_markModel_m2_z (k := k) (x := m) (m := 1) hmk hmN (by omega) (by unfold bigB; omega)
  obtain ⟨r2, y2, e2, a2, b2, l2⟩ := L_markTensorS_m2_z (k := k) (xs := ts) (m := r1) htk htN (by omega) (by unfold bigB; omega)
  obtain ⟨r3, y3, e3, a3, b3, l3, h3⟩ := L_markTensorS_m2_h (k := k) (xs := (batchE m ts).1) (m := 1) (by omega) (by omega) (by omega) (by unfold bigB; omega)
  have n2 : ¬ r2 < 0 := by omega
  have n3 : ¬ r3 < 0 := by omega
  simp only [L_toModel_z hmk hmN, L_toTensorS_z htk htN, bind_some', S_EvalBatch_eq (m := m) (ts := ts) (k := k) (by omega) (by omega), I_EvalBatch_eq (m := m) (ts := ts) (k := k) (by omega) (by omega), L_eqTensorS_z (xs := (batchE m ts).1) (ys := (batchE m ts).1) (k := k) (by omega) (by omega), L_eqTensorS_z (ys := ts) htk htN, L_eqModel_z (y := m) hmk hmN, e1, e2, e3, h3, decide_true, cond_not, cond_true, cond_dec, cond_bne, n2, n3, if_true, if_false, beq_self_eq_true]
end Go.Proofs.Ev
