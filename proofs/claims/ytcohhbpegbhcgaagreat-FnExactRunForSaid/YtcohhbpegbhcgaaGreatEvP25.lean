/- Plain laws: jobs that step, finish, run for a while. -/
import Derived.Test.YtcohhbpegbhcgaaGreatEvP24
import Derived.Test.YtcohhbpegbhcgaaGreatEvB4
set_option linter.unusedVariables false
set_option linter.unusedSimpArgs false
set_option linter.unusedVariables false
set_option linter.unusedSimpArgs false
namespace Go.Proofs.Ev
def noLayer : Layer := ⟨0, 0, 0, 0, 0, 0, 0, [], []⟩
theorem shapes_get : ∀ (ls : List Layer) (s : Shape) (t : List Shape), shapesFrom s ls = some t → ∀ i, i < ls.length → layerB ((s :: t).getD i noShape) (ls.getD i noLayer) = true ∧ (s :: t).getD (i + 1) noShape = shapeOf ((s :: t).getD i noShape) (ls.getD i noLayer)
  | [], s, t, h, i, hi => by simp at hi
  | l :: ls, s, t, h, i, hi => by
    simp only [shapesFrom] at h
    cases hb : layerB s l <;> simp only [hb, cond_true, cond_false] at h
    · exact nomatch h
    · obtain ⟨t', h1, rfl⟩ := Option.map_eq_some_iff.1 h
      cases i with
      | zero => exact ⟨hb, rfl⟩
      | succ i => exact shapes_get ls (shapeOf s l) t' h1 i (by simpa using hi)
theorem modelB_get {m : Model} (h : modelB m = true) : (1 ≤ m.layers.length ∧ m.layers.length ≤ 6) ∧ ∀ i, i < m.layers.length → layerB ((shapesOf m).getD i noShape) (m.layers.getD i noLayer) = true ∧ (shapesOf m).getD (i + 1) noShape = shapeOf ((shapesOf m).getD i noShape) (m.layers.getD i noLayer) := by
  unfold shapesOf
  rw [h, cond_true]
  unfold modelB at h
  unfold modelShapes at h ⊢
  cases h1 : (m.inp.okB && inB (m.layers.length : Int) 1 6) <;> rw [h1] at h
  · exact nomatch h
  · simp only [cond_true] at h ⊢
    rw [Bool.and_eq_true, inB_spec] at h1
    cases h2 : shapesFrom m.inp m.layers with
    | none => rw [h2] at h; exact nomatch h
    | some t => exact ⟨by omega, shapes_get m.layers m.inp t h2⟩
theorem jobB_spec {j : Job} (h : jobB j = true) : modelB j.model = true ∧ (0 ≤ j.at_ ∧ j.at_ ≤ j.model.layers.length) ∧ j.act.okB = true ∧ j.act.sh = (shapesOf j.model).getD j.at_.toNat noShape ∧ j.spent = wsum ((costsOf j.model).take j.at_.toNat) := by
  unfold jobB at h
  simp only [Bool.and_eq_true, inB_spec, decide_eq_true_eq] at h
  exact h
theorem job_small {j : Job} (h : jobB j = true) : j.act.data.length ≤ 512 ∧ j.tot ≤ j.model.tot + 512 := by
  have h1 := (jobB_spec h).2.2.1
  unfold Tensor.okB at h1
  simp only [Bool.and_eq_true, decide_eq_true_eq] at h1
  have := Shape.size_bd j.act.sh
  unfold Job.tot Tensor.tot; omega
def layerAt (j : Job) : Layer := j.model.layers.getD j.at_.toNat noLayer
def nextC (j : Job) : Int := (costsOf j.model).getD j.at_.toNat 0
def stepJ (j : Job) : Job := ⟨j.model, j.at_ + 1, (runL j.act (layerAt j)).1, IntKind.i64.wrap (j.spent + nextC j)⟩
theorem jobB_step {j : Job} (h : jobB j = true) (hd : j.at_ ≠ (j.model.layers.length : Int)) : jobB (stepJ j) = true := by
  obtain ⟨hm, hat, hok, hsh, hsp⟩ := jobB_spec h
  obtain ⟨hlen, hg⟩ := modelB_get hm
  obtain ⟨hl, hs⟩ := hg j.at_.toNat (by omega)
  rw [← hsh] at hl hs
  obtain ⟨r1, r2, r3⟩ := runL_right hok hl
  have hcl := costsOf_len' hm
  have hi : j.at_.toNat < (costsOf j.model).length := by omega
  have e : (j.at_ + 1).toNat = j.at_.toNat + 1 := by omega
  unfold jobB stepJ
  simp only [Bool.and_eq_true, inB_spec, decide_eq_true_eq, hm, true_and, e]
  refine ⟨by omega, r1, ?_, ?_⟩
  · show (runL j.act (layerAt j)).1.sh = _
    rw [hs]; exact r2
  · unfold wsum nextC
    rw [take_step hi, List.foldl_append, getD_of hi, hsp]
    rfl
theorem iter_st {V R : Type} {g : V → (V → Option R) → Option R} {fin : V → Option R} {st : Nat → V} {n : Nat} {k : Nat} (h : ∀ i, i < n → ∀ next, g (st i) next = next (st (i + 1))) (hn : ∀ next, g (st n) next = fin (st n)) (hk : n < k) : iter g k (st 0) = fin (st n) :=
  iter_run (g := g) (st := st) (n := n) (r := fin (st n)) h hn hk
theorem S_LeftOf_eq {k : Nat} {j : Job} (hk : j.tot + 8 < k) (hN : j.tot ≤ maxN) (h : jobB j = true) : S_LeftOf k j = some ((costsOf j.model).drop j.at_.toNat) := by
  have hM := maxN_eq
  obtain ⟨hm, hat, hok, hsh, hsp⟩ := jobB_spec h
  obtain ⟨hlen, hg⟩ := modelB_get hm
  have hcl := costsOf_len' hm
  have ht : j.tot = j.model.tot + (j.act.tot + 0) := rfl
  unfold S_LeftOf
  rw [S_JobOk_eq (by omega) hN, bind_some', h]
  simp only [Bool.not_true, cond_false]
  rw [S_CostsOf_eq (by omega) (by omega), bind_some']
  have e0 : (j.at_, ([] : List Int)) = (((j.at_.toNat + 0 : Nat) : Int), ((costsOf j.model).drop j.at_.toNat).take 0) := by
    rw [List.take_zero]; congr 1; omega
  rw [e0]
  refine (iter_st (g := fun u5 n5 => S_LeftOf_g0 k (costsOf j.model) u5 n5 (fun y4 => some y4)) (fin := fun v => some v.2) (st := fun i => (((j.at_.toNat + i : Nat) : Int), ((costsOf j.model).drop j.at_.toNat).take i)) (n := (costsOf j.model).length - j.at_.toNat) (fun i hi next => ?_) (fun next => ?_) (by omega)).trans ?_
  · have hi2 : j.at_.toNat + i < (costsOf j.model).length := by omega
    have hi3 : i < ((costsOf j.model).drop j.at_.toNat).length := by simp; omega
    simp only [S_LeftOf_g0]
    rw [cond_dec, if_pos (by omega), cond_dec, if_pos (by omega), Int.toNat_natCast, getD_get hi2, bind_some', ble_le (by simp; omega), wrapNat1 hi2 (by omega), take_step hi3, List.getElem_drop]
    rfl
  · simp only [S_LeftOf_g0]
    rw [cond_dec, if_neg (by omega)]
  · rw [List.take_of_length_le (by simp)]
theorem I_LeftOf_eq {k : Nat} {j : Job} (hk : j.tot + 8 < k) (hN : j.tot < maxN) (h : jobB j = true) : I_LeftOf k j = some ((costsOf j.model).drop j.at_.toNat) := by
  obtain ⟨hm, hat, hok, hsh, hsp⟩ := jobB_spec h
  have hcl := costsOf_len' hm
  have ht : j.tot = j.model.tot + (j.act.tot + 0) := rfl
  unfold I_LeftOf
  rw [I_JobOk_eq (by omega) hN, bind_some', h]
  simp only [Bool.not_true, cond_false]
  rw [I_CostsOf_eq (by omega) (by omega), bind_some', cond_dec, if_pos (by omega), List.take_of_length_le (by simp)]
theorem next_of (xs : List Int) (n : Nat) : (xs.drop n)[0]? = if n < xs.length then some (xs.getD n 0) else none := by
  rw [List.getElem?_drop, Nat.add_zero]
  by_cases c : n < xs.length
  · rw [if_pos c, getD_get c, getD_of c]
  · rw [if_neg c, List.getElem?_eq_none (by omega)]
theorem next_zero {xs : List Int} {n : Nat} (h : ¬ n < xs.length) : xs.getD n 0 = 0 := by
  rw [List.getD_eq_getElem?_getD, List.getElem?_eq_none (by omega)]; rfl
theorem S_NextCost_eq {k : Nat} {j : Job} (hk : j.tot + 8 < k) (hN : j.tot ≤ maxN) (h : jobB j = true) : S_NextCost k j = some (nextC j) := by
  unfold S_NextCost nextC
  rw [S_LeftOf_eq hk hN h, bind_some', beqD, cond_dec, List.length_drop]
  by_cases c : j.at_.toNat < (costsOf j.model).length
  · rw [if_neg (by omega), cond_dec, if_pos (by omega)]
    show (((costsOf j.model).drop j.at_.toNat)[0]?).bind _ = _
    rw [next_of, if_pos c, bind_some']
  · rw [if_pos (by omega), next_zero c]
theorem I_NextCost_eq {k : Nat} {j : Job} (hk : j.tot + 8 < k) (hN : j.tot < maxN) (h : jobB j = true) : I_NextCost k j = some (nextC j) := by
  unfold I_NextCost nextC
  rw [I_LeftOf_eq hk hN h, bind_some', beqD, cond_dec, List.length_drop]
  by_cases c : j.at_.toNat < (costsOf j.model).length
  · rw [if_neg (by omega), idx_zero, next_of, if_pos c, bind_some']
  · rw [if_pos (by omega), next_zero c]
theorem S_l06Copy_eq {k : Nat} {j : Job} (hk : j.tot < k) (hN : j.tot ≤ maxN) : S_l06Copy k j = some j := by
  have ht : j.tot = j.model.tot + (j.act.data.length + 0 + 0) := rfl
  unfold S_l06Copy
  rw [S_l04Copy_eq (by omega) (by omega), bind_some', S_l02Copy_eq (by omega) (by omega), bind_some']
def stepB (j : Job) : Job × Bool := cond (jobB j && !(j.at_ == (j.model.layers.length : Int))) (stepJ j, true) (j, false)
theorem S_JobDone_eq {k : Nat} {j : Job} (hk : j.tot < k) (hN : j.tot ≤ maxN) (h : jobB j = true) : S_JobDone k j = some (j.at_ == (j.model.layers.length : Int)) := by
  unfold S_JobDone
  rw [S_JobOk_eq hk hN, bind_some', h]; rfl
theorem layer_tot {j : Job} (h : jobB j = true) (hd : j.at_ ≠ (j.model.layers.length : Int)) : j.model.layers[j.at_.toNat]? = some (layerAt j) ∧ (layerAt j).tot ≤ j.model.tot := by
  obtain ⟨hm, hat, hok, hsh, hsp⟩ := jobB_spec h
  have hi : j.at_.toNat < j.model.layers.length := by omega
  unfold layerAt
  rw [getD_of hi]
  have := totL_mem Layer.tot (List.getElem_mem hi)
  exact ⟨getD_get hi, by unfold Model.tot; omega⟩
theorem S_StepJob_eq {k : Nat} {j : Job} (hk : j.tot + 513 < k) (hN : j.tot ≤ maxN) : S_StepJob k j = some (stepB j) := by
  have hM := maxN_eq
  have ht : j.tot = j.model.tot + (j.act.data.length + 0 + 0) := rfl
  unfold S_StepJob stepB
  rw [S_l06Copy_eq (by omega) hN, bind_some', S_JobOk_eq (by omega) hN, bind_some']
  cases h : jobB j
  · rfl
  simp only [Bool.not_true, cond_false, Bool.true_and]
  rw [S_JobDone_eq (by omega) hN h, bind_some', beqD]
  obtain ⟨hm, hat, hok, hsh, hsp⟩ := jobB_spec h
  obtain ⟨hlen, _⟩ := modelB_get hm
  by_cases c : j.at_ = (j.model.layers.length : Int)
  · rw [decide_eq_true c]; rfl
  rw [decide_eq_false c]
  simp only [cond_false, Bool.not_false, cond_true]
  obtain ⟨hl, hlt⟩ := layer_tot h c
  rw [idx_pos _ hat.1, hl, bind_some', S_RunLayer_eq (by omega) (by omega) (by omega) (by omega) (by omega), bind_some', S_NextCost_eq (by omega) hN h, bind_some', wrapI (n := j.at_ + 1) (by omega) (by omega)]
  rfl
theorem I_step_eq {k : Nat} {j : Job} (hk : j.tot + 513 < k) (hN : j.tot < maxN) (h : jobB j = true) (c : j.at_ ≠ (j.model.layers.length : Int)) :
    pI_Job_step_m k j = some ((stepJ j).at_, (stepJ j).act.sh.h, (stepJ j).act.sh.w, (stepJ j).act.sh.c, (stepJ j).act.data, (stepJ j).spent) := by
  have hM := maxN_eq
  have ht : j.tot = j.model.tot + (j.act.data.length + 0 + 0) := rfl
  obtain ⟨hm, hat, hok, hsh, hsp⟩ := jobB_spec h
  obtain ⟨hlen, _⟩ := modelB_get hm
  obtain ⟨hl, hlt⟩ := layer_tot h c
  unfold pI_Job_step_m
  rw [I_NextCost_eq (by omega) hN h, bind_some', cond_dec, if_pos (by omega), hl, bind_some', I_RunLayer_eq (by omega) (by omega) (by omega) (by omega) (by omega), bind_some', wrapI (n := j.at_ + 1) (by omega) (by omega)]
  simp only [decide_true, cond_true]
  rfl
end Go.Proofs.Ev
