/- Plain laws: JoinModels. -/
import Derived.Test.YthaamopjdieecaaEvP27
import Derived.Test.YthaamopjdieecaaEvD14
set_option linter.unusedVariables false
set_option linter.unusedSimpArgs false
set_option linter.unusedVariables false
set_option linter.unusedSimpArgs false
namespace Go.Proofs.Ev
def lastS (s : Shape) (t : List Shape) : Shape := t.getLast?.getD s
theorem lastS_cons (s x : Shape) (t : List Shape) : lastS s (x :: t) = lastS x t := by
  unfold lastS
  cases t with
  | nil => rfl
  | cons y t => rw [List.getLast?_cons_cons]; simp [List.getLast?_cons]
theorem shapes_app : ∀ (xs ys : List Layer) (s : Shape), shapesFrom s (xs ++ ys) = (shapesFrom s xs).bind fun t => (shapesFrom (lastS s t) ys).map (t ++ ·)
  | [], ys, s => by
    show shapesFrom s ys = (shapesFrom s ys).map ([] ++ ·)
    cases shapesFrom s ys <;> rfl
  | x :: xs, ys, s => by
    simp only [List.cons_append, shapesFrom]
    cases layerB s x
    · rfl
    · simp only [cond_true]
      rw [shapes_app xs ys (shapeOf s x)]
      cases shapesFrom (shapeOf s x) xs with
      | none => rfl
      | some t =>
        simp only [Option.bind_some, Option.map_some, lastS_cons]
        cases shapesFrom (lastS (shapeOf s x) t) ys <;> rfl
/-- A right model, by its parts. -/
theorem modelB_iff {m : Model} : modelB m = true ↔ m.inp.okB = true ∧ inB (m.layers.length : Int) 1 6 = true ∧ (shapesFrom m.inp m.layers).isSome = true := by
  unfold modelB modelShapes
  cases m.inp.okB <;> cases inB (m.layers.length : Int) 1 6 <;> cases shapesFrom m.inp m.layers <;> simp
theorem shapes_got {m : Model} (h : modelB m = true) : ∃ t, shapesFrom m.inp m.layers = some t ∧ modelShapes m = (m.inp :: t, true) ∧ t.length = m.layers.length := by
  have h' := modelB_iff.1 h
  obtain ⟨t, ht⟩ := Option.isSome_iff_exists.1 h'.2.2
  refine ⟨t, ht, ?_, shapesFrom_len _ _ _ ht⟩
  unfold modelShapes
  rw [h'.1, h'.2.1, ht]; rfl
def joinM (a b : Model) : Model × Bool :=
  cond (modelB a && (modelB b && (decide ((a.layers.length : Int) + b.layers.length ≤ 6) && decide (lastS a.inp ((modelShapes a).1) = b.inp)))) (⟨a.inp, a.layers ++ b.layers⟩, true) (noModel, false)
theorem last_get (s : Shape) (t : List Shape) : (s :: t)[t.length]? = some (lastS s (s :: t)) := by
  rw [lastS_cons]
  induction t generalizing s with
  | nil => rfl
  | cons x t ih => rw [List.length_cons, List.getElem?_cons_succ, ih, lastS_cons]
theorem join_ok {a b : Model} (ha : modelB a = true) (hb : modelB b = true) (hl : lastS a.inp ((modelShapes a).1) = b.inp) : modelB ⟨a.inp, a.layers ++ b.layers⟩ = decide ((a.layers.length : Int) + b.layers.length ≤ 6) := by
  obtain ⟨t, h1, h2, h3⟩ := shapes_got ha
  obtain ⟨u, g1, g2, g3⟩ := shapes_got hb
  have ha' := modelB_iff.1 ha
  have hb' := modelB_iff.1 hb
  have hla := inB_spec.1 ha'.2.1
  have hlb := inB_spec.1 hb'.2.1
  rw [h2, lastS_cons] at hl
  rw [Bool.eq_iff_iff, modelB_iff, decide_eq_true_eq]
  simp only [shapes_app, h1, Option.bind_some, hl, g1, Option.map_some, Option.isSome_some, ha'.1, true_and, and_true, List.length_append, inB_spec]
  omega
theorem shape_eq (x y : Shape) : cond (x.h == y.h) (cond (x.w == y.w) (cond (x.c == y.c) true false) false) false = decide (x = y) := by
  obtain ⟨a, b, c⟩ := x
  obtain ⟨d, e, f⟩ := y
  rw [Bool.eq_iff_iff, decide_eq_true_eq]
  simp only [Shape.mk.injEq, beq_dec]
  by_cases h1 : a = d <;> by_cases h2 : b = e <;> by_cases h3 : c = f <;> simp [h1, h2, h3]
theorem Grow_eq {k : Nat} {n : Int} (h : 1 ≤ n) (h2 : n ≤ maxN) : slices_Grow_lI_Layer_I_Layer_m2 k n = some [] := by
  have hM := maxN_eq
  unfold slices_Grow_lI_Layer_I_Layer_m2
  rw [Int.sub_zero, wrapI (by omega) (by omega), cond_dec, if_neg (by omega), cond_dec, if_pos (by omega), cond_dec, if_pos (by omega), cond_dec, if_pos (by omega), cond_dec, if_pos (by omega)]
  simp
theorem Concat_eq {k : Nat} {xs ys : List Layer} (h : 1 ≤ xs.length) (hx : xs.length ≤ 6) (hy : ys.length ≤ 6) : slices_Concat_lI_Layer_I_Layer_m k xs ys = some (xs ++ ys) := by
  have hM := maxN_eq
  unfold slices_Concat_lI_Layer_I_Layer_m
  rw [Int.zero_add, wrapI (n := (xs.length : Int)) (by omega) (by omega), wrapI (n := (xs.length : Int) + ys.length) (by omega) (by omega), cond_dec, if_neg (by omega), cond_dec, if_neg (by omega), Grow_eq (by omega) (by omega), bind_some']
  rw [ble_le (by simp; omega), ble_le (by simp; omega), decide_eq_true rfl, decide_eq_true rfl]
  rfl
theorem join_tot (a b : Model) : (joinM a b).1.tot ≤ a.tot + b.tot := by
  unfold joinM
  cases (modelB a && (modelB b && (decide ((a.layers.length : Int) + b.layers.length ≤ 6) && decide (lastS a.inp ((modelShapes a).1) = b.inp))))
  · exact Nat.zero_le _
  · simp only [cond_true, Model.tot, totL_append]; omega
theorem I_JoinModels_eq {k : Nat} {a b : Model} (hk : a.tot + b.tot < k) (hN : a.tot + b.tot < maxN) : I_JoinModels k a b = some (joinM a b) := by
  have hM := maxN_eq
  unfold I_JoinModels joinM
  rw [I_ModelOk_eq (by omega) (by omega), bind_some', I_ModelOk_eq (by omega) (by omega), bind_some']
  cases ha : modelB a
  · rfl
  cases hb : modelB b
  · rfl
  obtain ⟨t, h1, h2, h3⟩ := shapes_got ha
  have hla := inB_spec.1 (modelB_iff.1 ha).2.1
  have hlb := inB_spec.1 (modelB_iff.1 hb).2.1
  simp only [Bool.not_true, cond_false, Bool.true_and]
  rw [wrapI (by omega) (by omega), cond_dec]
  by_cases c : (a.layers.length : Int) + b.layers.length > 6
  · rw [if_pos c, decide_eq_false (by omega)]; rfl
  rw [if_neg c, decide_eq_true (by omega), I_ShapesOf_eq (by omega) (by omega), bind_some']
  have hs : shapesOf a = a.inp :: t := by unfold shapesOf; rw [ha, h2]; rfl
  rw [hs, cond_dec, if_pos (by simp only [List.length_cons]; omega), Int.toNat_natCast, ← h3, last_get, bind_some', shape_eq, h2]
  by_cases d : lastS a.inp (a.inp :: t) = b.inp
  · rw [decide_eq_true d]
    simp only [Bool.not_true, cond_false, Bool.and_true]
    rw [Concat_eq (by omega) (by omega) (by omega), bind_some', I_copiedLayers_eq (by rw [totL_append]; unfold Model.tot at hk; omega) (by rw [totL_append]; unfold Model.tot at hN; omega), bind_some']
    rfl
  · rw [decide_eq_false d]; rfl
theorem S_JoinModels_eq {k : Nat} {a b : Model} (hk : a.tot + b.tot < k) (hN : a.tot + b.tot < maxN) : S_JoinModels k a b = some (joinM a b) := by
  have hM := maxN_eq
  have hlen := totL_len Layer.tot b.layers
  have hbt : b.tot = totL Layer.tot b.layers + 0 := rfl
  have hat : a.tot = totL Layer.tot a.layers + 0 := rfl
  unfold S_JoinModels joinM
  rw [S_l04Shapes_eq (by omega) (by omega), bind_some']
  cases ha : modelB a
  · have : (modelShapes a).2 = false := ha
    rw [this]; rfl
  have ha2 : (modelShapes a).2 = true := ha
  rw [ha2, S_ModelOk_eq (by omega) (by omega), bind_some']
  cases hb : modelB b
  · rfl
  obtain ⟨t, h1, h2, h3⟩ := shapes_got ha
  have hla := inB_spec.1 (modelB_iff.1 ha).2.1
  have hlb := inB_spec.1 (modelB_iff.1 hb).2.1
  simp only [Bool.not_true, cond_false, Bool.true_and]
  rw [h2]
  have hi : ((a.inp :: t).length : Int) - 1 = (t.length : Int) := by simp
  rw [hi, wrapI (by omega) (by omega), cond_dec, if_pos (by simp only [List.length_cons]; omega), Int.toNat_natCast, last_get, bind_some', shape_eq]
  by_cases d : lastS a.inp (a.inp :: t) = b.inp
  · rw [decide_eq_true d, decide_eq_true d.symm]
    simp only [Bool.not_true, cond_false, Bool.and_true]
    rw [S_l04Copy_eq (by omega) (by omega), bind_some']
    have key := join_ok ha hb (by rw [h2]; exact d)
    have run := iter_run (R := Model × Bool) (g := fun u9 n9 => S_JoinModels_g0 k (b.inp.h, b.inp.w, b.inp.c, b.layers, (0 : Int), (0 : Int), (0 : Int), a.inp.h, a.inp.w, a.inp.c) u9 n9 (fun y7 => (S_ModelOk k (⟨a.inp, y7⟩ : Model)).bind fun r8 => cond (!r8) (some ((⟨(⟨(0 : Int), (0 : Int), (0 : Int)⟩ : Shape), ([] : List Layer)⟩ : Model), false)) (some ((⟨a.inp, y7⟩ : Model), true))))
      (st := fun i => ((i : Int), a.layers ++ b.layers.take i)) (n := b.layers.length) (r := some (cond (decide ((a.layers.length : Int) + b.layers.length ≤ 6)) (⟨a.inp, a.layers ++ b.layers⟩, true) (noModel, false))) (fun i hi next => by
        have hm := totL_mem Layer.tot (List.getElem_mem hi)
        simp only [S_JoinModels_g0]
        rw [cond_dec, if_pos (by omega), idx_nat, getD_get hi, bind_some', S_l03Copy_eq (by omega) (by omega), bind_some', ble_le (by simp; omega), wrapNat1 hi (by omega), take_step hi, List.append_assoc]) (fun next => by
        simp only [S_JoinModels_g0]
        rw [cond_dec, if_neg (by omega), List.take_length, S_ModelOk_eq (by simp only [Model.tot, totL_append] at *; omega) (by simp only [Model.tot, totL_append] at *; omega), bind_some', key]
        cases decide ((a.layers.length : Int) + b.layers.length ≤ 6) <;> rfl) (k := k) (by omega)
    simp only [List.take_zero, List.append_nil] at run
    exact run
  · rw [decide_eq_false d, decide_eq_false (fun e => d e.symm)]
    simp
    rfl
theorem L_FnExactJoinModels_eq (a b : Model) (ha : a.Ok) (hb : b.Ok) : ∃ k, L_FnExactJoinModels k a b = some true := by
  obtain ⟨k, hk0⟩ : ∃ k, a.tot + b.tot < k := ⟨_, Nat.lt_succ_self _⟩
  refine ⟨k, ?_⟩
  have hM := maxN_eq
  unfold L_FnExactJoinModels
  rw [L_szModel_z (n := 1048576) ha (by omega) (by omega) (by omega), bind_some', cond_dec]
  by_cases c : (1048576 : Int) < (a.tot : Int)
  · simp only [if_pos c]; rfl
  simp only [if_neg c]
  rw [if_neg (by omega), L_szModel_z (n := 1048576 - (a.tot : Int)) hb (by omega) (by omega) (by omega), bind_some', cond_dec]
  by_cases c2 : (1048576 : Int) - (a.tot : Int) < (b.tot : Int)
  · simp only [if_pos c2]; rfl
  simp only [if_neg c2]
  rw [if_neg (by omega)]
  have hka : a.tot < k := by omega
  have hNa : a.tot ≤ maxN := by omega
  have hkb : b.tot < k := by omega
  have hNb : b.tot ≤ maxN := by omega
  have hr := join_tot a b
  obtain ⟨r1, y1, e1, a1, b1, h1⟩ := L_markModel_m2_z (k := k) (x := a) (m := 1) hka hNa (by omega) (by unfold bigB; omega)
  obtain ⟨r3, y3, e3, a3, b3, h3⟩ := L_markModel_m2_z (k := k) (x := b) (m := r1) hkb hNb (by omega) (by unfold bigB; omega)
  obtain ⟨r2, y2, e2, a2, b2, h2⟩ := L_markModel_m2_z (k := k) (x := (joinM a b).1) (m := 1) (by omega) (by omega) (by omega) (by unfold bigB; omega)
  simp only [L_toModel_z hka hNa, L_toModel_z hkb hNb, bind_some', S_JoinModels_eq (a := a) (b := b) (k := k) (by omega) (by omega), I_JoinModels_eq (a := a) (b := b) (k := k) (by omega) (by omega), L_eqModel_z (x := (joinM a b).1) (y := (joinM a b).1) (k := k) (by omega) (by omega), L_eqModel_z (y := a) hka hNa, L_eqModel_z (y := b) hkb hNb, e1, e2, e3, h2, decide_true, cond_not, cond_true, cond_dec, cond_bne, beq_self_eq_true]
  have n1 : ¬ r3 < 0 := by omega
  have n2 : ¬ r2 < 0 := by omega
  simp only [n1, n2, if_true, if_false]
end Go.Proofs.Ev
