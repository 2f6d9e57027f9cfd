/- Plain laws: JoinBatch. -/
import Derived.Test.YtcihopgmgpmadaaEvP2
import Derived.Test.YtcihopgmgpmadaaEvB1
import Derived.Test.YtcihopgmgpmadaaEvD2
set_option linter.unusedVariables false
set_option linter.unusedSimpArgs false
set_option linter.unusedVariables false
set_option linter.unusedSimpArgs false
namespace Go.Proofs.Ev
theorem totL_take {α : Type} (t : α → Nat) (xs : List α) (i : Nat) : totL t (xs.take i) ≤ totL t xs := by
  have := totL_append t (xs.take i) (xs.drop i)
  rw [List.take_append_drop] at this
  omega
/-- A loop that gathers what comes of each element, as long as each is as it should be. -/
theorem gather_loop {α β R : Type} (xs : List α) (p : α → Bool) (f : α → List β) {g : Int × List β → (Int × List β → Option R) → Option R} {fin : List β → Option R} {bad : Option R}
    (h : ∀ (i : Nat) (ys : List β) (hi : i < xs.length) (next : Int × List β → Option R), ys = (xs.take i).flatMap f → g ((i : Int), ys) next = cond (p xs[i]) (next (((i + 1 : Nat) : Int), ys ++ f xs[i])) bad)
    (hn : ∀ ys next, g ((xs.length : Int), ys) next = fin ys) {k : Nat} (hk : xs.length < k) : iter g k (0, []) = cond (xs.all p) (fin (xs.flatMap f)) bad := by
  have := iter_rec (g := g) (st := fun i => ((i : Int), (xs.take i).flatMap f)) (n := xs.length) (P := fun i => cond ((xs.drop i).all p) (fin (xs.flatMap f)) bad) (fun i hi next e => by
    rw [h i _ hi next rfl, drop_step hi, List.all_cons]
    cases hp : p xs[i]
    · rfl
    · simp only [cond_true, Bool.true_and]
      rw [take_step hi, List.flatMap_append] at e
      simpa using e) (fun next => by simp only [List.drop_length, List.take_length]; exact hn _ _) k 0 (Nat.zero_le _) (by omega)
  simpa using this
theorem app_loop_acc {α β R : Type} (xs : List α) (f : α → β) (acc : List β) {g : Int × List β → (Int × List β → Option R) → Option R} {fin : List β → Option R}
    (h : ∀ (i : Nat) (ys : List β) (hi : i < xs.length) (next : Int × List β → Option R), ys.length = acc.length + i → g ((i : Int), ys) next = next (((i + 1 : Nat) : Int), ys ++ [f xs[i]]))
    (hn : ∀ ys next, g ((xs.length : Int), ys) next = fin ys) {k : Nat} (hk : xs.length < k) : iter g k (0, acc) = fin (acc ++ xs.map f) := by
  have := iter_run (g := g) (st := fun i => ((i : Int), acc ++ (xs.take i).map f)) (n := xs.length) (r := fin (acc ++ xs.map f)) (fun i hi next => by
    rw [h i _ hi next (by simp; omega), take_step hi, List.map_append, List.append_assoc]; rfl) (fun next => by rw [List.take_length]; exact hn _ _) hk
  simpa using this
def joinOk (c : Int) (t : Tensor) : Bool := t.okB && (decide (t.sh.h = 1) && (decide (t.sh.w = 1) && decide (t.sh.c = c)))
def noTensor : Tensor := ⟨⟨0, 0, 0⟩, []⟩
def joinBatch (xs : List Tensor) : Tensor × Bool :=
  match xs with
  | [] => (noTensor, false)
  | x :: l => cond (inB (xs.length : Int) 1 8 && xs.all (joinOk x.sh.c)) (⟨⟨xs.length, 1, x.sh.c⟩, xs.flatMap (·.data)⟩, true) (noTensor, false)
theorem flat_tot (xs : List Tensor) : (xs.flatMap (·.data)).length + xs.length = totL Tensor.tot xs := by
  induction xs with
  | nil => rfl
  | cons x xs ih => rw [totL_cons]; simp only [List.flatMap_cons, List.length_append, List.length_cons, Tensor.tot] at *; omega
theorem flat_bd {xs : List Tensor} {i : Nat} (hi : i < xs.length) : ((xs.take i).flatMap (·.data)).length + xs[i].data.length + 1 ≤ totL Tensor.tot xs := by
  have h1 := flat_tot (xs.take (i + 1))
  have h2 := totL_take Tensor.tot xs (i + 1)
  have e : (xs.take (i + 1)).flatMap (·.data) = (xs.take i).flatMap (·.data) ++ xs[i].data := by rw [take_step hi, List.flatMap_append]; simp
  rw [e] at h1
  simp only [List.length_append, List.length_take] at h1
  omega
theorem I_JoinBatch_eq {k : Nat} {xs : List Tensor} (hk : totL Tensor.tot xs < k) (hN : totL Tensor.tot xs ≤ maxN) : I_JoinBatch k xs = some (joinBatch xs) := by
  have hM := maxN_eq
  have hl := totL_len Tensor.tot xs
  unfold I_JoinBatch joinBatch
  rw [I_in_eq, bind_some', cond_not]
  cases xs with
  | nil => rfl
  | cons x0 l =>
    simp only
    generalize hxs : x0 :: l = xs at *
    have h0 : xs[0]? = some x0 := by rw [← hxs]; rfl
    rw [idx_zero, h0, bind_some']
    have := gather_loop xs (joinOk x0.sh.c) (·.data) (g := fun u next => I_JoinBatch_g0 k (xs, (xs.length : Int), (0 : Int), (0 : Int), (0 : Int), (xs.length : Int), (1 : Int), x0.sh.c) u next (fun y5 => some ((⟨(⟨(xs.length : Int), (1 : Int), x0.sh.c⟩ : Shape), y5⟩ : Tensor), true)) (fun y6 => some ((⟨(⟨y6.2.1, y6.2.2.1, y6.2.2.2⟩ : Shape), ([] : List Int)⟩ : Tensor), y6.1)))
      (fin := fun y5 => some ((⟨(⟨(xs.length : Int), (1 : Int), x0.sh.c⟩ : Shape), y5⟩ : Tensor), true)) (bad := some (noTensor, false)) (fun i ys hi next hys => by
        have hb := flat_bd hi
        rw [← hys] at hb
        simp only [I_JoinBatch_g0]
        rw [cond_dec, if_pos (by omega), idx_nat, getD_get hi, bind_some', I_TensorOk_eq (by omega) (by unfold maxL; omega), bind_some', cond_not, wrapNat1 hi (by omega), ble_le (by omega)]
        unfold joinOk
        cases xs[i].okB
        · rfl
        · simp only [cond_true, Bool.true_and, cond_beq, cond_not]
          by_cases h1 : xs[i].sh.h = 1 <;> by_cases h2 : xs[i].sh.w = 1 <;> by_cases h3 : xs[i].sh.c = x0.sh.c <;> simp [h1, h2, h3, noTensor])
      (fun ys next => by simp only [I_JoinBatch_g0]; rw [cond_dec, if_neg (by omega)]) (k := k) (by omega)
    rw [this]
    cases inB (xs.length : Int) 1 8 <;> cases xs.all (joinOk x0.sh.c) <;> rfl
theorem S_JoinBatch_eq {k : Nat} {xs : List Tensor} (hk : totL Tensor.tot xs < k) (hN : totL Tensor.tot xs ≤ maxN) : S_JoinBatch k xs = some (joinBatch xs) := by
  have hM := maxN_eq
  have hl := totL_len Tensor.tot xs
  unfold S_JoinBatch joinBatch
  rw [S_l01In_eq, bind_some', cond_not]
  cases xs with
  | nil => rfl
  | cons x0 l =>
    simp only
    generalize hxs : x0 :: l = xs at *
    have h0 : xs[0]? = some x0 := by rw [← hxs]; rfl
    rw [idx_zero, h0]
    have := gather_loop xs (joinOk x0.sh.c) (·.data) (g := fun u next => S_JoinBatch_g0 k (xs, (0 : Int), (0 : Int), (0 : Int), (0 : Int), (0 : Int), (0 : Int)) u next (fun y8 => (some x0).bind fun e9 => some ((⟨(⟨(xs.length : Int), (1 : Int), e9.sh.c⟩ : Shape), y8⟩ : Tensor), true)) (fun y10 => some ((⟨(⟨y10.2.1, y10.2.2.1, y10.2.2.2⟩ : Shape), ([] : List Int)⟩ : Tensor), y10.1)))
      (fin := fun y5 => some ((⟨(⟨(xs.length : Int), (1 : Int), x0.sh.c⟩ : Shape), y5⟩ : Tensor), true)) (bad := some (noTensor, false)) (fun i ys hi next hys => by
        have hb := flat_bd hi
        rw [← hys] at hb
        simp only [S_JoinBatch_g0]
        rw [cond_dec, if_pos (by omega), idx_nat, getD_get hi, bind_some', S_TensorOk_eq (by omega) (by unfold maxL; omega), bind_some', cond_not]
        unfold joinOk
        cases xs[i].okB
        · rfl
        · simp only [cond_true, Bool.true_and, cond_bne, idx_zero, h0, bind_some']
          by_cases h1 : xs[i].sh.h = 1 <;> by_cases h2 : xs[i].sh.w = 1 <;> by_cases h3 : xs[i].sh.c = x0.sh.c <;> simp only [h1, h2, h3, if_true, if_false, decide_true, decide_false, Bool.true_and, Bool.false_and, cond_true, cond_false] <;> try rfl
          exact (app_loop_acc xs[i].data (fun x => x) ys (fin := fun y => next (IntKind.i64.wrap ((i : Int) + 1), y)) (fun j zs hj nx hz => by
            simp only [S_JoinBatch_g1]
            rw [cond_dec, if_pos (by omega), idx_nat, getD_get hj, bind_some', ble_le (by rw [hz]; simp; omega), wrapNat1 hj (by omega)]) (fun zs nx => by
            simp only [S_JoinBatch_g1]; rw [cond_dec, if_neg (by omega)]) (by omega)).trans (by rw [List.map_id', wrapNat1 hi (by omega)]))
      (fun ys next => by simp only [S_JoinBatch_g0]; rw [cond_dec, if_neg (by omega)]; rfl) (k := k) (by omega)
    rw [this]
    cases inB (xs.length : Int) 1 8 <;> cases xs.all (joinOk x0.sh.c) <;> rfl
theorem joinBatch_tot (xs : List Tensor) : (joinBatch xs).1.tot ≤ totL Tensor.tot xs := by
  unfold joinBatch
  split
  · exact Nat.zero_le _
  · rename_i x l
    have := flat_tot (x :: l)
    cases (inB ((x :: l).length : Int) 1 8 && (x :: l).all (joinOk x.sh.c)) <;> simp only [cond_true, cond_false, Tensor.tot, noTensor] <;> simp <;> simp at this <;> omega
theorem L_FnExactJoinBatch_eq (xs : List Tensor) (hx : okS Tensor.Ok xs) : ∃ k, L_FnExactJoinBatch k xs = some true := by
  refine ⟨totL Tensor.tot xs + 1, ?_⟩
  have hM := maxN_eq
  unfold L_FnExactJoinBatch
  rw [L_szTensorS_z (n := 1048576) hx (by omega) (by omega) (by omega), bind_some', cond_dec]
  by_cases c : (1048576 : Int) < (totL Tensor.tot xs : Int)
  · simp only [if_pos c]; rfl
  simp only [if_neg c]
  rw [if_neg (by omega)]
  have hk : totL Tensor.tot xs < totL Tensor.tot xs + 1 := by omega
  have hN : totL Tensor.tot xs ≤ maxN := by omega
  have hr := joinBatch_tot xs
  obtain ⟨r1, y1, e1, a1, b1, l1⟩ := L_markTensorS_m2_z (k := totL Tensor.tot xs + 1) (xs := xs) (m := 1) hk hN (by omega) (by unfold bigB; omega)
  obtain ⟨r2, y2, e2, a2, b2, h2⟩ := L_markTensor_m2_z (k := totL Tensor.tot xs + 1) (x := (joinBatch xs).1) (m := 1) (by omega) (by omega) (by omega) (by unfold bigB; omega)
  simp only [L_toTensorS_z hk hN, bind_some', S_JoinBatch_eq hk hN, I_JoinBatch_eq hk hN, L_eqTensor_z (x := (joinBatch xs).1) (y := (joinBatch xs).1) (k := totL Tensor.tot xs + 1) (by omega) (by omega), L_eqTensorS_z (ys := xs) hk hN, e1, e2, h2, decide_true, cond_not, cond_true, cond_dec, cond_bne]
  rw [if_neg (by omega)]
  simp
  repeat rw [if_neg (by omega)]
end Go.Proofs.Ev
