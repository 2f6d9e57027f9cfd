/- Plain laws: shapes and tensors: Reshape, FlatOf. -/
import Derived.Test.YthaamopjdieecaaEvP1
import Derived.Test.YthaamopjdieecaaEvK6
set_option linter.unusedVariables false
set_option linter.unusedSimpArgs false
set_option linter.unusedVariables false
set_option linter.unusedSimpArgs false
namespace Go.Proofs.Ev
def marked (m : Int) (n : Nat) : List Int := (List.range n).map fun (i : Nat) => m + (i : Int)
@[simp] theorem marked_length (m : Int) (n : Nat) : (marked m n).length = n := by simp [marked]
def inB (x a b : Int) : Bool := decide (a ≤ x ∧ x ≤ b)
theorem S_l01In_eq (k : Nat) (x a b : Int) : S_l01In k x a b = some (inB x a b) := by
  unfold S_l01In inB
  rw [cond_dec]
  by_cases h : a ≤ x <;> simp [h]
theorem I_in_eq (k : Nat) (x a b : Int) : I_in k x a b = some (inB x a b) := by
  unfold I_in inB
  rw [cond_dec]
  by_cases h : a ≤ x <;> simp [h]
def Shape.okB (s : Shape) : Bool := inB s.h 1 8 && (inB s.w 1 8 && inB s.c 1 8)
theorem S_ShapeOk_eq (k : Nat) (s : Shape) : S_ShapeOk k s = some s.okB := by
  unfold S_ShapeOk Shape.okB
  simp only [S_l01In_eq, bind_some']
  cases inB s.h 1 8 <;> cases inB s.w 1 8 <;> rfl
theorem I_ShapeOk_eq (k : Nat) (s : Shape) : I_ShapeOk k s = some s.okB := by
  unfold I_ShapeOk Shape.okB
  simp only [I_in_eq, bind_some']
  cases inB s.h 1 8 <;> cases inB s.w 1 8 <;> rfl
theorem Shape.okB_spec {s : Shape} (h : s.okB = true) : 1 ≤ s.h ∧ s.h ≤ 8 ∧ 1 ≤ s.w ∧ s.w ≤ 8 ∧ 1 ≤ s.c ∧ s.c ≤ 8 := by
  simp only [Shape.okB, inB, Bool.and_eq_true, decide_eq_true_eq] at h
  omega
def Shape.size (s : Shape) : Int := cond s.okB (s.h * s.w * s.c) 0
theorem Shape.size_bd (s : Shape) : 0 ≤ s.size ∧ s.size ≤ 512 := by
  unfold Shape.size
  cases h : s.okB
  · simp
  · obtain ⟨h1, h2, h3, h4, h5, h6⟩ := Shape.okB_spec h
    have := mul_bd (show 0 ≤ s.h by omega) h2 (show 0 ≤ s.w by omega) h4
    have := mul_bd this.1 this.2 (show 0 ≤ s.c by omega) h6
    simpa using this
theorem size_wrap {s : Shape} (h : s.okB = true) : IntKind.i64.wrap (IntKind.i64.wrap (s.h * s.w) * s.c) = s.h * s.w * s.c := by
  obtain ⟨h1, h2, h3, h4, h5, h6⟩ := Shape.okB_spec h
  have a := mul_bd (show 0 ≤ s.h by omega) h2 (show 0 ≤ s.w by omega) h4
  have b := mul_bd a.1 a.2 (show 0 ≤ s.c by omega) h6
  rw [wrapI (n := s.h * s.w) (by omega) (by omega), wrapI (by omega) (by omega)]
theorem S_SizeOf_eq (k : Nat) (s : Shape) : S_SizeOf k s = some s.size := by
  unfold S_SizeOf Shape.size
  simp only [S_ShapeOk_eq, bind_some', cond_not]
  cases h : s.okB
  · rfl
  · simp only [cond_true, size_wrap h]
theorem I_SizeOf_eq (k : Nat) (s : Shape) : I_SizeOf k s = some s.size := by
  unfold I_SizeOf Shape.size
  simp only [I_ShapeOk_eq, bind_some', cond_not]
  cases h : s.okB
  · rfl
  · simp only [cond_true, size_wrap h]
def itemsB (xs : List Int) : Bool := xs.all fun x => inB x (-128) 127
def Tensor.okB (t : Tensor) : Bool := t.sh.okB && (decide ((t.data.length : Int) = t.sh.size) && itemsB t.data)
theorem findIdx_some {α : Type} {p : α → Bool} (xs : List α) : ((xs.findIdx? p).elim (some (-1 : Int)) fun i => some (i : Int)) = some ((xs.findIdx? p).elim (-1) fun i => (i : Int)) := by
  cases xs.findIdx? p <;> rfl
theorem findIdx_ge {α : Type} {p : α → Bool} (xs : List α) : decide (((xs.findIdx? p).elim (-1 : Int) fun i => (i : Int)) ≥ 0) = xs.any p := by
  cases h : xs.findIdx? p with
  | none =>
    rw [List.findIdx?_eq_none_iff] at h
    have : xs.any p = false := by simpa using h
    rw [this]; rfl
  | some i =>
    have : xs.any p = true := by
      have := List.findIdx?_eq_some_iff_getElem.1 h
      obtain ⟨hi, hp, _⟩ := this
      exact List.any_eq_true.2 ⟨_, List.getElem_mem hi, hp⟩
    rw [this]; simp
theorem I_areItems_eq {k : Nat} {xs : List Int} (hk : xs.length < k) (hx : xs.length ≤ maxL) : I_areItems k xs = some (itemsB xs) := by
  unfold maxL at hx
  unfold I_areItems slices_ContainsFunc_lint_int__I_areItems_c1 slices_IndexFunc_lint_int__I_areItems_c1
  rw [find_loop xs (fun x => !inB x (-128) 127) (fun i hi next => by
    simp only [slices_IndexFunc_lint_int__I_areItems_c1_g0, cond_dec, I_areItems_c1, I_in_eq, bind_some']
    rw [if_pos (by omega), idx_nat, getD_get hi, bind_some', wrapNat1 hi (by omega)]) (fun next => by
    simp only [slices_IndexFunc_lint_int__I_areItems_c1_g0, cond_dec]; rw [if_neg (by omega)]) hk]
  rw [findIdx_some]
  simp only [bind_some', findIdx_ge]
  unfold itemsB
  rw [List.any_eq_not_all_not]; simp
theorem ble_le {a b : Nat} {α : Type} {x y : α} (h : a ≤ b) : cond (Nat.ble a b) x y = x := by rw [Nat.ble_eq_true_of_le h]; rfl
theorem S_l01Copy_eq {k : Nat} {xs : List Int} (hk : xs.length < k) (hx : xs.length ≤ maxN) : S_l01Copy k xs = some xs := by
  rw [maxN_eq] at hx
  unfold S_l01Copy
  have := app_loop xs (fun x => x) (g := fun u next => S_l01Copy_g0 k xs u next (fun y => some y)) (fin := some) (fun i ys hi next hl => by
    simp only [S_l01Copy_g0, cond_dec]
    rw [if_pos (by omega), idx_nat, getD_get hi, bind_some', ble_le (by rw [maxN_eq, hl]; simp; omega), wrapNat1 hi (by omega)]) (fun ys next => by
    simp only [S_l01Copy_g0, cond_dec]; rw [if_neg (by omega)]) hk
  simpa using this
theorem both_same {ρ : Type} (x : Option ρ) : both x x = x := by unfold both; simp
theorem slices_Clone_lint_int_eq {k : Nat} {xs : List Int} (hx : xs.length ≤ maxN) : slices_Clone_lint_int k xs = some xs := by
  unfold slices_Clone_lint_int
  rw [ble_le (by simpa using hx)]
  cases xs with
  | nil => simp only [isNil, cond_true, List.append_nil]; exact both_same _
  | cons x l => rfl
end Go.Proofs.Ev
