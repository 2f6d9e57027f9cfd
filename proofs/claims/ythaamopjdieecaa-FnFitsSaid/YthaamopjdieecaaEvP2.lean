/- Plain laws: shapes and tensors: Reshape, FlatOf. -/
import Derived.Test.YthaamopjdieecaaEvP1
import Derived.Test.YthaamopjdieecaaEvK7
set_option linter.unusedVariables false
set_option linter.unusedSimpArgs false
set_option linter.unusedVariables false
set_option linter.unusedSimpArgs false
namespace Go.Proofs.Ev
def marked (m : Int) (n : Nat) : List Int := (List.range n).map fun (i : Nat) => m + (i : Int)
@[simp] theorem marked_length (m : Int) (n : Nat) : (marked m n).length = n := by simp [marked]
def inB (x a b : Int) : Bool := decide (a ≤ x ∧ x ≤ b)
theorem S_l01In_eq (k : Nat) (x a b : Int) : S_l01In k x a b = some (inB x a b) := by
  unfold S_l01In inB
  rw [cond_dec]
  by_cases h : a ≤ x <;> simp [h]
theorem I_in_eq (k : Nat) (x a b : Int) : I_in k x a b = some (inB x a b) := by
  unfold I_in inB
  rw [cond_dec]
  by_cases h : a ≤ x <;> simp [h]
def Shape.okB (s : Shape) : Bool := inB s.h 1 8 && (inB s.w 1 8 && inB s.c 1 8)
def Shape.size (s : Shape) : Int := cond s.okB (s.h * s.w * s.c) 0
def itemsB (xs : List Int) : Bool := xs.all fun x => inB x (-128) 127
def Tensor.okB (t : Tensor) : Bool := t.sh.okB && (decide ((t.data.length : Int) = t.sh.size) && itemsB t.data)
theorem findIdx_some {α : Type} {p : α → Bool} (xs : List α) : ((xs.findIdx? p).elim (some (-1 : Int)) fun i => some (i : Int)) = some ((xs.findIdx? p).elim (-1) fun i => (i : Int)) := by
  cases xs.findIdx? p <;> rfl
theorem findIdx_ge {α : Type} {p : α → Bool} (xs : List α) : decide (((xs.findIdx? p).elim (-1 : Int) fun i => (i : Int)) ≥ 0) = xs.any p := by
  cases h : xs.findIdx? p with
  | none =>
    rw [List.findIdx?_eq_none_iff] at h
    have : xs.any p = false := by simpa using h
    rw [this]; rfl
  | some i =>
    have : xs.any p = true := by
      have := List.findIdx?_eq_some_iff_getElem.1 h
      obtain ⟨hi, hp, _⟩ := this
      exact List.any_eq_true.2 ⟨_, List.getElem_mem hi, hp⟩
    rw [this]; simp
theorem ble_le {a b : Nat} {α : Type} {x y : α} (h : a ≤ b) : cond (Nat.ble a b) x y = x := by rw [Nat.ble_eq_true_of_le h]; rfl
theorem S_l01Copy_eq {k : Nat} {xs : List Int} (hk : xs.length < k) (hx : xs.length ≤ maxN) : S_l01Copy k xs = some xs := by
  rw [maxN_eq] at hx
  unfold S_l01Copy
  have := app_loop xs (fun x => x) (g := fun u next => S_l01Copy_g0 k xs u next (fun y => some y)) (fin := some) (fun i ys hi next hl => by
    simp only [S_l01Copy_g0, cond_dec]
    rw [if_pos (by omega), idx_nat, getD_get hi, bind_some', ble_le (by rw [maxN_eq, hl]; simp; omega), wrapNat1 hi (by omega)]) (fun ys next => by
    simp only [S_l01Copy_g0, cond_dec]; rw [if_neg (by omega)]) hk
  simpa using this
theorem both_same {ρ : Type} (x : Option ρ) : both x x = x := by unfold both; simp
theorem slices_Clone_lint_int_eq {k : Nat} {xs : List Int} (hx : xs.length ≤ maxN) : slices_Clone_lint_int k xs = some xs := by
  unfold slices_Clone_lint_int
  rw [ble_le (by simpa using hx)]
  cases xs with
  | nil => simp only [isNil, cond_true, List.append_nil]; exact both_same _
  | cons x l => rfl
end Go.Proofs.Ev
