/- Plain laws: numbers, bytes, tensors, steps: copied, compared, counted. -/
import Derived.Test.YthaamopjdieecaaEvD1
import Derived.Test.YthaamopjdieecaaEvK7
set_option linter.unusedVariables false
set_option linter.unusedSimpArgs false
set_option linter.unusedVariables false
namespace Go.Proofs.Ev
theorem L_szIntS_eq (k : Nat) (xs : List Int) (n : Int) (hn : 0 ≤ n ∧ n ≤ 1048576) (hx : xs.length ≤ maxL) : L_szIntS k xs n = some (if n < xs.length then -1 else n - xs.length) := by
  unfold maxL at hx
  unfold L_szIntS
  rw [wrapI (by omega) (by omega), cond_dec]
  by_cases h : n < xs.length
  · rw [if_pos (by omega), if_pos h]
  · rw [if_neg (by omega), if_neg h]
theorem L_toIntS_eq {k : Nat} {xs : List Int} (hk : xs.length < k) (hx : xs.length ≤ maxN) : L_toIntS k xs = some xs := by
  rw [maxN_eq] at hx
  unfold L_toIntS
  rw [cond_dec, if_pos (by rw [maxN_eq]; omega)]
  exact copy_loop xs 0 (fin := some) (fun i ys hi next hl => by
    simp only [L_toIntS_g0, cond_dec]
    rw [if_pos (by omega), idx_nat, getD_get hi, Option.bind_some, if_pos (by omega), wrapNat1 hi (by omega)]
    simp) (fun ys next => by simp only [L_toIntS_g0, cond_dec]; rw [if_neg (by omega)]) hk
theorem bne_nat (a b : Nat) : ((a : Int) != (b : Int)) = decide (a ≠ b) := by
  rw [bne_dec]; congr 1; rw [eq_iff_iff]; omega
/-- The tests of a loop that compares, in one word. -/
theorem cmp_round {R : Type} {xs ys : List Int} {i : Nat} (hi : i < xs.length) (hi' : i < ys.length) (hx : xs.length ≤ maxL) (next : Int → Option R) (no yes : Option R) :
    (cond (decide ((i : Int) < (xs.length : Int))) ((idx xs i).bind fun e1 => (idx ys i).bind fun e2 => cond (e1 != e2) no (next (IntKind.i64.wrap ((i : Int) + (1 : Int))))) yes) = if xs[i] = ys[i] then next ((i + 1 : Nat) : Int) else no := by
  unfold maxL at hx
  rw [cond_dec, if_pos (by omega), idx_nat, idx_nat, getD_get hi, getD_get hi', Option.bind_some, Option.bind_some, wrapNat1 hi (by omega)]
  rw [cond_bne]
theorem cmp_end {R : Type} {xs : List Int} (a : Option R) (yes : Option R) : (cond (decide ((xs.length : Int) < (xs.length : Int))) a yes) = yes := by
  rw [cond_dec, if_neg (by omega)]
theorem cmp_all {xs ys : List Int} {r : Option Bool} (h : xs.length = ys.length → r = if xs = ys then some true else some false) : (cond ((xs.length : Int) != (ys.length : Int)) (some false) r) = some (decide (xs = ys)) := by
  rw [bne_nat, cond_dec]
  by_cases c : xs.length = ys.length
  · rw [if_neg (by simp [c]), h c]; split <;> simp [*]
  · rw [if_pos c, decide_eq_false (fun e => c (by rw [e]))]
theorem L_eqIntS_eq {k : Nat} {xs ys : List Int} (hk : xs.length < k) (hx : xs.length ≤ maxL) : L_eqIntS k xs ys = some (decide (xs = ys)) :=
  cmp_all fun c => same_loop xs ys c (fun i hi hi' next => cmp_round hi hi' hx next _ _) (fun next => cmp_end _ _) hk
end Go.Proofs.Ev
