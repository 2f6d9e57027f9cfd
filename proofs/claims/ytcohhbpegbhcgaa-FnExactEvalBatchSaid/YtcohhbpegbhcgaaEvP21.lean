/- Plain laws: arithmetic with rounding. -/
import Derived.Test.YtcohhbpegbhcgaaEvP9
import Derived.Test.YtcohhbpegbhcgaaEvD9
set_option linter.unusedVariables false
set_option linter.unusedSimpArgs false
set_option linter.unusedVariables false
set_option linter.unusedSimpArgs false
namespace Go.Proofs.Ev
def sat (a b x : Int) : Int := if x < a then a else if x > b then b else x
theorem sat_bd {a b : Int} (h : a ≤ b) (x : Int) : a ≤ sat a b x ∧ sat a b x ≤ b := by
  unfold sat
  by_cases h1 : x < a
  · rw [if_pos h1]; omega
  · rw [if_neg h1]
    by_cases h2 : x > b
    · rw [if_pos h2]; omega
    · rw [if_neg h2]; omega
theorem sat_id {a b x : Int} (h1 : a ≤ x) (h2 : x ≤ b) : sat a b x = x := by
  unfold sat; rw [if_neg (by omega), if_neg (by omega)]
theorem S_ClampTo_eq {k : Nat} {x a b : Int} (h : a ≤ b) : S_ClampTo k x a b = some (sat a b x) := by
  unfold S_ClampTo sat
  rw [cond_dec, cond_dec, cond_dec]
  by_cases h1 : x < a
  · rw [if_pos h1, if_pos h1]
  · rw [if_neg h1, if_neg h1, if_neg (by omega)]
    by_cases h2 : x > b
    · rw [if_pos h2, if_pos h2]
    · rw [if_neg h2, if_neg h2]
theorem I_cut_eq {k : Nat} {x a b : Int} (h : a ≤ b) : I_cut k x a b = some (sat a b x) := by
  unfold I_cut sat
  congr 1
  repeat' split
  all_goals omega
def sat8 (x : Int) : Int := sat (-128) 127 x
def sat32 (x : Int) : Int := sat (-2147483648) 2147483647 x
theorem sat8_bd (x : Int) : -128 ≤ sat8 x ∧ sat8 x ≤ 127 := sat_bd (by omega) x
theorem sat32_bd (x : Int) : -2147483648 ≤ sat32 x ∧ sat32 x ≤ 2147483647 := sat_bd (by omega) x
theorem S_Sat8_eq (k : Nat) (x : Int) : S_Sat8 k x = some (sat8 x) := by unfold S_Sat8 sat8; rw [S_ClampTo_eq (by omega), bind_some']
theorem S_Sat32_eq (k : Nat) (x : Int) : S_Sat32 k x = some (sat32 x) := by unfold S_Sat32 sat32; rw [S_ClampTo_eq (by omega), bind_some']
theorem I_Sat8_eq (k : Nat) (x : Int) : I_Sat8 k x = some (sat8 x) := by unfold I_Sat8 sat8; rw [I_cut_eq (by omega), bind_some']
theorem I_Sat32_eq (k : Nat) (x : Int) : I_Sat32 k x = some (sat32 x) := by unfold I_Sat32 sat32; rw [I_cut_eq (by omega), bind_some']
def addSat (a b : Int) : Int := sat32 (sat32 a + sat32 b)
theorem S_AddSat_eq (k : Nat) (a b : Int) : S_AddSat k a b = some (addSat a b) := by
  have h1 := sat32_bd a
  have h2 := sat32_bd b
  unfold S_AddSat addSat
  simp only [S_Sat32_eq, bind_some']
  rw [wrapI (by omega) (by omega)]
theorem I_AddSat_eq (k : Nat) (a b : Int) : I_AddSat k a b = some (addSat a b) := by
  have h1 := sat32_bd a
  have h2 := sat32_bd b
  unfold I_AddSat addSat
  simp only [I_Sat32_eq, bind_some']
  rw [wrapI (by omega) (by omega)]
theorem mulAB {x y A B : Int} (hx : -A ≤ x ∧ x ≤ A) (hy : -B ≤ y ∧ y ≤ B) : -(A * B) ≤ x * y ∧ x * y ≤ A * B := by
  have h1 := Int.mul_nonneg (show 0 ≤ A - x by omega) (show 0 ≤ B + y by omega)
  have h2 := Int.mul_nonneg (show 0 ≤ A + x by omega) (show 0 ≤ B - y by omega)
  have h3 := Int.mul_nonneg (show 0 ≤ A - x by omega) (show 0 ≤ B - y by omega)
  have h4 := Int.mul_nonneg (show 0 ≤ A + x by omega) (show 0 ≤ B + y by omega)
  simp only [Int.sub_mul, Int.add_mul, Int.mul_add, Int.mul_sub] at h1 h2 h3 h4
  omega
def mulHigh (a b : Int) : Int := sat32 ((sat32 a * sat32 b + 1073741824) / 2147483648)
theorem S_l01Down_eq {k : Nat} {a : Int} (h1 : -4611686018427387904 ≤ a ∧ a ≤ 9223372036854775807) : S_l01Down k a 2147483648 = some (a / 2147483648) := by
  have e := Int.mul_tdiv_add_tmod a 2147483648
  have h2 := Int.tmod_lt_of_pos a (show (0 : Int) < 2147483648 by omega)
  unfold S_l01Down
  rw [cond_dec, if_neg (by omega), cond_dec, if_neg (by omega), cond_dec]
  by_cases c : 0 ≤ a
  · have h3 := Int.tmod_nonneg 2147483648 c
    rw [if_neg (by omega), wrapI (by omega) (by omega)]
    congr 1; omega
  · have h3 := Int.tmod_nonneg 2147483648 (show 0 ≤ -a by omega)
    have h4 := Int.tmod_lt_of_pos (-a) (show (0 : Int) < 2147483648 by omega)
    rw [Int.neg_tmod] at h3 h4
    by_cases c2 : a.tmod 2147483648 < 0
    · rw [if_pos c2, wrapI (n := a.tdiv 2147483648) (by omega) (by omega), wrapI (by omega) (by omega)]
      congr 1; omega
    · rw [if_neg c2, wrapI (by omega) (by omega)]
      congr 1; omega
theorem prod32 (a b : Int) : -4611686018427387904 ≤ sat32 a * sat32 b ∧ sat32 a * sat32 b ≤ 4611686018427387904 :=
  mulAB (A := 2147483648) (B := 2147483648) (by have := sat32_bd a; omega) (by have := sat32_bd b; omega)
theorem S_MulHigh_eq (k : Nat) (a b : Int) : S_MulHigh k a b = some (mulHigh a b) := by
  have h := prod32 a b
  unfold S_MulHigh mulHigh
  simp only [S_Sat32_eq, bind_some']
  rw [wrapI (n := sat32 a * sat32 b) (by omega) (by omega), wrapI (by omega) (by omega), S_l01Down_eq (by omega), bind_some']
theorem I_MulHigh_eq (k : Nat) (a b : Int) : I_MulHigh k a b = some (mulHigh a b) := by
  have h := prod32 a b
  unfold I_MulHigh mulHigh
  simp only [I_Sat32_eq, bind_some']
  rw [wrapI (n := sat32 a * sat32 b) (by omega) (by omega), wrapI (by omega) (by omega)]
  have e : ((2 : Int) ^ (min (31 : Int).toNat IntKind.i64.bits)) = 2147483648 := by decide
  rw [e, Int.fdiv_eq_ediv_of_nonneg _ (by omega)]
def roundTo (x by_ : Int) : Int := if x < 0 then -((2 * -x + by_) / (2 * by_)) else (2 * x + by_) / (2 * by_)
theorem div_bd {a b : Int} (ha : 0 ≤ a) (hb : 1 ≤ b) : 0 ≤ a / b ∧ a / b ≤ a :=
  ⟨Int.ediv_nonneg ha (by omega), Int.ediv_le_self _ ha⟩
theorem I_rounded_eq {k : Nat} {x d : Int} (hx : -2147483648 ≤ x ∧ x ≤ 2147483648) (hd : 1 ≤ d ∧ d ≤ 2147483648) : I_rounded k x d = some (roundTo x d) := by
  unfold I_rounded I_rounded__r0 roundTo
  rw [wrapI (n := 2 * d) (by omega) (by omega), cond_dec]
  by_cases c : x < 0
  · rw [if_pos c, if_pos c, wrapI (n := 0 - x) (by omega) (by omega), cond_dec, if_neg (by omega), cond_dec, if_neg (by omega), bind_some', wrapI (n := 2 * (0 - x)) (by omega) (by omega), wrapI (n := 2 * (0 - x) + d) (by omega) (by omega), Int.tdiv_eq_ediv_of_nonneg (by omega)]
    have h := div_bd (a := 2 * (0 - x) + d) (b := 2 * d) (by omega) (by omega)
    rw [show 2 * -x + d = 2 * (0 - x) + d from by omega]
    generalize (2 * (0 - x) + d) / (2 * d) = q at h
    rw [wrapI (n := q) (by omega) (by omega), wrapI (by omega) (by omega)]
    congr 1; omega
  · rw [if_neg c, if_neg c, cond_dec, if_neg (by omega), wrapI (n := 2 * x) (by omega) (by omega), wrapI (n := 2 * x + d) (by omega) (by omega), Int.tdiv_eq_ediv_of_nonneg (by omega)]
    have h := div_bd (a := 2 * x + d) (b := 2 * d) (by omega) (by omega)
    rw [wrapI (by omega) (by omega)]
def roundShift (x n : Int) : Int := roundTo (sat32 x) (2 ^ (sat 0 31 n).toNat)
theorem pow_shift {r : Int} (h : 0 ≤ r ∧ r ≤ 31) : IntKind.i64.wrap ((1 : Int) * 2 ^ (min r.toNat IntKind.i64.bits)) = 2 ^ r.toNat ∧ (1 : Int) ≤ 2 ^ r.toNat ∧ (2 : Int) ^ r.toNat ≤ 2147483648 := by
  have hb : IntKind.i64.bits = 64 := rfl
  have h1 : (2 : Nat) ^ r.toNat ≤ 2 ^ 31 := Nat.pow_le_pow_right (by omega) (by omega)
  have h2 : 1 ≤ (2 : Nat) ^ r.toNat := Nat.one_le_two_pow
  have e : ((2 ^ r.toNat : Nat) : Int) = 2 ^ r.toNat := by simp
  rw [hb, Nat.min_eq_left (by omega), Int.one_mul]
  rw [← e]
  refine ⟨wrapI (by omega) (by omega), by omega, by omega⟩
theorem half_div {v : Int} {s : Nat} : (v + (2 ^ s : Int) / 2) / 2 ^ s = (2 * v + 2 ^ s) / (2 * 2 ^ s) := by
  cases s with
  | zero => omega
  | succ s =>
    have e : (2 : Int) ^ (s + 1) = 2 * 2 ^ s := by rw [Int.pow_succ, Int.mul_comm]
    rw [e]
    have e2 : 2 * v + 2 * (2 : Int) ^ s = 2 * (v + 2 ^ s) := by rw [Int.mul_add]
    rw [e2, Int.mul_ediv_mul_of_pos _ _ (by omega : (0 : Int) < 2), Int.mul_ediv_cancel_left _ (by omega : (2 : Int) ≠ 0)]
theorem I_RoundShift_eq (k : Nat) (x n : Int) : I_RoundShift k x n = some (roundShift x n) := by
  have h1 := sat32_bd x
  have h2 := sat_bd (a := 0) (b := 31) (by omega) n
  obtain ⟨e, h3, h4⟩ := pow_shift h2
  unfold I_RoundShift roundShift
  rw [I_Sat32_eq, bind_some', I_cut_eq (by omega), bind_some', cond_dec, if_neg (by omega), e, I_rounded_eq (by omega) ⟨h3, h4⟩, bind_some']
theorem u64_small {r : Int} (h : 0 ≤ r ∧ r ≤ 31) : IntKind.u64.wrap r = r := Go.IntWalk.u64_in r ⟨by omega, by omega⟩
theorem S_RoundShift_eq (k : Nat) (x n : Int) : S_RoundShift k x n = some (roundShift x n) := by
  have h1 := sat32_bd x
  have h2 := sat_bd (a := 0) (b := 31) (by omega) n
  obtain ⟨e, h3, h4⟩ := pow_shift h2
  unfold S_RoundShift roundShift roundTo
  rw [S_Sat32_eq, bind_some', S_ClampTo_eq (by omega), bind_some', u64_small h2, cond_dec, if_neg (by omega), e, cond_dec]
  have hh : ((2 : Int) ^ (sat 0 31 n).toNat).tdiv 2 = 2 ^ (sat 0 31 n).toNat / 2 := Int.tdiv_eq_ediv_of_nonneg (by omega)
  rw [hh, wrapI (n := 2 ^ (sat 0 31 n).toNat / 2) (by omega) (by omega)]
  by_cases c : sat32 x < 0
  · rw [if_pos c, if_pos c, cond_dec, if_neg (by omega), wrapI (n := 0 - sat32 x) (by omega) (by omega), wrapI (n := 0 - sat32 x + 2 ^ (sat 0 31 n).toNat / 2) (by omega) (by omega), Int.tdiv_eq_ediv_of_nonneg (by omega), half_div, show 2 * -sat32 x + 2 ^ (sat 0 31 n).toNat = 2 * (0 - sat32 x) + 2 ^ (sat 0 31 n).toNat from by omega]
    have h := div_bd (a := 2 * (0 - sat32 x) + 2 ^ (sat 0 31 n).toNat) (b := 2 * 2 ^ (sat 0 31 n).toNat) (by omega) (by omega)
    generalize (2 * (0 - sat32 x) + 2 ^ (sat 0 31 n).toNat) / (2 * 2 ^ (sat 0 31 n).toNat) = q at h
    rw [wrapI (n := q) (by omega) (by omega), wrapI (by omega) (by omega)]
    congr 1; omega
  · rw [if_neg c, if_neg c, cond_dec, if_neg (by omega), wrapI (n := sat32 x + 2 ^ (sat 0 31 n).toNat / 2) (by omega) (by omega), Int.tdiv_eq_ediv_of_nonneg (by omega), half_div]
    have h := div_bd (a := 2 * sat32 x + 2 ^ (sat 0 31 n).toNat) (b := 2 * 2 ^ (sat 0 31 n).toNat) (by omega) (by omega)
    rw [wrapI (by omega) (by omega)]
def requant (acc mult shift zero : Int) : Int := sat8 (roundShift (mulHigh acc mult) shift + sat8 zero)
theorem roundTo_bd {x d B : Int} (hx : -B ≤ x ∧ x ≤ B) (hd : 1 ≤ d) : -B ≤ roundTo x d ∧ roundTo x d ≤ B := by
  have key : ∀ y : Int, 0 ≤ y → y ≤ B → 0 ≤ (2 * y + d) / (2 * d) ∧ (2 * y + d) / (2 * d) ≤ B := fun y h0 h1 => by
    refine ⟨Int.ediv_nonneg (by omega) (by omega), ?_⟩
    have hlt : (2 * y + d) / (2 * d) < B + 1 := by
      apply Int.ediv_lt_of_lt_mul (by omega)
      have := Int.mul_nonneg (show 0 ≤ B by omega) (show 0 ≤ d - 1 by omega)
      rw [Int.mul_sub, Int.mul_one] at this
      rw [Int.add_mul, Int.one_mul, Int.mul_comm B, Int.mul_assoc, Int.mul_comm d B]
      omega
    omega
  unfold roundTo
  by_cases c : x < 0
  · rw [if_pos c]
    have := key (-x) (by omega) (by omega)
    omega
  · rw [if_neg c]
    have := key x (by omega) (by omega)
    omega
theorem requant_wrap (acc mult shift zero : Int) : IntKind.i64.wrap (roundShift (mulHigh acc mult) shift + sat8 zero) = roundShift (mulHigh acc mult) shift + sat8 zero := by
  have h1 := sat8_bd zero
  have h2 := sat_bd (a := 0) (b := 31) (by omega) shift
  have h3 := sat32_bd (mulHigh acc mult)
  have h4 := roundTo_bd (x := sat32 (mulHigh acc mult)) (d := 2 ^ (sat 0 31 shift).toNat) (B := 2147483648) (by omega) (pow_shift h2).2.1
  unfold roundShift
  exact wrapI (by omega) (by omega)
theorem S_Requant_eq (k : Nat) (a b c d : Int) : S_Requant k a b c d = some (requant a b c d) := by
  unfold S_Requant requant
  simp only [S_MulHigh_eq, S_RoundShift_eq, S_Sat8_eq, bind_some', requant_wrap]
theorem I_Requant_eq (k : Nat) (a b c d : Int) : I_Requant k a b c d = some (requant a b c d) := by
  unfold I_Requant requant
  simp only [I_MulHigh_eq, I_RoundShift_eq, I_Sat8_eq, bind_some', requant_wrap]
end Go.Proofs.Ev
