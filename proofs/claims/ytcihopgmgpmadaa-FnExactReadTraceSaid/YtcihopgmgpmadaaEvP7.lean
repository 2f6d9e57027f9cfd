/- Plain laws: SavedBy, copies of models, CutModel, JobOk, StartJob. -/
import Derived.Test.YtcihopgmgpmadaaEvP6
import Derived.Test.YtcihopgmgpmadaaEvB2
import Derived.Test.YtcihopgmgpmadaaEvD5
set_option linter.unusedVariables false
set_option linter.unusedSimpArgs false
set_option linter.unusedVariables false
set_option linter.unusedSimpArgs false
namespace Go.Proofs.Ev
/-! ### numbers that wrap -/
theorem wrap_q (n : Int) : ∃ q : Int, IntKind.i64.wrap n = n + 18446744073709551616 * q := by
  have h : IntKind.i64.wrap n = if n % 18446744073709551616 ≥ 9223372036854775808 then n % 18446744073709551616 - 18446744073709551616 else n % 18446744073709551616 := by
    unfold IntKind.wrap
    simp [IntKind.bits, IntKind.signed]
  rw [h]
  by_cases c : n % 18446744073709551616 ≥ 9223372036854775808
  · rw [if_pos c]; exact ⟨-(n / 18446744073709551616) - 1, by omega⟩
  · rw [if_neg c]; exact ⟨-(n / 18446744073709551616), by omega⟩
theorem wrap_congr {a b : Int} (q : Int) (h : a = b + 18446744073709551616 * q) : IntKind.i64.wrap a = IntKind.i64.wrap b := by
  subst h
  unfold IntKind.wrap
  simp [IntKind.bits, IntKind.signed]
theorem wrap_saved (v w r : Int) : IntKind.i64.wrap (IntKind.i64.wrap (v + w) - r) = IntKind.i64.wrap (v + IntKind.i64.wrap (w - r)) := by
  obtain ⟨q1, h1⟩ := wrap_q (v + w)
  obtain ⟨q2, h2⟩ := wrap_q (w - r)
  rw [h1, h2]
  exact wrap_congr (q1 - q2) (by omega)
/-! ### SavedBy -/
def savedFrom (m : Model) : List Int → Int → Int
  | [], s => s
  | n :: l, s => cond (decide (batchCost m n < 0)) (-1) (savedFrom m l (IntKind.i64.wrap (s + IntKind.i64.wrap (IntKind.i64.wrap (totalCost m * n) - batchCost m n))))
def savedBy (m : Model) (xs : List Int) : Int := cond (decide ((xs.length : Int) > 300)) (-1) (savedFrom m xs 0)
theorem saved_walk {m : Model} {xs : List Int} {g : Int × Int → (Int × Int → Option Int) → Option Int}
    (h : ∀ (i : Nat) (s : Int) (hi : i < xs.length) next, g (s, (i : Int)) next = cond (decide (batchCost m xs[i] < 0)) (some (-1)) (next (IntKind.i64.wrap (s + IntKind.i64.wrap (IntKind.i64.wrap (totalCost m * xs[i]) - batchCost m xs[i])), ((i + 1 : Nat) : Int))))
    (hn : ∀ s next, g (s, (xs.length : Int)) next = some s) : ∀ (rest : List Int) (i : Nat) (s : Int) (k : Nat), i ≤ xs.length → xs.drop i = rest → rest.length < k → iter g k (s, (i : Int)) = some (savedFrom m rest s)
  | [], i, s, 0, _, _, hk => by omega
  | _ :: _, i, s, 0, _, _, hk => by omega
  | [], i, s, k + 1, hle, hd, hk => by
    have h1 := congrArg List.length hd
    simp only [List.length_drop, List.length_nil] at h1
    have : i = xs.length := by omega
    subst this
    rw [iter_succ, hn]; rfl
  | x :: l, i, s, k + 1, hle, hd, hk => by
    have hi : i < xs.length := by
      have h1 := congrArg List.length hd
      simp only [List.length_drop, List.length_cons] at h1
      omega
    rw [drop_step hi] at hd
    injection hd with h1 h2
    rw [iter_succ, h i s hi, h1]
    simp only [savedFrom]
    cases decide (batchCost m x < 0)
    · simp only [cond_false]; exact saved_walk h hn l (i + 1) _ k (by omega) h2 (by simpa using hk)
    · rfl
theorem S_SavedBy_eq {k : Nat} {m : Model} {xs : List Int} (hk : m.tot < k) (hN : m.tot ≤ maxN) (hx : xs.length < k) (hxN : xs.length ≤ maxN) : S_SavedBy k m xs = some (savedBy m xs) := by
  have hM := maxN_eq
  unfold S_SavedBy savedBy
  cases decide ((xs.length : Int) > 300)
  · simp only [cond_false]
    exact saved_walk (m := m) (xs := xs) (g := fun u next => S_SavedBy_g0 k (xs, m.inp.h, m.inp.w, m.inp.c, m.layers) u next (fun y5 => some y5) (fun y6 => some y6)) (fun i s hi next => by
      simp only [S_SavedBy_g0]
      rw [cond_dec, if_pos (by omega), idx_nat, getD_get hi, bind_some', show (⟨⟨m.inp.h, m.inp.w, m.inp.c⟩, m.layers⟩ : Model) = m from rfl, S_BatchCost_eq hk hN, bind_some', S_TotalCost_eq hk hN, bind_some', bind_some', wrapNat1 hi (by omega), wrap_saved]) (fun s next => by
      simp only [S_SavedBy_g0]; rw [cond_dec, if_neg (by omega)]) xs 0 0 k (Nat.zero_le _) rfl hx
  · rfl
theorem I_SavedBy_eq {k : Nat} {m : Model} {xs : List Int} (hk : m.tot + 1 < k) (hN : m.tot < maxN) (hx : xs.length < k) (hxN : xs.length ≤ maxN) : I_SavedBy k m xs = some (savedBy m xs) := by
  have hM := maxN_eq
  unfold I_SavedBy savedBy
  cases decide ((xs.length : Int) > 300)
  · simp only [cond_false]
    exact saved_walk (m := m) (xs := xs) (g := fun u next => I_SavedBy_g0 k (xs, (xs.length : Int), m.inp.h, m.inp.w, m.inp.c, m.layers) u next (fun y5 => some y5) (fun y6 => some y6)) (fun i s hi next => by
      simp only [I_SavedBy_g0]
      rw [cond_dec, if_pos (by omega), idx_nat, getD_get hi, bind_some', show (⟨⟨m.inp.h, m.inp.w, m.inp.c⟩, m.layers⟩ : Model) = m from rfl, I_BatchCost_eq hk hN, bind_some', I_TotalCost_eq hk hN, bind_some', wrapNat1 hi (by omega)]) (fun s next => by
      simp only [I_SavedBy_g0]; rw [cond_dec, if_neg (by omega)]) xs 0 0 k (Nat.zero_le _) rfl hx
  · rfl
theorem L_FnExactSavedBy_eq (m : Model) (xs : List Int) (hm : m.Ok) (hxs : okS okI xs) : ∃ k, L_FnExactSavedBy k m xs = some true := by
  refine ⟨m.tot + xs.length + 2, ?_⟩
  have hM := maxN_eq
  unfold L_FnExactSavedBy
  rw [cond_dec]
  by_cases c0 : (xs.length : Int) > 1048576
  · rw [if_pos c0]
  rw [if_neg c0, L_szModel_z (n := 1048576) hm (by omega) (by omega) (by omega), bind_some', cond_dec]
  by_cases c : (1048576 : Int) < (m.tot : Int)
  · simp only [if_pos c]; rfl
  simp only [if_neg c]
  rw [if_neg (by omega)]
  have hk : m.tot < m.tot + xs.length + 2 := by omega
  have hN : m.tot ≤ maxN := by omega
  have hx : xs.length < m.tot + xs.length + 2 := by omega
  have hxN : xs.length ≤ maxN := by omega
  simp only [L_toModel_z hk hN, L_toIntS_z hx hxN, bind_some', S_SavedBy_eq hk hN hx hxN, I_SavedBy_eq (m := m) (xs := xs) (k := m.tot + xs.length + 2) (by omega) (by omega) hx hxN, L_eqModel_z (y := m) hk hN, L_eqIntS_z (ys := xs) hx hxN, decide_true, cond_not, cond_true, cond_bne, if_true]
end Go.Proofs.Ev
