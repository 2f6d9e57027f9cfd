/- Plain laws: bits of wide numbers; TakeWide. -/
import Derived.Test.YtcihopgmgpmadaaEvP9
import Derived.Test.YtcihopgmgpmadaaEvB2
import Derived.Test.YtcihopgmgpmadaaEvD4
import Derived.KernelRfl
set_option linter.unusedVariables false
set_option linter.unusedSimpArgs false
set_option linter.unusedVariables false
set_option linter.unusedSimpArgs false
namespace Go.Proofs.Ev
theorem ofInt_nat (w a : Nat) : (BitVec.ofInt w (a : Int)).toNat = a % 2 ^ w := by
  simp
/-- What lies below and what lies above: 'or' is a sum. -/
theorem or_add {a b n : Nat} (ha : a < 2 ^ n) (hb : b * 2 ^ n + a < 9223372036854775808) :
    IntKind.i64.wrap (((BitVec.ofInt IntKind.i64.bits (a : Int) ||| BitVec.ofInt IntKind.i64.bits ((b * 2 ^ n : Nat) : Int)).toNat : Nat) : Int) = ((a + b * 2 ^ n : Nat) : Int) := by
  have h1 : a % 2 ^ 64 = a := Nat.mod_eq_of_lt (by omega)
  have h2 : (b * 2 ^ n) % 2 ^ 64 = b * 2 ^ n := Nat.mod_eq_of_lt (by omega)
  have h3 : a ||| b * 2 ^ n = a + b * 2 ^ n := by
    have := Nat.two_pow_add_eq_or_of_lt ha b
    rw [Nat.or_comm, Nat.mul_comm b, ← this, Nat.add_comm]
  have e : (BitVec.ofInt IntKind.i64.bits (a : Int) ||| BitVec.ofInt IntKind.i64.bits ((b * 2 ^ n : Nat) : Int)).toNat = a + b * 2 ^ n := by
    rw [BitVec.toNat_or, ofInt_nat, ofInt_nat]
    show a % 2 ^ 64 ||| (b * 2 ^ n) % 2 ^ 64 = _
    rw [h1, h2, h3]
  rw [e, wrapI (by omega) (by omega)]
/-- The seven bits of a byte. -/
theorem and_127 {c : Nat} (h : c < 256) : IntKind.i64.wrap (IntKind.u8.wrap (((BitVec.ofInt IntKind.u8.bits (c : Int) &&& BitVec.ofInt IntKind.u8.bits (127 : Int)).toNat : Nat) : Int)) = ((c % 128 : Nat) : Int) := by
  have e : (BitVec.ofInt IntKind.u8.bits (c : Int) &&& BitVec.ofInt IntKind.u8.bits (127 : Int)).toNat = c % 128 := by
    rw [BitVec.toNat_and, ofInt_nat]
    show c % 2 ^ 8 &&& 127 = _
    rw [Nat.mod_eq_of_lt (by omega)]
    exact Nat.and_two_pow_sub_one_eq_mod c 7
  rw [e, wrapU8 (by omega) (by omega), wrapI (by omega) (by omega)]
/-! ### TakeWide -/
def wideGo (b : List Int) (at_ : Nat) : Nat → Nat → Nat → Int × Int
  | 0, _, _ => (0, -1)
  | f + 1, i, u =>
    match b[at_ + i]? with
    | none => (0, -1)
    | some c =>
      cond (decide (128 ≤ c.toNat)) (wideGo b at_ f (i + 1) (u + c.toNat % 128 * 2 ^ (7 * i)))
        (cond ((decide (0 < i) && decide (c.toNat = 0)) || decide (2199023255551 < u + c.toNat % 128 * 2 ^ (7 * i))) (0, -1)
          (cond (decide ((u + c.toNat % 128 * 2 ^ (7 * i)) % 2 = 1)) (-(((u + c.toNat % 128 * 2 ^ (7 * i) + 1) / 2 : Nat) : Int)) (((u + c.toNat % 128 * 2 ^ (7 * i)) / 2 : Nat) : Int), ((at_ + i + 1 : Nat) : Int)))
def takeWide (b : List Int) (at_ : Int) : Int × Int := cond (decide (0 ≤ at_)) (wideGo b at_.toNat 6 0 0) (0, -1)
theorem wide_shift {i : Nat} (hi : i < 6) : (2 : Int) ^ (min (IntKind.u64.wrap (IntKind.i64.wrap ((7 : Int) * (i : Int)))).toNat IntKind.i64.bits) = ((2 ^ (7 * i) : Nat) : Int) ∧
    (2 : Int) ^ (min (IntKind.i64.wrap ((7 : Int) * (i : Int))).toNat IntKind.i64.bits) = ((2 ^ (7 * i) : Nat) : Int) := by
  have : i = 0 ∨ i = 1 ∨ i = 2 ∨ i = 3 ∨ i = 4 ∨ i = 5 := by omega
  rcases this with rfl | rfl | rfl | rfl | rfl | rfl <;> exact ⟨by kernel_rfl, by kernel_rfl⟩
theorem wide_bd {i u c : Nat} (hi : i < 6) (hu : u < 2 ^ (7 * i)) : u + c % 128 * 2 ^ (7 * i) < 2 ^ (7 * (i + 1)) ∧ 2 ^ (7 * (i + 1)) ≤ 4398046511104 := by
  have h1 : 2 ^ (7 * (i + 1)) = 128 * 2 ^ (7 * i) := by rw [show 7 * (i + 1) = 7 * i + 7 from by omega, Nat.pow_add]; omega
  have h2 : c % 128 * 2 ^ (7 * i) ≤ 127 * 2 ^ (7 * i) := Nat.mul_le_mul_right _ (by omega)
  refine ⟨by omega, ?_⟩
  have : i = 0 ∨ i = 1 ∨ i = 2 ∨ i = 3 ∨ i = 4 ∨ i = 5 := by omega
  rcases this with rfl | rfl | rfl | rfl | rfl | rfl <;> decide
theorem wide_sum {i u n : Nat} (hi : i < 6) (hu : u < 2 ^ (7 * i)) (hn : n < 256) :
    IntKind.i64.wrap ((u : Int) + (IntKind.i64.wrap (((IntKind.i64.wrap (n : Int)).tmod (128 : Int)) * 2 ^ (min (IntKind.u64.wrap (IntKind.i64.wrap ((7 : Int) * (i : Int)))).toNat IntKind.i64.bits)))) = ((u + n % 128 * 2 ^ (7 * i) : Nat) : Int) := by
  have h := wide_bd (c := n) hi hu
  have e : ((n : Int).tmod 128) = ((n % 128 : Nat) : Int) := rfl
  rw [wrapI (n := (n : Int)) (by omega) (by omega), (wide_shift hi).1, e, ← Int.natCast_mul, wrapI (n := ((n % 128 * 2 ^ (7 * i) : Nat) : Int)) (by omega) (by omega), ← Int.natCast_add, wrapI (by omega) (by omega)]
theorem wide_neg {U : Nat} (h : U < 4398046511104) : IntKind.i64.wrap ((IntKind.i64.wrap (0 - (IntKind.i64.wrap ((U : Int) + (1 : Int))))).tdiv (2 : Int)) = -(((U + 1) / 2 : Nat) : Int) := by
  have e : (-(((U + 1 : Nat) : Int))).tdiv 2 = -(((U + 1) / 2 : Nat) : Int) := by rw [Int.neg_tdiv]; rfl
  rw [wrapI (n := (U : Int) + 1) (by omega) (by omega), wrapI (n := 0 - ((U : Int) + 1)) (by omega) (by omega), show (0 : Int) - ((U : Int) + 1) = -((U + 1 : Nat) : Int) from by omega, e, wrapI (by omega) (by omega)]
theorem wide_half {U : Nat} (h : U < 4398046511104) : IntKind.i64.wrap ((U : Int).tdiv (2 : Int)) = ((U / 2 : Nat) : Int) := by
  have e : (U : Int).tdiv 2 = ((U / 2 : Nat) : Int) := rfl
  rw [e, wrapI (by omega) (by omega)]
theorem wide_odd (U : Nat) : ((U : Int).tmod 2 == (1 : Int)) = decide (U % 2 = 1) := by
  have e : (U : Int).tmod 2 = ((U % 2 : Nat) : Int) := rfl
  rw [beqD, e]
  congr 1
  rw [eq_iff_iff]; omega
theorem S_wide_walk {b : List Int} {a kk : Nat} (hb : ∀ x ∈ b, okB x) (hl : b.length ≤ maxN) : ∀ (f i u k : Nat), i + f = 6 → u < 2 ^ (7 * i) → f < k →
    iter (fun u4 n4 => S_TakeWide_g0 kk (b, (a : Int)) u4 n4 (fun y2 => some ((0 : Int), (-1 : Int))) (fun y3 => some (y3.1, y3.2))) k ((u : Int), (i : Int)) = some (wideGo b a f i u)
  | f, i, u, 0, _, _, hk => by omega
  | 0, i, u, k + 1, hi, _, _ => by
    rw [iter_succ]
    simp only [S_TakeWide_g0]
    rw [cond_dec, if_neg (by omega)]; rfl
  | f + 1, i, u, k + 1, hi, hu, hk => by
    have hM := maxN_eq
    have hi6 : i < 6 := by omega
    rw [iter_succ]
    simp only [S_TakeWide_g0, wideGo]
    rw [cond_dec, if_pos (by omega), cond_dec, if_neg (by omega), wrapI (n := (b.length : Int) - (i : Int)) (by omega) (by omega), cond_dec]
    by_cases hin : a + i < b.length
    · rw [if_neg (by omega), wrapI (n := (a : Int) + (i : Int)) (by omega) (by omega), show (a : Int) + (i : Int) = ((a + i : Nat) : Int) from by omega, idx_nat, getD_get hin, bind_some']
      have hc := hb b[a + i] (List.getElem_mem hin)
      unfold okB at hc
      obtain ⟨n, hn⟩ : ∃ n : Nat, b[a + i] = (n : Int) := ⟨b[a + i].toNat, by omega⟩
      rw [hn] at hc ⊢
      have hn256 : n < 256 := by omega
      obtain ⟨w1, w2⟩ := wide_bd (c := n) hi6 hu
      have hU : u + n % 128 * 2 ^ (7 * i) < 4398046511104 := by omega
      simp only [wide_sum hi6 hu hn256, wide_neg hU, wide_half hU, wide_odd, Int.toNat_natCast]
      have hsh : IntKind.u64.wrap (IntKind.i64.wrap ((7 : Int) * (i : Int))) = ((7 * i : Nat) : Int) := by
        have : i = 0 ∨ i = 1 ∨ i = 2 ∨ i = 3 ∨ i = 4 ∨ i = 5 := by omega
        rcases this with rfl | rfl | rfl | rfl | rfl | rfl <;> decide
      rw [hsh, cond_dec, if_neg (by omega), wrapI (n := (n : Int)) (by omega) (by omega), wrapI (n := ((a + i : Nat) : Int) + 1) (by omega) (by omega), wrapI (n := (i : Int) + 1) (by omega) (by omega), cond_dec]
      by_cases h128 : 128 ≤ n
      · rw [if_neg (by omega), decide_eq_true h128, cond_true]
        exact S_wide_walk (kk := kk) hb hl f (i + 1) _ k (by omega) w1 (by omega)
      · rw [if_pos (by omega), decide_eq_false h128, cond_false, beqD]
        have e1 : decide ((n : Int) = 0) = decide (n = 0) := by congr 1; rw [eq_iff_iff]; omega
        have e2 : decide ((i : Int) > 0) = decide (0 < i) := by congr 1; rw [eq_iff_iff]; omega
        have e3 : ((a + i : Nat) : Int) + 1 = ((a + i + 1 : Nat) : Int) := by omega
        have e4 : decide ((((u + n % 128 * 2 ^ (7 * i)) : Nat) : Int) > 2199023255551) = decide (2199023255551 < (u + n % 128 * 2 ^ (7 * i))) := by congr 1; rw [eq_iff_iff]; omega
        rw [e1, e2, e3, e4]
        cases decide (2199023255551 < (u + n % 128 * 2 ^ (7 * i))) <;> cases decide (n = 0) <;> cases decide (0 < i) <;> cases decide ((u + n % 128 * 2 ^ (7 * i)) % 2 = 1) <;> rfl
    · rw [if_pos (by omega), List.getElem?_eq_none (by omega)]
theorem S_TakeWide_eq {k : Nat} {b : List Int} {a : Int} (hk : 7 ≤ k) (hb : ∀ x ∈ b, okB x) (hl : b.length ≤ maxN) : S_TakeWide k b a = some (takeWide b a) := by
  unfold S_TakeWide takeWide
  by_cases h : 0 ≤ a
  · rw [decide_eq_true h, cond_true]
    have := S_wide_walk (kk := k) (a := a.toNat) hb hl 6 0 0 k rfl (by decide) (by omega)
    rw [Int.toNat_of_nonneg h] at this
    exact this
  · rw [decide_eq_false h, cond_false]
    obtain ⟨k, rfl⟩ : ∃ k', k = k' + 1 := ⟨k - 1, by omega⟩
    rw [iter_succ]
    simp only [S_TakeWide_g0]
    rw [cond_dec, if_pos (by omega), cond_dec, if_pos (by omega)]
theorem wide_or {i u n : Nat} (hi : i < 6) (hu : u < 2 ^ (7 * i)) (hn : n < 256) :
    IntKind.i64.wrap (((BitVec.ofInt IntKind.i64.bits (u : Int) ||| BitVec.ofInt IntKind.i64.bits (IntKind.i64.wrap ((IntKind.i64.wrap (IntKind.u8.wrap (((BitVec.ofInt IntKind.u8.bits (n : Int) &&& BitVec.ofInt IntKind.u8.bits (127 : Int)).toNat : Int)))) * 2 ^ (min (IntKind.i64.wrap ((7 : Int) * (i : Int))).toNat IntKind.i64.bits)))).toNat : Int)) = ((u + n % 128 * 2 ^ (7 * i) : Nat) : Int) := by
  have h := wide_bd (c := n) hi hu
  rw [and_127 hn, (wide_shift hi).2, ← Int.natCast_mul, wrapI (n := ((n % 128 * 2 ^ (7 * i) : Nat) : Int)) (by omega) (by omega), or_add hu (by omega)]
theorem wide_neg2 {U : Nat} (h : U < 4398046511104) (ho : U % 2 = 1) : IntKind.i64.wrap ((IntKind.i64.wrap (0 - (IntKind.i64.wrap ((U : Int).tdiv (2 : Int))))) - (1 : Int)) = -(((U + 1) / 2 : Nat) : Int) := by
  rw [wide_half h, wrapI (n := 0 - ((U / 2 : Nat) : Int)) (by omega) (by omega), wrapI (by omega) (by omega)]
  omega
theorem I_isWide_eq (k : Nat) (x : Int) : I_isWide k x = some (inB x (-1099511627776) 1099511627775) := by unfold I_isWide; rw [I_in_eq]; rfl
theorem I_wide_walk {b l : List Int} {a kk : Nat} (hb : ∀ x ∈ b, okB x) (hlN : b.length ≤ maxN) (hl : l = (b.take (min (a + 6) b.length)).drop a) (ha : a ≤ b.length) : ∀ (f i u k : Nat), i + f = 6 → u < 2 ^ (7 * i) → f < k →
    iter (fun u9 n9 => I_TakeWide_g0 kk ((a : Int), l, (l.length : Int)) u9 n9 (fun y7 => some ((0 : Int), (-1 : Int))) (fun y8 => some (y8.1, y8.2))) k ((u : Int), (i : Int)) = some (wideGo b a f i u)
  | f, i, u, 0, _, _, hk => by omega
  | 0, i, u, k + 1, hi, _, _ => by
    have hll : l.length ≤ 6 := by rw [hl]; simp; omega
    rw [iter_succ]
    simp only [I_TakeWide_g0]
    rw [cond_dec, if_neg (by omega)]; rfl
  | f + 1, i, u, k + 1, hi, hu, hk => by
    have hM := maxN_eq
    have hi6 : i < 6 := by omega
    have hll : l.length = min 6 (b.length - a) := by rw [hl]; simp; omega
    rw [iter_succ]
    generalize hnx : iter _ k = nx
    simp only [I_TakeWide_g0, wideGo]
    by_cases hin : a + i < b.length
    · have hli : i < l.length := by omega
      have hget : l[i] = b[a + i] := by subst hl; simp
      rw [cond_dec, if_pos (by omega), idx_nat, getD_get hli, bind_some', getD_get hin, hget]
      have hc := hb b[a + i] (List.getElem_mem hin)
      unfold okB at hc
      obtain ⟨n, hn⟩ : ∃ n : Nat, b[a + i] = (n : Int) := ⟨b[a + i].toNat, by omega⟩
      rw [hn] at hc ⊢
      have hn256 : n < 256 := by omega
      obtain ⟨w1, w2⟩ := wide_bd (c := n) hi6 hu
      have hU : u + n % 128 * 2 ^ (7 * i) < 4398046511104 := by omega
      have hsh : IntKind.i64.wrap ((7 : Int) * (i : Int)) = ((7 * i : Nat) : Int) := by
        rw [wrapI (by omega) (by omega)]; omega
      have hnn : ¬ (IntKind.i64.wrap ((7 : Int) * (i : Int)) < 0) := by rw [hsh]; omega
      rw [decide_eq_false hnn, cond_false]
      simp only [wide_or hi6 hu hn256, wide_odd, Int.toNat_natCast, I_isWide_eq, bind_some', cond_swap]
      rw [wrapI (n := (a : Int) + (i : Int)) (by omega) (by omega), show (a : Int) + (i : Int) = ((a + i : Nat) : Int) from by omega, wrapI (n := ((a + i : Nat) : Int) + 1) (by omega) (by omega), wrapI (n := (i : Int) + 1) (by omega) (by omega), cond_dec]
      by_cases h128 : 128 ≤ n
      · rw [if_pos (by omega), decide_eq_true h128, cond_true]
        rw [← hnx]
        exact I_wide_walk (kk := kk) hb hlN hl ha f (i + 1) _ k (by omega) w1 (by omega)
      · rw [if_neg (by omega), decide_eq_false h128, cond_false, beqD]
        have e1 : decide ((n : Int) = 0) = decide (n = 0) := by congr 1; rw [eq_iff_iff]; omega
        have e2 : decide ((i : Int) > 0) = decide (0 < i) := by congr 1; rw [eq_iff_iff]; omega
        have e3 : ((a + i : Nat) : Int) + 1 = ((a + i + 1 : Nat) : Int) := by omega
        rw [e1, e2, e3]
        by_cases ho : (u + n % 128 * 2 ^ (7 * i)) % 2 = 1
        · rw [decide_eq_true ho, wide_neg2 hU ho]
          have e4 : inB (-(((u + n % 128 * 2 ^ (7 * i) + 1) / 2 : Nat) : Int)) (-1099511627776) 1099511627775 = !decide (2199023255551 < (u + n % 128 * 2 ^ (7 * i))) := by
            rw [Bool.eq_iff_iff, inB_spec, Bool.not_eq_true', decide_eq_false_iff_not]
            constructor <;> intro h <;> omega
          rw [e4]
          cases decide (2199023255551 < (u + n % 128 * 2 ^ (7 * i))) <;> cases decide (n = 0) <;> cases decide (0 < i) <;> rfl
        · rw [decide_eq_false ho, wide_half hU]
          have e4 : inB (((u + n % 128 * 2 ^ (7 * i)) / 2 : Nat) : Int) (-1099511627776) 1099511627775 = !decide (2199023255551 < (u + n % 128 * 2 ^ (7 * i))) := by
            rw [Bool.eq_iff_iff, inB_spec, Bool.not_eq_true', decide_eq_false_iff_not]
            constructor <;> intro h <;> omega
          rw [e4]
          cases decide (2199023255551 < (u + n % 128 * 2 ^ (7 * i))) <;> cases decide (n = 0) <;> cases decide (0 < i) <;> rfl
    · rw [cond_dec, if_neg (by omega), List.getElem?_eq_none (by omega)]
theorem I_TakeWide_eq {k : Nat} {b : List Int} {a : Int} (hk : 7 ≤ k) (hb : ∀ x ∈ b, okB x) (hl : b.length ≤ maxN) : I_TakeWide k b a = some (takeWide b a) := by
  have hM := maxN_eq
  unfold I_TakeWide takeWide
  rw [I_in_eq, bind_some', cond_swap, wrapI (n := (b.length : Int) - 1) (by omega) (by omega)]
  by_cases h : 0 ≤ a
  · rw [decide_eq_true h, cond_true]
    by_cases h2 : a < b.length
    · have e : inB a 0 ((b.length : Int) - 1) = true := inB_spec.2 (by omega)
      have e6 : (if IntKind.i64.wrap (a + 6) < (b.length : Int) then IntKind.i64.wrap (a + 6) else (b.length : Int)) = ((min (a.toNat + 6) b.length : Nat) : Int) := by
        rw [wrapI (by omega) (by omega)]
        split <;> omega
      rw [e, cond_true, e6, cond_dec, if_pos (by omega), cond_dec, if_pos (by omega), Int.toNat_natCast]
      have := I_wide_walk (kk := k) (l := (b.take (min (a.toNat + 6) b.length)).drop a.toNat) (a := a.toNat) hb hl rfl (by omega) 6 0 0 k rfl (by decide) (by omega)
      rw [Int.toNat_of_nonneg h] at this
      exact this
    · have e : inB a 0 ((b.length : Int) - 1) = false := by rw [← Bool.not_eq_true, inB_spec]; omega
      rw [e, cond_false]
      simp only [wideGo]
      rw [List.getElem?_eq_none (by omega)]
  · have e : inB a 0 ((b.length : Int) - 1) = false := by rw [← Bool.not_eq_true, inB_spec]; omega
    rw [decide_eq_false h, cond_false, e]; rfl
end Go.Proofs.Ev
