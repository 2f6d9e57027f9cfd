/- Plain laws: TakeStep. -/
import Derived.Test.YtcihopgmgpmadaaEvP11
set_option linter.unusedVariables false
set_option linter.unusedSimpArgs false
set_option linter.unusedVariables false
set_option linter.unusedSimpArgs false
namespace Go.Proofs.Ev
theorem wideGo_pos {b : List Int} {a : Nat} : ∀ (f i u : Nat), (wideGo b a f i u).2 = -1 ∨ ((a : Int) < (wideGo b a f i u).2 ∧ (wideGo b a f i u).2 ≤ b.length)
  | 0, i, u => .inl rfl
  | f + 1, i, u => by
    simp only [wideGo]
    cases hc : b[a + i]? with
    | none => exact .inl rfl
    | some c =>
      have hlt := (List.getElem?_eq_some_iff.1 hc).1
      simp only
      cases decide (128 ≤ c.toNat)
      · simp only [cond_false]
        cases ((decide (0 < i) && decide (c.toNat = 0)) || decide (2199023255551 < u + c.toNat % 128 * 2 ^ (7 * i)))
        · simp only [cond_false]; right; omega
        · exact .inl rfl
      · exact wideGo_pos f (i + 1) _
theorem takeWide_pos (b : List Int) (a : Int) : (takeWide b a).2 = -1 ∨ (0 ≤ a ∧ a < (takeWide b a).2 ∧ (takeWide b a).2 ≤ b.length) := by
  unfold takeWide
  by_cases h : 0 ≤ a
  · rw [decide_eq_true h, cond_true]
    rcases wideGo_pos (b := b) (a := a.toNat) 6 0 0 with h1 | h1
    · exact .inl h1
    · right; omega
  · rw [decide_eq_false h]; exact .inl rfl
/-- A number, where there is one. -/
def num? (b : List Int) (a : Int) : Option (Int × Int) := cond (decide ((takeWide b a).2 < 0)) none (some (takeWide b a))
theorem num?_pos {b : List Int} {a x p : Int} (h : num? b a = some (x, p)) : 0 ≤ a ∧ a < p ∧ p ≤ b.length := by
  unfold num? at h
  rcases takeWide_pos b a with h1 | h1
  · rw [h1] at h; exact nomatch h
  · rw [decide_eq_false (by omega), cond_false, Option.some.injEq] at h
    rw [h] at h1; exact h1
theorem readNum_false (b : List Int) (a : Int) : readNum b a false = (num? b a).elim (0, a, true) fun q => (q.1, q.2, false) := by
  unfold readNum num?
  cases decide ((takeWide b a).2 < 0) <;> rfl
theorem readNum_true (b : List Int) (a : Int) : readNum b a true = (0, a, true) := rfl
def readCount (b : List Int) (a : Int) (bad : Bool) (most : Int) : Int × Int × Bool := cond (inB (readNum b a bad).1 0 most) (readNum b a bad) (0, (readNum b a bad).2.1, true)
theorem I_count_eq {k : Nat} {b : List Int} {a most : Int} {bad : Bool} (hk : 7 ≤ k) (hb : ∀ x ∈ b, okB x) (hl : b.length ≤ maxN) : pI_wideReader_count_m k ⟨b, a, bad⟩ most = some (readCount b a bad most) := by
  unfold pI_wideReader_count_m readCount
  simp only [I_number_eq hk hb hl, I_in_eq, bind_some', decide_true, cond_true, cond_swap]
  cases inB (readNum b a bad).1 0 most <;> rfl
theorem I_shape_eq {k : Nat} {b : List Int} {a : Int} {bad : Bool} (hk : 7 ≤ k) (hb : ∀ x ∈ b, okB x) (hl : b.length ≤ maxN) : pI_wideReader_shape_m k ⟨b, a, bad⟩ =
    some (let r1 := readNum b a bad; let r2 := readNum b r1.2.1 r1.2.2; let r3 := readNum b r2.2.1 r2.2.2; (⟨r1.1, r2.1, r3.1⟩, r3.2.1, r3.2.2)) := by
  unfold pI_wideReader_shape_m
  simp only [I_number_eq hk hb hl, bind_some', decide_true, cond_true]
theorem I_bytes_true (k : Nat) (b : List Int) (a n : Int) : pI_wideReader_bytes_m k ⟨b, a, true⟩ n = some ([], a, true) := by
  unfold pI_wideReader_bytes_m
  simp only [decide_true, cond_true]
theorem I_bytes_false {k : Nat} {b : List Int} {a n : Int} (hl : b.length ≤ maxN) (ha : 0 ≤ a ∧ a ≤ b.length) (hn : 0 ≤ n ∧ n ≤ 6000) : pI_wideReader_bytes_m k ⟨b, a, false⟩ n =
    some (cond (decide (n > (b.length : Int) - a)) ([], a, true) ((b.take (a + n).toNat).drop a.toNat, a + n, false)) := by
  have hM := maxN_eq
  unfold pI_wideReader_bytes_m
  simp only [decide_true, cond_true, cond_false]
  rw [wrapI (n := (b.length : Int) - a) (by omega) (by omega)]
  by_cases h : n > (b.length : Int) - a
  · rw [decide_eq_true h]; rfl
  · rw [decide_eq_false h, cond_false, cond_false, wrapI (n := a + n) (by omega) (by omega), wrapI (n := a + n - n) (by omega) (by omega), show a + n - n = a from by omega, cond_dec, if_pos (by omega), cond_dec, if_pos (by omega),
      slices_Clone_lbyte_byte_eq (by simp; omega), bind_some']
/-- So many numbers, one behind the other. -/
def nums? (b : List Int) : Nat → Int → Option (List Int × Int)
  | 0, a => some ([], a)
  | n + 1, a => (num? b a).bind fun q => (nums? b n q.2).bind fun r => some (q.1 :: r.1, r.2)
theorem list_bad {k : Nat} {b : List Int} {n a : Int} {acc : List Int} {fin : List Int × Int × Bool → Option (List Int × Int × Bool)} (hk : 1 ≤ k) :
    iter (fun u4 n4 => pI_wideReader_list_m_g0 k b u4 n4 fin) k (n, a, true, acc) = fin (acc, a, true) := by
  obtain ⟨k', hk'⟩ : ∃ k', k = k' + 1 := ⟨k - 1, by omega⟩
  conv => lhs; arg 2; rw [hk']
  rw [iter_succ]
  simp only [pI_wideReader_list_m_g0]
  cases decide (n > 0) <;> rfl
theorem list_walk {k : Nat} {b : List Int} {fin : List Int × Int × Bool → Option (List Int × Int × Bool)} (hk : 7 ≤ k) (hb : ∀ x ∈ b, okB x) (hl : b.length ≤ maxN) : ∀ (n : Nat) (a : Int) (acc : List Int) (kf : Nat), n < kf → acc.length + n ≤ maxN → 
    (∃ xs p, nums? b n a = some (xs, p) ∧ iter (fun u4 n4 => pI_wideReader_list_m_g0 k b u4 n4 fin) kf ((n : Int), a, false, acc) = fin (acc ++ xs, p, false)) ∨
    (nums? b n a = none ∧ ∃ ys p, iter (fun u4 n4 => pI_wideReader_list_m_g0 k b u4 n4 fin) kf ((n : Int), a, false, acc) = fin (ys, p, true))
  | n, a, acc, 0, hk', _ => by omega
  | 0, a, acc, kf + 1, _, _ => by
    refine .inl ⟨[], a, rfl, ?_⟩
    rw [iter_succ, List.append_nil]
    rfl
  | n + 1, a, acc, kf + 1, hk', hN => by
    have hM := maxN_eq
    have e : iter (fun u4 n4 => pI_wideReader_list_m_g0 k b u4 n4 fin) (kf + 1) (((n + 1 : Nat) : Int), a, false, acc) =
        iter (fun u4 n4 => pI_wideReader_list_m_g0 k b u4 n4 fin) kf ((n : Int), (readNum b a false).2.1, (readNum b a false).2.2, acc ++ [(readNum b a false).1]) := by
      rw [iter_succ]
      generalize iter _ kf = nx
      simp only [pI_wideReader_list_m_g0]
      rw [decide_eq_true (show ((n + 1 : Nat) : Int) > 0 by omega), cond_true, I_number_eq hk hb hl, bind_some', ble_le (by simp; omega), wrapI (by omega) (by omega), show ((n + 1 : Nat) : Int) - 1 = (n : Int) from by omega]
      rfl
    rw [e, readNum_false]
    simp only [nums?]
    cases hq : num? b a with
    | none =>
      refine .inr ⟨rfl, ?_⟩
      simp only [Option.elim_none]
      obtain ⟨kf, rfl⟩ : ∃ k', kf = k' + 1 := ⟨kf - 1, by omega⟩
      refine ⟨acc ++ [0], a, ?_⟩
      rw [iter_succ]
      simp only [pI_wideReader_list_m_g0]
      cases decide ((n : Int) > 0) <;> rfl
    | some q =>
      simp only [Option.elim_some, Option.bind_some]
      rcases list_walk hk hb hl n q.2 (acc ++ [q.1]) kf (by omega) (by simp; omega) with ⟨xs, p, h1, h2⟩ | ⟨h1, ys, p, h2⟩
      · exact .inl ⟨q.1 :: xs, p, by rw [h1]; rfl, by rw [h2]; simp⟩
      · exact .inr ⟨by rw [h1]; rfl, ys, p, h2⟩
end Go.Proofs.Ev
