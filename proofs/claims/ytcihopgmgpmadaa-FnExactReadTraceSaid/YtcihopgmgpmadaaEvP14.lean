/- Plain laws: TakeStep. -/
import Derived.Test.YtcihopgmgpmadaaEvP13
import Derived.Test.YtcihopgmgpmadaaEvB2
set_option linter.unusedVariables false
set_option linter.unusedSimpArgs false
set_option linter.unusedVariables false
set_option linter.unusedSimpArgs false
namespace Go.Proofs.Ev
section
variable {R : Type} {k : Nat} {b : List Int} {m : Int} {q1 q2 q3 q4 q5 q6 q7 q8 q9 q10 q11 q12 : Int} {d : List Int} {fin : Int × Bool × List Int → Option R}
theorem step_walk (hk : 7 ≤ k) (hb : ∀ x ∈ b, okB x) (hl : b.length ≤ maxN) (hm : m ≤ maxN) : ∀ (n i : Nat) (a : Int) (acc : List Int) (kf : Nat), (i : Int) + n = m → n < kf → acc.length + n ≤ maxN →
    (∃ xs p, nums? b n a = some (xs, p) ∧ iter (fun u14 n14 => S_TakeStep_g0 k (m, q1, q2, q3, q4, q5, q6, b, q7, q8, q9, q10, q11, q12, d) u14 n14 fin) kf ((i : Int), a, false, acc) = fin (p, false, acc ++ xs)) ∨
    (nums? b n a = none ∧ ∃ ys p, iter (fun u14 n14 => S_TakeStep_g0 k (m, q1, q2, q3, q4, q5, q6, b, q7, q8, q9, q10, q11, q12, d) u14 n14 fin) kf ((i : Int), a, false, acc) = fin (p, true, ys))
  | n, i, a, acc, 0, _, h, _ => by omega
  | 0, i, a, acc, kf + 1, hi, _, _ => by
    refine .inl ⟨[], a, rfl, ?_⟩
    rw [iter_succ, List.append_nil]
    simp only [S_TakeStep_g0]
    rw [cond_dec, if_neg (by omega)]
  | n + 1, i, a, acc, kf + 1, hi, h, hN => by
    have hM := maxN_eq
    have e : iter (fun u14 n14 => S_TakeStep_g0 k (m, q1, q2, q3, q4, q5, q6, b, q7, q8, q9, q10, q11, q12, d) u14 n14 fin) (kf + 1) ((i : Int), a, false, acc) =
        iter (fun u14 n14 => S_TakeStep_g0 k (m, q1, q2, q3, q4, q5, q6, b, q7, q8, q9, q10, q11, q12, d) u14 n14 fin) kf (((i + 1 : Nat) : Int), (readNum b a false).2.1, (readNum b a false).2.2, acc ++ [(readNum b a false).1]) := by
      rw [iter_succ]
      generalize iter _ kf = nx
      simp only [S_TakeStep_g0]
      rw [cond_dec, if_pos (by omega), S_l05Next_eq hk hb hl, bind_some', ble_le (by simp; omega), wrapI (by omega) (by omega), show (i : Int) + 1 = ((i + 1 : Nat) : Int) from by omega]
    rw [e, readNum_false]
    simp only [nums?]
    cases hq : num? b a with
    | none =>
      refine .inr ⟨rfl, ?_⟩
      simp only [Option.elim_none]
      obtain ⟨ys, e⟩ := step_bad (q1 := q1) (q2 := q2) (q3 := q3) (q4 := q4) (q5 := q5) (q6 := q6) (q7 := q7) (q8 := q8) (q9 := q9) (q10 := q10) (q11 := q11) (q12 := q12) (d := d) (fin := fin) hk hb hl hm n (i + 1) a (acc ++ [0]) kf (by omega) (by omega) (by simp; omega)
      exact ⟨ys, a, e⟩
    | some q =>
      simp only [Option.elim_some, Option.bind_some]
      rcases step_walk hk hb hl hm n (i + 1) q.2 (acc ++ [q.1]) kf (by omega) (by omega) (by simp; omega) with ⟨xs, p, h1, h2⟩ | ⟨h1, ys, p, h2⟩
      · exact .inl ⟨q.1 :: xs, p, by rw [h1]; rfl, by rw [h2]; simp⟩
      · exact .inr ⟨by rw [h1]; rfl, ys, p, h2⟩
end
def zeroStep : Step := ⟨0, 0, 0, [], ⟨⟨0, 0, 0⟩, []⟩⟩
/-- A list of numbers with its length ahead. -/
def numsC? (b : List Int) (a : Int) : Option (List Int × Int) := (num? b a).bind fun q => cond (inB q.1 0 512) (nums? b q.1.toNat q.2) none
def takeStep? (b : List Int) (a : Int) : Option (Step × Int) :=
  (num? b a).bind fun p1 => (num? b p1.2).bind fun p2 => (num? b p2.2).bind fun p3 => (num? b p3.2).bind fun p4 =>
    cond (inB p4.1 0 6000) (cond (decide (p4.1 > (b.length : Int) - p4.2)) none
      ((num? b (p4.2 + p4.1)).bind fun p5 => (num? b p5.2).bind fun p6 => (num? b p6.2).bind fun p7 => (numsC? b p7.2).bind fun r =>
        some (⟨p1.1, p2.1, p3.1, (b.take (p4.2 + p4.1).toNat).drop p4.2.toNat, ⟨⟨p5.1, p6.1, p7.1⟩, r.1⟩⟩, r.2))) none
def takeStep (b : List Int) (a : Int) : Step × Int := (takeStep? b a).getD (zeroStep, -1)
theorem nums?_len {b : List Int} : ∀ {n : Nat} {a : Int} {xs : List Int} {p : Int}, nums? b n a = some (xs, p) → xs.length = n
  | 0, a, xs, p, h => by simp only [nums?, Option.some.injEq, Prod.mk.injEq] at h; rw [← h.1]; rfl
  | n + 1, a, xs, p, h => by
    simp only [nums?] at h
    cases hq : num? b a with
    | none => rw [hq] at h; exact nomatch h
    | some q =>
      rw [hq, Option.bind_some] at h
      cases hr : nums? b n q.2 with
      | none => rw [hr] at h; exact nomatch h
      | some r =>
        rw [hr, Option.bind_some, Option.some.injEq, Prod.mk.injEq] at h
        rw [← h.1, List.length_cons, nums?_len (xs := r.1) (p := r.2) hr]
theorem nums?_pos {b : List Int} : ∀ {n : Nat} {a : Int} {xs : List Int} {p : Int}, nums? b n a = some (xs, p) → 0 ≤ a → a ≤ b.length → a ≤ p ∧ p ≤ b.length
  | 0, a, xs, p, h, _, _ => by simp only [nums?, Option.some.injEq, Prod.mk.injEq] at h; omega
  | n + 1, a, xs, p, h, _, _ => by
    simp only [nums?] at h
    cases hq : num? b a with
    | none => rw [hq] at h; exact nomatch h
    | some q =>
      rw [hq, Option.bind_some] at h
      have := num?_pos (x := q.1) (p := q.2) hq
      cases hr : nums? b n q.2 with
      | none => rw [hr] at h; exact nomatch h
      | some r =>
        rw [hr, Option.bind_some, Option.some.injEq, Prod.mk.injEq] at h
        have h2 := nums?_pos (xs := r.1) (p := r.2) hr (by omega) (by omega)
        omega
theorem takeStep?_spec {b : List Int} {a : Int} {x : Step} {p : Int} (h : takeStep? b a = some (x, p)) : 0 ≤ a ∧ a < p ∧ p ≤ b.length ∧ x.tot ≤ 6512 := by
  unfold takeStep? numsC? at h
  simp only [Option.bind_eq_some_iff] at h
  obtain ⟨p1, h1, p2, h2, p3, h3, p4, h4, h⟩ := h
  cases c4 : inB p4.1 0 6000
  · rw [c4] at h; exact nomatch h
  rw [c4, cond_true] at h
  cases c5 : decide (p4.1 > (b.length : Int) - p4.2)
  case true => rw [c5] at h; exact nomatch h
  rw [c5, cond_false] at h
  simp only [Option.bind_eq_some_iff] at h
  obtain ⟨p5, h5, p6, h6, p7, h7, r, ⟨p8, h8, hr⟩, h⟩ := h
  cases c8 : inB p8.1 0 512
  · rw [c8] at hr; exact nomatch hr
  rw [c8, cond_true] at hr
  rw [Option.some.injEq, Prod.mk.injEq] at h
  have g1 := num?_pos (x := p1.1) (p := p1.2) h1
  have g2 := num?_pos (x := p2.1) (p := p2.2) h2
  have g3 := num?_pos (x := p3.1) (p := p3.2) h3
  have g4 := num?_pos (x := p4.1) (p := p4.2) h4
  have g5 := num?_pos (x := p5.1) (p := p5.2) h5
  have g6 := num?_pos (x := p6.1) (p := p6.2) h6
  have g7 := num?_pos (x := p7.1) (p := p7.2) h7
  have g8 := num?_pos (x := p8.1) (p := p8.2) h8
  have g9 := nums?_pos (xs := r.1) (p := r.2) hr (by omega) (by omega)
  have g10 := nums?_len (xs := r.1) (p := r.2) hr
  have c4' := of_decide_eq_true c4
  have c8' := of_decide_eq_true c8
  refine ⟨by omega, by omega, by omega, ?_⟩
  rw [← h.1]
  simp only [Step.tot, Tensor.tot, List.length_drop, List.length_take]
  omega
theorem S_TakeStep_eq {k : Nat} {b : List Int} {a : Int} (hk : 6001 ≤ k) (hb : ∀ x ∈ b, okB x) (hl : b.length ≤ maxN) : S_TakeStep k b a = some (takeStep b a) := by
  have hM := maxN_eq
  have h7 : 7 ≤ k := by omega
  unfold S_TakeStep takeStep takeStep? numsC?
  rw [S_l05Next_eq h7 hb hl, readNum_false]
  cases h1 : num? b a with
  | none => simp only [Option.elim_none, Option.bind_none, bind_some', S_l05Next_eq h7 hb hl, readNum_true, cond_true]; rfl
  | some p1 =>
  simp only [Option.elim_some, Option.bind_some]
  rw [S_l05Next_eq h7 hb hl, readNum_false]
  cases h2 : num? b p1.2 with
  | none => simp only [Option.elim_none, Option.bind_none, bind_some', S_l05Next_eq h7 hb hl, readNum_true, cond_true]; rfl
  | some p2 =>
  simp only [Option.elim_some, Option.bind_some]
  rw [S_l05Next_eq h7 hb hl, readNum_false]
  cases h3 : num? b p2.2 with
  | none => simp only [Option.elim_none, Option.bind_none, bind_some', S_l05Next_eq h7 hb hl, readNum_true, cond_true]; rfl
  | some p3 =>
  simp only [Option.elim_some, Option.bind_some]
  rw [S_l05Next_eq h7 hb hl, readNum_false]
  cases h4 : num? b p3.2 with
  | none => simp only [Option.elim_none, Option.bind_none, bind_some', S_l05Next_eq h7 hb hl, readNum_true, cond_true]; rfl
  | some p4 =>
  simp only [Option.elim_some, Option.bind_some, cond_false]
  rw [S_l01In_eq, bind_some']
  have g4 := num?_pos (x := p4.1) (p := p4.2) h4
  cases c4 : inB p4.1 0 6000
  · rfl
  have c4' := of_decide_eq_true c4
  simp only [Bool.not_true, cond_true, cond_false]
  rw [wrapI (n := (b.length : Int) - p4.2) (by omega) (by omega)]
  by_cases c5 : p4.1 > (b.length : Int) - p4.2
  · rw [decide_eq_true c5]; rfl
  rw [decide_eq_false c5]
  simp only [cond_false]
  rw [wrapI (n := p4.2 + p4.1) (by omega) (by omega), cond_dec, if_pos (by omega), cond_dec, if_pos (by omega), S_l01Bytes_eq (by simp; omega) (by simp; omega), bind_some', S_l05Next_eq h7 hb hl, readNum_false]
  cases h5 : num? b (p4.2 + p4.1) with
  | none => simp only [Option.elim_none, Option.bind_none, bind_some', S_l05Next_eq h7 hb hl, readNum_true, cond_true]; rfl
  | some p5 =>
  simp only [Option.elim_some, Option.bind_some]
  rw [S_l05Next_eq h7 hb hl, readNum_false]
  cases h6 : num? b p5.2 with
  | none => simp only [Option.elim_none, Option.bind_none, bind_some', S_l05Next_eq h7 hb hl, readNum_true, cond_true]; rfl
  | some p6 =>
  simp only [Option.elim_some, Option.bind_some]
  rw [S_l05Next_eq h7 hb hl, readNum_false]
  cases h7' : num? b p6.2 with
  | none => simp only [Option.elim_none, Option.bind_none, bind_some', S_l05Next_eq h7 hb hl, readNum_true, cond_true]; rfl
  | some p7 =>
  simp only [Option.elim_some, Option.bind_some]
  rw [S_l05Next_eq h7 hb hl, readNum_false]
  cases h8 : num? b p7.2 with
  | none => simp only [Option.elim_none, Option.bind_none, bind_some', S_l05Next_eq h7 hb hl, readNum_true, cond_true]; rfl
  | some p8 =>
  simp only [Option.elim_some, Option.bind_some, cond_false]
  rw [S_l01In_eq, bind_some']
  cases c8 : inB p8.1 0 512
  · rfl
  have c8' := of_decide_eq_true c8
  simp only [Bool.not_true, cond_true, cond_false]
  have e8 : ((p8.1.toNat : Nat) : Int) = p8.1 := by omega
  rcases step_walk (R := Step × Int) (k := k) (b := b) (m := p8.1) (q1 := 0) (q2 := 0) (q3 := 0) (q4 := 0) (q5 := 0) (q6 := 0) (q7 := p1.1) (q8 := p2.1) (q9 := p3.1) (q10 := p5.1) (q11 := p6.1) (q12 := p7.1) (d := (b.take (p4.2 + p4.1).toNat).drop p4.2.toNat)
    (fin := fun y13 => cond (y13.2.1) (some (zeroStep, (-1 : Int))) (some ((⟨p1.1, p2.1, p3.1, (b.take (p4.2 + p4.1).toNat).drop p4.2.toNat, (⟨(⟨p5.1, p6.1, p7.1⟩ : Shape), y13.2.2⟩ : Tensor)⟩ : Step), y13.1)))
    h7 hb hl (by omega) p8.1.toNat 0 p8.2 [] k (by omega) (by omega) (by simp; omega) with ⟨xs, p, e1, e2⟩ | ⟨e1, ys, p, e2⟩
  · rw [e1]
    exact e2
  · rw [e1]
    exact e2
/-! ### the program's -/
theorem I_list_true {k : Nat} {b : List Int} {a : Int} (hk : 7 ≤ k) (hb : ∀ x ∈ b, okB x) (hl : b.length ≤ maxN) : pI_wideReader_list_m k ⟨b, a, true⟩ 512 = some ([], a, true) := by
  unfold pI_wideReader_list_m
  rw [I_count_eq hk hb hl, bind_some']
  unfold readCount
  rw [readNum_true]
  simp only [show inB (0 : Int) 0 512 = true from rfl, cond_true]
  rw [list_bad (by omega)]
  simp
theorem I_list_eq {k : Nat} {b : List Int} {a : Int} (hk : 6001 ≤ k) (hb : ∀ x ∈ b, okB x) (hl : b.length ≤ maxN) :
    (∃ xs p, numsC? b a = some (xs, p) ∧ pI_wideReader_list_m k ⟨b, a, false⟩ 512 = some (xs, p, false)) ∨ (numsC? b a = none ∧ ∃ ys p, pI_wideReader_list_m k ⟨b, a, false⟩ 512 = some (ys, p, true)) := by
  have hM := maxN_eq
  unfold pI_wideReader_list_m numsC?
  rw [I_count_eq (by omega) hb hl, bind_some']
  unfold readCount
  rw [readNum_false]
  cases h1 : num? b a with
  | none =>
    refine .inr ⟨rfl, ?_⟩
    simp only [Option.elim_none, show inB (0 : Int) 0 512 = true from rfl, cond_true]
    rw [list_bad (by omega)]
    exact ⟨[], a, by simp⟩
  | some q =>
    simp only [Option.elim_some, Option.bind_some]
    cases c : inB q.1 0 512
    · refine .inr ⟨rfl, ?_⟩
      simp only [cond_false]
      rw [list_bad (by omega)]
      exact ⟨[], q.2, by simp⟩
    have c' := of_decide_eq_true c
    simp only [cond_true]
    rw [show q.1 = ((q.1.toNat : Nat) : Int) from by omega, Int.toNat_natCast]
    rcases list_walk (k := k) (fin := fun y3 => cond (decide (b = b)) (some (y3.1, y3.2.1, y3.2.2)) none) (by omega) hb hl q.1.toNat q.2 [] k (by omega) (by simp; omega) with ⟨xs, p, e1, e2⟩ | ⟨e1, ys, p, e2⟩
    · exact .inl ⟨xs, p, e1, by simpa using e2⟩
    · exact .inr ⟨e1, ys, p, by simpa using e2⟩
theorem I_step_true {k : Nat} {b : List Int} {a : Int} (hk : 7 ≤ k) (hb : ∀ x ∈ b, okB x) (hl : b.length ≤ maxN) : pI_wideReader_step_m k ⟨b, a, true⟩ = some (zeroStep, a, true) := by
  unfold pI_wideReader_step_m
  simp only [I_number_eq hk hb hl, I_count_eq hk hb hl, I_shape_eq hk hb hl, readCount, readNum_true, bind_some', show inB (0 : Int) 0 6000 = true from rfl, cond_true, I_bytes_true, I_list_true hk hb hl, decide_true]
  rfl
theorem I_step_eq {k : Nat} {b : List Int} {a : Int} (hk : 6001 ≤ k) (hb : ∀ x ∈ b, okB x) (hl : b.length ≤ maxN) :
    (∃ x p, takeStep? b a = some (x, p) ∧ pI_wideReader_step_m k ⟨b, a, false⟩ = some (x, p, false)) ∨ (takeStep? b a = none ∧ ∃ x p, pI_wideReader_step_m k ⟨b, a, false⟩ = some (x, p, true)) := by
  have hM := maxN_eq
  have h7 : 7 ≤ k := by omega
  unfold takeStep? pI_wideReader_step_m
  rw [I_number_eq h7 hb hl, readNum_false]
  cases h1 : num? b a with
  | none =>
    refine .inr ⟨rfl, ?_⟩
    simp only [Option.elim_none, I_number_eq h7 hb hl, I_count_eq h7 hb hl, I_shape_eq h7 hb hl, readCount, readNum_true, bind_some', show inB (0 : Int) 0 6000 = true from rfl, cond_true, I_bytes_true, I_list_true h7 hb hl, decide_true]
    exact ⟨_, _, rfl⟩
  | some p1 =>
  simp only [Option.elim_some, Option.bind_some]
  rw [I_number_eq h7 hb hl, readNum_false]
  cases h2 : num? b p1.2 with
  | none =>
    refine .inr ⟨rfl, ?_⟩
    simp only [Option.elim_none, I_number_eq h7 hb hl, I_count_eq h7 hb hl, I_shape_eq h7 hb hl, readCount, readNum_true, bind_some', show inB (0 : Int) 0 6000 = true from rfl, cond_true, I_bytes_true, I_list_true h7 hb hl, decide_true]
    exact ⟨_, _, rfl⟩
  | some p2 =>
  simp only [Option.elim_some, Option.bind_some]
  rw [I_number_eq h7 hb hl, readNum_false]
  cases h3 : num? b p2.2 with
  | none =>
    refine .inr ⟨rfl, ?_⟩
    simp only [Option.elim_none, I_number_eq h7 hb hl, I_count_eq h7 hb hl, I_shape_eq h7 hb hl, readCount, readNum_true, bind_some', show inB (0 : Int) 0 6000 = true from rfl, cond_true, I_bytes_true, I_list_true h7 hb hl, decide_true]
    exact ⟨_, _, rfl⟩
  | some p3 =>
  simp only [Option.elim_some, Option.bind_some]
  rw [I_count_eq h7 hb hl]
  unfold readCount
  rw [readNum_false]
  cases h4 : num? b p3.2 with
  | none =>
    refine .inr ⟨rfl, ?_⟩
    simp only [Option.elim_none, I_number_eq h7 hb hl, I_count_eq h7 hb hl, I_shape_eq h7 hb hl, readCount, readNum_true, bind_some', show inB (0 : Int) 0 6000 = true from rfl, cond_true, I_bytes_true, I_list_true h7 hb hl, decide_true]
    exact ⟨_, _, rfl⟩
  | some p4 =>
  simp only [Option.elim_some, Option.bind_some]
  have g4 := num?_pos (x := p4.1) (p := p4.2) h4
  cases c4 : inB p4.1 0 6000
  · refine .inr ⟨rfl, ?_⟩
    simp only [cond_false, I_number_eq h7 hb hl, I_count_eq h7 hb hl, I_shape_eq h7 hb hl, readCount, readNum_true, bind_some', cond_true, I_bytes_true, I_list_true h7 hb hl, decide_true]
    exact ⟨_, _, rfl⟩
  have c4' := of_decide_eq_true c4
  simp only [cond_true]
  rw [I_bytes_false hl (by omega) (by omega)]
  by_cases c5 : p4.1 > (b.length : Int) - p4.2
  · refine .inr ⟨by rw [decide_eq_true c5]; rfl, ?_⟩
    rw [decide_eq_true c5]
    simp only [cond_false, I_number_eq h7 hb hl, I_count_eq h7 hb hl, I_shape_eq h7 hb hl, readCount, readNum_true, bind_some', cond_true, I_bytes_true, I_list_true h7 hb hl, decide_true]
    exact ⟨_, _, rfl⟩
  rw [decide_eq_false c5]
  simp only [cond_false, bind_some', I_shape_eq h7 hb hl]
  rw [readNum_false]
  cases h5 : num? b (p4.2 + p4.1) with
  | none =>
    refine .inr ⟨rfl, ?_⟩
    simp only [Option.elim_none, readNum_true, bind_some', cond_true, I_list_true h7 hb hl, decide_true]
    exact ⟨_, _, rfl⟩
  | some p5 =>
  simp only [Option.elim_some, Option.bind_some]
  rw [readNum_false]
  cases h6 : num? b p5.2 with
  | none =>
    refine .inr ⟨rfl, ?_⟩
    simp only [Option.elim_none, readNum_true, bind_some', cond_true, I_list_true h7 hb hl, decide_true]
    exact ⟨_, _, rfl⟩
  | some p6 =>
  simp only [Option.elim_some, Option.bind_some]
  rw [readNum_false]
  cases h7' : num? b p6.2 with
  | none =>
    refine .inr ⟨rfl, ?_⟩
    simp only [Option.elim_none, readNum_true, bind_some', cond_true, I_list_true h7 hb hl, decide_true]
    exact ⟨_, _, rfl⟩
  | some p7 =>
  simp only [Option.elim_some, Option.bind_some]
  rcases I_list_eq (a := p7.2) hk hb hl with ⟨xs, p, e1, e2⟩ | ⟨e1, ys, p, e2⟩
  · refine .inl ⟨_, _, by rw [e1]; rfl, ?_⟩
    rw [e2]
    simp only [bind_some', decide_true, cond_true]
  · refine .inr ⟨by rw [e1]; rfl, ?_⟩
    rw [e2]
    simp only [bind_some', decide_true, cond_true]
    exact ⟨_, _, rfl⟩
theorem I_TakeStep_eq {k : Nat} {b : List Int} {a : Int} (hk : 6001 ≤ k) (hb : ∀ x ∈ b, okB x) (hl : b.length ≤ maxN) : I_TakeStep k b a = some (takeStep b a) := by
  unfold I_TakeStep takeStep
  rw [I_in_eq, bind_some']
  cases c : inB a 0 (b.length : Int)
  · have c' := of_decide_eq_false c
    cases h : takeStep? b a with
    | none => rfl
    | some q =>
      have := takeStep?_spec (x := q.1) (p := q.2) h
      exact absurd ⟨this.1, by omega⟩ c'
  · simp only [Bool.not_true, cond_false]
    rcases I_step_eq (a := a) hk hb hl with ⟨x, p, e1, e2⟩ | ⟨e1, x, p, e2⟩
    · rw [e1, e2]; rfl
    · rw [e1, e2]; rfl
theorem takeStep_tot (b : List Int) (a : Int) : (takeStep b a).1.tot ≤ 6512 := by
  unfold takeStep
  cases h : takeStep? b a with
  | none => exact Nat.zero_le _
  | some q => exact (takeStep?_spec (x := q.1) (p := q.2) h).2.2.2
theorem L_FnExactTakeStep_eq (b : List Int) (a : Int) (hb : okS okB b) (ha : okI a) : ∃ k, L_FnExactTakeStep k b a = some true := by
  refine ⟨b.length + 6600, ?_⟩
  have hM := maxN_eq
  have hlen := hb.1
  unfold maxL at hlen
  unfold L_FnExactTakeStep
  rw [cond_dec]
  by_cases c : (b.length : Int) > 1048576
  · rw [if_pos c]
  rw [if_neg c]
  have hk : b.length < b.length + 6600 := by omega
  have hN : b.length ≤ maxN := by omega
  have ht := takeStep_tot b a
  obtain ⟨r1, y1, e1, a1, b1, l1, h1⟩ := L_markByteS_m3_z (k := b.length + 6600) (xs := b) (m := 1) hk hN (by omega) (by unfold bigB; omega)
  obtain ⟨r2, y2, z2, e2, a2, b2, h2⟩ := L_markStep_m2_z (k := b.length + 6600) (x := (takeStep b a).1) (m := 1) (by omega) (by omega) (by omega) (by unfold bigB; omega)
  simp only [L_toByteS_z hk hN, bind_some', S_TakeStep_eq (b := b) (a := a) (k := b.length + 6600) (by omega) hb.2 (by omega), I_TakeStep_eq (b := b) (a := a) (k := b.length + 6600) (by omega) hb.2 (by omega), L_eqStep_z (x := (takeStep b a).1) (y := (takeStep b a).1) (k := b.length + 6600) (by omega) (by omega), L_eqByteS_z (ys := b) hk hN, e1, e2, h2, decide_true, cond_not, cond_true, cond_dec, cond_bne]
  have n1 : ¬ r1 < 0 := by omega
  have n2 : ¬ r2 < 0 := by omega
  simp only [n1, n2, if_true, if_false]
end Go.Proofs.Ev
