/- Plain laws: ReadTrace. -/
import Derived.Test.YtcihopgmgpmadaaEvP14
set_option linter.unusedVariables false
set_option linter.unusedSimpArgs false
set_option linter.unusedVariables false
set_option linter.unusedSimpArgs false
namespace Go.Proofs.Ev
/-! ### sums of bytes -/
def sumStep (s x : Int) : Int := (IntKind.i64.wrap ((IntKind.i64.wrap ((IntKind.i64.wrap ((257 : Int) * s)) + (IntKind.i64.wrap x))) + (1 : Int))).tmod (1000003 : Int)
def sumOf (b : List Int) : Int := b.foldl sumStep 1
theorem S_SumOf_eq {k : Nat} {b : List Int} (hk : b.length < k) (hl : b.length ≤ maxN) : S_SumOf k b = some (sumOf b) := by
  have hM := maxN_eq
  unfold S_SumOf
  exact fold_loop b sumStep (g := fun u next => S_SumOf_g0 k b u next (fun y2 => some y2)) (fin := some) 1 (fun i s hi next _ => by
    simp only [S_SumOf_g0]
    rw [cond_dec, if_pos (by omega), idx_nat, getD_get hi, bind_some', wrapNat1 hi (by omega)]; rfl) (fun next => by
    simp only [S_SumOf_g0]; rw [cond_dec, if_neg (by omega)]) hk
theorem I_SumOf_eq {k : Nat} {b : List Int} (hk : b.length < k) (hl : b.length ≤ maxN) : I_SumOf k b = some (sumOf b) := by
  have hM := maxN_eq
  unfold I_SumOf
  exact fold_loop b sumStep (g := fun u next => I_SumOf_g0 k (b, (b.length : Int)) u next (fun y2 => some y2)) (fin := some) 1 (fun i s hi next _ => by
    simp only [I_SumOf_g0]
    rw [cond_dec, if_pos (by omega), idx_nat, getD_get hi, bind_some', wrapNat1 hi (by omega), Int.mul_comm s 257]; rfl) (fun next => by
    simp only [I_SumOf_g0]; rw [cond_dec, if_neg (by omega)]) hk
/-- So many steps, one behind the other. -/
def steps? (b : List Int) : Nat → Int → Option (List Step × Int)
  | 0, a => some ([], a)
  | n + 1, a => (takeStep? b a).bind fun q => (steps? b n q.2).bind fun r => some (q.1 :: r.1, r.2)
def readTrace (b : List Int) : List Step × Int :=
  cond (decide ((b.length : Int) > 20000)) ([], 4) (cond (decide (b.take 2 = [84, 49])) 
    ((num? b 2).elim ([], 2) fun q => cond (inB q.1 0 200) ((steps? b q.1.toNat q.2).elim ([], 2) fun r => (num? b r.2).elim ([], 2) fun e =>
      cond (decide (e.1 = sumOf (b.take r.2.toNat) ∧ e.2 = (b.length : Int))) (r.1, 0) ([], 3)) ([], 2)) ([], 1))
theorem steps?_spec {b : List Int} : ∀ {n : Nat} {a : Int} {xs : List Step} {p : Int}, steps? b n a = some (xs, p) → 0 ≤ a → a ≤ b.length → a ≤ p ∧ p ≤ b.length ∧ xs.length = n ∧ totL Step.tot xs ≤ 6513 * n
  | 0, a, xs, p, h, _, _ => by
    simp only [steps?, Option.some.injEq, Prod.mk.injEq] at h
    rw [← h.1]
    exact ⟨by omega, by omega, rfl, Nat.zero_le _⟩
  | n + 1, a, xs, p, h, _, _ => by
    simp only [steps?] at h
    cases hq : takeStep? b a with
    | none => rw [hq] at h; exact nomatch h
    | some q =>
      rw [hq, Option.bind_some] at h
      have h0 := takeStep?_spec (x := q.1) (p := q.2) hq
      cases hr : steps? b n q.2 with
      | none => rw [hr] at h; exact nomatch h
      | some r =>
        rw [hr, Option.bind_some, Option.some.injEq, Prod.mk.injEq] at h
        have h2 := steps?_spec (xs := r.1) (p := r.2) hr (by omega) (by omega)
        rw [← h.1, totL_cons, List.length_cons]
        exact ⟨by omega, by omega, by omega, by omega⟩
section
variable {R : Type} {k : Nat} {b : List Int} {m : Int}
theorem S_steps_walk {fin : Int × List Step → Option R} {ret : Int → Option R} (hk : 6001 ≤ k) (hb : ∀ x ∈ b, okB x) (hl : b.length ≤ maxN) (hm : m ≤ maxN) : ∀ (n i : Nat) (a : Int) (acc : List Step) (kf : Nat), (i : Int) + n = m → n < kf → acc.length + n ≤ maxN →
    iter (fun u n => S_ReadTrace_g0 k (b, m) u n fin ret) kf (a, (i : Int), acc) = (steps? b n a).elim (ret 2) fun r => fin (r.2, acc ++ r.1)
  | n, i, a, acc, 0, _, h, _ => by omega
  | 0, i, a, acc, kf + 1, hi, _, _ => by
    rw [iter_succ]
    simp only [S_ReadTrace_g0, steps?, Option.elim_some, List.append_nil]
    rw [cond_dec, if_neg (by omega)]
  | n + 1, i, a, acc, kf + 1, hi, h, hN => by
    have hM := maxN_eq
    have e : iter (fun u n => S_ReadTrace_g0 k (b, m) u n fin ret) (kf + 1) (a, (i : Int), acc) = (takeStep? b a).elim (ret 2) fun q => iter (fun u n => S_ReadTrace_g0 k (b, m) u n fin ret) kf (q.2, ((i + 1 : Nat) : Int), acc ++ [q.1]) := by
      rw [iter_succ]
      generalize iter _ kf = nx
      simp only [S_ReadTrace_g0]
      rw [cond_dec, if_pos (by omega), S_TakeStep_eq hk hb hl, bind_some']
      unfold takeStep
      cases hq : takeStep? b a with
      | none => rfl
      | some q =>
        have h0 := takeStep?_spec (x := q.1) (p := q.2) hq
        simp only [Option.getD_some, Option.elim_some]
        rw [cond_dec, if_neg (by omega), ble_le (by omega), wrapI (by omega) (by omega), show (i : Int) + 1 = ((i + 1 : Nat) : Int) from by omega]
    rw [e]
    simp only [steps?]
    cases hq : takeStep? b a with
    | none => rfl
    | some q =>
      simp only [Option.elim_some, Option.bind_some]
      rw [S_steps_walk hk hb hl hm n (i + 1) q.2 (acc ++ [q.1]) kf (by omega) (by omega) (by simp; omega)]
      cases steps? b n q.2 with
      | none => rfl
      | some r => simp
theorem I_steps_walk {fin : Int × Bool × List Step → Option R} {l : List Int} (hk : 6001 ≤ k) (hb : ∀ x ∈ b, okB x) (hl : b.length ≤ maxN) : ∀ (n : Nat) (a : Int) (acc : List Step) (kf : Nat), n < kf → acc.length + n ≤ maxN →
    (∃ xs p, steps? b n a = some (xs, p) ∧ iter (fun u n => I_ReadTrace_g0 k (l, b) u n fin) kf ((n : Int), a, false, acc) = fin (p, false, acc ++ xs)) ∨
    (steps? b n a = none ∧ ∃ ys p, iter (fun u n => I_ReadTrace_g0 k (l, b) u n fin) kf ((n : Int), a, false, acc) = fin (p, true, ys))
  | n, a, acc, 0, h, _ => by omega
  | 0, a, acc, kf + 1, _, _ => by
    refine .inl ⟨[], a, rfl, ?_⟩
    rw [iter_succ, List.append_nil]
    rfl
  | n + 1, a, acc, kf + 1, h, hN => by
    have hM := maxN_eq
    have e : iter (fun u n => I_ReadTrace_g0 k (l, b) u n fin) (kf + 1) (((n + 1 : Nat) : Int), a, false, acc) = (pI_wideReader_step_m k (⟨b, a, false⟩ : Reader)).bind fun r3 => iter (fun u n => I_ReadTrace_g0 k (l, b) u n fin) kf ((n : Int), r3.2.1, r3.2.2, acc ++ [r3.1]) := by
      rw [iter_succ]
      generalize iter _ kf = nx
      simp only [I_ReadTrace_g0]
      rw [decide_eq_true (show ((n + 1 : Nat) : Int) > 0 by omega), cond_true, wrapI (by omega) (by omega), show ((n + 1 : Nat) : Int) - 1 = (n : Int) from by omega]
      simp only [ble_le (show acc.length + 1 ≤ maxN by omega)]
      rfl
    rw [e]
    simp only [steps?]
    rcases I_step_eq (a := a) hk hb hl with ⟨x, p, e1, e2⟩ | ⟨e1, x, p, e2⟩
    · rw [e1, e2, bind_some', bind_some']
      rcases I_steps_walk (fin := fin) (l := l) hk hb hl n p (acc ++ [x]) kf (by omega) (by simp; omega) with ⟨xs, q, h1, h2⟩ | ⟨h1, ys, q, h2⟩
      · exact .inl ⟨x :: xs, q, by rw [h1]; rfl, by rw [h2]; simp⟩
      · exact .inr ⟨by rw [h1]; rfl, ys, q, h2⟩
    · rw [e1, e2, bind_some']
      refine .inr ⟨rfl, ?_⟩
      obtain ⟨kf, rfl⟩ : ∃ k', kf = k' + 1 := ⟨kf - 1, by omega⟩
      refine ⟨acc ++ [x], p, ?_⟩
      rw [iter_succ]
      simp only [I_ReadTrace_g0]
      cases decide ((n : Int) > 0) <;> rfl
end
theorem take2 (b : List Int) : decide (b.take 2 = [84, 49]) = cond (decide ((b.length : Int) < 2)) false ((b[0]?).elim false fun x => (b[1]?).elim false fun y => decide (x = 84) && decide (y = 49)) := by
  match b with
  | [] => simp
  | [x] => simp
  | x :: y :: l =>
    rw [decide_eq_false (show ¬ (((x :: y :: l).length : Nat) : Int) < 2 by simp; omega)]
    simp
theorem sumB_bind {R : Type} {b : List Int} {k : Nat} {p : Int} {G : Int → Option R} {S : Nat → List Int → Option Int} (hS : ∀ l : List Int, l.length ≤ b.length → S k l = some (sumOf l)) (h : 0 ≤ p ∧ p ≤ b.length) :
    cond (decide (0 ≤ p ∧ p ≤ (b.length : Int))) ((S k ((b.take p.toNat).drop 0)).bind G) none = G (sumOf (b.take p.toNat)) := by
  rw [decide_eq_true h, cond_true, List.drop_zero, hS _ (by simp; omega), bind_some']
theorem S_ReadTrace_eq {k : Nat} {b : List Int} (hk : 20100 ≤ k) (hb : ∀ x ∈ b, okB x) (hl : b.length ≤ maxN) : S_ReadTrace k b = some (readTrace b) := by
  have hM := maxN_eq
  unfold S_ReadTrace readTrace
  rw [take2]
  by_cases c : (b.length : Int) > 20000
  · rw [decide_eq_true c]; rfl
  rw [decide_eq_false c]
  simp only [cond_false]
  by_cases c2 : (b.length : Int) < 2
  · rw [decide_eq_true c2]; rfl
  rw [decide_eq_false c2]
  simp only [cond_false]
  rw [idx_zero, idx_one, getD_get (show 0 < b.length by omega), getD_get (show 1 < b.length by omega)]
  simp only [bind_some', Option.elim_some]
  by_cases h0 : b[0] = 84
  case neg => rw [cond_bne, if_neg h0, decide_eq_false h0]; rfl
  rw [cond_bne, if_pos h0, decide_eq_true h0]
  by_cases h1 : b[1] = 49
  case neg => rw [cond_bne, if_neg h1, decide_eq_false h1]; rfl
  rw [cond_bne, if_pos h1, decide_eq_true h1]
  simp only [cond_false, Bool.and_true, cond_true]
  rw [S_TakeWide_eq (by omega) hb hl, bind_some']
  cases hn : num? b 2 with
  | none =>
    have hw : decide ((takeWide b 2).2 < 0) = true := by
      unfold num? at hn
      cases hw : decide ((takeWide b 2).2 < 0)
      · rw [hw] at hn; exact nomatch hn
      · rfl
    rw [hw]; rfl
  | some q =>
    have hp := num?_pos (x := q.1) (p := q.2) hn
    have hw : takeWide b 2 = q ∧ decide ((takeWide b 2).2 < 0) = false := by
      unfold num? at hn
      cases hw : decide ((takeWide b 2).2 < 0)
      · rw [hw, cond_false, Option.some.injEq] at hn; exact ⟨hn, rfl⟩
      · rw [hw] at hn; exact nomatch hn
    rw [hw.2, hw.1]
    simp only [cond_false, Option.elim_some]
    rw [S_l01In_eq, bind_some']
    cases c4 : inB q.1 0 200
    · rfl
    have c4' := of_decide_eq_true c4
    simp only [Bool.not_true, cond_false, cond_true]
    have hq1 : ((q.1.toNat : Nat) : Int) = q.1 := by omega
    refine (S_steps_walk (m := q.1) (by omega) hb hl (by omega) q.1.toNat 0 q.2 [] k (by omega) (by omega) (by simp; omega)).trans ?_
    cases hr : steps? b q.1.toNat q.2 with
    | none => rfl
    | some r =>
      have hrp := steps?_spec (xs := r.1) (p := r.2) hr (by omega) (by omega)
      simp only [Option.elim_some, List.nil_append]
      rw [S_TakeWide_eq (by omega) hb hl, bind_some']
      cases hn : num? b r.2 with
      | none =>
        have hw : decide ((takeWide b r.2).2 < 0) = true := by
          unfold num? at hn
          cases hw : decide ((takeWide b r.2).2 < 0)
          · rw [hw] at hn; exact nomatch hn
          · rfl
        rw [hw]; rfl
      | some e =>
        have hw : takeWide b r.2 = e ∧ decide ((takeWide b r.2).2 < 0) = false := by
          unfold num? at hn
          cases hw : decide ((takeWide b r.2).2 < 0)
          · rw [hw, cond_false, Option.some.injEq] at hn; exact ⟨hn, rfl⟩
          · rw [hw] at hn; exact nomatch hn
        rw [hw.2, hw.1]
        simp only [cond_false, Option.elim_some]
        rw [sumB_bind (S := S_SumOf) (fun l h => S_SumOf_eq (by omega) (by omega)) ⟨by omega, hrp.2.1⟩]
        rw [cond_bne, cond_bne]
        by_cases g1 : e.1 = sumOf (b.take r.2.toNat)
        · rw [if_pos g1]
          by_cases g2 : e.2 = (b.length : Int)
          · rw [if_pos g2, decide_eq_true ⟨g1, g2⟩]; rfl
          · rw [if_neg g2, decide_eq_false (fun h => g2 h.2)]; rfl
        · rw [if_neg g1, decide_eq_false (fun h => g1 h.1)]; rfl
theorem bytes_HasPrefix_eq {k : Nat} {b : List Int} (hb : ∀ x ∈ b, okB x) (hl : b.length ≤ maxN) : bytes_HasPrefix k b [84, 49] = some (decide (b.take 2 = [84, 49])) := by
  have hM := maxN_eq
  unfold bytes_HasPrefix
  rw [cond_dec]
  by_cases h : (b.length : Int) ≥ (([84, 49] : List Int).length : Int)
  · have h' : 2 ≤ b.length := by simp at h; omega
    rw [if_pos h, decide_eq_true (show 0 ≤ ((([84, 49] : List Int).length : Nat) : Int) ∧ ((([84, 49] : List Int).length : Nat) : Int) ≤ (b.length : Int) by simp; omega), cond_true, List.drop_zero]
    rw [show ((([84, 49] : List Int).length : Nat) : Int).toNat = 2 from rfl]
    rw [bytes_Equal_eq (fun x hx => hb x (List.mem_of_mem_take hx)) (fun x hx => by simp at hx; rcases hx with rfl | rfl <;> exact ⟨by omega, by omega⟩), bind_some']
  · rw [if_neg h, take2, decide_eq_true (show (b.length : Int) < 2 by simp at h; omega)]; rfl
theorem I_ReadTrace_eq {k : Nat} {b : List Int} (hk : 20100 ≤ k) (hb : ∀ x ∈ b, okB x) (hl : b.length ≤ maxN) : I_ReadTrace k b = some (readTrace b) := by
  have hM := maxN_eq
  unfold I_ReadTrace readTrace
  by_cases c : (b.length : Int) > 20000
  · rw [decide_eq_true c]; rfl
  rw [decide_eq_false c]
  simp only [cond_false]
  rw [bytes_HasPrefix_eq hb hl, bind_some']
  cases c2 : decide (b.take 2 = [84, 49])
  · rfl
  simp only [Bool.not_true, cond_false, cond_true]
  rw [I_count_eq (by omega) hb hl, bind_some']
  unfold readCount
  rw [readNum_false]
  have bad : ∀ (n a : Int) (acc : List Step), iter (fun u7 n7 => I_ReadTrace_g0 k (b, b) u7 n7 (fun y4 => (pI_wideReader_number_m k (⟨b, y4.1, y4.2.1⟩ : Reader)).bind fun r5 => cond (r5.2.2) (some (([] : List Step), (2 : Int))) (cond (decide (0 ≤ y4.1 ∧ y4.1 ≤ (b.length : Int))) ((I_SumOf k ((b.take y4.1.toNat).drop 0)).bind fun r6 => cond (r5.1 != r6) (some (([] : List Step), (3 : Int))) (cond (r5.2.1 != (b.length : Int)) (some (([] : List Step), (3 : Int))) (some (y4.2.2, (0 : Int))))) none))) k (n, a, true, acc) = some ([], 2) := by
    intro n a acc
    obtain ⟨k', hk'⟩ : ∃ k', k = k' + 1 := ⟨k - 1, by omega⟩
    conv => lhs; arg 2; rw [hk']
    rw [iter_succ]
    simp only [I_ReadTrace_g0, I_number_eq (show 7 ≤ k by omega) hb hl, readNum_true, bind_some']
    cases decide (n > 0) <;> rfl
  cases hn : num? b 2 with
  | none =>
    simp only [Option.elim_none, show inB (0 : Int) 0 200 = true from rfl, cond_true]
    rw [bad]
  | some q =>
    have hp := num?_pos (x := q.1) (p := q.2) hn
    simp only [Option.elim_some]
    cases c4 : inB q.1 0 200
    · simp only [cond_false]
      rw [bad]
    have c4' := of_decide_eq_true c4
    simp only [cond_true]
    have hq1 : q.1 = ((q.1.toNat : Nat) : Int) := by omega
    rw [hq1, Int.toNat_natCast]
    rcases I_steps_walk (R := List Step × Int) (k := k) (b := b) (l := b) (fin := fun y4 => (pI_wideReader_number_m k (⟨b, y4.1, y4.2.1⟩ : Reader)).bind fun r5 => cond (r5.2.2) (some (([] : List Step), (2 : Int))) (cond (decide (0 ≤ y4.1 ∧ y4.1 ≤ (b.length : Int))) ((I_SumOf k ((b.take y4.1.toNat).drop 0)).bind fun r6 => cond (r5.1 != r6) (some (([] : List Step), (3 : Int))) (cond (r5.2.1 != (b.length : Int)) (some (([] : List Step), (3 : Int))) (some (y4.2.2, (0 : Int))))) none))
      (by omega) hb hl q.1.toNat q.2 [] k (by omega) (by simp; omega) with ⟨xs, p, h1, h2⟩ | ⟨h1, ys, p, h2⟩
    · rw [h2, h1]
      have hrp := steps?_spec (xs := xs) (p := p) h1 (by omega) (by omega)
      simp only [Option.elim_some, List.nil_append]
      rw [I_number_eq (by omega) hb hl, bind_some', readNum_false]
      cases hn : num? b p with
      | none => rfl
      | some e =>
        simp only [Option.elim_some, cond_false]
        rw [sumB_bind (S := I_SumOf) (fun l h => I_SumOf_eq (by omega) (by omega)) ⟨by omega, hrp.2.1⟩]
        rw [cond_bne, cond_bne]
        by_cases g1 : e.1 = sumOf (b.take p.toNat)
        · rw [if_pos g1]
          by_cases g2 : e.2 = (b.length : Int)
          · rw [if_pos g2, decide_eq_true ⟨g1, g2⟩]; rfl
          · rw [if_neg g2, decide_eq_false (fun h => g2 h.2)]; rfl
        · rw [if_neg g1, decide_eq_false (fun h => g1 h.1)]; rfl
    · rw [h2, h1]
      simp only [Option.elim_none]
      rw [I_number_eq (by omega) hb hl, bind_some', readNum_true]
      rfl
theorem readTrace_tot (b : List Int) : totL Step.tot (readTrace b).1 ≤ 1302600 := by
  unfold readTrace
  cases decide ((b.length : Int) > 20000)
  case true => exact Nat.zero_le _
  cases decide (b.take 2 = [84, 49])
  · exact Nat.zero_le _
  simp only [cond_false, cond_true]
  cases hn : num? b 2 with
  | none => exact Nat.zero_le _
  | some q =>
    have hp := num?_pos (x := q.1) (p := q.2) hn
    simp only [Option.elim_some]
    cases c4 : inB q.1 0 200
    · exact Nat.zero_le _
    have c4' := of_decide_eq_true c4
    simp only [cond_true]
    cases hr : steps? b q.1.toNat q.2 with
    | none => exact Nat.zero_le _
    | some r =>
      have hrp := steps?_spec (xs := r.1) (p := r.2) hr (by omega) (by omega)
      simp only [Option.elim_some]
      cases num? b r.2 with
      | none => exact Nat.zero_le _
      | some e =>
        simp only [Option.elim_some]
        cases decide (e.1 = sumOf (b.take r.2.toNat) ∧ e.2 = (b.length : Int))
        · exact Nat.zero_le _
        · simp only [cond_true]; omega
theorem L_FnExactReadTrace_eq (b : List Int) (hb : okS okB b) : ∃ k, L_FnExactReadTrace k b = some true := by
  refine ⟨b.length + 1400000, ?_⟩
  have hM := maxN_eq
  have hlen := hb.1
  unfold maxL at hlen
  unfold L_FnExactReadTrace
  rw [cond_dec]
  by_cases c : (b.length : Int) > 1048576
  · rw [if_pos c]
  rw [if_neg c]
  have hk : b.length < b.length + 1400000 := by omega
  have hN : b.length ≤ maxN := by omega
  have ht := readTrace_tot b
  obtain ⟨r1, y1, e1, a1, b1, l1, h1⟩ := L_markByteS_m3_z (k := b.length + 1400000) (xs := b) (m := 1) hk hN (by omega) (by unfold bigB; omega)
  obtain ⟨r2, y2, e2, a2, b2, l2, h2⟩ := L_markStepS_m2_z (k := b.length + 1400000) (xs := (readTrace b).1) (m := 1) (by omega) (by omega) (by omega) (by unfold bigB; omega)
  simp only [L_toByteS_z hk hN, bind_some', S_ReadTrace_eq (b := b) (k := b.length + 1400000) (by omega) hb.2 (by omega), I_ReadTrace_eq (b := b) (k := b.length + 1400000) (by omega) hb.2 (by omega), L_eqStepS_z (xs := (readTrace b).1) (ys := (readTrace b).1) (k := b.length + 1400000) (by omega) (by omega), L_eqByteS_z (ys := b) hk hN, e1, e2, h2, decide_true, cond_not, cond_true, cond_dec, cond_bne]
  have n1 : ¬ r1 < 0 := by omega
  have n2 : ¬ r2 < 0 := by omega
  simp only [n1, n2, if_true, if_false]
end Go.Proofs.Ev
