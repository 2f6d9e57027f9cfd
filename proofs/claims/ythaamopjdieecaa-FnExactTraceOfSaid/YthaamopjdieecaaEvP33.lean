/- Plain laws: TraceOf. -/
import Derived.Test.YthaamopjdieecaaEvP32
set_option linter.unusedVariables false
set_option linter.unusedSimpArgs false
set_option linter.unusedVariables false
set_option linter.unusedSimpArgs false
namespace Go.Proofs.Ev
theorem sumOf_bd (b : List Int) : -1000003 < sumOf b ∧ sumOf b < 1000003 := by
  unfold sumOf
  have : ∀ (b : List Int) (s : Int), (-1000003 < s ∧ s < 1000003) → -1000003 < b.foldl sumStep s ∧ b.foldl sumStep s < 1000003 := fun b => by
    induction b with
    | nil => intro s h; exact h
    | cons x l ih =>
      intro s h
      refine ih _ ?_
      unfold sumStep
      generalize IntKind.i64.wrap ((IntKind.i64.wrap ((IntKind.i64.wrap ((257 : Int) * s)) + (IntKind.i64.wrap x))) + (1 : Int)) = y
      have h1 := Int.tmod_lt_of_pos y (show (0 : Int) < 1000003 by omega)
      have h2 : -1000003 < y.tmod 1000003 := by
        have := Int.tmod_lt_of_pos (-y) (show (0 : Int) < 1000003 by omega)
        rw [Int.neg_tmod] at this; omega
      exact ⟨h2, h1⟩
  exact this b 1 (by omega)
/-- The bytes of steps, one behind the other. -/
def bodyOf (xs : List Step) : List Int := xs.flatMap putBytes
def headOf (n : Nat) : List Int := [84, 49] ++ wides [(n : Int)]
def sealOf (b : List Int) : List Int := b ++ wides [sumOf b]
def traceS (xs : List Step) : List Int × Bool :=
  cond (decide ((xs.length : Int) > 200)) ([], false) (cond (xs.all putB)
    (cond (decide (((sealOf (headOf xs.length ++ bodyOf xs)).length : Int) > 20000)) ([], false) (sealOf (headOf xs.length ++ bodyOf xs), true)) ([], false))
theorem head_len (n : Nat) : (headOf n).length ≤ 9 := by
  have := wides_len [(n : Int)]
  simp only [List.length_cons, List.length_nil] at this
  unfold headOf
  rw [List.length_append]; simp; omega
theorem seal_len (b : List Int) : b.length ≤ (sealOf b).length ∧ (sealOf b).length ≤ b.length + 7 := by
  have := wides_len [sumOf b]
  simp only [List.length_cons, List.length_nil] at this
  unfold sealOf
  rw [List.length_append]; omega
theorem body_len : ∀ {xs : List Step}, xs.all putB = true → (bodyOf xs).length ≤ 10000 * xs.length
  | [], _ => by simp [bodyOf]
  | x :: l, h => by
    rw [List.all_cons, Bool.and_eq_true] at h
    have h1 := body_len h.2
    have h2 := put_len h.1
    unfold bodyOf at *
    rw [List.flatMap_cons, List.length_append, List.length_cons]; omega
theorem sum_wide (b : List Int) : wideB (sumOf b) = true := by
  have := sumOf_bd b
  exact inB_spec.2 (by omega)
theorem step_tot {xs : List Step} {x : Step} (h : x ∈ xs) : x.tot ≤ totL Step.tot xs := by have := totL_mem Step.tot h; omega
theorem all_no {xs : List Step} {i : Nat} (hi : i < xs.length) (hp : putB xs[i] = false) : xs.all putB = false := by
  cases hq : xs.all putB with
  | false => rfl
  | true => have := List.all_eq_true.1 hq _ (List.getElem_mem hi); rw [hp] at this; exact nomatch this
theorem all_step {xs : List Step} {i : Nat} (hi : i < xs.length) (ha : (xs.take i).all putB = true) (hp : putB xs[i] = true) : (xs.take (i + 1)).all putB = true := by
  rw [take_step hi, List.all_append, ha]; simp [hp]
theorem body_step {xs : List Step} {i : Nat} (hi : i < xs.length) (h : List Int) : h ++ bodyOf (xs.take (i + 1)) = h ++ bodyOf (xs.take i) ++ putBytes xs[i] := by
  rw [take_step hi]; unfold bodyOf; rw [List.flatMap_append, List.append_assoc]; simp
def traceEnd (xs : List Step) : List Int × Bool := cond (xs.all putB) (cond (decide (((sealOf (headOf xs.length ++ bodyOf xs)).length : Int) > 20000)) ([], false) (sealOf (headOf xs.length ++ bodyOf xs), true)) ([], false)
theorem I_step {ρ : Type} {k : Nat} {xs : List Step} {i : Nat} {out : List Int} {next : Int × List Int → Option ρ} {x0 : List Int → Option ρ} {xret : Bool → Option ρ} (hi : i < xs.length) (hk : xs[i].tot + 20 < k) (hN : 7 * xs[i].tot + 100 ≤ maxN) (hl : xs.length ≤ maxN) (ho : out.length + 10000 ≤ maxN) :
    I_TraceOf_g0 k (xs, (xs.length : Int)) ((i : Int), out) next x0 xret = cond (putB xs[i]) (next (((i + 1 : Nat) : Int), out ++ putBytes xs[i])) (xret false) := by
  have hM := maxN_eq
  unfold I_TraceOf_g0
  simp only
  rw [cond_dec, if_pos (by omega), idx_nat, getD_get hi, bind_some', I_PutStep_eq hk hN, bind_some']
  unfold putS
  cases hp : putB xs[i]
  · rfl
  · have hpl := put_len hp
    simp only [cond_true, Bool.not_true, cond_false]
    rw [ble_le (by omega), wrapNat1 hi (by omega)]
theorem I_end {ρ : Type} {k : Nat} {xs : List Step} {out : List Int} {next : Int × List Int → Option ρ} {x0 : List Int → Option ρ} {xret : Bool → Option ρ} :
    I_TraceOf_g0 k (xs, (xs.length : Int)) ((xs.length : Int), out) next x0 xret = x0 out := by
  unfold I_TraceOf_g0
  simp only
  rw [cond_dec, if_neg (by omega)]
theorem S_step {ρ : Type} {k : Nat} {xs : List Step} {i : Nat} {out : List Int} {next : Int × List Int → Option ρ} {x0 : List Int → Option ρ} {xret : Bool → Option ρ} (hi : i < xs.length) (hk : xs[i].tot + 8000 < k) (hN : 7 * xs[i].tot + 100 ≤ maxN) (hl : xs.length ≤ maxN) (ho : out.length + 10000 ≤ maxN) (hko : out.length + 10000 < k) :
    S_TraceOf_g0 k xs ((i : Int), out) next x0 xret = cond (putB xs[i]) (cond (decide ((out.length : Int) > 20000)) (xret false) (next (((i + 1 : Nat) : Int), out ++ putBytes xs[i]))) (xret false) := by
  have hM := maxN_eq
  unfold S_TraceOf_g0
  simp only
  rw [cond_dec, if_pos (by omega), idx_nat, getD_get hi, bind_some', S_PutStep_eq hk hN, bind_some']
  unfold putS
  cases hp : putB xs[i]
  · rfl
  · have hpl := put_len hp
    simp only [cond_true, Bool.not_true, cond_false]
    rw [S_l01Join_eq (by omega) (by omega), bind_some', wrapNat1 hi (by omega)]
theorem S_end {ρ : Type} {k : Nat} {xs : List Step} {out : List Int} {next : Int × List Int → Option ρ} {x0 : List Int → Option ρ} {xret : Bool → Option ρ} :
    S_TraceOf_g0 k xs ((xs.length : Int), out) next x0 xret = x0 out := by
  unfold S_TraceOf_g0
  simp only
  rw [cond_dec, if_neg (by omega)]
section
variable {k : Nat} {xs : List Step} {g : Int × List Int → (Int × List Int → Option (List Int × Bool)) → Option (List Int × Bool)} {x0 : List Int → Option (List Int × Bool)}
theorem trace_loop {B : Nat} (hB : 30000 ≤ B) (early : Bool)
    (hg : ∀ (i : Nat) (out : List Int) (next : Int × List Int → Option (List Int × Bool)) (hi : i < xs.length), out.length ≤ B → g ((i : Int), out) next = cond (putB xs[i]) (cond (early && decide ((out.length : Int) > 20000)) (some ([], false)) (next (((i + 1 : Nat) : Int), out ++ putBytes xs[i]))) (some ([], false)))
    (hx : ∀ (out : List Int) (next : Int × List Int → Option (List Int × Bool)), out.length ≤ B → g ((xs.length : Int), out) next = x0 out)
    (h0 : ∀ out : List Int, out.length ≤ B → x0 out = some (cond (decide (((sealOf out).length : Int) > 20000)) ([], false) (sealOf out, true))) (hlen : early = true ∨ 10000 * xs.length + 9 ≤ B) :
    ∀ (d i kf : Nat), xs.length - i = d → i ≤ xs.length → (xs.take i).all putB = true → (headOf xs.length ++ bodyOf (xs.take i)).length ≤ B → d < kf →
      iter g kf ((i : Int), headOf xs.length ++ bodyOf (xs.take i)) = some (traceEnd xs)
  | 0, i, kf, hd, hi, ha, hl, hk => by
    have : i = xs.length := by omega
    subst this
    obtain ⟨kf, rfl⟩ : ∃ n, kf = n + 1 := ⟨kf - 1, by omega⟩
    rw [List.take_length] at ha hl ⊢
    rw [iter_succ, hx _ _ hl, h0 _ hl]
    unfold traceEnd
    rw [ha, cond_true]
  | d + 1, i, kf, hd, hi, ha, hl, hk => by
    have hlt : i < xs.length := by omega
    obtain ⟨kf, rfl⟩ : ∃ n, kf = n + 1 := ⟨kf - 1, by omega⟩
    rw [iter_succ, hg i _ _ hlt hl]
    cases hp : putB xs[i]
    · unfold traceEnd; rw [all_no hlt hp]; rfl
    · rw [cond_true]
      have hpl := put_len hp
      have ha' := all_step hlt ha hp
      cases hc : (early && decide (((headOf xs.length ++ bodyOf (xs.take i)).length : Int) > 20000))
      · rw [cond_false]
        have := trace_loop hB early hg hx h0 hlen d (i + 1) kf (by omega) (by omega) ha' (by
          rcases hlen with he | he
          · rw [he, Bool.true_and] at hc
            have := of_decide_eq_false hc
            rw [body_step hlt, List.length_append]; omega
          · have hb := body_len ha'
            have hh := head_len xs.length
            rw [List.length_take, Nat.min_eq_left (by omega)] at hb
            rw [List.length_append]
            have : 10000 * (i + 1) ≤ 10000 * xs.length := Nat.mul_le_mul_left _ (by omega)
            omega) (by omega)
        rw [body_step hlt] at this
        exact this
      · rw [cond_true]
        have hc := of_decide_eq_true (Bool.and_eq_true_iff.1 hc).2
        unfold traceEnd
        cases hq : xs.all putB
        · rfl
        · have hge : (headOf xs.length ++ bodyOf (xs.take i)).length ≤ (headOf xs.length ++ bodyOf xs).length := by
            have e : bodyOf xs = bodyOf (xs.take i) ++ bodyOf (xs.drop i) := by
              unfold bodyOf; rw [← List.flatMap_append, List.take_append_drop]
            rw [e, ← List.append_assoc, List.length_append (as := headOf xs.length ++ bodyOf (xs.take i))]; omega
          have hs := seal_len (headOf xs.length ++ bodyOf xs)
          rw [decide_eq_true (show ((sealOf (headOf xs.length ++ bodyOf xs)).length : Int) > 20000 by omega)]; rfl
end
theorem trace_fin (xs : List Step) (c1 : ¬ (xs.length : Int) > 200) : traceS xs = traceEnd xs := by
  unfold traceS traceEnd
  rw [cond_dec, if_neg c1]
theorem I_TraceOf_eq {k : Nat} {xs : List Step} (hk : totL Step.tot xs + 2100000 < k) (hN : 7 * totL Step.tot xs + 2200000 ≤ maxN) : I_TraceOf k xs = some (traceS xs) := by
  have hM := maxN_eq
  have hlen := totL_len Step.tot xs
  unfold I_TraceOf
  by_cases c1 : (xs.length : Int) > 200
  · unfold traceS; rw [cond_dec, cond_dec, if_pos c1, if_pos c1]
  rw [cond_dec, if_neg c1, I_putWide_m5_eq (by simp; omega) (by simp; omega) (by simp [wideB_small (n := xs.length) (by omega)]), bind_some', trace_fin xs c1]
  have hh := head_len xs.length
  have := trace_loop (xs := xs) (B := 2000009) (x0 := fun y4 => (I_SumOf k y4).bind fun r5 => (I_putWide_m5 k y4 [r5]).bind fun r6 => cond (decide ((r6.length : Int) > (20000 : Int))) (some (([] : List Int), false)) (some (r6, true)))
    (g := fun u8 n8 => I_TraceOf_g0 k (xs, (xs.length : Int)) u8 n8 (fun y4 => (I_SumOf k y4).bind fun r5 => (I_putWide_m5 k y4 [r5]).bind fun r6 => cond (decide ((r6.length : Int) > (20000 : Int))) (some (([] : List Int), false)) (some (r6, true))) (fun y7 => some (([] : List Int), y7))) (by omega) false
    (fun i out next hi ho => by
      have hst := step_tot (List.getElem_mem hi)
      exact I_step hi (by omega) (by omega) (by omega) (by omega)) (fun out next ho => I_end) (fun out ho => by
      rw [I_SumOf_eq (by omega) (by omega), bind_some', I_putWide_m5_eq (by simp; omega) (by simp only [List.length_cons, List.length_nil]; omega) (by simp [sum_wide]), bind_some']
      show cond (decide (((sealOf out).length : Int) > 20000)) _ _ = _
      cases decide (((sealOf out).length : Int) > 20000) <;> rfl) (.inr (by omega)) xs.length 0 k (by omega) (by omega) (by simp) (by simp only [List.take_zero, bodyOf, List.flatMap_nil, List.append_nil]; omega) (by omega)
  simp only [List.take_zero, bodyOf, List.flatMap_nil, List.append_nil] at this
  exact this
theorem S_TraceOf_eq {k : Nat} {xs : List Step} (hk : totL Step.tot xs + 2100000 < k) (hN : 7 * totL Step.tot xs + 2200000 ≤ maxN) : S_TraceOf k xs = some (traceS xs) := by
  have hM := maxN_eq
  have hlen := totL_len Step.tot xs
  unfold S_TraceOf
  by_cases c1 : (xs.length : Int) > 200
  · unfold traceS; rw [cond_dec, cond_dec, if_pos c1, if_pos c1]
  rw [cond_dec, if_neg c1, S_l05Put_m3_eq (by simp; omega) (by simp; omega) (by simp [wideB_small (n := xs.length) (by omega)]), bind_some', trace_fin xs c1]
  have hh := head_len xs.length
  have := trace_loop (xs := xs) (B := 30000) (x0 := fun y5 => (S_SumOf k y5).bind fun r6 => (S_l05Put_m3 k y5 [r6]).bind fun r7 => cond (decide ((r7.length : Int) > (20000 : Int))) (some (([] : List Int), false)) (some (r7, true)))
    (g := fun u9 n9 => S_TraceOf_g0 k xs u9 n9 (fun y5 => (S_SumOf k y5).bind fun r6 => (S_l05Put_m3 k y5 [r6]).bind fun r7 => cond (decide ((r7.length : Int) > (20000 : Int))) (some (([] : List Int), false)) (some (r7, true))) (fun y8 => some (([] : List Int), y8))) (by omega) true
    (fun i out next hi ho => by
      have hst := step_tot (List.getElem_mem hi)
      exact S_step hi (by omega) (by omega) (by omega) (by omega) (by omega)) (fun out next ho => S_end) (fun out ho => by
      rw [S_SumOf_eq (by omega) (by omega), bind_some', S_l05Put_m3_eq (by simp; omega) (by simp only [List.length_cons, List.length_nil]; omega) (by simp [sum_wide]), bind_some']
      show cond (decide (((sealOf out).length : Int) > 20000)) _ _ = _
      cases decide (((sealOf out).length : Int) > 20000) <;> rfl) (.inl rfl) xs.length 0 k (by omega) (by omega) (by simp) (by simp only [List.take_zero, bodyOf, List.flatMap_nil, List.append_nil]; omega) (by omega)
  simp only [List.take_zero, bodyOf, List.flatMap_nil, List.append_nil] at this
  exact this
theorem traceS_len (xs : List Step) : (traceS xs).1.length ≤ 20000 := by
  unfold traceS
  rw [cond_dec]
  split
  · simp
  cases xs.all putB
  · simp
  · rw [cond_true, cond_dec]
    split
    · simp
    · simp only; omega
theorem L_FnExactTraceOf_eq (xs : List Step) (hx : okS Step.Ok xs) : ∃ k, L_FnExactTraceOf k xs = some true := by
  obtain ⟨k, hk0⟩ : ∃ k, totL Step.tot xs + 2200000 < k := ⟨_, Nat.lt_succ_self _⟩
  refine ⟨k, ?_⟩
  have hM := maxN_eq
  unfold L_FnExactTraceOf
  rw [L_szStepS_z (n := 1048576) hx (by omega) (by omega) (by omega), bind_some', cond_dec]
  by_cases c2 : (1048576 : Int) < (totL Step.tot xs : Int)
  · simp only [if_pos c2]; rfl
  simp only [if_neg c2]
  rw [if_neg (by omega)]
  have hk : totL Step.tot xs < k := by omega
  have hN : totL Step.tot xs ≤ maxN := by omega
  have hp := traceS_len xs
  obtain ⟨r1, y1, e1, a1, b1⟩ := L_markStepS_m2_z (k := k) (xs := xs) (m := 1) hk hN (by omega) (by unfold bigB; omega)
  obtain ⟨r2, y2, e2, a2, b2, l2, h2⟩ := L_markByteS_m3_z (k := k) (xs := (traceS xs).1) (m := 1) (by omega) (by omega) (by omega) (by unfold bigB; omega)
  simp only [L_toStepS_z hk hN, bind_some', S_TraceOf_eq (xs := xs) (k := k) (by omega) (by omega), I_TraceOf_eq (xs := xs) (k := k) (by omega) (by omega), L_eqByteS_z (xs := (traceS xs).1) (ys := (traceS xs).1) (k := k) (by omega) (by omega), L_eqStepS_z (ys := xs) hk hN, e1, e2, h2, decide_true, cond_not, cond_true, cond_dec, cond_bne, beq_self_eq_true]
  have n1 : ¬ r1 < 0 := by omega
  have n2 : ¬ r2 < 0 := by omega
  simp only [n1, n2, if_true, if_false]
end Go.Proofs.Ev
