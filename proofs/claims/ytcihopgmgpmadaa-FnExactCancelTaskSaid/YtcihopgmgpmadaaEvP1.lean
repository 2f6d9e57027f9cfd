/- Plain laws: numbers, bytes, tensors, steps: copied, compared, counted. -/
import Derived.Test.YtcihopgmgpmadaaEvD1
import Derived.Test.YtcihopgmgpmadaaEvK6
set_option linter.unusedVariables false
set_option linter.unusedSimpArgs false
set_option linter.unusedVariables false
namespace Go.Proofs.Ev
theorem okS_len {α : Type} {p : α → Prop} {xs : List α} (h : okS p xs) : xs.length ≤ 9223372036854775807 := h.1
theorem L_szIntS_eq (k : Nat) (xs : List Int) (n : Int) (hn : 0 ≤ n ∧ n ≤ 1048576) (hx : xs.length ≤ maxL) : L_szIntS k xs n = some (if n < xs.length then -1 else n - xs.length) := by
  unfold maxL at hx
  unfold L_szIntS
  rw [wrapI (by omega) (by omega), cond_dec]
  by_cases h : n < xs.length
  · rw [if_pos (by omega), if_pos h]
  · rw [if_neg (by omega), if_neg h]
theorem L_szByteS_eq (k : Nat) (xs : List Int) (n : Int) (hn : 0 ≤ n ∧ n ≤ 1048576) (hx : xs.length ≤ maxL) : L_szByteS k xs n = some (if n < xs.length then -1 else n - xs.length) := by
  unfold maxL at hx
  unfold L_szByteS
  rw [wrapI (by omega) (by omega), cond_dec]
  by_cases h : n < xs.length
  · rw [if_pos (by omega), if_pos h]
  · rw [if_neg (by omega), if_neg h]
theorem L_szTensor_eq (k : Nat) (t : Tensor) (n : Int) (hn : 0 ≤ n ∧ n ≤ 1048576) (ht : t.Ok) : L_szTensor k t n = some (if n < t.data.length then -1 else n - t.data.length) := by
  unfold L_szTensor
  rw [L_szIntS_eq k _ _ hn ht.2.1, Option.bind_some, cond_dec]
  split <;> split <;> first | rfl | omega
theorem L_szStep_eq (k : Nat) (x : Step) (n : Int) (hn : 0 ≤ n ∧ n ≤ 1048576) (hx : x.Ok) :
    L_szStep k x n = some (if n < x.data.length + x.input.data.length then -1 else n - (x.data.length + x.input.data.length)) := by
  unfold L_szStep
  rw [L_szByteS_eq k _ _ hn hx.2.2.2.1.1, Option.bind_some, cond_dec]
  by_cases h : n < x.data.length
  · simp only [if_pos h]; rw [if_pos (by omega), if_pos (by omega)]
  · simp only [if_neg h]
    rw [if_neg (by omega), L_szTensor_eq k _ _ (by omega) hx.2.2.2.2, Option.bind_some, cond_dec]
    split <;> split <;> first | rfl | omega | (congr 1; omega)
theorem L_toIntS_eq {k : Nat} {xs : List Int} (hk : xs.length < k) (hx : xs.length ≤ maxN) : L_toIntS k xs = some xs := by
  rw [maxN_eq] at hx
  unfold L_toIntS
  rw [cond_dec, if_pos (by rw [maxN_eq]; omega)]
  exact copy_loop xs 0 (fin := some) (fun i ys hi next hl => by
    simp only [L_toIntS_g0, cond_dec]
    rw [if_pos (by omega), idx_nat, getD_get hi, Option.bind_some, if_pos (by omega), wrapNat1 hi (by omega)]
    simp) (fun ys next => by simp only [L_toIntS_g0, cond_dec]; rw [if_neg (by omega)]) hk
theorem L_toByteS_eq {k : Nat} {xs : List Int} (hk : xs.length < k) (hx : xs.length ≤ maxN) : L_toByteS k xs = some xs := by
  rw [maxN_eq] at hx
  unfold L_toByteS
  rw [cond_dec, if_pos (by rw [maxN_eq]; omega)]
  exact copy_loop xs 0 (fin := some) (fun i ys hi next hl => by
    simp only [L_toByteS_g0, cond_dec]
    rw [if_pos (by omega), idx_nat, getD_get hi, Option.bind_some, if_pos (by omega), wrapNat1 hi (by omega)]
    simp) (fun ys next => by simp only [L_toByteS_g0, cond_dec]; rw [if_neg (by omega)]) hk
theorem L_toTensor_eq {k : Nat} {t : Tensor} (hk : t.data.length < k) (hx : t.data.length ≤ maxN) : L_toTensor k t = some t := by
  unfold L_toTensor L_toShape
  rw [Option.bind_some, L_toIntS_eq hk hx]; rfl
theorem L_toStep_eq {k : Nat} {x : Step} (hk : x.data.length < k ∧ x.input.data.length < k) (hx : x.data.length ≤ maxN ∧ x.input.data.length ≤ maxN) : L_toStep k x = some x := by
  unfold L_toStep
  rw [L_toByteS_eq hk.1 hx.1, Option.bind_some, L_toTensor_eq hk.2 hx.2]; rfl
theorem bne_nat (a b : Nat) : ((a : Int) != (b : Int)) = decide (a ≠ b) := by
  rw [bne_dec]; congr 1; rw [eq_iff_iff]; omega
/-- The tests of a loop that compares, in one word. -/
theorem cmp_round {R : Type} {xs ys : List Int} {i : Nat} (hi : i < xs.length) (hi' : i < ys.length) (hx : xs.length ≤ maxL) (next : Int → Option R) (no yes : Option R) :
    (cond (decide ((i : Int) < (xs.length : Int))) ((idx xs i).bind fun e1 => (idx ys i).bind fun e2 => cond (e1 != e2) no (next (IntKind.i64.wrap ((i : Int) + (1 : Int))))) yes) = if xs[i] = ys[i] then next ((i + 1 : Nat) : Int) else no := by
  unfold maxL at hx
  rw [cond_dec, if_pos (by omega), idx_nat, idx_nat, getD_get hi, getD_get hi', Option.bind_some, Option.bind_some, wrapNat1 hi (by omega)]
  rw [cond_bne]
theorem cmp_end {R : Type} {xs : List Int} (a : Option R) (yes : Option R) : (cond (decide ((xs.length : Int) < (xs.length : Int))) a yes) = yes := by
  rw [cond_dec, if_neg (by omega)]
theorem cmp_all {xs ys : List Int} {r : Option Bool} (h : xs.length = ys.length → r = if xs = ys then some true else some false) : (cond ((xs.length : Int) != (ys.length : Int)) (some false) r) = some (decide (xs = ys)) := by
  rw [bne_nat, cond_dec]
  by_cases c : xs.length = ys.length
  · rw [if_neg (by simp [c]), h c]; split <;> simp [*]
  · rw [if_pos c, decide_eq_false (fun e => c (by rw [e]))]
theorem L_eqIntS_eq {k : Nat} {xs ys : List Int} (hk : xs.length < k) (hx : xs.length ≤ maxL) : L_eqIntS k xs ys = some (decide (xs = ys)) :=
  cmp_all fun c => same_loop xs ys c (fun i hi hi' next => cmp_round hi hi' hx next _ _) (fun next => cmp_end _ _) hk
theorem L_eqByteS_eq {k : Nat} {xs ys : List Int} (hk : xs.length < k) (hx : xs.length ≤ maxL) : L_eqByteS k xs ys = some (decide (xs = ys)) :=
  cmp_all fun c => same_loop xs ys c (fun i hi hi' next => cmp_round hi hi' hx next _ _) (fun next => cmp_end _ _) hk
theorem S_l01Same_eq {k : Nat} {xs ys : List Int} (hk : xs.length < k) (hx : xs.length ≤ maxL) : S_l01Same k xs ys = some (decide (xs = ys)) :=
  cmp_all fun c => same_loop xs ys c (fun i hi hi' next => cmp_round hi hi' hx next _ _) (fun next => cmp_end _ _) hk
theorem S_l03Same_eq {k : Nat} {xs ys : List Int} (hk : xs.length < k) (hx : xs.length ≤ maxL) : S_l03Same k xs ys = some (decide (xs = ys)) :=
  cmp_all fun c => same_loop xs ys c (fun i hi hi' next => cmp_round hi hi' hx next _ _) (fun next => cmp_end _ _) hk
theorem cmp_round2 {R : Type} {xs ys : List Int} {i n : Nat} (hi : i < xs.length) (hi' : i < ys.length) (hn : i < n) (hx : xs.length ≤ maxL) (next : Int → Option R) (no yes : Option R) :
    (cond (decide ((i : Int) < (n : Int))) ((idx xs i).bind fun e1 => (idx ys i).bind fun e2 => cond (e1 != e2) no (next (IntKind.i64.wrap ((i : Int) + (1 : Int))))) yes) = if xs[i] = ys[i] then next ((i + 1 : Nat) : Int) else no := by
  unfold maxL at hx
  rw [cond_dec, if_pos (by omega), idx_nat, idx_nat, getD_get hi, getD_get hi', Option.bind_some, Option.bind_some, wrapNat1 hi (by omega)]
  rw [cond_bne]
theorem slices_Equal_lint_int_eq {k : Nat} {xs ys : List Int} (hk : xs.length < k) (hx : xs.length ≤ maxL) : slices_Equal_lint_int k xs ys = some (decide (xs = ys)) :=
  cmp_all fun c => same_loop xs ys c (fun i hi hi' next => cmp_round2 hi hi' hi hx next _ _) (fun next => cmp_end _ _) hk
theorem bytesOf_inj {xs ys : List Int} (hx : ∀ x ∈ xs, okB x) (hy : ∀ x ∈ ys, okB x) : bytesOf xs = bytesOf ys ↔ xs = ys := by
  refine ⟨fun h => ?_, fun h => by rw [h]⟩
  unfold bytesOf at h
  induction xs generalizing ys with
  | nil => cases ys <;> simp_all
  | cons x xs ih =>
    cases ys with
    | nil => simp at h
    | cons y ys =>
      simp only [List.map_cons, List.cons.injEq] at h
      have h1 := hx x (by simp)
      have h2 := hy y (by simp)
      unfold okB at h1 h2
      have e : x = y := by
        have := congrArg UInt8.toNat h.1
        simp at this
        omega
      rw [e, ih (fun z hz => hx z (by simp [hz])) (fun z hz => hy z (by simp [hz])) h.2]
theorem bytes_Equal_eq {k : Nat} {xs ys : List Int} (hx : ∀ x ∈ xs, okB x) (hy : ∀ x ∈ ys, okB x) : bytes_Equal k xs ys = some (decide (xs = ys)) := by
  unfold bytes_Equal
  congr 1
  rw [Bool.eq_iff_iff]; simp [bytesOf_inj hx hy]
theorem L_eqShape_eq (k : Nat) (a b : Shape) : L_eqShape k a b = some (decide (a = b)) := by
  obtain ⟨a1, a2, a3⟩ := a
  obtain ⟨b1, b2, b3⟩ := b
  unfold L_eqShape
  by_cases h1 : a1 = b1 <;> by_cases h2 : a2 = b2 <;> by_cases h3 : a3 = b3 <;> simp [h1, h2, h3, cond_bne, cond_beq]
theorem L_eqTensor_eq {k : Nat} {a b : Tensor} (hk : a.data.length < k) (ha : a.data.length ≤ maxL) : L_eqTensor k a b = some (decide (a = b)) := by
  obtain ⟨s, d⟩ := a
  obtain ⟨s', d'⟩ := b
  simp only at hk ha
  unfold L_eqTensor
  simp only [L_eqShape_eq, Option.bind_some, L_eqIntS_eq hk ha]
  by_cases h1 : s = s' <;> by_cases h2 : d = d' <;> simp [h1, h2, cond_bne, cond_beq]
theorem L_eqStep_eq {k : Nat} {a b : Step} (hk : a.data.length < k ∧ a.input.data.length < k) (ha : a.Ok) : L_eqStep k a b = some (decide (a = b)) := by
  have h1 := ha.2.2.2.1.1
  have h2 := ha.2.2.2.2.2.1
  obtain ⟨a1, a2, a3, a4, a5⟩ := a
  obtain ⟨b1, b2, b3, b4, b5⟩ := b
  simp only at hk h1 h2
  unfold L_eqStep
  simp only [L_eqByteS_eq hk.1 h1, Option.bind_some, L_eqTensor_eq hk.2 h2]
  by_cases h1 : a1 = b1 <;> by_cases h2 : a2 = b2 <;> by_cases h3 : a3 = b3 <;> by_cases h4 : a4 = b4 <;> by_cases h5 : a5 = b5 <;> simp [h1, h2, h3, h4, h5, cond_bne, cond_beq]
theorem I_Tensor_same_eq {k : Nat} {a b : Tensor} (hk : a.data.length < k) (ha : a.data.length ≤ maxL) : I_Tensor_same k a b = some (decide (a = b)) := by
  obtain ⟨⟨s1, s2, s3⟩, d⟩ := a
  obtain ⟨⟨t1, t2, t3⟩, d'⟩ := b
  simp only at hk ha
  unfold I_Tensor_same
  simp only [Option.bind_some, slices_Equal_lint_int_eq hk ha]
  by_cases h1 : s1 = t1 <;> by_cases h2 : s2 = t2 <;> by_cases h3 : s3 = t3 <;> by_cases h4 : d = d' <;> simp [h1, h2, h3, h4, cond_bne, cond_beq]
theorem I_SameStep_eq {k : Nat} {a b : Step} (hk : a.input.data.length < k) (ha : a.Ok) (hb : b.Ok) : I_SameStep k a b = some (decide (a = b)) := by
  have h2 := ha.2.2.2.2.2.1
  have h3 := ha.2.2.2.1.2
  have h4 := hb.2.2.2.1.2
  obtain ⟨a1, a2, a3, a4, a5⟩ := a
  obtain ⟨b1, b2, b3, b4, b5⟩ := b
  simp only at hk h2 h3 h4
  unfold I_SameStep
  simp only [bytes_Equal_eq h3 h4, Option.bind_some, I_Tensor_same_eq hk h2]
  by_cases h1 : a1 = b1 <;> by_cases h2 : a2 = b2 <;> by_cases h3 : a3 = b3 <;> by_cases h4 : a4 = b4 <;> by_cases h5 : a5 = b5 <;> simp [h1, h2, h3, h4, h5, cond_bne, cond_beq]
theorem S_SameStep_eq {k : Nat} {a b : Step} (hk : a.data.length < k ∧ a.input.data.length < k) (ha : a.Ok) : S_SameStep k a b = some (decide (a = b)) := by
  have h2 := ha.2.2.2.2.2.1
  have h3 := ha.2.2.2.1.1
  obtain ⟨a1, a2, a3, a4, ⟨s1, s2, s3⟩, d⟩ := a
  obtain ⟨b1, b2, b3, b4, ⟨t1, t2, t3⟩, d'⟩ := b
  simp only at hk h2 h3
  unfold S_SameStep
  simp only [Option.bind_some, S_l01Same_eq hk.1 h3, S_l03Same_eq hk.2 h2]
  by_cases e1 : a1 = b1 <;> by_cases e2 : a2 = b2 <;> by_cases e3 : a3 = b3 <;> by_cases e4 : a4 = b4 <;> by_cases h1 : s1 = t1 <;> by_cases h2 : s2 = t2 <;> by_cases h3 : s3 = t3 <;> by_cases h4 : d = d' <;> simp [h1, h2, h3, h4, e1, e2, e3, e4, cond_bne, cond_beq]
theorem L_FnExactSameStep_eq (a b : Step) (ha : a.Ok) (hb : b.Ok) : ∃ k, L_FnExactSameStep k a b = some true := by
  refine ⟨1048577, ?_⟩
  unfold L_FnExactSameStep
  rw [L_szStep_eq _ _ _ (by omega) ha, Option.bind_some, cond_dec]
  by_cases h1 : (1048576 : Int) < a.data.length + a.input.data.length
  · simp only [if_pos h1]; rfl
  simp only [if_neg h1]
  rw [if_neg (by omega), L_szStep_eq _ _ _ (by omega) hb, Option.bind_some, cond_dec]
  by_cases h2 : (1048576 : Int) - (a.data.length + a.input.data.length) < b.data.length + b.input.data.length
  · simp only [if_pos h2]; rfl
  simp only [if_neg h2]
  have hka : a.data.length < 1048577 ∧ a.input.data.length < 1048577 := by omega
  have hkb : b.data.length < 1048577 ∧ b.input.data.length < 1048577 := by omega
  rw [if_neg (by omega), L_toStep_eq hka (by rw [maxN_eq]; omega), L_toStep_eq hkb (by rw [maxN_eq]; omega)]
  simp only [Option.bind_some, S_SameStep_eq hka ha, I_SameStep_eq hka.2 ha hb, L_eqStep_eq hka ha, L_eqStep_eq hkb hb]
  simp
end Go.Proofs.Ev
