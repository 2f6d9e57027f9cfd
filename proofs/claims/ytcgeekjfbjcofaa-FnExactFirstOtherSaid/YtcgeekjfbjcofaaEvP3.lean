/- Plain laws: lists of steps: FirstOther. -/
import Derived.Test.YtcgeekjfbjcofaaEvP2
set_option linter.unusedVariables false
set_option linter.unusedSimpArgs false
set_option linter.unusedVariables false
set_option linter.unusedSimpArgs false
namespace Go.Proofs.Ev
def Step.small (x : Step) (n : Int) : Prop := (x.data.length : Int) ≤ n ∧ (x.input.data.length : Int) ≤ n
theorem L_szStep_sized (k : Nat) {x : Step} (hx : x.Ok) {n : Int} (h1 : 0 ≤ n) (h2 : n ≤ 1048576) : ∃ r, L_szStep k x n = some r ∧ Sized r n (x.small n) := by
  rw [L_szStep_eq _ _ _ ⟨h1, h2⟩ hx]
  refine ⟨_, rfl, ?_⟩
  unfold Sized Step.small
  split <;> omega
theorem L_szStepS_sized {k : Nat} {xs : List Step} (hk : xs.length < k) (hx : okS Step.Ok xs) {n : Int} (h1 : 0 ≤ n) (h2 : n ≤ 1048576) :
    ∃ r, L_szStepS k xs n = some r ∧ Sized r n ((xs.length : Int) ≤ n ∧ ∀ x ∈ xs, x.small n) := by
  have hl := hx.1
  unfold maxL at hl
  unfold L_szStepS
  rw [wrapI (by omega) (by omega), cond_dec]
  by_cases c : n - xs.length < 0
  · rw [if_pos c]; exact ⟨-1, rfl, .inl (by omega)⟩
  rw [if_neg c]
  obtain ⟨r, g1, g2⟩ := sz_loop (xs := xs) (W := Step.small) (fun x a b hab h => ⟨by have := h.1; omega, by have := h.2; omega⟩) (f := fun x n => L_szStep k x n)
    (g := fun u next => L_szStepS_g0 k xs u next (fun y => some y) (fun y => some y)) (fun x hxm m a b => L_szStep_sized k (hx.2 x hxm) a b) (fun i left hi next => by
      simp only [L_szStepS_g0]
      rw [cond_dec, if_pos (by omega), idx_nat, getD_get hi, bind_some', wrapNat1 hi (by omega)]) (fun left next => by
      simp only [L_szStepS_g0]; rw [cond_dec, if_neg (by omega)]) hk (n := n - xs.length) (by omega) (by omega)
  refine ⟨r, g1, ?_⟩
  rcases g2 with g2 | ⟨g2, g3, g4⟩
  · exact .inl g2
  · exact .inr ⟨g2, by omega, by omega, fun x hxm => by have := g4 x hxm; unfold Step.small at *; omega⟩
theorem L_toStepS_eq {k : Nat} {xs : List Step} (hk : xs.length < k) (hl : xs.length ≤ maxN) (h : ∀ x ∈ xs, (x.data.length < k ∧ x.input.data.length < k) ∧ (x.data.length ≤ maxN ∧ x.input.data.length ≤ maxN)) : L_toStepS k xs = some xs := by
  rw [maxN_eq] at hl
  unfold L_toStepS
  rw [cond_dec, if_pos (by rw [maxN_eq]; omega)]
  exact copy_loop xs _ (fin := some) (fun i ys hi next hly => by
    have hx := h xs[i] (List.getElem_mem hi)
    simp only [L_toStepS_g0, cond_dec]
    rw [if_pos (by omega), idx_nat, getD_get hi, bind_some', L_toStep_eq hx.1 hx.2, bind_some', if_pos (by omega), wrapNat1 hi (by omega)]
    simp) (fun ys next => by simp only [L_toStepS_g0, cond_dec]; rw [if_neg (by omega)]) hk
theorem L_eqStepS_eq {k : Nat} {xs ys : List Step} (hk : xs.length < k) (hx : okS Step.Ok xs) (h : ∀ x ∈ xs, x.data.length < k ∧ x.input.data.length < k) : L_eqStepS k xs ys = some (decide (xs = ys)) := by
  have hl := hx.1
  unfold maxL at hl
  unfold L_eqStepS
  rw [bne_nat, cond_dec]
  by_cases c : xs.length = ys.length
  · rw [if_neg (by simp [c])]
    rw [same_loop xs ys c (yes := some true) (no := some false) (fun i hi hi' next => by
      simp only [L_eqStepS_g0, cond_dec]
      rw [if_pos (by omega), idx_nat, idx_nat, getD_get hi, getD_get hi', bind_some', bind_some', L_eqStep_eq (h xs[i] (List.getElem_mem hi)) (hx.2 xs[i] (List.getElem_mem hi)), bind_some', wrapNat1 hi (by omega)]
      by_cases e : xs[i] = ys[i] <;> simp [e]) (fun next => by simp only [L_eqStepS_g0, cond_dec]; rw [if_neg (by omega)]) hk]
    split <;> simp [*]
  · rw [if_pos c, decide_eq_false (fun e => c (by rw [e]))]
/-! ### FirstOther -/
def firstOther (a b : List Step) : Int :=
  ((a.zip b).findIdx? fun p => !decide (p.1 = p.2)).elim (if a.length = b.length then -1 else if a.length < b.length then (a.length : Int) else b.length) fun i => (i : Int)
theorem S_FirstOther_eq {k : Nat} {a b : List Step} (hk : a.length < k) (ha : okS Step.Ok a) (h : ∀ x ∈ a, x.data.length < k ∧ x.input.data.length < k) : S_FirstOther k a b = some (firstOther a b) := by
  have hl := ha.1
  unfold maxL at hl
  unfold S_FirstOther
  have hz : (a.zip b).length ≤ a.length := by simp; omega
  have := find_loop (a.zip b) (fun p => !decide (p.1 = p.2)) (g := fun u next => S_FirstOther_g0 k (a, b) u next (fun y => cond ((a.length : Int) == (b.length : Int)) (some (-1 : Int)) (cond (decide ((a.length : Int) < (b.length : Int))) (some (a.length : Int)) (some (b.length : Int)))) (fun y => some y))
    (no := some) (yes := some (if a.length = b.length then -1 else if a.length < b.length then (a.length : Int) else b.length)) (fun i hi next => by
      have h1 : i < a.length := by simp at hi; omega
      have h2 : i < b.length := by simp at hi; omega
      simp only [S_FirstOther_g0, cond_dec]
      rw [if_pos (by omega), if_pos (by omega), idx_nat, idx_nat, getD_get h1, getD_get h2, bind_some', bind_some', S_SameStep_eq (h a[i] (List.getElem_mem h1)) (ha.2 a[i] (List.getElem_mem h1)), bind_some', wrapNat1 h1 (by omega), List.getElem_zip]) (fun next => by
      simp only [S_FirstOther_g0, cond_dec, cond_beq]
      rw [List.length_zip]
      by_cases c : a.length ≤ b.length
      · rw [if_neg (by omega)]
        by_cases e : a.length = b.length
        · rw [if_pos (by omega), if_pos e]
        · rw [if_neg (by omega), if_neg e, if_pos (by omega), if_pos (by omega)]
      · rw [if_pos (by omega), if_neg (by omega), if_neg (by omega), if_neg (by omega), if_neg (by omega), if_neg (by omega)]) (k := k) (by omega)
  refine this.trans ?_
  unfold firstOther
  cases (a.zip b).findIdx? _ <;> rfl
theorem I_FirstOther_eq {k : Nat} {a b : List Step} (hk : a.length < k) (ha : okS Step.Ok a) (hb : okS Step.Ok b) (h : ∀ x ∈ a, x.data.length < k ∧ x.input.data.length < k) : I_FirstOther k a b = some (firstOther a b) := by
  have hl := ha.1
  unfold maxL at hl
  unfold I_FirstOther
  have hz : (a.zip b).length ≤ a.length := by simp; omega
  generalize hm : (if (b.length : Int) < (a.length : Int) then (b.length : Int) else (a.length : Int)) = m
  have hmz : m = ((a.zip b).length : Int) := by rw [← hm, List.length_zip]; split <;> omega
  have := find_loop (a.zip b) (fun p => !decide (p.1 = p.2)) (g := fun u next => I_FirstOther_g0 k (a, b, m, m) u next (fun y => cond ((a.length : Int) == (b.length : Int)) (some (-1 : Int)) (some m)) (fun y => some y))
    (no := some) (yes := some (if a.length = b.length then -1 else if a.length < b.length then (a.length : Int) else b.length)) (fun i hi next => by
      have h1 : i < a.length := by simp at hi; omega
      have h2 : i < b.length := by simp at hi; omega
      simp only [I_FirstOther_g0, cond_dec]
      rw [if_pos (by omega), idx_nat, idx_nat, getD_get h1, getD_get h2, bind_some', bind_some', I_SameStep_eq (h a[i] (List.getElem_mem h1)).2 (ha.2 a[i] (List.getElem_mem h1)) (hb.2 b[i] (List.getElem_mem h2)), bind_some', wrapNat1 h1 (by omega), List.getElem_zip, cond_not]) (fun next => by
      simp only [I_FirstOther_g0, cond_dec, cond_beq]
      rw [if_neg (by omega)]
      rw [← hm]
      by_cases e : a.length = b.length
      · rw [if_pos (by omega), if_pos e]
      · rw [if_neg (by omega), if_neg e]
        by_cases c : a.length < b.length
        · rw [if_pos c, if_neg (by omega)]
        · rw [if_neg c, if_pos (by omega)]) (k := k) (by omega)
  refine this.trans ?_
  unfold firstOther
  cases (a.zip b).findIdx? _ <;> rfl
theorem L_FnExactFirstOther_eq (a b : List Step) (ha : okS Step.Ok a) (hb : okS Step.Ok b) : ∃ k, L_FnExactFirstOther k a b = some true := by
  refine ⟨a.length + b.length + 1048577, ?_⟩
  unfold L_FnExactFirstOther
  obtain ⟨r1, e1, s1⟩ := L_szStepS_sized (k := a.length + b.length + 1048577) (by omega) ha (n := 1048576) (by omega) (by omega)
  rw [e1, bind_some', cond_dec]
  rcases s1 with s1 | ⟨s1, s2, s3, s4⟩
  · rw [if_pos s1]
  rw [if_neg (by omega)]
  obtain ⟨r2, e2, t1⟩ := L_szStepS_sized (k := a.length + b.length + 1048577) (by omega) hb (n := r1) (by omega) (by omega)
  rw [e2, bind_some', cond_dec]
  rcases t1 with t1 | ⟨t1, t2, t3, t4⟩
  · rw [if_pos t1]
  rw [if_neg (by omega)]
  have ka : ∀ x ∈ a, (x.data.length < a.length + b.length + 1048577 ∧ x.input.data.length < a.length + b.length + 1048577) ∧ (x.data.length ≤ maxN ∧ x.input.data.length ≤ maxN) := fun x hx => by
    have := s4 x hx; unfold Step.small at this; rw [maxN_eq]; omega
  have kb : ∀ x ∈ b, (x.data.length < a.length + b.length + 1048577 ∧ x.input.data.length < a.length + b.length + 1048577) ∧ (x.data.length ≤ maxN ∧ x.input.data.length ≤ maxN) := fun x hx => by
    have := t4 x hx; unfold Step.small at this; rw [maxN_eq]; omega
  simp only [L_toStepS_eq (show a.length < a.length + b.length + 1048577 by omega) (by rw [maxN_eq]; omega) ka, L_toStepS_eq (show b.length < a.length + b.length + 1048577 by omega) (by rw [maxN_eq]; omega) kb, bind_some',
    S_FirstOther_eq (b := b) (show a.length < a.length + b.length + 1048577 by omega) ha (fun x hx => (ka x hx).1), I_FirstOther_eq (show a.length < a.length + b.length + 1048577 by omega) ha hb (fun x hx => (ka x hx).1),
    L_eqStepS_eq (ys := a) (show a.length < a.length + b.length + 1048577 by omega) ha (fun x hx => (ka x hx).1), L_eqStepS_eq (ys := b) (show b.length < a.length + b.length + 1048577 by omega) hb (fun x hx => (kb x hx).1), cond_bne, cond_not]
  simp
end Go.Proofs.Ev
