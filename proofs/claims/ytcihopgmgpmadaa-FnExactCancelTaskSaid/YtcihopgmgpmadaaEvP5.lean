/- Plain laws: EndTick, TicksOf, CutTrace. -/
import Derived.Test.YtcihopgmgpmadaaEvP4
import Derived.Test.YtcihopgmgpmadaaEvD3
set_option linter.unusedVariables false
set_option linter.unusedSimpArgs false
set_option linter.unusedVariables false
set_option linter.unusedSimpArgs false
namespace Go.Proofs.Ev
theorem fold_add {α : Type} (f : α → Int) : ∀ (xs : List α) (s : Int), xs.foldl (fun s x => s + f x) s = s + (xs.map f).sum
  | [], s => by simp
  | x :: xs, s => by simp only [List.foldl_cons, List.map_cons, List.sum_cons, fold_add f xs]; omega
theorem sum_bd {α : Type} {f : α → Int} {B : Int} (hf : ∀ x, 0 ≤ f x ∧ f x ≤ B) : ∀ xs : List α, 0 ≤ (xs.map f).sum ∧ (xs.map f).sum ≤ B * xs.length
  | [] => by simp
  | x :: xs => by
    have := sum_bd hf xs
    have h2 := hf x
    simp only [List.map_cons, List.sum_cons, List.length_cons]
    rw [Int.natCast_add, Int.mul_add]
    omega
/-- A loop that adds. -/
theorem add_loop {α R : Type} (xs : List α) (f : α → Int) {B : Int} (hf : ∀ x, 0 ≤ f x ∧ f x ≤ B) {g : Int × Int → (Int × Int → Option R) → Option R} {fin : Int → Option R}
    (h : ∀ (i : Nat) (s : Int) (hi : i < xs.length) (next : Int × Int → Option R), 0 ≤ s → s ≤ B * i → g (s, (i : Int)) next = next (s + f xs[i], ((i + 1 : Nat) : Int)))
    (hn : ∀ s next, g (s, (xs.length : Int)) next = fin s) {k : Nat} (hk : xs.length < k) : iter g k (0, 0) = fin (xs.map f).sum := by
  have := fold_loop xs (fun s x => s + f x) (g := g) (fin := fin) (0 : Int) (fun i s hi next hs => by
    have hb := sum_bd hf (xs.take i)
    rw [fold_add, Int.zero_add] at hs
    rw [← hs, List.length_take, Nat.min_eq_left (by omega)] at hb
    exact h i s hi next hb.1 hb.2) (fun next => hn _ _) hk
  rw [this, fold_add, Int.zero_add]
/-- A loop that appends what comes of each place. -/
theorem app_loopI {β R : Type} (n : Nat) (f : Nat → β) {g : Int × List β → (Int × List β → Option R) → Option R} {fin : List β → Option R}
    (h : ∀ (i : Nat) (ys : List β) (hi : i < n) (next : Int × List β → Option R), ys.length = i → g ((i : Int), ys) next = next (((i + 1 : Nat) : Int), ys ++ [f i]))
    (hn : ∀ ys next, g ((n : Int), ys) next = fin ys) {k : Nat} (hk : n < k) : iter g k (0, []) = fin ((List.range n).map f) := by
  have := iter_run (g := g) (st := fun i => ((i : Int), (List.range i).map f)) (n := n) (r := fin ((List.range n).map f)) (fun i hi next => by
    rw [h i _ hi next (by simp), List.range_succ, List.map_append]; rfl) (fun next => hn _ _) hk
  simpa using this
def cutFrom (p : Nat → Bool) : Nat → Nat → Nat
  | 0, i => i
  | f + 1, i => cond (p i) i (cutFrom p f (i + 1))
/-- A loop that takes the elements up to a place. -/
theorem take_loop {α R : Type} (xs : List α) (p : Nat → Bool) {g : Int × List α → (Int × List α → Option R) → Option R} {fin : List α → Option R}
    (h : ∀ (i : Nat) (ys : List α) (hi : i < xs.length) (next : Int × List α → Option R), ys = xs.take i → g ((i : Int), ys) next = cond (p i) (fin ys) (next (((i + 1 : Nat) : Int), ys ++ [xs[i]])))
    (hn : ∀ ys next, g ((xs.length : Int), ys) next = fin ys) {k : Nat} (hk : xs.length < k) : iter g k (0, []) = fin (xs.take (cutFrom p xs.length 0)) := by
  have := iter_rec (g := g) (st := fun i => ((i : Int), xs.take i)) (n := xs.length) (P := fun i => fin (xs.take (cutFrom p (xs.length - i) i))) (fun i hi next e => by
    rw [h i _ hi next rfl, show xs.length - i = (xs.length - (i + 1)) + 1 from by omega, cutFrom]
    cases hp : p i
    · rw [take_step hi] at e
      exact e
    · rfl) (fun next => by
    rw [Nat.sub_self, cutFrom]; exact hn _ _) k 0 (Nat.zero_le _) (by omega)
  simpa using this
/-! ### ticks -/
def takes (x : Step) : Int := cond (inB x.kind 4 5 && inB x.a 0 200) x.a 0
theorem takes_bd (x : Step) : 0 ≤ takes x ∧ takes x ≤ 200 := by
  unfold takes
  cases h : (inB x.kind 4 5 && inB x.a 0 200)
  · simp
  · simp only [inB, Bool.and_eq_true, decide_eq_true_eq] at h
    simp only [cond_true]; omega
def endTick (xs : List Step) : Int := (xs.map takes).sum
theorem S_l09Takes_eq (k : Nat) (x : Step) : S_l09Takes k x = some (takes x) := by
  unfold S_l09Takes takes
  simp only [S_l01In_eq, bind_some']
  cases inB x.kind 4 5 <;> cases inB x.a 0 200 <;> rfl
theorem S_EndTick_eq {k : Nat} {xs : List Step} (hk : xs.length < k) (hN : xs.length ≤ maxN) : S_EndTick k xs = some (endTick xs) := by
  have hM := maxN_eq
  exact add_loop xs takes takes_bd (g := fun u next => S_EndTick_g0 k xs u next (fun y3 => some y3)) (fin := some) (fun i s hi next h1 h2 => by
    have := takes_bd xs[i]
    simp only [S_EndTick_g0]
    rw [cond_dec, if_pos (by omega), idx_nat, getD_get hi, bind_some', S_l09Takes_eq, bind_some', wrapI (by omega) (by omega), wrapNat1 hi (by omega)]) (fun s next => by
    simp only [S_EndTick_g0]; rw [cond_dec, if_neg (by omega)]) hk
theorem I_Step_isTime_eq (k : Nat) (x : Step) : I_Step_isTime k x = some (inB x.kind 4 5 && inB x.a 0 200) := by
  unfold I_Step_isTime
  simp only [I_in_eq, bind_some', cond_beq]
  by_cases h4 : x.kind = 4
  · rw [if_pos h4, h4]; rfl
  · rw [if_neg h4]
    by_cases h5 : x.kind = 5
    · rw [if_pos h5, h5]; rfl
    · rw [if_neg h5, show inB x.kind 4 5 = false from by unfold inB; rw [decide_eq_false_iff_not]; omega]; rfl
theorem I_EndTick_eq {k : Nat} {xs : List Step} (hk : xs.length < k) (hN : xs.length ≤ maxN) : I_EndTick k xs = some (endTick xs) := by
  have hM := maxN_eq
  exact add_loop xs takes takes_bd (g := fun u next => I_EndTick_g0 k (xs, (xs.length : Int)) u next (fun y3 => some y3)) (fin := some) (fun i s hi next h1 h2 => by
    have := takes_bd xs[i]
    simp only [I_EndTick_g0]
    rw [cond_dec, if_pos (by omega), idx_nat, getD_get hi, bind_some', I_Step_isTime_eq, bind_some', wrapNat1 hi (by omega)]
    unfold takes at *
    cases h : (inB xs[i].kind 4 5 && inB xs[i].a 0 200)
    · simp
    · rw [h] at this
      simp only [cond_true] at this ⊢
      rw [wrapI (by omega) (by omega)]) (fun s next => by
    simp only [I_EndTick_g0]; rw [cond_dec, if_neg (by omega)]) hk
def ticksOf (xs : List Step) : List Int := (List.range xs.length).map fun i => endTick (xs.take (i + 1))
theorem S_TicksOf_eq {k : Nat} {xs : List Step} (hk : xs.length < k) (hN : xs.length ≤ maxN) : S_TicksOf k xs = some (ticksOf xs) := by
  have hM := maxN_eq
  exact app_loopI xs.length (fun i => endTick (xs.take (i + 1))) (g := fun u next => S_TicksOf_g0 k xs u next (fun y2 => some y2)) (fin := some) (fun i ys hi next hl => by
    simp only [S_TicksOf_g0]
    rw [cond_dec, if_pos (by omega), wrapNat1 hi (by omega), cond_dec, if_pos (by omega), Int.toNat_natCast, List.drop_zero, S_EndTick_eq (by simp; omega) (by simp; omega), bind_some', ble_le (by simp; omega)]) (fun ys next => by
    simp only [S_TicksOf_g0]; rw [cond_dec, if_neg (by omega)]) hk
theorem I_TicksOf_eq {k : Nat} {xs : List Step} (hk : xs.length < k) (hN : xs.length ≤ maxN) : I_TicksOf k xs = some (ticksOf xs) := by
  have hM := maxN_eq
  exact app_loopI xs.length (fun i => endTick (xs.take (i + 1))) (g := fun u next => I_TicksOf_g0 k (xs, (xs.length : Int)) u next (fun y2 => some y2)) (fin := some) (fun i ys hi next hl => by
    simp only [I_TicksOf_g0]
    rw [cond_dec, if_pos (by omega), wrapNat1 hi (by omega), cond_dec, if_pos (by omega), Int.toNat_natCast, List.drop_zero, I_EndTick_eq (by simp; omega) (by simp; omega), bind_some', ble_le (by simp; omega)]) (fun ys next => by
    simp only [I_TicksOf_g0]; rw [cond_dec, if_neg (by omega)]) hk
theorem L_FnExactTicksOf_eq (xs : List Step) (hx : okS Step.Ok xs) : ∃ k, L_FnExactTicksOf k xs = some true := by
  refine ⟨totL Step.tot xs + 1, ?_⟩
  have hM := maxN_eq
  have hlen := totL_len Step.tot xs
  unfold L_FnExactTicksOf
  rw [L_szStepS_z (n := 1048576) hx (by omega) (by omega) (by omega), bind_some', cond_dec]
  by_cases c : (1048576 : Int) < (totL Step.tot xs : Int)
  · simp only [if_pos c]; rfl
  simp only [if_neg c]
  rw [if_neg (by omega)]
  have hk : totL Step.tot xs < totL Step.tot xs + 1 := by omega
  have hN : totL Step.tot xs ≤ maxN := by omega
  have hl : (ticksOf xs).length = xs.length := by simp [ticksOf]
  obtain ⟨r1, y1, e1, a1, b1, l1, h1⟩ := L_markStepS_m2_z (k := totL Step.tot xs + 1) (xs := xs) (m := 1) hk hN (by omega) (by unfold bigB; omega)
  obtain ⟨r2, y2, e2, a2, b2, l2, h2⟩ := L_markIntS_m3_z (k := totL Step.tot xs + 1) (xs := ticksOf xs) (m := 1) (by omega) (by omega) (by omega) (by unfold bigB; omega)
  simp only [L_toStepS_z hk hN, bind_some', S_TicksOf_eq (k := totL Step.tot xs + 1) (xs := xs) (by omega) (by omega), I_TicksOf_eq (k := totL Step.tot xs + 1) (xs := xs) (by omega) (by omega), L_eqIntS_z (xs := ticksOf xs) (ys := ticksOf xs) (k := totL Step.tot xs + 1) (by omega) (by omega), L_eqStepS_z (ys := xs) hk hN, e1, e2, h2, decide_true, cond_not, cond_true, cond_dec, cond_bne]
  rw [if_neg (by omega)]
  simp
  repeat rw [if_neg (by omega)]
/-! ### copies of steps -/
theorem S_l01Bytes_eq {k : Nat} {xs : List Int} (hk : xs.length < k) (hx : xs.length ≤ maxN) : S_l01Bytes k xs = some xs := by
  rw [maxN_eq] at hx
  unfold S_l01Bytes
  have := app_loop xs (fun x => x) (g := fun u next => S_l01Bytes_g0 k xs u next (fun y => some y)) (fin := some) (fun i ys hi next hl => by
    simp only [S_l01Bytes_g0, cond_dec]
    rw [if_pos (by omega), idx_nat, getD_get hi, bind_some', ble_le (by rw [maxN_eq, hl]; simp; omega), wrapNat1 hi (by omega)]) (fun ys next => by
    simp only [S_l01Bytes_g0, cond_dec]; rw [if_neg (by omega)]) hk
  simpa using this
theorem slices_Clone_lbyte_byte_eq {k : Nat} {xs : List Int} (hx : xs.length ≤ maxN) : slices_Clone_lbyte_byte k xs = some xs := by
  unfold slices_Clone_lbyte_byte
  rw [ble_le (by simpa using hx)]
  cases xs with
  | nil => simp only [isNil, cond_true, List.append_nil]; exact both_same _
  | cons x l => rfl
theorem S_l14Copy_eq {k : Nat} {x : Step} (hk : x.tot < k) (hN : x.tot ≤ maxN) : S_l14Copy k x = some x := by
  unfold Step.tot Tensor.tot at hk hN
  unfold S_l14Copy
  rw [S_l01Bytes_eq (by omega) (by omega), bind_some', S_l02Copy_eq (by omega) (by omega)]; rfl
theorem I_Step_copied_eq {k : Nat} {x : Step} (hN : x.tot ≤ maxN) : I_Step_copied k x = some x := by
  unfold Step.tot Tensor.tot at hN
  unfold I_Step_copied
  rw [slices_Clone_lbyte_byte_eq (by omega), bind_some', I_Tensor_copied_eq (by omega)]; rfl
/-! ### CutTrace -/
def cutTrace (xs : List Step) (tick : Int) : List Step := xs.take (cutFrom (fun i => decide (endTick (xs.take (i + 1)) > tick)) xs.length 0)
theorem S_CutTrace_eq {k : Nat} {xs : List Step} {tick : Int} (hk : totL Step.tot xs < k) (hN : totL Step.tot xs ≤ maxN) : S_CutTrace k xs tick = some (cutTrace xs tick) := by
  have hM := maxN_eq
  have hlen := totL_len Step.tot xs
  exact take_loop xs (fun i => decide (endTick (xs.take (i + 1)) > tick)) (g := fun u next => S_CutTrace_g0 k (xs, tick) u next (fun y4 => some y4) (fun y5 => some y5)) (fin := some) (fun i ys hi next hys => by
    have hm := totL_mem Step.tot (List.getElem_mem hi)
    simp only [S_CutTrace_g0]
    rw [cond_dec, if_pos (by omega), wrapNat1 hi (by omega), cond_dec, if_pos (by omega), Int.toNat_natCast, List.drop_zero, S_EndTick_eq (by simp; omega) (by simp; omega), bind_some', idx_nat, getD_get hi, bind_some', S_l14Copy_eq (by omega) (by omega), bind_some', ble_le (by rw [hys]; simp; omega)]) (fun ys next => by
    simp only [S_CutTrace_g0]; rw [cond_dec, if_neg (by omega)]) (by omega)
theorem I_CutTrace_eq {k : Nat} {xs : List Step} {tick : Int} (hk : totL Step.tot xs < k) (hN : totL Step.tot xs ≤ maxN) : I_CutTrace k xs tick = some (cutTrace xs tick) := by
  have hM := maxN_eq
  have hlen := totL_len Step.tot xs
  exact take_loop xs (fun i => decide (endTick (xs.take (i + 1)) > tick)) (g := fun u next => I_CutTrace_g0 k (xs, tick, xs, (xs.length : Int)) u next (fun y4 => some y4)) (fin := some) (fun i ys hi next hys => by
    have hm := totL_mem Step.tot (List.getElem_mem hi)
    simp only [I_CutTrace_g0]
    rw [cond_dec, if_pos (by omega), idx_nat, getD_get hi, bind_some', wrapNat1 hi (by omega), cond_dec, if_pos (by omega), Int.toNat_natCast, List.drop_zero, I_EndTick_eq (by simp; omega) (by simp; omega), bind_some', I_Step_copied_eq (by omega), bind_some', ble_le (by rw [hys]; simp; omega)]) (fun ys next => by
    simp only [I_CutTrace_g0]; rw [cond_dec, if_neg (by omega)]) (by omega)
theorem L_FnExactCutTrace_eq (xs : List Step) (tick : Int) (hx : okS Step.Ok xs) (ht : okI tick) : ∃ k, L_FnExactCutTrace k xs tick = some true := by
  refine ⟨totL Step.tot xs + 1, ?_⟩
  have hM := maxN_eq
  have hlen := totL_len Step.tot xs
  unfold L_FnExactCutTrace
  rw [L_szStepS_z (n := 1048576) hx (by omega) (by omega) (by omega), bind_some', cond_dec]
  by_cases c : (1048576 : Int) < (totL Step.tot xs : Int)
  · simp only [if_pos c]; rfl
  simp only [if_neg c]
  rw [if_neg (by omega)]
  have hk : totL Step.tot xs < totL Step.tot xs + 1 := by omega
  have hN : totL Step.tot xs ≤ maxN := by omega
  have hr : totL Step.tot (cutTrace xs tick) ≤ totL Step.tot xs := totL_take _ _ _
  obtain ⟨r1, y1, e1, a1, b1, l1, h1⟩ := L_markStepS_m2_z (k := totL Step.tot xs + 1) (xs := xs) (m := 1) hk hN (by omega) (by unfold bigB; omega)
  obtain ⟨r2, y2, e2, a2, b2, l2, h2⟩ := L_markStepS_m2_z (k := totL Step.tot xs + 1) (xs := cutTrace xs tick) (m := 1) (by omega) (by omega) (by omega) (by unfold bigB; omega)
  simp only [L_toStepS_z hk hN, bind_some', S_CutTrace_eq (tick := tick) hk hN, I_CutTrace_eq (tick := tick) hk hN, L_eqStepS_z (xs := cutTrace xs tick) (ys := cutTrace xs tick) (k := totL Step.tot xs + 1) (by omega) (by omega), L_eqStepS_z (ys := xs) hk hN, e1, e2, h2, decide_true, cond_not, cond_true, cond_dec, cond_bne]
  rw [if_neg (by omega)]
  simp
  repeat rw [if_neg (by omega)]
end Go.Proofs.Ev
