/- Plain laws: RunLayer. -/
import Derived.Test.YtcohhbpegbhcgaaEvP23
set_option linter.unusedVariables false
set_option linter.unusedSimpArgs false
set_option linter.unusedVariables false
set_option linter.unusedSimpArgs false
namespace Go.Proofs.Ev
theorem int_nat {a b : Int} {x : Int} (h : a ≤ x ∧ x ≤ b) (h0 : 0 ≤ a) : ∃ n : Nat, x = n := ⟨x.toNat, by omega⟩
theorem winShape_nat {H W C Z S : Nat} {l : Layer} {c : Int} (hz : l.size = Z) (hs : l.step = S) (s1 : 1 ≤ S) (h8 : H ≤ 8) (w8 : W ≤ 8) (hzH : Z ≤ H) (hzW : Z ≤ W) :
    winShape ⟨H, W, C⟩ l c = ⟨((H - Z) / S + 1 : Nat), ((W - Z) / S + 1 : Nat), c⟩ := by
  have key : ∀ n : Nat, n ≤ 8 → Z ≤ n → IntKind.i64.wrap ((IntKind.i64.wrap ((IntKind.i64.wrap ((n : Int) - (Z : Int))).tdiv (S : Int))) + 1) = (((n - Z) / S + 1 : Nat) : Int) := fun n h1 h2 => by
    have e1 : ((n : Int) - (Z : Int)) = ((n - Z : Nat) : Int) := by omega
    have e2 : (((n - Z : Nat) : Int)).tdiv (S : Int) = (((n - Z) / S : Nat) : Int) := rfl
    have e3 : (n - Z) / S ≤ n - Z := Nat.div_le_self _ _
    rw [e1, wrapI (n := ((n - Z : Nat) : Int)) (by omega) (by omega), e2]
    generalize (n - Z) / S = q at e3
    rw [wrapI (n := ((q : Nat) : Int)) (by omega) (by omega), wrapI (by omega) (by omega)]
    omega
  unfold winShape
  rw [hz, hs]
  simp only [key H h8 hzH, key W w8 hzW]
theorem quot_bd {n Z S : Nat} (h : n ≤ 8) (h1 : 1 ≤ Z) (h2 : Z ≤ n) : 1 ≤ (n - Z) / S + 1 ∧ (n - Z) / S + 1 ≤ 8 := by
  have e3 : (n - Z) / S ≤ n - Z := Nat.div_le_self _ _
  generalize (n - Z) / S = q at e3
  omega
theorem lies_of {H W Z S h w : Nat} (z1 : 1 ≤ Z) (z3 : Z ≤ 3) (s1 : 1 ≤ S) (s2 : S ≤ 2) (hzH : Z ≤ H) (hzW : Z ≤ W) (hh : h < (H - Z) / S + 1) (hw : w < (W - Z) / S + 1) : Lies H W Z S h w := by
  have a1 : h * S ≤ H - Z := (Nat.le_div_iff_mul_le (by omega)).1 (by omega)
  have a2 : w * S ≤ W - Z := (Nat.le_div_iff_mul_le (by omega)).1 (by omega)
  exact ⟨z1, z3, s2, by omega, by omega⟩
theorem numB_spec {l : Layer} (h : numB l = true) : (1 ≤ l.out ∧ l.out ≤ 8) ∧ (l.bias.length : Int) = l.out ∧ ∀ x ∈ l.weights, -128 ≤ x ∧ x ≤ 127 := by
  simp only [numB, Bool.and_eq_true, inB_spec, decide_eq_true_eq] at h
  obtain ⟨h1, h2, h3, h4, h5, h6, h7⟩ := h
  unfold itemsB at h7
  rw [List.all_eq_true] at h7
  exact ⟨h1, h5, fun x hx => inB_spec.1 (h7 x hx)⟩
theorem layer_fits {H W C : Nat} {xs : List Int} (r : Right H W C xs) {l : Layer} (hl : layerB ⟨H, W, C⟩ l = true) :
    ∃ Z S H' W' C' : Nat, l.size = Z ∧ l.step = S ∧ shapeOf ⟨H, W, C⟩ l = ⟨H', W', C'⟩ ∧ (1 ≤ H' ∧ H' ≤ 8) ∧ (1 ≤ W' ∧ W' ≤ 8) ∧ (1 ≤ C' ∧ C' ≤ 8) ∧
      ∀ h w o, h < H' → w < W' → o < C' → Fits H W C xs l Z S h w o := by
  have hr := r
  obtain ⟨h1, h8, w1, w8, c1, c8, hlen, hmem⟩ := hr
  have hsz := r.size
  unfold layerB at hl
  rw [Bool.and_eq_true] at hl
  obtain ⟨-, hl⟩ := hl
  unfold shapeOf
  by_cases k0 : l.kind = 0
  · rw [decide_eq_true k0] at hl ⊢
    simp only [cond_true, Bool.and_eq_true, decide_eq_true_eq, noneB] at hl
    obtain ⟨⟨z0, s0⟩, hn, hs, hw⟩ := hl
    obtain ⟨ho, hb, hi⟩ := numB_spec hn
    obtain ⟨O, hO⟩ := int_nat ho (by omega)
    rw [hO] at ho hb
    refine ⟨0, 0, 1, 1, O, by omega, by omega, by rw [cond_true, hO]; rfl, by omega, by omega, by omega, fun h w o _ _ hlt => .dense k0 (by omega) (by omega) ?_⟩
    rw [hO, hsz] at hw
    have : ((O : Int) * ((H * W * C : Nat) : Int)) = ((O * (H * W * C) : Nat) : Int) := (Int.natCast_mul _ _).symm
    rw [this] at hw
    have : (o + 1) * (H * W * C) ≤ O * (H * W * C) := Nat.mul_le_mul_right _ hlt
    rw [Nat.add_mul, Nat.one_mul] at this
    rw [hlen]; omega
  rw [decide_eq_false k0] at hl ⊢
  simp only [cond_false] at hl ⊢
  by_cases k1 : l.kind = 1
  · rw [decide_eq_true k1] at hl ⊢
    simp only [cond_true, Bool.and_eq_true, decide_eq_true_eq] at hl ⊢
    obtain ⟨hwin, hn, hw, hw6⟩ := hl
    obtain ⟨z1, z3, s1, s2, zh, zw⟩ := winB_spec hwin
    obtain ⟨ho, hb, hi⟩ := numB_spec hn
    obtain ⟨O, hO⟩ := int_nat ho (by omega)
    obtain ⟨Z, hZ⟩ := int_nat ⟨z1, z3⟩ (by omega)
    obtain ⟨S, hS⟩ := int_nat ⟨s1, s2⟩ (by omega)
    rw [hO] at ho hb
    rw [hZ] at z1 z3 zh zw
    rw [hS] at s1 s2
    have zh : Z ≤ H := by have : ((Z : Nat) : Int) ≤ (H : Int) := zh; omega
    have zw : Z ≤ W := by have : ((Z : Nat) : Int) ≤ (W : Int) := zw; omega
    have d1 := quot_bd (S := S) h8 (show 1 ≤ Z by omega) zh
    have d2 := quot_bd (S := S) w8 (show 1 ≤ Z by omega) zw
    refine ⟨Z, S, (H - Z) / S + 1, (W - Z) / S + 1, O, hZ, hS, by rw [winShape_nat hZ hS (by omega) h8 w8 zh zw, hO], d1, d2, by omega, fun h w o hh hw2 hlt => .conv k1 (by omega) (by omega) ?_ (lies_of (by omega) (by omega) (by omega) (by omega) zh zw hh hw2) hi⟩
    rw [hO, hZ] at hw
    have : ((O : Int) * (Z : Int) * (Z : Int) * (C : Int)) = ((O * (Z * (Z * C)) : Nat) : Int) := by
      rw [Int.natCast_mul, Int.natCast_mul, Int.natCast_mul, Int.mul_assoc, Int.mul_assoc]
    have hw : (l.weights.length : Int) = (O : Int) * (Z : Int) * (Z : Int) * (C : Int) := hw
    rw [this] at hw
    have : (o + 1) * (Z * (Z * C)) ≤ O * (Z * (Z * C)) := Nat.mul_le_mul_right _ hlt
    rw [Nat.add_mul, Nat.one_mul] at this
    omega
  rw [decide_eq_false k1] at hl ⊢
  simp only [cond_false] at hl ⊢
  by_cases k2 : l.kind = 2 ∨ l.kind = 3
  · have hk : (decide (l.kind = 2) || decide (l.kind = 3)) = true := by simpa using k2
    rw [hk] at hl
    simp only [cond_true, Bool.and_eq_true, decide_eq_true_eq] at hl
    obtain ⟨hwin, hn, hw⟩ := hl
    obtain ⟨z1, z3, s1, s2, zh, zw⟩ := winB_spec hwin
    obtain ⟨Z, hZ⟩ := int_nat ⟨z1, z3⟩ (by omega)
    obtain ⟨S, hS⟩ := int_nat ⟨s1, s2⟩ (by omega)
    rw [hZ] at z1 z3 zh zw
    rw [hS] at s1 s2
    have zh : Z ≤ H := by have : ((Z : Nat) : Int) ≤ (H : Int) := zh; omega
    have zw : Z ≤ W := by have : ((Z : Nat) : Int) ≤ (W : Int) := zw; omega
    have d1 := quot_bd (S := S) h8 (show 1 ≤ Z by omega) zh
    have d2 := quot_bd (S := S) w8 (show 1 ≤ Z by omega) zw
    rw [decide_eq_false (show ¬ l.kind = 4 by omega), decide_eq_false (show ¬ l.kind = 5 by omega)]
    simp only [cond_false]
    refine ⟨Z, S, (H - Z) / S + 1, (W - Z) / S + 1, C, hZ, hS, winShape_nat hZ hS (by omega) h8 w8 zh zw, d1, d2, by omega, fun h w o hh hw2 hlt => ?_⟩
    have v := lies_of (by omega) (by omega) (by omega) (by omega) zh zw hh hw2
    rcases k2 with k2 | k2
    · exact .max k2 v hlt
    · exact .avg k2 v hlt
  have hk : (decide (l.kind = 2) || decide (l.kind = 3)) = false := by simpa using k2
  rw [hk] at hl
  simp only [cond_false] at hl
  by_cases k4 : l.kind = 4
  · rw [decide_eq_true k4] at hl ⊢
    simp only [cond_true, Bool.and_eq_true, decide_eq_true_eq, noneB, inB_spec] at hl ⊢
    obtain ⟨⟨z0, s0⟩, hn, hz⟩ := hl
    exact ⟨0, 0, H, W, C, by omega, by omega, rfl, by omega, by omega, by omega, fun h w o a b c => .relu k4 a b c hz⟩
  rw [decide_eq_false k4] at hl ⊢
  simp only [cond_false] at hl ⊢
  by_cases k5 : l.kind = 5
  · rw [decide_eq_true k5] at hl ⊢
    simp only [cond_true, Bool.and_eq_true, decide_eq_true_eq, noneB] at hl ⊢
    obtain ⟨⟨z0, s0⟩, hn, hz, hs⟩ := hl
    have p1 : 1 ≤ H * W := Nat.mul_le_mul h1 w1
    have p2 : 1 ≤ H * W * C := Nat.mul_le_mul p1 c1
    rw [hsz] at hs ⊢
    exact ⟨0, 0, 1, 1, H * W * C, by omega, by omega, rfl, by omega, by omega, by omega, fun h w o a b c => .flat k5 (by rw [hlen]; exact c)⟩
  rw [decide_eq_false k5] at hl
  exact nomatch hl
theorem roundTo_in {x d : Int} (hd : 1 ≤ d) (h1 : -128 * d ≤ x) (h2 : x ≤ 127 * d) : -128 ≤ roundTo x d ∧ roundTo x d ≤ 127 := by
  unfold roundTo
  by_cases c : x < 0
  · rw [if_pos c]
    have a1 : 0 ≤ (2 * -x + d) / (2 * d) := Int.ediv_nonneg (by omega) (by omega)
    have a2 : (2 * -x + d) / (2 * d) < 129 := Int.ediv_lt_of_lt_mul (by omega) (by omega)
    omega
  · rw [if_neg c]
    have a1 : 0 ≤ (2 * x + d) / (2 * d) := Int.ediv_nonneg (by omega) (by omega)
    have a2 : (2 * x + d) / (2 * d) < 128 := Int.ediv_lt_of_lt_mul (by omega) (by omega)
    omega
theorem itemN_in {H W C : Nat} {xs : List Int} (r : Right H W C xs) {l : Layer} {Z S h w o : Nat} (f : Fits H W C xs l Z S h w o) : -128 ≤ itemN W C xs l Z S h w o ∧ itemN W C xs l Z S h w o ≤ 127 := by
  unfold itemN
  cases f with
  | dense h0 hb h8 hw => rw [h0]; exact sat8_bd _
  | conv h0 hb h8 hw v hi => rw [h0]; exact sat8_bd _
  | max h0 v ho =>
    rw [h0]
    obtain ⟨x, ys, e⟩ := pool_cons (xs := xs) (C := C) (o := o) v
    show -128 ≤ greatest (poolN W C xs Z S h w o) ∧ greatest (poolN W C xs Z S h w o) ≤ 127
    have := pool_mem r v ho
    rw [e] at this ⊢
    exact this _ (greatest_mem ys x)
  | avg h0 v ho =>
    rw [h0]
    have hl := pool_small (xs := xs) (C := C) (o := o) v
    have hb := sum_bd8 (pool_mem r v ho)
    rw [hl.1] at hb
    show -128 ≤ roundTo (poolN W C xs Z S h w o).sum ((Z * Z : Nat) : Int) ∧ roundTo (poolN W C xs Z S h w o).sum ((Z * Z : Nat) : Int) ≤ 127
    exact roundTo_in (by omega) hb.1 hb.2
  | relu h0 h1 h2 h3 hz =>
    rw [h0]
    have := atN_bd r h1 h2 h3
    show -128 ≤ (if atN W C xs h w o < l.zero then l.zero else atN W C xs h w o) ∧ (if atN W C xs h w o < l.zero then l.zero else atN W C xs h w o) ≤ 127
    by_cases c : atN W C xs h w o < l.zero
    · rw [if_pos c]; exact hz
    · rw [if_neg c]; exact this
  | flat h0 ho => rw [h0]; exact r.mem _ (getD_mem ho)
def runN (W C : Nat) (xs : List Int) (l : Layer) (Z S H' W' C' : Nat) : List Int :=
  (List.range H').flatMap fun h => (List.range W').flatMap fun w => (List.range C').flatMap fun o => [itemN W C xs l Z S h w o]
def runL (t : Tensor) (l : Layer) : Tensor × Bool :=
  cond (t.okB && layerB t.sh l) (⟨shapeOf t.sh l, runN t.sh.w.toNat t.sh.c.toNat t.data l l.size.toNat l.step.toNat (shapeOf t.sh l).h.toNat (shapeOf t.sh l).w.toNat (shapeOf t.sh l).c.toNat⟩, true) (⟨noShape, []⟩, false)
theorem runN_len (W C : Nat) (xs : List Int) (l : Layer) (Z S H' W' C' : Nat) : (runN W C xs l Z S H' W' C').length = H' * (W' * (C' * 1)) :=
  flat_len' _ _ _ fun i hi => flat_len' _ _ _ fun j hj => flat_len' _ _ _ fun o ho => rfl
theorem runL_right {t : Tensor} {l : Layer} (h1 : t.okB = true) (h2 : layerB t.sh l = true) : (runL t l).1.okB = true ∧ (runL t l).1.sh = shapeOf t.sh l ∧ (runL t l).2 = true := by
  obtain ⟨H, W, C, r, e⟩ := right_of h1
  have e2 : t.sh = ⟨H, W, C⟩ := by rw [e]; rfl
  have h2' := h2
  rw [e2] at h2'
  obtain ⟨Z, S, H', W', C', hz, hs, hsh, a1, a2, a3, hf⟩ := layer_fits r h2'
  unfold runL
  rw [h1, h2]
  simp only [Bool.and_self, cond_true]
  refine And.intro ?_ (by simp)
  rw [e2, hsh, show l.size.toNat = Z from by omega, show l.step.toNat = S from by omega]
  simp only [Int.toNat_natCast]
  refine Right.ok (H := H') (W := W') (C := C') ⟨a1.1, a1.2, a2.1, a2.2, a3.1, a3.2, by rw [runN_len, Nat.mul_one, Nat.mul_assoc], fun x hx => ?_⟩
  unfold runN at hx
  rw [List.mem_flatMap] at hx
  obtain ⟨i, hi, hx⟩ := hx
  rw [List.mem_flatMap] at hx
  obtain ⟨j, hj, hx⟩ := hx
  rw [List.mem_flatMap] at hx
  obtain ⟨o, ho, hx⟩ := hx
  rw [List.mem_range] at hi hj ho
  rw [List.mem_singleton] at hx
  rw [hx]
  exact itemN_in r (hf i j o hi hj ho)
theorem S_RunLayer_eq {k : Nat} {t : Tensor} {l : Layer} (hk : 512 < k) (hd : t.data.length < k) (hdN : t.data.length ≤ maxN) (hl : l.tot < k) (hlN : l.tot ≤ maxN) : S_RunLayer k t l = some (runL t l) := by
  have hM := maxN_eq
  unfold S_RunLayer runL
  rw [S_TensorOk_eq hd (by unfold maxL; omega), bind_some']
  cases h1 : t.okB
  · rfl
  simp only [Bool.not_true, cond_false, Bool.true_and]
  rw [S_OutShape_eq hl hlN, bind_some']
  unfold outShape
  cases h2 : layerB t.sh l
  · rfl
  obtain ⟨H, W, C, r, e⟩ := right_of h1
  obtain ⟨sh, xs⟩ := t
  have e2 : sh = ⟨H, W, C⟩ := congrArg Tensor.sh e
  subst e2
  obtain ⟨Z, S, H', W', C', hz, hs, hsh, a1, a2, a3, hf⟩ := layer_fits r h2
  have hwN : l.weights.length ≤ maxN := by unfold Layer.tot at hlN; omega
  simp only [cond_true, Bool.not_true, cond_false]
  rw [hsh, show l.size.toNat = Z from by omega, show l.step.toNat = S from by omega]
  simp only [Int.toNat_natCast]
  have m1 : ∀ w : Nat, ∀ h : Nat, ((List.range C').flatMap fun o => [itemN W C xs l Z S h w o]).length ≤ 8 := fun w h => by
    have := flat_len (fun o => [itemN W C xs l Z S h w o]) 1 C' (fun _ _ => Nat.le_refl _); omega
  have m2 : ∀ h : Nat, ((List.range W').flatMap fun w => (List.range C').flatMap fun o => [itemN W C xs l Z S h w o]).length ≤ 64 := fun h => by
    have := flat_len (fun w => (List.range C').flatMap fun o => [itemN W C xs l Z S h w o]) 8 W' (fun w _ => m1 w h); omega
  refine (rapp_loop H' 64 (fun h => (List.range W').flatMap fun w => (List.range C').flatMap fun o => [itemN W C xs l Z S h w o]) [] (fin := fun y => some ((⟨⟨H', W', C'⟩, y⟩ : Tensor), true)) (fun h _ => m2 h) (fun h ys next hi hy => ?_) (fun ys next => ?_) (by omega)).trans (by rw [List.nil_append]; rfl)
  · simp only [S_RunLayer_g0]
    rw [cond_dec, if_pos (by omega), wrapNat1 hi (by omega)]
    refine rapp_loop W' 8 (fun w => (List.range C').flatMap fun o => [itemN W C xs l Z S h w o]) ys (fin := fun y => next (((h + 1 : Nat) : Int), y)) (fun w _ => m1 w h) (fun w zs next2 hj hz2 => ?_) (fun zs next2 => ?_) (by omega)
    · simp only [S_RunLayer_g1]
      rw [cond_dec, if_pos (by omega), wrapNat1 hj (by omega)]
      refine rapp_loop C' 1 (fun o => [itemN W C xs l Z S h w o]) zs (fin := fun y => next2 (((w + 1 : Nat) : Int), y)) (fun _ _ => Nat.le_refl _) (fun o us next3 ho hz3 => ?_) (fun us next3 => ?_) (by omega)
      · simp only [S_RunLayer_g2]
        simp only [List.length_nil] at hy
        have eq := S_item_eq (k := k) r (l := l) hk hwN hz hs (hf h w o hi hj ho)
        rw [cond_dec, if_pos (by omega)]
        refine (congrArg (fun o : Option Int => o.bind _) eq).trans ?_
        rw [bind_some', ble_le (by simp; omega), wrapNat1 ho (by omega)]
      · simp only [S_RunLayer_g2]
        rw [cond_dec, if_neg (by omega)]
    · simp only [S_RunLayer_g1]
      rw [cond_dec, if_neg (by omega)]
  · simp only [S_RunLayer_g0]
    rw [cond_dec, if_neg (by omega)]
theorem I_RunLayer_eq {k : Nat} {t : Tensor} {l : Layer} (hk : 512 < k) (hd : t.data.length < k) (hdN : t.data.length ≤ maxN) (hl : l.tot < k) (hlN : l.tot ≤ maxN) : I_RunLayer k t l = some (runL t l) := by
  have hM := maxN_eq
  unfold I_RunLayer runL
  rw [I_OutShape_eq hl hlN, bind_some', I_TensorOk_eq hd (by unfold maxL; omega)]
  unfold outShape
  cases h2 : layerB t.sh l
  · cases t.okB <;> rfl
  simp only [cond_true, Bool.not_true, cond_false, bind_some']
  cases h1 : t.okB
  · rfl
  simp only [Bool.not_true, cond_false, Bool.and_self, cond_true]
  obtain ⟨H, W, C, r, e⟩ := right_of h1
  obtain ⟨sh, xs⟩ := t
  have e2 : sh = ⟨H, W, C⟩ := congrArg Tensor.sh e
  subst e2
  obtain ⟨Z, S, H', W', C', hz, hs, hsh, a1, a2, a3, hf⟩ := layer_fits r h2
  have hwN : l.weights.length ≤ maxN := by unfold Layer.tot at hlN; omega
  rw [hsh, show l.size.toNat = Z from by omega, show l.step.toNat = S from by omega]
  simp only [Int.toNat_natCast]
  have m1 : ∀ w : Nat, ∀ h : Nat, ((List.range C').flatMap fun o => [itemN W C xs l Z S h w o]).length ≤ 8 := fun w h => by
    have := flat_len (fun o => [itemN W C xs l Z S h w o]) 1 C' (fun _ _ => Nat.le_refl _); omega
  have m2 : ∀ h : Nat, ((List.range W').flatMap fun w => (List.range C').flatMap fun o => [itemN W C xs l Z S h w o]).length ≤ 64 := fun h => by
    have := flat_len (fun w => (List.range C').flatMap fun o => [itemN W C xs l Z S h w o]) 8 W' (fun w _ => m1 w h); omega
  refine (rapp_loop H' 64 (fun h => (List.range W').flatMap fun w => (List.range C').flatMap fun o => [itemN W C xs l Z S h w o]) [] (fin := fun y => some ((⟨⟨H', W', C'⟩, y⟩ : Tensor), true)) (fun h _ => m2 h) (fun h ys next hi hy => ?_) (fun ys next => ?_) (by omega)).trans (by rw [List.nil_append]; rfl)
  · simp only [I_RunLayer_g0]
    rw [cond_dec, if_pos (by omega), wrapNat1 hi (by omega)]
    refine rapp_loop W' 8 (fun w => (List.range C').flatMap fun o => [itemN W C xs l Z S h w o]) ys (fin := fun y => next (((h + 1 : Nat) : Int), y)) (fun w _ => m1 w h) (fun w zs next2 hj hz2 => ?_) (fun zs next2 => ?_) (by omega)
    · simp only [I_RunLayer_g1]
      rw [cond_dec, if_pos (by omega), wrapNat1 hj (by omega)]
      refine rapp_loop C' 1 (fun o => [itemN W C xs l Z S h w o]) zs (fin := fun y => next2 (((w + 1 : Nat) : Int), y)) (fun _ _ => Nat.le_refl _) (fun o us next3 ho hz3 => ?_) (fun us next3 => ?_) (by omega)
      · simp only [I_RunLayer_g2]
        simp only [List.length_nil] at hy
        have eq := I_item_eq (k := k) r (l := l) hk hwN hz hs (hf h w o hi hj ho)
        rw [cond_dec, if_pos (by omega)]
        refine (congrArg (fun o : Option Int => o.bind _) eq).trans ?_
        rw [bind_some', ble_le (by simp; omega), wrapNat1 ho (by omega)]
      · simp only [I_RunLayer_g2]
        rw [cond_dec, if_neg (by omega)]
    · simp only [I_RunLayer_g1]
      rw [cond_dec, if_neg (by omega)]
  · simp only [I_RunLayer_g0]
    rw [cond_dec, if_neg (by omega)]
end Go.Proofs.Ev
