/- Plain laws: layers, shapes of a model, costs: BatchCost. -/
import Derived.Test.YthaamopjdieecaaEvP5
set_option linter.unusedVariables false
set_option linter.unusedSimpArgs false
set_option linter.unusedVariables false
set_option linter.unusedSimpArgs false
namespace Go.Proofs.Ev
theorem cond_some_r {b c : Bool} : cond b (some c) (some false) = some (b && c) := by cases b <;> rfl
theorem cond_swap {α : Type} {b : Bool} {x y : α} : cond (!b) x y = cond b y x := by cases b <;> rfl
theorem cond_bneD {α : Type} (a b : Int) (x y : α) : cond (a != b) x y = cond (decide (a = b)) y x := by rw [bne_dec]; by_cases h : a = b <;> simp [h]
theorem beqD (a b : Int) : (a == b) = decide (a = b) := beq_dec a b
def numB (l : Layer) : Bool := inB l.out 1 8 && (inB l.mult 0 2147483647 && (inB l.shift 0 31 && (inB l.zero (-128) 127 && (decide ((l.bias.length : Int) = l.out) && (l.bias.all (fun x => inB x (-1000000) 1000000) && itemsB l.weights)))))
def bareB (l : Layer) : Bool := decide (l.out = 0) && (decide (l.mult = 0) && (decide (l.shift = 0) && (decide ((l.weights.length : Int) = 0) && decide ((l.bias.length : Int) = 0))))
def noneB (l : Layer) : Bool := decide (l.size = 0) && decide (l.step = 0)
def winB (s : Shape) (l : Layer) : Bool := inB l.size 1 3 && (inB l.step 1 2 && (decide (l.size ≤ s.h) && decide (l.size ≤ s.w)))
def layerB (s : Shape) (l : Layer) : Bool := s.okB &&
  (cond (decide (l.kind = 0)) (noneB l && (numB l && (decide (s.size ≤ 64) && decide ((l.weights.length : Int) = l.out * s.size))))
  (cond (decide (l.kind = 1)) (winB s l && (numB l && (decide ((l.weights.length : Int) = l.out * l.size * l.size * s.c) && decide ((l.weights.length : Int) ≤ 600))))
  (cond (decide (l.kind = 2) || decide (l.kind = 3)) (winB s l && (bareB l && decide (l.zero = 0)))
  (cond (decide (l.kind = 4)) (noneB l && (bareB l && inB l.zero (-128) 127))
  (cond (decide (l.kind = 5)) (noneB l && (bareB l && (decide (l.zero = 0) && decide (s.size ≤ 8)))) false)))))
def winShape (s : Shape) (l : Layer) (c : Int) : Shape :=
  ⟨IntKind.i64.wrap ((IntKind.i64.wrap ((IntKind.i64.wrap (s.h - l.size)).tdiv l.step)) + 1), IntKind.i64.wrap ((IntKind.i64.wrap ((IntKind.i64.wrap (s.w - l.size)).tdiv l.step)) + 1), c⟩
def shapeOf (s : Shape) (l : Layer) : Shape :=
  cond (decide (l.kind = 0)) ⟨1, 1, l.out⟩ (cond (decide (l.kind = 1)) (winShape s l l.out) (cond (decide (l.kind = 4)) s (cond (decide (l.kind = 5)) ⟨1, 1, s.size⟩ (winShape s l s.c))))
def noShape : Shape := ⟨0, 0, 0⟩
def outShape (s : Shape) (l : Layer) : Shape × Bool := cond (layerB s l) (shapeOf s l, true) (noShape, false)
theorem S_l02Int8_eq (k : Nat) (x : Int) : S_l02Int8 k x = some (inB x (-128) 127) := by unfold S_l02Int8; rw [S_l01In_eq, bind_some']
theorem plain_loops {k : Nat} {l : Layer} (hk : l.tot < k) (hN : l.tot ≤ maxN) (fin : Option Bool) :
    (iter (fun u16 n16 => S_l03Plain_g0 k (l.kind, l.out, l.size, l.step, l.mult, l.shift, l.zero, l.weights, l.bias) u16 n16 (fun y9 => iter (fun u14 n14 => S_l03Plain_g1 k (l.kind, l.out, l.size, l.step, l.mult, l.shift, l.zero, l.weights, l.bias) u14 n14 (fun y12 => fin) (fun y13 => some y13)) k (0 : Int)) (fun y15 => some y15)) k (0 : Int))
      = cond (l.bias.all (fun x => inB x (-1000000) 1000000)) (cond (itemsB l.weights) fin (some false)) (some false) := by
  have hM := maxN_eq
  unfold Layer.tot at hk hN
  rw [all_loop l.bias (fun x => inB x (-1000000) 1000000) (yes := cond (itemsB l.weights) fin (some false)) (no := some false) (fun i hi next => by
    simp only [S_l03Plain_g0]
    rw [cond_dec, if_pos (by omega), idx_nat, getD_get hi, bind_some', S_l01In_eq, bind_some', cond_not, wrapNat1 hi (by omega)]) (fun next => by
    simp only [S_l03Plain_g0]
    rw [cond_dec, if_neg (by omega)]
    exact all_loop l.weights (fun x => inB x (-128) 127) (fun i hi next => by
      simp only [S_l03Plain_g1]
      rw [cond_dec, if_pos (by omega), idx_nat, getD_get hi, bind_some', S_l02Int8_eq, bind_some', cond_not, wrapNat1 hi (by omega)]) (fun next => by
      simp only [S_l03Plain_g1]; rw [cond_dec, if_neg (by omega)]) (by omega)) (by omega)]
def plainB (l : Layer) (window weighs : Bool) : Bool :=
  cond window (inB l.size 1 3 && inB l.step 1 2) (noneB l) && cond weighs (numB l) (bareB l && cond (decide (l.kind = 4)) (inB l.zero (-128) 127) (decide (l.zero = 0)))
theorem len_pos (n : Nat) : decide ((n : Int) > 0) = !decide ((n : Int) = 0) := by
  by_cases h : (n : Int) = 0
  · rw [decide_eq_true h, decide_eq_false (by omega)]; rfl
  · rw [decide_eq_false h, decide_eq_true (by omega)]; rfl
theorem S_l03Plain_eq {k : Nat} {l : Layer} (hk : l.tot < k) (hN : l.tot ≤ maxN) (a b : Bool) : S_l03Plain k l a b = some (plainB l a b) := by
  unfold S_l03Plain plainB numB bareB noneB
  simp only [S_l01In_eq, S_l02Int8_eq, bind_some', cond_swap, cond_bneD, plain_loops hk hN, len_pos, beqD]
  cases a <;> cases b <;> simp only [cond_true, cond_false, cond_some_r] <;> (by_cases h4 : l.kind = 4 <;> simp only [h4, decide_true, decide_false, cond_true, cond_false, cond_some_r, Bool.and_assoc, Bool.and_true])
theorem inB_spec {x a b : Int} : inB x a b = true ↔ a ≤ x ∧ x ≤ b := by unfold inB; simp
theorem winB_spec {s : Shape} {l : Layer} (h : winB s l = true) : 1 ≤ l.size ∧ l.size ≤ 3 ∧ 1 ≤ l.step ∧ l.step ≤ 2 ∧ l.size ≤ s.h ∧ l.size ≤ s.w := by
  simp only [winB, Bool.and_eq_true, inB_spec, decide_eq_true_eq] at h; omega
theorem numB_out {l : Layer} (h : numB l = true) : 1 ≤ l.out ∧ l.out ≤ 8 := by
  simp only [numB, Bool.and_eq_true, inB_spec] at h; omega
theorem prod_wrap {o z c : Int} (h1 : 1 ≤ o) (h2 : o ≤ 8) (h3 : 1 ≤ z) (h4 : z ≤ 3) (h5 : 1 ≤ c) (h6 : c ≤ 8) :
    IntKind.i64.wrap (IntKind.i64.wrap (IntKind.i64.wrap (o * z) * z) * c) = o * z * z * c ∧ IntKind.i64.wrap (o * IntKind.i64.wrap (IntKind.i64.wrap (z * z) * c)) = o * z * z * c := by
  have a1 := mul_bd (show 0 ≤ o by omega) h2 (show 0 ≤ z by omega) h4
  have a2 := mul_bd a1.1 a1.2 (show 0 ≤ z by omega) h4
  have a3 := mul_bd a2.1 a2.2 (show 0 ≤ c by omega) h6
  have b1 := mul_bd (show 0 ≤ z by omega) h4 (show 0 ≤ z by omega) h4
  have b2 := mul_bd b1.1 b1.2 (show 0 ≤ c by omega) h6
  have b3 := mul_bd (show 0 ≤ o by omega) h2 b2.1 b2.2
  refine ⟨?_, ?_⟩
  · rw [wrapI (n := o * z) (by omega) (by omega), wrapI (n := o * z * z) (by omega) (by omega), wrapI (by omega) (by omega)]
  · rw [wrapI (n := z * z) (by omega) (by omega), wrapI (n := z * z * c) (by omega) (by omega), wrapI (by omega) (by omega), ← Int.mul_assoc, ← Int.mul_assoc]
theorem dense_wrap {o : Int} {s : Shape} (h1 : 1 ≤ o) (h2 : o ≤ 8) : IntKind.i64.wrap (o * s.size) = o * s.size := by
  have h := Shape.size_bd s
  have a1 := mul_bd (show 0 ≤ o by omega) h2 h.1 h.2
  exact wrapI (by omega) (by omega)
theorem S_OutShape_eq {k : Nat} {s : Shape} {l : Layer} (hk : l.tot < k) (hN : l.tot ≤ maxN) : S_OutShape k s l = some (outShape s l) := by
  unfold S_OutShape outShape layerB
  simp only [S_ShapeOk_eq, S_l01In_eq, S_SizeOf_eq, S_l03Plain_eq hk hN, bind_some', cond_swap, cond_bneD, beqD]
  cases hs : s.okB
  · rfl
  obtain ⟨c1, c2, c3, c4, c5, c6⟩ := Shape.okB_spec hs
  simp only [cond_true, Bool.true_and]
  by_cases k0 : l.kind = 0
  · have e1 : inB l.kind 0 5 = true := by rw [inB_spec]; omega
    have e2 : inB l.kind 1 3 = false := by rw [← Bool.not_eq_true, inB_spec]; omega
    simp only [k0, e1, e2, cond_true, cond_false, plainB, shapeOf, decide_true]
    simp only [k0] at e1 e2
    simp only [e1, e2, cond_true, cond_false, show decide ((0 : Int) ≤ 1) = true from rfl]
    cases noneB l
    · rfl
    cases hnum : numB l
    · rfl
    obtain ⟨o1, o2⟩ := numB_out hnum
    simp only [dense_wrap o1 o2, Bool.true_and, cond_true]
    by_cases z : s.size ≤ 64
    · rw [decide_eq_true z, decide_eq_false (by omega)]
      cases decide ((l.weights.length : Int) = l.out * s.size) <;> rfl
    · rw [decide_eq_false z, decide_eq_true (by omega)]; rfl
  by_cases k1 : l.kind = 1
  · simp only [k1, plainB, shapeOf, show inB 1 0 5 = true from rfl, show inB 1 1 3 = true from rfl, decide_true, cond_true, cond_false, show decide ((1 : Int) = 0) = false from rfl, show decide ((1 : Int) ≤ 1) = true from rfl]
    unfold winB
    cases hz : inB l.size 1 3
    · rfl
    cases ht : inB l.step 1 2
    · rfl
    rw [inB_spec] at hz ht
    simp only [Bool.true_and, cond_true]
    cases hnum : numB l
    · simp only [cond_false, Bool.false_and, Bool.and_false]; rfl
    obtain ⟨o1, o2⟩ := numB_out hnum
    simp only [cond_true, Bool.true_and, (prod_wrap o1 o2 hz.1 hz.2 c5 c6).1]
    rw [decide_eq_false (show ¬ l.step = 0 by omega)]
    simp only [cond_false]
    by_cases w1 : l.size ≤ s.h
    · rw [decide_eq_true w1, decide_eq_false (show ¬ l.size > s.h by omega)]
      by_cases w2 : l.size ≤ s.w
      · rw [decide_eq_true w2, decide_eq_false (show ¬ l.size > s.w by omega)]
        simp only [cond_false, Bool.true_and]
        cases decide ((l.weights.length : Int) = l.out * l.size * l.size * s.c)
        · rfl
        · by_cases w3 : (l.weights.length : Int) ≤ 600
          · rw [decide_eq_true w3, decide_eq_false (by omega)]; rfl
          · rw [decide_eq_false w3, decide_eq_true (by omega)]; rfl
      · rw [decide_eq_false w2, decide_eq_true (show l.size > s.w by omega)]; rfl
    · rw [decide_eq_false w1, decide_eq_true (show l.size > s.h by omega)]; rfl
  have win : l.kind = 2 ∨ l.kind = 3 → _ := fun h23 => by
    have e1 : inB l.kind 0 5 = true := by rw [inB_spec]; omega
    have e2 : inB l.kind 1 3 = true := by rw [inB_spec]; omega
    have e3 : decide (l.kind ≤ 1) = false := decide_eq_false (by omega)
    have e4 : (decide (l.kind = 2) || decide (l.kind = 3)) = true := by simpa using h23
    have e5 : decide (l.kind = 4) = false := decide_eq_false (by omega)
    have e6 : decide (l.kind = 5) = false := decide_eq_false (by omega)
    exact And.intro e1 (And.intro e2 (And.intro e3 (And.intro e4 (And.intro e5 e6))))
  by_cases h23 : l.kind = 2 ∨ l.kind = 3
  · obtain ⟨e1, e2, e3, e4, e5, e6⟩ := win h23
    simp only [e1, e2, e3, e4, e5, e6, decide_eq_false k0, decide_eq_false k1, plainB, shapeOf, cond_true, cond_false]
    unfold winB
    cases hz : inB l.size 1 3
    · rfl
    cases ht : inB l.step 1 2
    · rfl
    rw [inB_spec] at hz ht
    simp only [Bool.true_and, cond_true]
    rw [decide_eq_false (show ¬ l.step = 0 by omega)]
    cases bareB l
    · simp only [Bool.false_and, Bool.and_false, cond_false]; rfl
    cases decide (l.zero = 0)
    · simp only [Bool.false_and, Bool.and_false, cond_false]; rfl
    simp only [cond_false, cond_true, Bool.and_true, Bool.true_and]
    by_cases w1 : l.size ≤ s.h
    · rw [decide_eq_true w1, decide_eq_false (show ¬ l.size > s.h by omega)]
      by_cases w2 : l.size ≤ s.w
      · rw [decide_eq_true w2, decide_eq_false (show ¬ l.size > s.w by omega)]; rfl
      · rw [decide_eq_false w2, decide_eq_true (show l.size > s.w by omega)]; rfl
    · rw [decide_eq_false w1, decide_eq_true (show l.size > s.h by omega)]; rfl
  have e4 : (decide (l.kind = 2) || decide (l.kind = 3)) = false := by simpa using h23
  by_cases k4 : l.kind = 4
  · simp only [k4, e4, plainB, shapeOf, show inB 4 0 5 = true from rfl, show inB 4 1 3 = false from rfl, decide_true, cond_true, cond_false, show decide ((4 : Int) = 0) = false from rfl, show decide ((4 : Int) = 1) = false from rfl, show decide ((4 : Int) ≤ 1) = false from rfl,
      show (decide ((4 : Int) = 2) || decide ((4 : Int) = 3)) = false from rfl, show decide ((4 : Int) = 5) = false from rfl]
    cases noneB l <;> cases bareB l <;> cases inB l.zero (-128) 127 <;> rfl
  by_cases k5 : l.kind = 5
  · simp only [k5, plainB, shapeOf, show inB 5 0 5 = true from rfl, show inB 5 1 3 = false from rfl, decide_true, cond_true, cond_false, show decide ((5 : Int) = 0) = false from rfl, show decide ((5 : Int) = 1) = false from rfl, show decide ((5 : Int) ≤ 1) = false from rfl,
      show (decide ((5 : Int) = 2) || decide ((5 : Int) = 3)) = false from rfl, show decide ((5 : Int) = 4) = false from rfl]
    by_cases z : s.size ≤ 8
    · rw [decide_eq_true z, decide_eq_false (show ¬ s.size > 8 by omega)]
      cases noneB l <;> cases bareB l <;> cases decide (l.zero = 0) <;> rfl
    · rw [decide_eq_false z, decide_eq_true (show s.size > 8 by omega)]
      cases noneB l <;> cases bareB l <;> cases decide (l.zero = 0) <;> rfl
  · have e1 : inB l.kind 0 5 = false := by rw [← Bool.not_eq_true, inB_spec]; omega
    simp only [e1, e4, decide_eq_false k0, decide_eq_false k1, decide_eq_false k4, decide_eq_false k5, cond_false]; rfl
theorem I_Layer_hasNone_eq (k : Nat) (l : Layer) : I_Layer_hasNone k l = some (noneB l) := by
  unfold I_Layer_hasNone noneB
  simp only [beqD, cond_some_r]
theorem I_Layer_isBare_eq (k : Nat) (l : Layer) : I_Layer_isBare k l = some (bareB l) := by
  unfold I_Layer_isBare bareB
  simp only [beqD, cond_some_r]
theorem I_Layer_isWindow_eq (k : Nat) (s : Shape) (l : Layer) : I_Layer_isWindow k l s = some (winB s l) := by
  unfold I_Layer_isWindow winB
  simp only [I_in_eq, bind_some', cond_some_r]
  congr 1
  rw [Bool.eq_iff_iff]
  simp only [Bool.and_eq_true, inB_spec, decide_eq_true_eq]
  split <;> split <;> constructor <;> intro h <;> omega
theorem scaled_find {k : Nat} {xs : List Int} (hk : xs.length < k) (hx : xs.length ≤ maxL) : slices_ContainsFunc_lint_int__I_Layer_isScaled_c1 k xs = some (!xs.all (fun x => inB x (-1000000) 1000000)) := by
  unfold maxL at hx
  unfold slices_ContainsFunc_lint_int__I_Layer_isScaled_c1 slices_IndexFunc_lint_int__I_Layer_isScaled_c1
  rw [find_loop xs (fun x => !inB x (-1000000) 1000000) (fun i hi next => by
    simp only [slices_IndexFunc_lint_int__I_Layer_isScaled_c1_g0, cond_dec, I_Layer_isScaled_c1, I_in_eq, bind_some']
    rw [if_pos (by omega), idx_nat, getD_get hi, bind_some', wrapNat1 hi (by omega)]) (fun next => by
    simp only [slices_IndexFunc_lint_int__I_Layer_isScaled_c1_g0, cond_dec]; rw [if_neg (by omega)]) hk]
  rw [findIdx_some]
  simp only [bind_some', findIdx_ge]
  rw [List.any_eq_not_all_not]; simp
theorem I_Layer_isScaled_eq {k : Nat} {l : Layer} {n : Int} (hk : l.tot < k) (hN : l.tot ≤ maxN) : I_Layer_isScaled k l n = some (numB l && decide ((l.weights.length : Int) = IntKind.i64.wrap (l.out * n))) := by
  have hM := maxN_eq
  unfold Layer.tot at hk hN
  unfold I_Layer_isScaled numB
  simp only [I_in_eq, bind_some', I_areItems_eq (xs := l.weights) (k := k) (by omega) (by unfold maxL; omega), scaled_find (xs := l.bias) (k := k) (by omega) (by unfold maxL; omega), beqD, Bool.not_not, cond_some_r]
  congr 1
  cases inB l.out 1 8 <;> cases inB l.mult 0 2147483647 <;> cases inB l.shift 0 31 <;> cases inB l.zero (-128) 127 <;> cases decide ((l.weights.length : Int) = IntKind.i64.wrap (l.out * n)) <;> cases itemsB l.weights <;> cases decide ((l.bias.length : Int) = l.out) <;> cases l.bias.all (fun x => inB x (-1000000) 1000000) <;> rfl
theorem I_Layer_windows_eq (k : Nat) {s : Shape} {l : Layer} (c : Int) (h : 1 ≤ l.step) : I_Layer_windows k l s c = some (winShape s l c) := by
  unfold I_Layer_windows winShape
  rw [decide_eq_false (show ¬ l.step = 0 by omega)]; rfl
theorem I_OutShape_eq {k : Nat} {s : Shape} {l : Layer} (hk : l.tot < k) (hN : l.tot ≤ maxN) : I_OutShape k s l = some (outShape s l) := by
  unfold I_OutShape outShape layerB
  simp only [I_ShapeOk_eq, I_in_eq, I_SizeOf_eq, I_Layer_hasNone_eq, I_Layer_isBare_eq, I_Layer_isWindow_eq, I_Layer_isScaled_eq hk hN, bind_some', cond_swap, beqD]
  cases hs : s.okB
  · rfl
  obtain ⟨c1, c2, c3, c4, c5, c6⟩ := Shape.okB_spec hs
  simp only [cond_true, Bool.true_and]
  by_cases k0 : l.kind = 0
  · simp only [k0, shapeOf, decide_true, cond_true]
    cases hnum : numB l
    · cases decide (s.size ≤ 64) <;> cases noneB l <;> rfl
    obtain ⟨o1, o2⟩ := numB_out hnum
    simp only [dense_wrap o1 o2]
    cases decide (s.size ≤ 64) <;> cases noneB l <;> cases decide ((l.weights.length : Int) = l.out * s.size) <;> rfl
  by_cases k1 : l.kind = 1
  · simp only [k1, shapeOf, show decide ((1 : Int) = 0) = false from rfl, decide_true, cond_true, cond_false]
    cases hw : winB s l
    · rfl
    have hw := winB_spec hw
    cases hnum : numB l
    · cases decide ((l.weights.length : Int) ≤ 600) <;> rfl
    obtain ⟨o1, o2⟩ := numB_out hnum
    simp only [(prod_wrap o1 o2 hw.1 hw.2.1 c5 c6).2, I_Layer_windows_eq k _ hw.2.2.1, bind_some']
    cases decide ((l.weights.length : Int) ≤ 600) <;> cases decide ((l.weights.length : Int) = l.out * l.size * l.size * s.c) <;> rfl
  simp only [decide_eq_false k0, decide_eq_false k1, cond_false]
  by_cases k2 : l.kind = 2
  · simp only [k2, shapeOf, decide_true, Bool.true_or, cond_true, cond_false, show decide ((2 : Int) = 0) = false from rfl, show decide ((2 : Int) = 1) = false from rfl, show decide ((2 : Int) = 4) = false from rfl, show decide ((2 : Int) = 5) = false from rfl]
    cases hw : winB s l
    · rfl
    have hw := winB_spec hw
    simp only [I_Layer_windows_eq k _ hw.2.2.1, bind_some']
    cases bareB l <;> cases decide (l.zero = 0) <;> rfl
  by_cases k3 : l.kind = 3
  · simp only [k3, shapeOf, decide_true, Bool.or_true, cond_true, cond_false, show decide ((3 : Int) = 0) = false from rfl, show decide ((3 : Int) = 1) = false from rfl, show decide ((3 : Int) = 2) = false from rfl, show decide ((3 : Int) = 4) = false from rfl, show decide ((3 : Int) = 5) = false from rfl]
    cases hw : winB s l
    · rfl
    have hw := winB_spec hw
    simp only [I_Layer_windows_eq k _ hw.2.2.1, bind_some']
    cases bareB l <;> cases decide (l.zero = 0) <;> rfl
  simp only [decide_eq_false k2, decide_eq_false k3, Bool.or_self, cond_false]
  by_cases k4 : l.kind = 4
  · simp only [k4, shapeOf, decide_true, cond_true, cond_false, show decide ((4 : Int) = 0) = false from rfl, show decide ((4 : Int) = 1) = false from rfl]
    cases noneB l <;> cases bareB l <;> cases inB l.zero (-128) 127 <;> rfl
  by_cases k5 : l.kind = 5
  · simp only [k5, shapeOf, decide_true, cond_true, cond_false, show decide ((5 : Int) = 0) = false from rfl, show decide ((5 : Int) = 1) = false from rfl, show decide ((5 : Int) = 4) = false from rfl]
    cases noneB l <;> cases bareB l <;> cases decide (l.zero = 0) <;> cases decide (s.size ≤ 8) <;> rfl
  simp only [decide_eq_false k4, decide_eq_false k5, cond_false]; rfl
def shapesFrom : Shape → List Layer → Option (List Shape)
  | _, [] => some []
  | s, l :: ls => cond (layerB s l) ((shapesFrom (shapeOf s l) ls).map (shapeOf s l :: ·)) none
theorem shapesFrom_len : ∀ (ls : List Layer) (s : Shape) (t : List Shape), shapesFrom s ls = some t → t.length = ls.length
  | [], s, t, h => by cases h; rfl
  | l :: ls, s, t, h => by
    simp only [shapesFrom] at h
    cases hb : layerB s l <;> simp only [hb, cond_true, cond_false] at h
    · exact nomatch h
    · obtain ⟨t', h1, rfl⟩ := Option.map_eq_some_iff.1 h
      simp [shapesFrom_len ls _ _ h1]
theorem shapes_walk {R : Type} {layers : List Layer} {V : Type} {st : Nat → List Shape → Shape → V} {g : V → (V → Option R) → Option R} {fin : List Shape → Option R} {bad : Option R}
    (h : ∀ (i : Nat) (ys : List Shape) (s : Shape) (hi : i < layers.length) (next : V → Option R), ys.length = i + 1 → ys[i]? = some s → g (st i ys s) next = cond (layerB s layers[i]) (next (st (i + 1) (ys ++ [shapeOf s layers[i]]) (shapeOf s layers[i]))) bad)
    (hn : ∀ ys s next, g (st layers.length ys s) next = fin ys) : ∀ (rest : List Layer) (i : Nat) (ys : List Shape) (s : Shape) (k : Nat), i ≤ layers.length → layers.drop i = rest → ys.length = i + 1 → ys[i]? = some s → rest.length < k →
      iter g k (st i ys s) = (shapesFrom s rest).elim bad fun t => fin (ys ++ t)
  | [], i, ys, s, 0, hle, hd, hl, hs, hk => by omega
  | _ :: _, i, ys, s, 0, hle, hd, hl, hs, hk => by omega
  | [], i, ys, s, k + 1, hle, hd, hl, hs, hk => by
    have h1 := congrArg List.length hd
    simp only [List.length_drop, List.length_nil] at h1
    rw [iter_succ]
    have c : i = layers.length := by omega
    subst c; rw [hn]; simp [shapesFrom]
  | l :: ls, i, ys, s, k + 1, hle, hd, hl, hs, hk => by
    have hi : i < layers.length := by
      have h1 := congrArg List.length hd
      simp only [List.length_drop, List.length_cons] at h1
      omega
    rw [drop_step hi] at hd
    injection hd with h1 h2
    rw [iter_succ, h i ys s hi _ hl hs, h1]
    simp only [shapesFrom]
    cases hb : layerB s l
    · rfl
    · simp only [cond_true]
      rw [shapes_walk h hn ls (i + 1) (ys ++ [shapeOf s l]) (shapeOf s l) k (by omega) h2 (by simp [hl]) (by rw [List.getElem?_append_right (by omega), hl]; simp) (by simpa using hk)]
      cases shapesFrom (shapeOf s l) ls with
      | none => rfl
      | some t => simp
def modelShapes (m : Model) : List Shape × Bool := cond (m.inp.okB && inB (m.layers.length : Int) 1 6) ((shapesFrom m.inp m.layers).elim ([], false) fun t => (m.inp :: t, true)) ([], false)
theorem layer_in {m : Model} {k : Nat} (hk : m.tot < k) (hN : m.tot ≤ maxN) {l : Layer} (h : l ∈ m.layers) : l.tot < k ∧ l.tot ≤ maxN := by
  have := totL_mem Layer.tot h
  unfold Model.tot at hk hN
  omega
theorem layers_len {m : Model} {k : Nat} (hk : m.tot < k) (hN : m.tot ≤ maxN) : m.layers.length < k ∧ m.layers.length ≤ maxN := by
  have := totL_len Layer.tot m.layers
  unfold Model.tot at hk hN
  omega
theorem S_l04Shapes_eq {k : Nat} {m : Model} (hk : m.tot < k) (hN : m.tot ≤ maxN) : S_l04Shapes k m = some (modelShapes m) := by
  have hM := maxN_eq
  obtain ⟨hlk, hlN⟩ := layers_len hk hN
  unfold S_l04Shapes modelShapes
  simp only [S_ShapeOk_eq, S_l01In_eq, bind_some', cond_swap]
  cases m.inp.okB
  · rfl
  cases hlen : inB (m.layers.length : Int) 1 6
  · rfl
  rw [inB_spec] at hlen
  simp only [cond_true, Bool.true_and]
  have := shapes_walk (layers := m.layers) (V := Int × List Shape) (st := fun i ys s => ((i : Int), ys)) (fin := fun y => some (y, true)) (bad := some (([] : List Shape), false))
    (g := fun u next => S_l04Shapes_g0 k (m.inp.h, m.inp.w, m.inp.c, m.layers) u next (fun y6 => some (y6, true)) (fun y7 => some (([] : List Shape), y7))) (fun i ys s hi next hl hs => by
      obtain ⟨a1, a2⟩ := layer_in hk hN (List.getElem_mem hi)
      simp only [S_l04Shapes_g0]
      rw [cond_dec, if_pos (by omega), cond_dec, if_pos (by omega), Int.toNat_natCast, hs, bind_some', idx_nat, getD_get hi, bind_some', S_OutShape_eq a1 a2, bind_some', wrapNat1 hi (by omega), ble_le (by simp; omega)]
      unfold outShape
      cases layerB s m.layers[i] <;> rfl) (fun ys s next => by
      simp only [S_l04Shapes_g0]; rw [cond_dec, if_neg (by omega)]) m.layers 0 [m.inp] m.inp k (by omega) rfl rfl rfl hlk
  refine this.trans ?_
  cases shapesFrom m.inp m.layers <;> rfl
def rawShapes (m : Model) : List Shape × Bool := (shapesFrom m.inp m.layers).elim ([], false) fun t => (m.inp :: t, true)
theorem I_Model_shapes_eq {k : Nat} {m : Model} (hk : m.tot < k) (hN : m.tot < maxN) : I_Model_shapes k m = some (rawShapes m) := by
  have hM := maxN_eq
  obtain ⟨hlk, hlN⟩ := layers_len hk (Nat.le_of_lt hN)
  have hb : m.layers.length + 1 ≤ maxN := by have := totL_len Layer.tot m.layers; unfold Model.tot at hN; omega
  unfold I_Model_shapes rawShapes
  have := shapes_walk (layers := m.layers) (V := Int × List Shape × Int × Int × Int) (st := fun i ys s => ((i : Int), ys, s.h, s.w, s.c)) (fin := fun y => some (y, true)) (bad := some (([] : List Shape), false))
      (g := fun u next => I_Model_shapes_g0 k (m.layers, (m.layers.length : Int)) u next (fun y3 => some (y3, true)) (fun y4 => some (([] : List Shape), y4))) (fun i ys s hi next hl hs => by
        obtain ⟨a1, a2⟩ := layer_in hk (Nat.le_of_lt hN) (List.getElem_mem hi)
        simp only [I_Model_shapes_g0]
        rw [cond_dec, if_pos (by omega), idx_nat, getD_get hi, bind_some', I_OutShape_eq a1 a2, bind_some', wrapNat1 hi (by omega), ble_le (by simp; omega)]
        unfold outShape
        cases layerB s m.layers[i] <;> rfl) (fun ys s next => by
        simp only [I_Model_shapes_g0]; rw [cond_dec, if_neg (by omega)]) m.layers 0 [m.inp] m.inp k (by omega) rfl rfl rfl hlk
  refine this.trans ?_
  cases shapesFrom m.inp m.layers <;> rfl
theorem shapes_bad {s : Shape} {ls : List Layer} (hs : s.okB = false) (hl : ls ≠ []) : shapesFrom s ls = none := by
  cases ls with
  | nil => exact (hl rfl).elim
  | cons l ls => simp [shapesFrom, layerB, hs]
def modelB (m : Model) : Bool := (modelShapes m).2
theorem rawShapes_eq {m : Model} (h : inB (m.layers.length : Int) 1 6 = true) : rawShapes m = modelShapes m := by
  unfold rawShapes modelShapes
  rw [h, Bool.and_true]
  cases hs : m.inp.okB
  · rw [shapes_bad hs (fun e => by rw [e] at h; exact nomatch h)]; rfl
  · rfl
theorem modelB_len {m : Model} (h : inB (m.layers.length : Int) 1 6 = false) : modelB m = false := by
  unfold modelB modelShapes; rw [h, Bool.and_false]; rfl
theorem S_ModelOk_eq {k : Nat} {m : Model} (hk : m.tot < k) (hN : m.tot ≤ maxN) : S_ModelOk k m = some (modelB m) := by
  unfold S_ModelOk
  rw [S_l04Shapes_eq hk hN]; rfl
theorem I_ModelOk_eq {k : Nat} {m : Model} (hk : m.tot < k) (hN : m.tot < maxN) : I_ModelOk k m = some (modelB m) := by
  unfold I_ModelOk
  rw [I_in_eq, bind_some', cond_swap, I_Model_shapes_eq hk hN]
  cases h : inB (m.layers.length : Int) 1 6
  · rw [modelB_len h]; rfl
  · rw [rawShapes_eq h]; rfl
def shapesOf (m : Model) : List Shape := cond (modelB m) (modelShapes m).1 []
theorem I_ShapesOf_eq {k : Nat} {m : Model} (hk : m.tot < k) (hN : m.tot < maxN) : I_ShapesOf k m = some (shapesOf m) := by
  unfold I_ShapesOf shapesOf
  rw [I_ModelOk_eq hk hN, bind_some', cond_swap, I_Model_shapes_eq hk hN]
  cases h : modelB m
  · rfl
  · have : inB (m.layers.length : Int) 1 6 = true := by
      cases h2 : inB (m.layers.length : Int) 1 6
      · rw [modelB_len h2] at h; exact nomatch h
      · rfl
    rw [rawShapes_eq this]; rfl
end Go.Proofs.Ev
