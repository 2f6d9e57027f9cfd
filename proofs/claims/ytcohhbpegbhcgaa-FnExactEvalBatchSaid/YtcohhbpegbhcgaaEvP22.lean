/- Plain laws: what comes out of a layer. -/
import Derived.Test.YtcohhbpegbhcgaaEvP21
set_option linter.unusedVariables false
set_option linter.unusedSimpArgs false
set_option linter.unusedVariables false
set_option linter.unusedSimpArgs false
namespace Go.Proofs.Ev
theorem flat_len {α : Type} (f : Nat → List α) (m : Nat) : ∀ n, (∀ i, i < n → (f i).length ≤ m) → ((List.range n).flatMap f).length ≤ n * m
  | 0, _ => by simp
  | n + 1, h => by
    have := flat_len f m n fun i hi => h i (by omega)
    have := h n (by omega)
    rw [List.range_succ, List.flatMap_append, List.length_append, Nat.add_mul, show ([n] : List Nat).flatMap f = f n from by simp]
    omega
theorem flat_len' {α : Type} (f : Nat → List α) (m : Nat) : ∀ n, (∀ i, i < n → (f i).length = m) → ((List.range n).flatMap f).length = n * m
  | 0, _ => by simp
  | n + 1, h => by
    have := flat_len' f m n fun i hi => h i (by omega)
    have := h n (by omega)
    rw [List.range_succ, List.flatMap_append, List.length_append, Nat.add_mul, show ([n] : List Nat).flatMap f = f n from by simp]
    omega
theorem flat_get {α : Type} (f : Nat → List α) (q : Nat) : ∀ n, (∀ i, i < n → (f i).length = q) → ∀ a b, a < n → b < q → ((List.range n).flatMap f)[a * q + b]? = (f a)[b]?
  | 0, _, a, b, h, _ => by omega
  | n + 1, h, a, b, ha, hb => by
    have hl := flat_len' f q n fun i hi => h i (by omega)
    rw [List.range_succ, List.flatMap_append]
    have hs : ([n] : List Nat).flatMap f = f n := by simp
    rw [hs]
    by_cases c : a < n
    · have : (a + 1) * q ≤ n * q := Nat.mul_le_mul_right _ (by omega)
      rw [Nat.add_mul] at this
      rw [List.getElem?_append_left (by omega)]
      exact flat_get f q n (fun i hi => h i (by omega)) a b c hb
    · have : a = n := by omega
      subst this
      rw [List.getElem?_append_right (by omega), hl, Nat.add_sub_cancel_left]
theorem rapp_loop {α R : Type} (n m : Nat) (f : Nat → List α) (xs0 : List α) {g : Int × List α → (Int × List α → Option R) → Option R} {fin : List α → Option R} {k : Nat}
    (hf : ∀ i, i < n → (f i).length ≤ m)
    (h : ∀ (i : Nat) ys next, i < n → ys.length ≤ xs0.length + i * m → g ((i : Int), ys) next = next (((i + 1 : Nat) : Int), ys ++ f i))
    (hn : ∀ ys next, g ((n : Int), ys) next = fin ys) (hk : n < k) : iter g k ((0 : Int), xs0) = fin (xs0 ++ (List.range n).flatMap f) := by
  have := iter_run (g := g) (st := fun i => ((i : Int), xs0 ++ (List.range i).flatMap f)) (n := n) (r := fin (xs0 ++ (List.range n).flatMap f)) (fun i hi next => by
    have hl := flat_len f m i fun j hj => hf j (by omega)
    rw [h i _ next hi (by rw [List.length_append]; omega), List.range_succ, List.flatMap_append]
    simp) (fun next => hn _ _) hk
  simpa using this
theorem rfold_loop {β R : Type} (n : Nat) (f : β → Nat → β) (a0 : β) {g : β × Int → (β × Int → Option R) → Option R} {fin : β → Option R} {k : Nat}
    (h : ∀ (i : Nat) a next, i < n → g (a, (i : Int)) next = next (f a i, ((i + 1 : Nat) : Int))) (hn : ∀ a next, g (a, (n : Int)) next = fin a) (hk : n < k) :
    iter g k (a0, (0 : Int)) = fin ((List.range n).foldl f a0) :=
  iter_run (g := g) (st := fun i => ((List.range i).foldl f a0, (i : Int))) (n := n) (r := fin ((List.range n).foldl f a0)) (fun i hi next => by
    rw [h i _ next hi, List.range_succ, List.foldl_append]; rfl) (fun next => hn _ _) hk
theorem fold_congr {β : Type} {f g : β → Nat → β} : ∀ (n : Nat) (a : β), (∀ a i, i < n → f a i = g a i) → (List.range n).foldl f a = (List.range n).foldl g a
  | 0, _, _ => rfl
  | n + 1, a, h => by
    rw [List.range_succ, List.foldl_append, List.foldl_append, fold_congr n a fun a i hi => h a i (by omega)]
    exact h _ n (by omega)
theorem fold_mul {β : Type} (f : β → Nat → β) (q : Nat) : ∀ (m : Nat) (a : β), (List.range (m * q)).foldl f a = (List.range m).foldl (fun a i => (List.range q).foldl (fun a j => f a (i * q + j)) a) a
  | 0, a => by simp
  | m + 1, a => by
    rw [Nat.add_mul, Nat.one_mul, List.range_add, List.foldl_append, fold_mul f q m a, List.range_succ, List.foldl_append, List.foldl_map]
    rfl
theorem wmul {a b : Nat} (h : a * b ≤ 9223372036854775807) : IntKind.i64.wrap ((a : Int) * (b : Int)) = ((a * b : Nat) : Int) := by
  rw [Int.natCast_mul]
  have e : ((a : Int) * (b : Int)) = ((a * b : Nat) : Int) := (Int.natCast_mul a b).symm
  exact wrapI (by omega) (by omega)
theorem wadd {a b : Nat} (h : a + b ≤ 9223372036854775807) : IntKind.i64.wrap ((a : Int) + (b : Int)) = ((a + b : Nat) : Int) := by
  rw [wrapI (by omega) (by omega)]; omega
theorem condT {α : Type} {p : Prop} {i : Decidable p} (h : p) (x y : α) : cond (@decide p i) x y = x := by rw [decide_eq_true h]; rfl
theorem condF {α : Type} {p : Prop} {i : Decidable p} (h : ¬ p) (x y : α) : cond (@decide p i) x y = y := by rw [decide_eq_false h]; rfl
theorem place_lt {H W C h w c : Nat} (h1 : h < H) (h2 : w < W) (h3 : c < C) : (h * W + w) * C + c < H * W * C := by
  have a1 : (h + 1) * W ≤ H * W := Nat.mul_le_mul_right _ h1
  rw [Nat.add_mul] at a1
  have a2 : (h * W + w + 1) * C ≤ H * W * C := Nat.mul_le_mul_right _ (by omega)
  rw [Nat.add_mul] at a2
  omega
/-- A tensor that is right, its sides as natural numbers. -/
structure Right (H W C : Nat) (xs : List Int) : Prop where
  h1 : 1 ≤ H
  h8 : H ≤ 8
  w1 : 1 ≤ W
  w8 : W ≤ 8
  c1 : 1 ≤ C
  c8 : C ≤ 8
  len : xs.length = H * W * C
  mem : ∀ x ∈ xs, -128 ≤ x ∧ x ≤ 127
def tenN (H W C : Nat) (xs : List Int) : Tensor := ⟨⟨H, W, C⟩, xs⟩
theorem Right.cube {H W C : Nat} {xs : List Int} (r : Right H W C xs) : H * W * C ≤ 512 := by
  have a := Nat.mul_le_mul r.h8 r.w8
  have b := Nat.mul_le_mul a r.c8
  omega
theorem Right.sh {H W C : Nat} {xs : List Int} (r : Right H W C xs) : (⟨H, W, C⟩ : Shape).okB = true := by
  obtain ⟨a, b, c, d, e, f, _, _⟩ := r
  simp only [Shape.okB, inB, Bool.and_eq_true, decide_eq_true_eq]; omega
theorem Right.size {H W C : Nat} {xs : List Int} (r : Right H W C xs) : (⟨H, W, C⟩ : Shape).size = ((H * W * C : Nat) : Int) := by
  unfold Shape.size
  rw [r.sh, cond_true, Int.natCast_mul, Int.natCast_mul]
theorem Right.ok {H W C : Nat} {xs : List Int} (r : Right H W C xs) : (tenN H W C xs).okB = true := by
  unfold Tensor.okB tenN
  simp only [r.sh, r.size, r.len, decide_true, Bool.true_and]
  unfold itemsB
  rw [List.all_eq_true]
  intro x hx
  have := r.mem x hx
  rw [inB_spec]; omega
theorem right_of {t : Tensor} (h : t.okB = true) : ∃ H W C : Nat, Right H W C t.data ∧ t = tenN H W C t.data := by
  unfold Tensor.okB at h
  simp only [Bool.and_eq_true, decide_eq_true_eq] at h
  obtain ⟨h1, h2, h3⟩ := h
  have hs := Shape.okB_spec h1
  unfold itemsB at h3
  rw [List.all_eq_true] at h3
  unfold Shape.size at h2
  rw [h1, cond_true] at h2
  obtain ⟨⟨a, b, c⟩, xs⟩ := t
  simp only at hs h2 h3
  refine ⟨a.toNat, b.toNat, c.toNat, ⟨by omega, by omega, by omega, by omega, by omega, by omega, ?_, fun x hx => inB_spec.1 (h3 x hx)⟩, ?_⟩
  · have ea : ((a.toNat : Nat) : Int) = a := by omega
    have eb : ((b.toNat : Nat) : Int) = b := by omega
    have ec : ((c.toNat : Nat) : Int) = c := by omega
    have e : ((a.toNat * b.toNat * c.toNat : Nat) : Int) = a * b * c := by rw [Int.natCast_mul, Int.natCast_mul, ea, eb, ec]
    show xs.length = _
    omega
  · unfold tenN
    congr 2 <;> omega
def atN (W C : Nat) (xs : List Int) (h w c : Nat) : Int := xs.getD ((h * W + w) * C + c) 0
theorem atN_get {H W C : Nat} {xs : List Int} (r : Right H W C xs) {h w c : Nat} (h1 : h < H) (h2 : w < W) (h3 : c < C) : xs[(h * W + w) * C + c]? = some (atN W C xs h w c) := by
  have := place_lt h1 h2 h3
  have hl := r.len
  unfold atN
  rw [getD_of (by omega), getD_get (by omega)]
theorem getD_mem {xs : List Int} {i : Nat} (h : i < xs.length) : xs.getD i 0 ∈ xs := by rw [getD_of h]; exact List.getElem_mem h
theorem atN_bd {H W C : Nat} {xs : List Int} (r : Right H W C xs) {h w c : Nat} (h1 : h < H) (h2 : w < W) (h3 : c < C) : -128 ≤ atN W C xs h w c ∧ atN W C xs h w c ≤ 127 := by
  have := place_lt h1 h2 h3
  have hl := r.len
  exact r.mem _ (getD_mem (by omega))
theorem place_wrap {H W C : Nat} {xs : List Int} (r : Right H W C xs) {h w c : Nat} (h1 : h < H) (h2 : w < W) (h3 : c < C) :
    IntKind.i64.wrap (IntKind.i64.wrap (IntKind.i64.wrap (IntKind.i64.wrap ((h : Int) * (W : Int)) + (w : Int)) * (C : Int)) + (c : Int)) = (((h * W + w) * C + c : Nat) : Int) := by
  have a := place_lt h1 h2 h3
  have b := r.cube
  have d : h * W ≤ H * W := Nat.mul_le_mul_right _ (by omega)
  have e := Nat.mul_le_mul r.h8 r.w8
  rw [wmul (by omega), wadd (by have := r.w8; omega), wmul (by omega), wadd (by omega)]
theorem S_ItemAt_eq {k : Nat} {H W C : Nat} {xs : List Int} (r : Right H W C xs) (hk : 512 < k) {h w c : Nat} (h1 : h < H) (h2 : w < W) (h3 : c < C) : S_ItemAt k (tenN H W C xs) h w c = some (atN W C xs h w c, true) := by
  have hl := r.len
  have hc := r.cube
  have hi : ∀ {a n : Nat}, a < n → n ≤ 8 → inB (a : Int) 0 (IntKind.i64.wrap ((n : Int) - 1)) = true := fun {a n} h h8 => by
    rw [wrapI (by omega) (by omega), inB_spec]; omega
  unfold S_ItemAt S_PlaceOf
  simp only [S_ShapeOk_eq, S_l01In_eq, bind_some']
  rw [S_TensorOk_eq (t := tenN H W C xs) (by show xs.length < k; omega) (by unfold maxL; show xs.length ≤ _; omega), r.ok]
  simp only [tenN, r.sh, hi h1 r.h8, hi h2 r.w8, hi h3 r.c8, Bool.not_true, cond_false, bind_some', place_wrap r h1 h2 h3]
  rw [cond_dec, if_neg (by omega), idx_nat, atN_get r h1 h2 h3, bind_some']
theorem I_place_get {k : Nat} {H W C : Nat} {xs : List Int} (r : Right H W C xs) {h w c : Nat} (h1 : h < H) (h2 : w < W) (h3 : c < C) : I_Shape_place k ⟨H, W, C⟩ h w c = some ((((h * W + w) * C + c : Nat)) : Int) := by
  unfold I_Shape_place
  rw [place_wrap r h1 h2 h3]
/-- A window of Z times Z at a place lies in the tensor. -/
structure Lies (H W Z S h w : Nat) : Prop where
  z1 : 1 ≤ Z
  z3 : Z ≤ 3
  s2 : S ≤ 2
  hh : h * S + Z ≤ H
  ww : w * S + Z ≤ W
def poolN (W C : Nat) (xs : List Int) (Z S h w c : Nat) : List Int :=
  (List.range Z).flatMap fun i => (List.range Z).flatMap fun j => [atN W C xs (h * S + i) (w * S + j) c]
def winN (W C : Nat) (xs : List Int) (Z S h w : Nat) : List Int :=
  (List.range Z).flatMap fun i => (List.range Z).flatMap fun j => (List.range C).map fun c => atN W C xs (h * S + i) (w * S + j) c
theorem poolN_len (W C : Nat) (xs : List Int) (Z S h w c : Nat) : (poolN W C xs Z S h w c).length = Z * (Z * 1) :=
  flat_len' _ _ _ fun i hi => flat_len' _ _ _ fun j hj => rfl
theorem winN_len (W C : Nat) (xs : List Int) (Z S h w : Nat) : (winN W C xs Z S h w).length = Z * (Z * C) :=
  flat_len' _ _ _ fun i hi => flat_len' _ _ _ fun j hj => by simp
theorem S_Pool_eq {k : Nat} {H W C : Nat} {xs : List Int} (r : Right H W C xs) (hk : 512 < k) {l : Layer} {Z S h w c : Nat} (hz : l.size = Z) (hs : l.step = S) (v : Lies H W Z S h w) (hc : c < C) :
    S_l03Pool k (tenN H W C xs) l h w c = some (poolN W C xs Z S h w c) := by
  have hM := maxN_eq
  have hv := v
  obtain ⟨z1, z3, s2, hh, ww⟩ := hv
  have := r.h8
  have := r.w8
  unfold S_l03Pool
  refine (rapp_loop Z 3 (fun i => (List.range Z).flatMap fun j => [atN W C xs (h * S + i) (w * S + j) c]) [] (fin := some) (fun i hi => by
      have := flat_len (fun j => [atN W C xs (h * S + i) (w * S + j) c]) 1 Z (fun _ _ => Nat.le_refl _); omega) (fun i ys next hi hy => ?_) (fun ys next => ?_) (by omega)).trans (by rw [List.nil_append]; rfl)
  · simp only [S_l03Pool_g0, hz, hs]
    rw [cond_dec, if_pos (by omega), wrapNat1 hi (by omega)]
    refine rapp_loop Z 1 (fun j => [atN W C xs (h * S + i) (w * S + j) c]) ys (fin := fun y => next (((i + 1 : Nat) : Int), y)) (fun _ _ => Nat.le_refl _) (fun j zs next2 hj hz2 => ?_) (fun zs next2 => ?_) (by omega)
    · simp only [S_l03Pool_g1, hz, hs]
      have e1 : h * S + i < H := by omega
      have e2 : w * S + j < W := by omega
      have e := S_ItemAt_eq (k := k) r hk e1 e2 hc
      unfold tenN at e
      simp only [List.length_nil] at hy
      rw [cond_dec, if_pos (by omega)]
      simp only [tenN]
      rw [wmul (by omega), wadd (by omega), wmul (by omega), wadd (by omega), e, bind_some', ble_le (by simp; omega), wrapNat1 hj (by omega)]
    · simp only [S_l03Pool_g1]
      rw [cond_dec, if_neg (by omega)]
  · simp only [S_l03Pool_g0]
    rw [cond_dec, if_neg (by omega)]
theorem slice_get {α : Type} {ws : List α} {a q i : Nat} (hi : i < q) : ((ws.take (a + q)).drop a)[i]? = ws[a + i]? := by
  rw [List.getElem?_drop, List.getElem?_take, if_pos (by omega)]
theorem slice_map {ws : List Int} {a q : Nat} (h : a + q ≤ ws.length) : (ws.take (a + q)).drop a = (List.range q).map fun c => ws.getD (a + c) 0 := by
  apply List.ext_getElem?
  intro i
  by_cases c : i < q
  · rw [slice_get c, List.getElem?_map, List.getElem?_range c, Option.map_some, getD_get (by omega), getD_of (by omega)]
  · rw [List.getElem?_eq_none (by simp; omega), List.getElem?_eq_none (by simp; omega)]
theorem I_window_eq {k : Nat} {H W C : Nat} {xs : List Int} (r : Right H W C xs) (hk : 512 < k) {l : Layer} {Z S h w c : Nat} (hz : l.size = Z) (hs : l.step = S) (v : Lies H W Z S h w) (hc : c < C) :
    I_Layer_window k l (tenN H W C xs) h w c = some (poolN W C xs Z S h w c) := by
  have hM := maxN_eq
  have hv := v
  obtain ⟨z1, z3, s2, hh, ww⟩ := hv
  have := r.h8
  have := r.w8
  have := r.c8
  have hcu := r.cube
  have hlen := r.len
  unfold I_Layer_window
  refine (rapp_loop Z 3 (fun i => (List.range Z).flatMap fun j => [atN W C xs (h * S + i) (w * S + j) c]) [] (fin := some) (fun i hi => by
      have := flat_len (fun j => [atN W C xs (h * S + i) (w * S + j) c]) 1 Z (fun _ _ => Nat.le_refl _); omega) (fun i ys next hi hy => ?_) (fun ys next => ?_) (by omega)).trans (by rw [List.nil_append]; rfl)
  · simp only [I_Layer_window_g0, hz, hs]
    rw [cond_dec, if_pos (by omega), wrapNat1 hi (by omega)]
    refine rapp_loop Z 1 (fun j => [atN W C xs (h * S + i) (w * S + j) c]) ys (fin := fun y => next (((i + 1 : Nat) : Int), y)) (fun _ _ => Nat.le_refl _) (fun j zs next2 hj hz2 => ?_) (fun zs next2 => ?_) (by omega)
    · simp only [I_Layer_window_g1, hz, hs]
      have e1 : h * S + i < H := by omega
      have e2 : w * S + j < W := by omega
      have e := I_place_get (k := k) (c := 0) r e1 e2 (by omega)
      have hp := place_lt e1 e2 hc
      simp only [List.length_nil] at hy
      rw [cond_dec, if_pos (by omega)]
      simp only [tenN]
      rw [wmul (by omega), wadd (by omega), wmul (by omega), wadd (by omega)]
      refine (congrArg (fun o : Option Int => o.bind _) e).trans ?_
      rw [bind_some', cond_dec, if_neg (by omega), Nat.add_zero, wadd (by omega), idx_nat, atN_get r e1 e2 hc, bind_some', ble_le (by simp; omega), wrapNat1 hj (by omega)]
    · simp only [I_Layer_window_g1]
      rw [cond_dec, if_neg (by omega)]
  · simp only [I_Layer_window_g0]
    rw [cond_dec, if_neg (by omega)]
theorem I_windows_eq {k : Nat} {H W C : Nat} {xs : List Int} (r : Right H W C xs) (hk : 512 < k) {l : Layer} {Z S h w : Nat} (hz : l.size = Z) (hs : l.step = S) (v : Lies H W Z S h w) :
    I_Layer_window k l (tenN H W C xs) h w (-1) = some (winN W C xs Z S h w) := by
  have hM := maxN_eq
  have hv := v
  obtain ⟨z1, z3, s2, hh, ww⟩ := hv
  have := r.h8
  have := r.w8
  have := r.c8
  have hc1 := r.c1
  have hcu := r.cube
  have hlen := r.len
  unfold I_Layer_window
  refine (rapp_loop Z 24 (fun i => (List.range Z).flatMap fun j => (List.range C).map fun c => atN W C xs (h * S + i) (w * S + j) c) [] (fin := some) (fun i hi => by
      have := flat_len (fun j => (List.range C).map fun c => atN W C xs (h * S + i) (w * S + j) c) 8 Z (fun _ _ => by simp; omega); omega) (fun i ys next hi hy => ?_) (fun ys next => ?_) (by omega)).trans (by rw [List.nil_append]; rfl)
  · simp only [I_Layer_window_g0, hz, hs]
    rw [cond_dec, if_pos (by omega), wrapNat1 hi (by omega)]
    refine rapp_loop Z 8 (fun j => (List.range C).map fun c => atN W C xs (h * S + i) (w * S + j) c) ys (fin := fun y => next (((i + 1 : Nat) : Int), y)) (fun _ _ => by simp; omega) (fun j zs next2 hj hz2 => ?_) (fun zs next2 => ?_) (by omega)
    · simp only [I_Layer_window_g1, hz, hs]
      have e1 : h * S + i < H := by omega
      have e2 : w * S + j < W := by omega
      have e := I_place_get (k := k) (c := 0) r e1 e2 (by omega)
      have hp := place_lt (C := C) (c := C - 1) e1 e2 (by omega)
      simp only [List.length_nil] at hy
      rw [cond_dec, if_pos (by omega)]
      simp only [tenN]
      rw [wmul (by omega), wadd (by omega), wmul (by omega), wadd (by omega)]
      refine (congrArg (fun o : Option Int => o.bind _) e).trans ?_
      have e3 := slice_map (ws := xs) (a := ((h * S + i) * W + (w * S + j)) * C) (q := C) (by omega)
      have ew : IntKind.i64.wrap (((((h * S + i) * W + (w * S + j)) * C : Nat) : Int) + (C : Int)) = ((((h * S + i) * W + (w * S + j)) * C + C : Nat) : Int) := wadd (by omega)
      rw [bind_some', condT (by omega), Nat.add_zero]
      refine (condT (by rw [ew]; omega) _ _).trans ?_
      refine (condT (by rw [ew]; omega) _ _).trans ?_
      rw [ew, Int.toNat_natCast, Int.toNat_natCast, e3, ble_le (by simp; omega), wrapNat1 hj (by omega)]
      rfl
    · simp only [I_Layer_window_g1]
      rw [cond_dec, if_neg (by omega)]
  · simp only [I_Layer_window_g0]
    rw [cond_dec, if_neg (by omega)]
end Go.Proofs.Ev
