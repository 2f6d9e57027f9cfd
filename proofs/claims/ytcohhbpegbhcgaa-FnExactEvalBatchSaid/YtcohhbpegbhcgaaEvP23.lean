/- Plain laws: items of a layer, RunLayer. -/
import Derived.Test.YtcohhbpegbhcgaaEvP22
set_option linter.unusedVariables false
set_option linter.unusedSimpArgs false
set_option linter.unusedVariables false
set_option linter.unusedSimpArgs false
namespace Go.Proofs.Ev
def dotL (xs ws : List Int) : Int := (List.range xs.length).foldl (fun s i => addSat s (sat8 (xs.getD i 0) * sat8 (ws.getD i 0))) 0
theorem prod8 (a b : Int) : IntKind.i64.wrap (sat8 a * sat8 b) = sat8 a * sat8 b := by
  have h1 := sat8_bd a
  have h2 := sat8_bd b
  have := mulAB (A := 128) (B := 128) (x := sat8 a) (y := sat8 b) (by omega) (by omega)
  exact wrapI (by omega) (by omega)
theorem S_DotOf_eq {k : Nat} {xs ws : List Int} (hk : xs.length < k) (hl : ws.length = xs.length) (hN : xs.length ≤ maxN) : S_DotOf k xs ws = some (dotL xs ws) := by
  have hM := maxN_eq
  unfold S_DotOf dotL
  exact rfold_loop xs.length (fun s i => addSat s (sat8 (xs.getD i 0) * sat8 (ws.getD i 0))) 0 (fin := some) (fun i a next hi => by
    simp only [S_DotOf_g0, S_Sat8_eq, S_AddSat_eq]
    rw [cond_dec, if_pos (by omega), cond_dec, if_pos (by omega), idx_nat, getD_get hi, bind_some', bind_some', idx_nat, getD_get (by omega), bind_some', bind_some', bind_some', prod8, wrapNat1 hi (by omega), getD_of hi, getD_of (by omega)]) (fun a next => by
    simp only [S_DotOf_g0]
    rw [cond_dec, if_neg (by omega)]) hk
theorem I_DotOf_eq {k : Nat} {xs ws : List Int} (hk : xs.length < k) (hl : ws.length = xs.length) (hN : xs.length ≤ maxN) : I_DotOf k xs ws = some (dotL xs ws) := by
  have hM := maxN_eq
  unfold I_DotOf dotL
  rw [if_neg (by omega)]
  exact rfold_loop xs.length (fun s i => addSat s (sat8 (xs.getD i 0) * sat8 (ws.getD i 0))) 0 (fin := some) (fun i a next hi => by
    simp only [I_DotOf_g0, I_Sat8_eq, I_AddSat_eq]
    rw [cond_dec, if_pos (by omega), idx_nat, getD_get hi, bind_some', bind_some', idx_nat, getD_get (by omega), bind_some', bind_some', bind_some', prod8, wrapNat1 hi (by omega), getD_of hi, getD_of (by omega)]) (fun a next => by
    simp only [I_DotOf_g0]
    rw [cond_dec, if_neg (by omega)]) hk
def scaledN (l : Layer) (xs : List Int) (o : Nat) : Int :=
  requant (addSat (dotL xs ((l.weights.take (o * xs.length + xs.length)).drop (o * xs.length))) (l.bias.getD o 0)) l.mult l.shift l.zero
theorem I_scaled_eq {k : Nat} {l : Layer} {xs : List Int} {o : Nat} (hk : xs.length < k) (hN : xs.length ≤ maxN) (hw : o * xs.length + xs.length ≤ l.weights.length) (hwN : l.weights.length ≤ maxN) (hb : o < l.bias.length) (ho : o < 8) :
    I_Layer_scaled k l xs o = some (scaledN l xs o) := by
  have hM := maxN_eq
  have e : (o + 1) * xs.length = o * xs.length + xs.length := by rw [Nat.add_mul, Nat.one_mul]
  have e1 : IntKind.i64.wrap (IntKind.i64.wrap ((o : Int) + 1) * (xs.length : Int)) = ((o * xs.length + xs.length : Nat) : Int) := by
    rw [wrapNat1 ho (by omega), wmul (by omega), e]
  have e2 : IntKind.i64.wrap ((o : Int) * (xs.length : Int)) = ((o * xs.length : Nat) : Int) := wmul (by omega)
  unfold I_Layer_scaled scaledN
  rw [e1, e2, cond_dec, if_pos (by omega), cond_dec, if_pos (by omega), Int.toNat_natCast, Int.toNat_natCast, I_DotOf_eq hk (by simp; omega) hN, bind_some', idx_nat, getD_get hb, bind_some', I_AddSat_eq, bind_some', I_Requant_eq, bind_some', getD_of hb]
def greatest : List Int → Int
  | [] => 0
  | x :: xs => xs.foldl (fun m y => if y > m then y else m) x
theorem max_loop {R : Type} {xs : List Int} {x : Int} {g : Int × Int → (Int × Int → Option R) → Option R} {fin : Int → Option R} {k : Nat}
    (h : ∀ (i : Nat) a next (hi : i < xs.length), g (a, ((i + 1 : Nat) : Int)) next = next (if xs[i] > a then xs[i] else a, ((i + 1 + 1 : Nat) : Int))) (hn : ∀ a next, g (a, ((xs.length + 1 : Nat) : Int)) next = fin a) (hk : xs.length < k) :
    iter g k (x, (1 : Int)) = fin (greatest (x :: xs)) := by
  have := iter_run (g := g) (st := fun i => ((xs.take i).foldl (fun m y => if y > m then y else m) x, ((i + 1 : Nat) : Int))) (n := xs.length) (r := fin (greatest (x :: xs))) (fun i hi next => by
    rw [h i _ next hi, take_step hi, List.foldl_append]; rfl) (fun next => by rw [hn, List.take_length]; rfl) hk
  exact this
theorem greatest_mem : ∀ (xs : List Int) (x : Int), greatest (x :: xs) ∈ x :: xs
  | [], x => by simp [greatest]
  | y :: xs, x => by
    show xs.foldl _ (if y > x then y else x) ∈ _
    by_cases c : y > x
    · rw [if_pos c]; exact List.mem_cons_of_mem _ (greatest_mem xs y)
    · rw [if_neg c]
      rcases List.mem_cons.1 (greatest_mem xs x) with h | h
      · have h : xs.foldl (fun m y => if y > m then y else m) x = x := h
        rw [h]; simp
      · exact List.mem_cons_of_mem _ (List.mem_cons_of_mem _ h)
theorem sum_bd8 : ∀ {xs : List Int}, (∀ x ∈ xs, -128 ≤ x ∧ x ≤ 127) → -128 * (xs.length : Int) ≤ xs.sum ∧ xs.sum ≤ 127 * (xs.length : Int)
  | [], _ => by simp
  | x :: xs, h => by
    have h1 := sum_bd8 fun y hy => h y (List.mem_cons_of_mem _ hy)
    have h2 := h x (by simp)
    rw [List.sum_cons, List.length_cons]; omega
theorem sum8_loop {R : Type} {xs : List Int} {g : Int × Int → (Int × Int → Option R) → Option R} {fin : Int → Option R} {k : Nat} (hx : ∀ x ∈ xs, -128 ≤ x ∧ x ≤ 127) (hN : xs.length ≤ maxN)
    (h : ∀ (i : Nat) a next (hi : i < xs.length), g (a, (i : Int)) next = next (IntKind.i64.wrap (a + xs[i]), ((i + 1 : Nat) : Int))) (hn : ∀ a next, g (a, (xs.length : Int)) next = fin a) (hk : xs.length < k) :
    iter g k ((0 : Int), (0 : Int)) = fin xs.sum := by
  have hM := maxN_eq
  have := iter_run (g := g) (st := fun i => ((xs.take i).sum, (i : Int))) (n := xs.length) (r := fin xs.sum) (fun i hi next => by
    have hb := sum_bd8 (xs := xs.take (i + 1)) fun x hm => hx x (List.mem_of_mem_take hm)
    have e : (xs.take (i + 1)).sum = (xs.take i).sum + xs[i] := by rw [take_step hi, List.sum_append]; simp
    rw [e] at hb
    simp only [List.length_take] at hb
    rw [h i _ next hi, e, wrapI (by omega) (by omega)]) (fun next => by rw [hn, List.take_length]) hk
  exact this
def itemN (W C : Nat) (xs : List Int) (l : Layer) (Z S h w o : Nat) : Int :=
  cond (l.kind == 0) (scaledN l xs o) (cond (l.kind == 1) (scaledN l (winN W C xs Z S h w) o)
    (cond (l.kind == 2) (greatest (poolN W C xs Z S h w o)) (cond (l.kind == 3) (roundTo (poolN W C xs Z S h w o).sum ((Z * Z : Nat) : Int))
      (cond (l.kind == 4) (if atN W C xs h w o < l.zero then l.zero else atN W C xs h w o) (xs.getD o 0)))))
/-- What an item of each kind wants. -/
inductive Fits (H W C : Nat) (xs : List Int) (l : Layer) (Z S h w o : Nat) : Prop
  | dense (h0 : l.kind = 0) (hb : o < l.bias.length) (h8 : o < 8) (hw : o * xs.length + xs.length ≤ l.weights.length)
  | conv (h0 : l.kind = 1) (hb : o < l.bias.length) (h8 : o < 8) (hw : o * (Z * (Z * C)) + Z * (Z * C) ≤ l.weights.length) (v : Lies H W Z S h w) (hi : ∀ x ∈ l.weights, -128 ≤ x ∧ x ≤ 127)
  | max (h0 : l.kind = 2) (v : Lies H W Z S h w) (ho : o < C)
  | avg (h0 : l.kind = 3) (v : Lies H W Z S h w) (ho : o < C)
  | relu (h0 : l.kind = 4) (h1 : h < H) (h2 : w < W) (h3 : o < C) (hz : -128 ≤ l.zero ∧ l.zero ≤ 127)
  | flat (h0 : l.kind = 5) (ho : o < xs.length)
theorem pool_mem {H W C : Nat} {xs : List Int} (r : Right H W C xs) {Z S h w o : Nat} (v : Lies H W Z S h w) (ho : o < C) : ∀ x ∈ poolN W C xs Z S h w o, -128 ≤ x ∧ x ≤ 127 := by
  intro x hx
  obtain ⟨z1, z3, s2, hh, ww⟩ := v
  unfold poolN at hx
  rw [List.mem_flatMap] at hx
  obtain ⟨i, hi, hx⟩ := hx
  rw [List.mem_flatMap] at hx
  obtain ⟨j, hj, hx⟩ := hx
  rw [List.mem_range] at hi hj
  rw [List.mem_singleton] at hx
  rw [hx]
  exact atN_bd r (by omega) (by omega) ho
theorem pool_cons {H W C : Nat} {xs : List Int} {Z S h w o : Nat} (v : Lies H W Z S h w) : ∃ x ys, poolN W C xs Z S h w o = x :: ys := by
  have hl := poolN_len W C xs Z S h w o
  have := v.z1
  have hp : 1 ≤ Z * (Z * 1) := by rw [Nat.mul_one]; exact Nat.mul_le_mul this this
  cases hc : poolN W C xs Z S h w o with
  | nil => rw [hc] at hl; simp only [List.length_nil] at hl; omega
  | cons x ys => exact ⟨x, ys, rfl⟩
theorem pool_small {H W C : Nat} {xs : List Int} {Z S h w o : Nat} (v : Lies H W Z S h w) : (poolN W C xs Z S h w o).length = Z * Z ∧ 1 ≤ Z * Z ∧ Z * Z ≤ 9 := by
  have hl := poolN_len W C xs Z S h w o
  rw [Nat.mul_one] at hl
  exact ⟨hl, Nat.mul_le_mul v.z1 v.z1, Nat.mul_le_mul v.z3 v.z3⟩
theorem I_item_eq {k : Nat} {H W C : Nat} {xs : List Int} (r : Right H W C xs) {l : Layer} {Z S h w o : Nat} (hk : 512 < k) (hwN : l.weights.length ≤ maxN) (hz : l.size = Z) (hs : l.step = S) (f : Fits H W C xs l Z S h w o) :
    I_Layer_item k l (tenN H W C xs) h w o = some (itemN W C xs l Z S h w o) := by
  have hM := maxN_eq
  have hcu := r.cube
  have hlen := r.len
  unfold I_Layer_item itemN
  cases f with
  | dense h0 hb h8 hw =>
    rw [h0]
    show (I_Layer_scaled k l xs o).bind _ = _
    rw [I_scaled_eq (by omega) (by omega) hw hwN hb h8]; rfl
  | conv h0 hb h8 hw v hi =>
    have hl := winN_len W C xs Z S h w
    have : Z * (Z * C) ≤ 3 * (3 * 8) := Nat.mul_le_mul v.z3 (Nat.mul_le_mul v.z3 r.c8)
    rw [h0]
    show (I_Layer_window k l (tenN H W C xs) h w (-1)).bind _ = _
    rw [I_windows_eq r hk hz hs v, bind_some', I_scaled_eq (by omega) (by omega) (by rw [hl]; exact hw) hwN hb h8]; rfl
  | max h0 v ho =>
    rw [h0]
    show (I_Layer_window k l (tenN H W C xs) h w o).bind _ = _
    rw [I_window_eq r hk hz hs v ho, bind_some']
    have hl := pool_small (xs := xs) (C := C) (o := o) v
    obtain ⟨x, ys, e⟩ := pool_cons (xs := xs) (C := C) (o := o) v
    rw [e] at hl
    simp only [List.length_cons] at hl
    show (slices_Max_lint_int k (poolN W C xs Z S h w o)).bind _ = some (greatest (poolN W C xs Z S h w o))
    rw [e]
    unfold slices_Max_lint_int
    rw [cond_dec, if_neg (by simp only [List.length_cons]; omega), idx_zero, List.getElem?_cons_zero, bind_some', max_loop (xs := ys) (x := x) (fin := some) (fun i a next hi => by
      simp only [slices_Max_lint_int_g0]
      rw [cond_dec, if_pos (by simp only [List.length_cons]; omega), idx_nat, List.getElem?_cons_succ, getD_get hi, bind_some', wrapNat1 (show i + 1 < ys.length + 1 by omega) (by omega)]) (fun a next => by
      simp only [slices_Max_lint_int_g0]
      rw [cond_dec, if_neg (by simp only [List.length_cons]; omega)]) (by omega)]
    rfl
  | avg h0 v ho =>
    rw [h0]
    show (I_Layer_window k l (tenN H W C xs) h w o).bind _ = _
    rw [I_window_eq r hk hz hs v ho, bind_some']
    have hl := pool_small (xs := xs) (C := C) (o := o) v
    have hm := pool_mem r v ho
    have hb := sum_bd8 hm
    show _ = some (roundTo (poolN W C xs Z S h w o).sum ((Z * Z : Nat) : Int))
    rw [sum8_loop (xs := poolN W C xs Z S h w o) (fin := fun y => (I_rounded k y (IntKind.i64.wrap (l.size * l.size))).bind fun r9 => some r9) hm (by omega) (fun i a next hi => by
      simp only [I_Layer_item_g0]
      rw [cond_dec, if_pos (by omega), cond_dec, if_pos (by omega), Int.toNat_natCast, getD_get hi, bind_some', wrapNat1 hi (by omega)]) (fun a next => by
      simp only [I_Layer_item_g0]
      rw [cond_dec, if_neg (by omega)]) (by omega)]
    rw [hz, wmul (by omega), I_rounded_eq (by omega) (by omega), bind_some']
  | relu h0 h1 h2 h3 hz =>
    simp only [h0, show ((4 : Int) == 0) = false from rfl, show ((4 : Int) == 1) = false from rfl, show ((4 : Int) == 2) = false from rfl, show ((4 : Int) == 3) = false from rfl, beq_self_eq_true, cond_true, cond_false]
    refine (congrArg (fun o : Option Int => o.bind _) (I_place_get (k := k) r h1 h2 h3)).trans ?_
    rw [bind_some']
    show (idx xs _).bind _ = _
    rw [idx_nat, atN_get r h1 h2 h3]
    rfl
  | flat h0 ho =>
    rw [h0]
    show (idx xs (o : Int)).bind _ = _
    rw [idx_nat, getD_get ho]
    show _ = some (xs.getD o 0)
    rw [getD_of ho]; rfl
theorem win_get {W C : Nat} {xs : List Int} {Z S h w i j c : Nat} (hi : i < Z) (hj : j < Z) (hc : c < C) : (winN W C xs Z S h w)[i * (Z * C) + (j * C + c)]? = some (atN W C xs (h * S + i) (w * S + j) c) := by
  have hb : j * C + c < Z * C := by
    have : (j + 1) * C ≤ Z * C := Nat.mul_le_mul_right _ hj
    rw [Nat.add_mul] at this; omega
  unfold winN
  rw [flat_get _ (Z * C) Z (fun i hi => flat_len' _ C Z fun j hj => by simp) i (j * C + c) hi hb, flat_get _ C Z (fun j hj => by simp) j c hj hc, List.getElem?_map, List.getElem?_range hc]
  rfl
theorem conv_index {o Z i j C c : Nat} : ((o * Z + i) * Z + j) * C + c = o * (Z * (Z * C)) + (i * (Z * C) + (j * C + c)) := by
  simp only [Nat.add_mul, Nat.mul_assoc, Nat.add_assoc]
theorem dot_conv {H W C : Nat} {xs : List Int} (r : Right H W C xs) {ws : List Int} (hi : ∀ x ∈ ws, -128 ≤ x ∧ x ≤ 127) {Z S h w o : Nat} (v : Lies H W Z S h w) (hw : o * (Z * (Z * C)) + Z * (Z * C) ≤ ws.length) :
    dotL (winN W C xs Z S h w) ((ws.take (o * (Z * (Z * C)) + Z * (Z * C))).drop (o * (Z * (Z * C)))) =
      (List.range Z).foldl (fun s i => (List.range Z).foldl (fun s j => (List.range C).foldl (fun s c => addSat s (atN W C xs (h * S + i) (w * S + j) c * ws.getD (((o * Z + i) * Z + j) * C + c) 0)) s) s) 0 := by
  obtain ⟨z1, z3, s2, hh, ww⟩ := v
  unfold dotL
  rw [winN_len, fold_mul]
  refine fold_congr Z _ fun s i hi2 => ?_
  rw [fold_mul]
  refine fold_congr Z _ fun s j hj => ?_
  refine fold_congr C _ fun s c hc => ?_
  have hb : j * C + c < Z * C := by
    have : (j + 1) * C ≤ Z * C := Nat.mul_le_mul_right _ hj
    rw [Nat.add_mul] at this; omega
  have hb2 : i * (Z * C) + (j * C + c) < Z * (Z * C) := by
    have : (i + 1) * (Z * C) ≤ Z * (Z * C) := Nat.mul_le_mul_right _ hi2
    rw [Nat.add_mul] at this; omega
  have a1 := atN_bd r (show h * S + i < H by omega) (show w * S + j < W by omega) hc
  have a2 := hi _ (getD_mem (xs := ws) (i := o * (Z * (Z * C)) + (i * (Z * C) + (j * C + c))) (by omega))
  rw [List.getD_eq_getElem?_getD, win_get hi2 hj hc, Option.getD_some, List.getD_eq_getElem?_getD, slice_get hb2, ← List.getD_eq_getElem?_getD, conv_index]
  unfold sat8
  rw [sat_id (by omega) (by omega), sat_id (by omega) (by omega)]
theorem S_item_eq {k : Nat} {H W C : Nat} {xs : List Int} (r : Right H W C xs) {l : Layer} {Z S h w o : Nat} (hk : 512 < k) (hwN : l.weights.length ≤ maxN) (hz : l.size = Z) (hs : l.step = S) (f : Fits H W C xs l Z S h w o) :
    S_l03Item k (tenN H W C xs) l h w o = some (itemN W C xs l Z S h w o) := by
  have hM := maxN_eq
  have hcu := r.cube
  have hlen := r.len
  unfold S_l03Item itemN
  cases f with
  | dense h0 hb h8 hw =>
    rw [h0]
    simp only [beq_self_eq_true, cond_true]
    rw [S_SizeOf_eq, bind_some', show (tenN H W C xs).sh.size = ((xs.length : Nat) : Int) from by rw [hlen]; exact r.size, wmul (by omega), wadd (by omega), cond_dec, if_pos (by omega), cond_dec, if_pos (by omega), Int.toNat_natCast, Int.toNat_natCast,
      show (tenN H W C xs).data = xs from rfl, S_DotOf_eq (by omega) (by simp; omega) (by omega), bind_some', idx_nat, getD_get hb, bind_some', S_AddSat_eq, bind_some', S_Requant_eq, bind_some']
    unfold scaledN
    rw [getD_of hb]
  | conv h0 hb h8 hw v hi =>
    have hl := winN_len W C xs Z S h w
    have hvv := v
    obtain ⟨z1, z3, s2, hh, ww⟩ := hvv
    have := r.h8
    have := r.w8
    have hc8 := r.c8
    have hq : Z * (Z * C) ≤ 3 * (3 * 8) := Nat.mul_le_mul v.z3 (Nat.mul_le_mul v.z3 r.c8)
    rw [h0]
    show iter _ k _ = some (scaledN l (winN W C xs Z S h w) o)
    refine (rfold_loop Z (fun s i => (List.range Z).foldl (fun s j => (List.range C).foldl (fun s c => addSat s (atN W C xs (h * S + i) (w * S + j) c * l.weights.getD (((o * Z + i) * Z + j) * C + c) 0)) s) s) 0
      (fin := fun y => (idx l.bias (o : Int)).bind fun e14 => (S_AddSat k y e14).bind fun r15 => (S_Requant k r15 l.mult l.shift l.zero).bind fun r16 => some r16) (fun i a next hi2 => ?_) (fun a next => ?_) (by omega)).trans ?_
    · simp only [S_l03Item_g0, hz, hs]
      rw [cond_dec, if_pos (by omega), wrapNat1 hi2 (by omega)]
      refine rfold_loop Z (fun s j => (List.range C).foldl (fun s c => addSat s (atN W C xs (h * S + i) (w * S + j) c * l.weights.getD (((o * Z + i) * Z + j) * C + c) 0)) s) a (fin := fun y => next (y, ((i + 1 : Nat) : Int))) (fun j a2 next2 hj => ?_) (fun a2 next2 => ?_) (by omega)
      · simp only [S_l03Item_g1, hz, hs]
        rw [cond_dec, if_pos (by omega), wrapNat1 hj (by omega)]
        refine rfold_loop C (fun s c => addSat s (atN W C xs (h * S + i) (w * S + j) c * l.weights.getD (((o * Z + i) * Z + j) * C + c) 0)) a2 (fin := fun y => next2 (y, ((j + 1 : Nat) : Int))) (fun c a3 next3 hc => ?_) (fun a3 next3 => ?_) (by omega)
        · have e1 : h * S + i < H := by omega
          have e2 : w * S + j < W := by omega
          have e := S_ItemAt_eq (k := k) r hk e1 e2 hc
          have o1 : o * Z ≤ 7 * 3 := Nat.mul_le_mul (by omega) z3
          have o2 : (o * Z + i) * Z ≤ 23 * 3 := Nat.mul_le_mul (by omega) z3
          have o3 : ((o * Z + i) * Z + j) * C ≤ 71 * 8 := Nat.mul_le_mul (by omega) hc8
          have hb : j * C + c < Z * C := by
            have : (j + 1) * C ≤ Z * C := Nat.mul_le_mul_right _ hj
            rw [Nat.add_mul] at this; omega
          have hb2 : i * (Z * C) + (j * C + c) < Z * (Z * C) := by
            have : (i + 1) * (Z * C) ≤ Z * (Z * C) := Nat.mul_le_mul_right _ hi2
            rw [Nat.add_mul] at this; omega
          have hx : ((o * Z + i) * Z + j) * C + c < l.weights.length := by rw [conv_index]; omega
          have a1 := atN_bd r e1 e2 hc
          have a2 := hi _ (getD_mem hx)
          have a3 := mulAB (A := 128) (B := 128) (x := atN W C xs (h * S + i) (w * S + j) c) (y := l.weights.getD (((o * Z + i) * Z + j) * C + c) 0) (by omega) (by omega)
          unfold tenN at e
          simp only [S_l03Item_g2, hz, hs, tenN]
          refine (condT (by omega) _ _).trans ?_
          rw [wmul (a := h) (by omega), wadd (b := i) (by omega), wmul (a := w) (by omega), wadd (b := j) (by omega), e, bind_some', wmul (a := o) (by omega), wadd (b := i) (by omega), wmul (by omega), wadd (b := j) (by omega), wmul (by omega), wadd (b := c) (by omega), idx_nat, getD_get hx, bind_some', ← getD_of hx 0, wrapI (n := atN W C xs (h * S + i) (w * S + j) c * l.weights.getD (((o * Z + i) * Z + j) * C + c) 0) (by omega) (by omega), S_AddSat_eq, bind_some', wrapNat1 hc (by omega)]
        · simp only [S_l03Item_g2, tenN]
          exact condF (by omega) _ _
      · simp only [S_l03Item_g1, hz]
        rw [cond_dec, if_neg (by omega)]
    · simp only [S_l03Item_g0, hz]
      rw [cond_dec, if_neg (by omega)]
    · rw [idx_nat, getD_get hb, bind_some', S_AddSat_eq, bind_some', S_Requant_eq, bind_some']
      unfold scaledN
      rw [hl, dot_conv r hi v hw, getD_of hb]
  | max h0 v ho =>
    rw [h0]
    show (S_l03Pool k (tenN H W C xs) l h w o).bind _ = _
    rw [S_Pool_eq r hk hz hs v ho, bind_some']
    have hl := pool_small (xs := xs) (C := C) (o := o) v
    obtain ⟨x, ys, e⟩ := pool_cons (xs := xs) (C := C) (o := o) v
    rw [e] at hl
    simp only [List.length_cons] at hl
    show _ = some (greatest (poolN W C xs Z S h w o))
    rw [e, cond_dec, if_pos (by simp only [List.length_cons]; omega)]
    show (some x).bind _ = _
    rw [bind_some', max_loop (xs := ys) (x := x) (fin := some) (fun i a next hi => by
      simp only [S_l03Item_g3]
      rw [cond_dec, if_pos (by simp only [List.length_cons]; omega), cond_dec, if_pos (by simp only [List.length_cons]; omega), Int.toNat_natCast, List.getElem?_cons_succ, getD_get hi, bind_some', wrapNat1 (show i + 1 < ys.length + 1 by omega) (by omega)]
      have hlt : 0 ≤ ((i + 1 : Nat) : Int) ∧ ((i + 1 : Nat) : Int) < (((x :: ys).length : Nat) : Int) := by rw [List.length_cons]; omega
      rw [condT hlt, bind_some', cond_dec]
      by_cases c : ys[i] > a
      · rw [if_pos c, if_pos c]
      · rw [if_neg c, if_neg c]) (fun a next => by
      simp only [S_l03Item_g3]
      rw [cond_dec, if_neg (by simp only [List.length_cons]; omega)]) (by omega)]
  | avg h0 v ho =>
    rw [h0]
    show (S_l03Pool k (tenN H W C xs) l h w o).bind _ = _
    rw [S_Pool_eq r hk hz hs v ho, bind_some']
    have hl := pool_small (xs := xs) (C := C) (o := o) v
    have hm := pool_mem r v ho
    have hb := sum_bd8 hm
    show _ = some (roundTo (poolN W C xs Z S h w o).sum ((Z * Z : Nat) : Int))
    rw [sum8_loop (xs := poolN W C xs Z S h w o) (fin := fun y26 => (cond (decide (y26 < (0 : Int))) (cond (decide ((IntKind.i64.wrap ((2 : Int) * ((poolN W C xs Z S h w o).length : Int))) = 0)) none (some (IntKind.i64.wrap (0 - (IntKind.i64.wrap ((IntKind.i64.wrap ((IntKind.i64.wrap ((-2 : Int) * y26)) + ((poolN W C xs Z S h w o).length : Int))).tdiv (IntKind.i64.wrap ((2 : Int) * ((poolN W C xs Z S h w o).length : Int))))))))) (cond (decide ((IntKind.i64.wrap ((2 : Int) * ((poolN W C xs Z S h w o).length : Int))) = 0)) none (some (IntKind.i64.wrap ((IntKind.i64.wrap ((IntKind.i64.wrap ((2 : Int) * y26)) + ((poolN W C xs Z S h w o).length : Int))).tdiv (IntKind.i64.wrap ((2 : Int) * ((poolN W C xs Z S h w o).length : Int))))))))) hm (by omega) (fun i a next hi => by
      simp only [S_l03Item_g4]
      rw [cond_dec, if_pos (by omega), cond_dec, if_pos (by omega), Int.toNat_natCast, getD_get hi, bind_some', wrapNat1 hi (by omega)]) (fun a next => by
      simp only [S_l03Item_g4]
      rw [cond_dec, if_neg (by omega)]) (by omega)]
    rw [hl.1] at hb ⊢
    generalize (poolN W C xs Z S h w o).sum = y at hb ⊢
    obtain ⟨n, hn⟩ : ∃ n : Nat, n = Z * Z := ⟨_, rfl⟩
    rw [← hn] at hb hl ⊢
    unfold roundTo
    rw [wrapI (n := 2 * (n : Int)) (by omega) (by omega), cond_dec]
    by_cases c : y < 0
    · rw [if_pos c, if_pos c, cond_dec, if_neg (by omega), wrapI (n := -2 * y) (by omega) (by omega), wrapI (n := -2 * y + (n : Int)) (by omega) (by omega), Int.tdiv_eq_ediv_of_nonneg (by omega), show 2 * -y + (n : Int) = -2 * y + (n : Int) from by omega]
      have h := div_bd (a := -2 * y + (n : Int)) (b := 2 * (n : Int)) (by omega) (by omega)
      generalize (-2 * y + (n : Int)) / (2 * (n : Int)) = q at h
      rw [wrapI (n := q) (by omega) (by omega), wrapI (by omega) (by omega)]
      congr 1; omega
    · rw [if_neg c, if_neg c, cond_dec, if_neg (by omega), wrapI (n := 2 * y) (by omega) (by omega), wrapI (n := 2 * y + (n : Int)) (by omega) (by omega), Int.tdiv_eq_ediv_of_nonneg (by omega)]
      have h := div_bd (a := 2 * y + (n : Int)) (b := 2 * (n : Int)) (by omega) (by omega)
      rw [wrapI (by omega) (by omega)]
  | relu h0 h1 h2 h3 hz =>
    rw [h0]
    show (S_ItemAt k (tenN H W C xs) h w o).bind _ = _
    rw [S_ItemAt_eq r hk h1 h2 h3, bind_some']
    show cond (decide (atN W C xs h w o < l.zero)) _ _ = some (if atN W C xs h w o < l.zero then l.zero else atN W C xs h w o)
    rw [cond_dec]
    by_cases c : atN W C xs h w o < l.zero
    · rw [if_pos c, if_pos c]
    · rw [if_neg c, if_neg c]
  | flat h0 ho =>
    rw [h0]
    show (idx xs (o : Int)).bind _ = _
    rw [idx_nat, getD_get ho]
    show _ = some (xs.getD o 0)
    rw [getD_of ho]; rfl
end Go.Proofs.Ev
