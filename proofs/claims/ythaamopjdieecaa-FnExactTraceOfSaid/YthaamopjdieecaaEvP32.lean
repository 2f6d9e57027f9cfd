/- Plain laws: wide numbers as bytes; PutStep. -/
import Derived.Test.YthaamopjdieecaaEvP15
import Derived.Test.YthaamopjdieecaaEvD12
set_option linter.unusedVariables false
set_option linter.unusedSimpArgs false
set_option linter.unusedVariables false
set_option linter.unusedSimpArgs false
namespace Go.Proofs.Ev
/-- Seven bits a byte, the last byte below 128. -/
def vb : Nat → Nat → List Int
  | 0, u => [(u : Int)]
  | f + 1, u => if 128 ≤ u then ((128 + u % 128 : Nat) : Int) :: vb f (u / 128) else [(u : Int)]
def zig (x : Int) : Nat := if x < 0 then (-2 * x - 1).toNat else (2 * x).toNat
def wide (x : Int) : List Int := vb 6 (zig x)
def wideB (x : Int) : Bool := inB x (-1099511627776) 1099511627775
theorem vb_len : ∀ f u, (vb f u).length ≤ f + 1
  | 0, u => by simp [vb]
  | f + 1, u => by
    simp only [vb]
    split
    · have := vb_len f (u / 128); simp; omega
    · simp
theorem wide_len (x : Int) : (wide x).length ≤ 7 := vb_len 6 _
theorem zig_bd {x : Int} (h : wideB x = true) : zig x < 2199023255552 := by
  have := inB_spec.1 h
  unfold zig; split <;> omega
theorem wrapU8_nat (u : Nat) : IntKind.u8.wrap (u : Int) = ((u % 256 : Nat) : Int) := by
  show (u : Int) % 256 = _
  omega
/-- The program's byte with the sign to go on. -/
theorem or_128 (u : Nat) : IntKind.u8.wrap (((BitVec.ofInt IntKind.u8.bits (IntKind.u8.wrap (u : Int)) ||| BitVec.ofInt IntKind.u8.bits (128 : Int)).toNat : Nat) : Int) = ((128 + u % 128 : Nat) : Int) := by
  have e : (BitVec.ofInt IntKind.u8.bits (IntKind.u8.wrap (u : Int)) ||| BitVec.ofInt IntKind.u8.bits (128 : Int)).toNat = 128 + u % 128 := by
    rw [wrapU8_nat, BitVec.toNat_or, ofInt_nat]
    show u % 256 % 2 ^ 8 ||| 128 = _
    have h1 : u % 256 % 2 ^ 8 = u % 256 := by omega
    rw [h1]
    have h2 : u % 256 = u % 128 + 128 * (u / 128 % 2) := by omega
    have h4 : u / 128 % 2 = 0 ∨ u / 128 % 2 = 1 := by omega
    have h5 := Nat.two_pow_add_eq_or_of_lt (i := 7) (show u % 128 < 2 ^ 7 by omega) 1
    rw [show 2 ^ 7 * 1 = 128 from rfl] at h5
    rcases h4 with h4 | h4
    · rw [h2, h4, Nat.mul_zero, Nat.add_zero, Nat.or_comm, ← h5]
    · rw [h2, h4, Nat.mul_one, Nat.add_comm (u % 128) 128, h5, Nat.or_comm 128, Nat.or_assoc, show (128 ||| 128 : Nat) = 128 from rfl, Nat.or_comm]
  rw [e, wrapU8 (by omega) (by omega)]
theorem spec_128 (u : Nat) : IntKind.u8.wrap (IntKind.i64.wrap ((128 : Int) + ((u : Int).tmod (128 : Int)))) = ((128 + u % 128 : Nat) : Int) := by
  have e : ((u : Int).tmod 128) = ((u % 128 : Nat) : Int) := rfl
  rw [e, wrapI (by omega) (by omega), wrapU8 (by omega) (by omega)]; rfl
section
variable {R : Type}
/-- A loop that lays the bytes of a number. -/
theorem vb_loop {g : Int × List Int → (Int × List Int → Option R) → Option R} {F : List Int → Option R} {L : Nat}
    (hgo : ∀ (u : Nat) (out : List Int) (next : Int × List Int → Option R), 128 ≤ u → u < 2 ^ 62 → out.length ≤ L → g ((u : Int), out) next = next (((u / 128 : Nat) : Int), out ++ [((128 + u % 128 : Nat) : Int)]))
    (hend : ∀ (u : Nat) (out : List Int) (next : Int × List Int → Option R), u < 128 → out.length ≤ L → g ((u : Int), out) next = F (out ++ [(u : Int)])) :
    ∀ (f u k : Nat) (out : List Int), u < 2 ^ (7 * (f + 1)) → u < 2 ^ 62 → out.length + f ≤ L → f < k → iter g k ((u : Int), out) = F (out ++ vb f u)
  | f, u, 0, _, _, _, _, hk => by omega
  | 0, u, k + 1, out, hu, _, hl, _ => by
    rw [iter_succ]
    exact hend u out _ (by simpa using hu) (by omega)
  | f + 1, u, k + 1, out, hu, hu2, hl, hk => by
    rw [iter_succ]
    simp only [vb]
    by_cases c : 128 ≤ u
    · rw [if_pos c, hgo u out _ c hu2 (by omega)]
      have hd : u / 128 < 2 ^ (7 * (f + 1)) := by
        rw [show 7 * (f + 1 + 1) = 7 * (f + 1) + 7 from by omega, Nat.pow_add] at hu
        exact Nat.div_lt_of_lt_mul (by omega)
      rw [vb_loop hgo hend f (u / 128) k _ hd (by omega) (by simp; omega) (by omega)]
      rw [List.append_assoc]; rfl
    · rw [if_neg c]
      exact hend u out _ (by omega) (by omega)
end
theorem S_PutWide_eq {k : Nat} {x : Int} (hk : 6 < k) : S_PutWide k x = some (cond (wideB x) (wide x) []) := by
  have hM := maxN_eq
  unfold S_PutWide
  rw [S_l01In_eq, bind_some']
  show cond (!wideB x) _ _ = _
  cases h : wideB x
  · rfl
  simp only [Bool.not_true, cond_false, cond_true]
  have hx := inB_spec.1 h
  have hz := zig_bd h
  have run : ∀ (u : Nat), u < 2199023255552 → iter (fun u3 n3 => S_PutWide_g0 k () u3 n3 (fun y2 => cond (Nat.ble (y2.2.length + [(IntKind.u8.wrap (y2.1))].length) maxN) (some (y2.2 ++ [(IntKind.u8.wrap (y2.1))])) none)) k ((u : Int), ([] : List Int)) = some (vb 6 u) := fun u hu => by
    refine (vb_loop (F := some) (L := 100) (fun u out next hu1 hu2 ho => ?_) (fun u out next hu1 ho => ?_) 6 u k [] (by omega) (by omega) (by simp) hk)
    · simp only [S_PutWide_g0]
      have e2 : (u : Int).tdiv 128 = ((u / 128 : Nat) : Int) := rfl
      rw [cond_dec, if_pos (by omega), spec_128, ble_le (by simp; omega), e2, wrapI (by omega) (by omega)]
    · simp only [S_PutWide_g0]
      rw [cond_dec, if_neg (by omega), ble_le (by simp; omega), wrapU8 (by omega) (by omega)]
  unfold wide zig at *
  by_cases c : x < 0
  · rw [cond_dec, if_pos c]
    rw [if_pos c] at hz ⊢
    rw [wrapI (n := -2 * x) (by omega) (by omega), wrapI (n := -2 * x - 1) (by omega) (by omega)]
    have := run (-2 * x - 1).toNat (by omega)
    rw [show (((-2 * x - 1).toNat : Nat) : Int) = -2 * x - 1 from by omega] at this
    exact this
  · rw [cond_dec, if_neg c]
    rw [if_neg c] at hz ⊢
    rw [wrapI (n := 2 * x) (by omega) (by omega)]
    have := run (2 * x).toNat (by omega)
    rw [show (((2 * x).toNat : Nat) : Int) = 2 * x from by omega] at this
    exact this
/-- Wide numbers, one behind the other. -/
def wides (xs : List Int) : List Int := xs.flatMap wide
theorem wides_len : ∀ xs : List Int, (wides xs).length ≤ 7 * xs.length
  | [] => by simp [wides]
  | x :: l => by
    have h1 := wides_len l
    have h2 := wide_len x
    unfold wides at *
    rw [List.flatMap_cons, List.length_append, List.length_cons]; omega
theorem wides_app (xs ys : List Int) : wides (xs ++ ys) = wides xs ++ wides ys := List.flatMap_append
section
variable {R : Type}
/-- A loop that lays lists behind each other. -/
theorem wides_loop {xs out0 : List Int} {g : Int × List Int → (Int × List Int → Option R) → Option R} {F : List Int → Option R}
    (h : ∀ (i : Nat) (out : List Int) (hi : i < xs.length) (next : Int × List Int → Option R), out.length ≤ out0.length + 7 * i → g ((i : Int), out) next = next (((i + 1 : Nat) : Int), out ++ wide xs[i]))
    (hn : ∀ (out : List Int) (next : Int × List Int → Option R), out.length ≤ out0.length + 7 * xs.length → g ((xs.length : Int), out) next = F out) {k : Nat} (hk : xs.length < k) : iter g k (0, out0) = F (out0 ++ wides xs) := by
  have hl : ∀ i, i ≤ xs.length → (out0 ++ wides (xs.take i)).length ≤ out0.length + 7 * i := fun i hi => by
    have := wides_len (xs.take i)
    rw [List.length_take, Nat.min_eq_left hi] at this
    rw [List.length_append]; omega
  have := iter_run (g := g) (st := fun i => ((i : Int), out0 ++ wides (xs.take i))) (n := xs.length) (r := F (out0 ++ wides xs)) (fun i hi next => by
    rw [h i _ hi next (hl i (by omega)), take_step hi, wides_app, List.append_assoc]
    simp [wides]) (fun next => by
    have := hl xs.length (Nat.le_refl _)
    rw [List.take_length] at this
    simp only [List.take_length]
    exact hn _ next this) hk
  simpa [wides] using this
end
theorem put_loop {R : Type} {xs out0 : List Int} {g : Int × List Int → (Int × List Int → Option R) → Option R} {F : List Int → Option R} (hN : out0.length + xs.length ≤ maxN)
    (h : ∀ (i : Nat) (out : List Int) (hi : i < xs.length) (next : Int × List Int → Option R), out.length + 1 ≤ maxN → g ((i : Int), out) next = next (((i + 1 : Nat) : Int), out ++ [xs[i]]))
    (hn : ∀ (out : List Int) (next : Int × List Int → Option R), g ((xs.length : Int), out) next = F out) {k : Nat} (hk : xs.length < k) : iter g k (0, out0) = F (out0 ++ xs) := by
  have := iter_run (g := g) (st := fun i => ((i : Int), out0 ++ xs.take i)) (n := xs.length) (r := F (out0 ++ xs)) (fun i hi next => by
    rw [h i _ hi next (by rw [List.length_append, List.length_take, Nat.min_eq_left (by omega)]; omega), take_step hi, List.append_assoc]) (fun next => by
    simp only [List.take_length]; exact hn _ next) hk
  simpa using this
theorem S_l05Put_m2_eq {k : Nat} {xs : List Int} (hk : xs.length + 7 < k) (hN : 7 * xs.length + 7 ≤ maxN) (hw : xs.all wideB = true) : S_l05Put_m2 k xs = some (wides xs) := by
  have hM := maxN_eq
  unfold S_l05Put_m2
  refine (wides_loop (xs := xs) (out0 := []) (F := some) (fun i out hi next hl => ?_) (fun out next _ => ?_) (by omega)).trans (by simp)
  · simp only [S_l05Put_m2_g0]
    rw [cond_dec, if_pos (by omega), cond_dec, if_pos (by omega), show (i : Int).toNat = i from rfl, getD_get hi, bind_some', S_PutWide_eq (by omega), bind_some', List.all_eq_true.1 hw _ (List.getElem_mem hi), cond_true]
    have h7 := wide_len xs[i]
    refine put_loop (F := fun o => next (IntKind.i64.wrap ((i : Int) + 1), o)) (xs := wide xs[i]) (out0 := out) (by simp at hl; omega) (fun j o hj nx ho => ?_) (fun o nx => ?_) (by omega) |>.trans ?_
    · simp only [S_l05Put_m2_g1]
      rw [cond_dec, if_pos (by omega), cond_dec, if_pos (by omega), show (j : Int).toNat = j from rfl, getD_get hj, bind_some', ble_le (by simp; omega), wrapNat1 hj (by omega)]
    · simp only [S_l05Put_m2_g1]
      rw [cond_dec, if_neg (by omega)]
    · rw [wrapNat1 hi (by omega)]
  · simp only [S_l05Put_m2_g0]
    rw [cond_dec, if_neg (by omega)]
theorem S_l05Put_m3_eq {k : Nat} {a xs : List Int} (hk : xs.length + 7 < k) (hN : a.length + 7 * xs.length + 7 ≤ maxN) (hw : xs.all wideB = true) : S_l05Put_m3 k a xs = some (a ++ wides xs) := by
  have hM := maxN_eq
  unfold S_l05Put_m3
  refine (wides_loop (xs := xs) (out0 := a) (F := some) (fun i out hi next hl => ?_) (fun out next _ => ?_) (by omega))
  · simp only [S_l05Put_m3_g0]
    rw [cond_dec, if_pos (by omega), cond_dec, if_pos (by omega), show (i : Int).toNat = i from rfl, getD_get hi, bind_some', S_PutWide_eq (by omega), bind_some', List.all_eq_true.1 hw _ (List.getElem_mem hi), cond_true]
    have h7 := wide_len xs[i]
    refine put_loop (F := fun o => next (IntKind.i64.wrap ((i : Int) + 1), o)) (xs := wide xs[i]) (out0 := out) (by omega) (fun j o hj nx ho => ?_) (fun o nx => ?_) (by omega) |>.trans ?_
    · simp only [S_l05Put_m3_g1]
      rw [cond_dec, if_pos (by omega), cond_dec, if_pos (by omega), show (j : Int).toNat = j from rfl, getD_get hj, bind_some', ble_le (by simp; omega), wrapNat1 hj (by omega)]
    · simp only [S_l05Put_m3_g1]
      rw [cond_dec, if_neg (by omega)]
    · rw [wrapNat1 hi (by omega)]
  · simp only [S_l05Put_m3_g0]
    rw [cond_dec, if_neg (by omega)]; rfl
theorem S_l05Put_m4_eq {k : Nat} {a xs : List Int} (hk : xs.length + 7 < k) (hN : a.length + 7 * xs.length + 7 ≤ maxN) (hw : xs.all wideB = true) : S_l05Put_m4 k a xs = some (a ++ wides xs) := by
  have hM := maxN_eq
  unfold S_l05Put_m4
  refine (wides_loop (xs := xs) (out0 := a) (F := some) (fun i out hi next hl => ?_) (fun out next _ => ?_) (by omega))
  · simp only [S_l05Put_m4_g0]
    rw [cond_dec, if_pos (by omega), idx_nat, getD_get hi, bind_some', S_PutWide_eq (by omega), bind_some', List.all_eq_true.1 hw _ (List.getElem_mem hi), cond_true]
    have h7 := wide_len xs[i]
    refine put_loop (F := fun o => next (IntKind.i64.wrap ((i : Int) + 1), o)) (xs := wide xs[i]) (out0 := out) (by omega) (fun j o hj nx ho => ?_) (fun o nx => ?_) (by omega) |>.trans ?_
    · simp only [S_l05Put_m4_g1]
      rw [cond_dec, if_pos (by omega), cond_dec, if_pos (by omega), show (j : Int).toNat = j from rfl, getD_get hj, bind_some', ble_le (by simp; omega), wrapNat1 hj (by omega)]
    · simp only [S_l05Put_m4_g1]
      rw [cond_dec, if_neg (by omega)]
    · rw [wrapNat1 hi (by omega)]
  · simp only [S_l05Put_m4_g0]
    rw [cond_dec, if_neg (by omega)]
theorem I_put_run {R : Type} {x : Int} (hw : wideB x = true) {out : List Int} (hl : out.length + 7 ≤ maxN) {k : Nat} (hk : 6 < k) {g : Int × List Int → (Int × List Int → Option R) → Option R} {F : List Int → Option R}
    (hg : ∀ (v : Int × List Int) (next : Int × List Int → Option R), g v next = cond (decide (v.1 > (127 : Int))) (cond (Nat.ble (v.2.length + [(IntKind.u8.wrap (((BitVec.ofInt IntKind.u8.bits (IntKind.u8.wrap (v.1)) ||| BitVec.ofInt IntKind.u8.bits (128 : Int)).toNat : Int)))].length) maxN) (next (v.1.fdiv (2 ^ (min (7 : Int).toNat IntKind.i64.bits)), v.2 ++ [(IntKind.u8.wrap (((BitVec.ofInt IntKind.u8.bits (IntKind.u8.wrap (v.1)) ||| BitVec.ofInt IntKind.u8.bits (128 : Int)).toNat : Int)))])) none)
      (cond (Nat.ble (v.2.length + [(IntKind.u8.wrap (v.1))].length) maxN) (F (v.2 ++ [(IntKind.u8.wrap (v.1))])) none)) :
    cond (decide (x < (0 : Int))) (iter g k (IntKind.i64.wrap ((IntKind.i64.wrap ((-2 : Int) * x)) - (1 : Int)), out)) (iter g k (IntKind.i64.wrap ((2 : Int) * x), out)) = F (out ++ wide x) := by
  have hx := inB_spec.1 hw
  have hz := zig_bd hw
  have run : ∀ (u : Nat), u < 2199023255552 → iter g k ((u : Int), out) = F (out ++ vb 6 u) := fun u hu => by
    refine (vb_loop (F := F) (L := out.length + 6) (fun u o next hu1 hu2 ho => ?_) (fun u o next hu1 ho => ?_) 6 u k out (by omega) (by omega) (by omega) hk)
    · rw [hg]
      have e2 : (u : Int).fdiv (2 ^ (min (7 : Int).toNat IntKind.i64.bits)) = ((u / 128 : Nat) : Int) := by
        show (u : Int).fdiv 128 = _
        rw [Int.fdiv_eq_ediv_of_nonneg _ (by omega)]; rfl
      simp only
      rw [cond_dec, if_pos (by omega), or_128, ble_le (by simp; omega), e2]
    · rw [hg]
      simp only
      rw [cond_dec, if_neg (by omega), ble_le (by simp; omega), wrapU8 (by omega) (by omega)]
  unfold wide zig at *
  by_cases c : x < 0
  · rw [cond_dec, if_pos c]
    rw [if_pos c] at hz ⊢
    rw [wrapI (n := -2 * x) (by omega) (by omega), wrapI (n := -2 * x - 1) (by omega) (by omega)]
    have := run (-2 * x - 1).toNat (by omega)
    rw [show (((-2 * x - 1).toNat : Nat) : Int) = -2 * x - 1 from by omega] at this
    exact this
  · rw [cond_dec, if_neg c]
    rw [if_neg c] at hz ⊢
    rw [wrapI (n := 2 * x) (by omega) (by omega)]
    have := run (2 * x).toNat (by omega)
    rw [show (((2 * x).toNat : Nat) : Int) = 2 * x from by omega] at this
    exact this
theorem I_putWide_m5_eq {k : Nat} {a xs : List Int} (hk : xs.length + 7 < k) (hN : a.length + 7 * xs.length + 7 ≤ maxN) (hw : xs.all wideB = true) : I_putWide_m5 k a xs = some (a ++ wides xs) := by
  have hM := maxN_eq
  unfold I_putWide_m5
  refine (wides_loop (xs := xs) (out0 := a) (F := some) (fun i out hi next hl => ?_) (fun out next _ => ?_) (by omega))
  · simp only [I_putWide_m5_g0]
    rw [cond_dec, if_pos (by omega), idx_nat, getD_get hi, bind_some']
    refine (I_put_run (F := fun o => next (IntKind.i64.wrap ((i : Int) + 1), o)) (List.all_eq_true.1 hw _ (List.getElem_mem hi)) (by omega) (by omega) (fun v nx => rfl)).trans ?_
    rw [wrapNat1 hi (by omega)]
  · simp only [I_putWide_m5_g0]
    rw [cond_dec, if_neg (by omega)]
theorem I_putWide_m4_eq {k : Nat} {xs : List Int} (hk : xs.length + 7 < k) (hN : 7 * xs.length + 7 ≤ maxN) (hw : xs.all wideB = true) : I_putWide_m4 k xs = some (wides xs) := by
  have := I_putWide_m5_eq (a := []) hk (by simpa using hN) hw
  rw [List.nil_append] at this
  exact this
theorem S_l01Join_eq {k : Nat} {a b : List Int} (hk : a.length + b.length < k) (hN : a.length + b.length ≤ maxN) : S_l01Join k a b = some (a ++ b) := by
  have hM := maxN_eq
  unfold S_l01Join
  rw [S_l01Bytes_eq (by omega) (by omega), bind_some']
  refine put_loop (xs := b) (out0 := a) (F := some) hN (fun j o hj nx ho => ?_) (fun o nx => ?_) (by omega)
  · simp only [S_l01Join_g0]
    rw [cond_dec, if_pos (by omega), idx_nat, getD_get hj, bind_some', ble_le (by simp; omega), wrapNat1 hj (by omega)]
  · simp only [S_l01Join_g0]
    rw [cond_dec, if_neg (by omega)]
def putB (x : Step) : Bool := decide ((x.data.length : Int) ≤ 6000) && (decide ((x.input.data.length : Int) ≤ 512) && ([x.kind, x.a, x.b].all wideB && ([x.input.sh.h, x.input.sh.w, x.input.sh.c].all wideB && x.input.data.all wideB)))
def putBytes (x : Step) : List Int := wides [x.kind, x.a, x.b, (x.data.length : Int)] ++ x.data ++ wides ([x.input.sh.h, x.input.sh.w, x.input.sh.c, (x.input.data.length : Int)] ++ x.input.data)
def putS (x : Step) : List Int × Bool := cond (putB x) (putBytes x, true) ([], false)
theorem put_len {x : Step} (h : putB x = true) : (putBytes x).length ≤ 10000 := by
  unfold putB at h
  simp only [Bool.and_eq_true, decide_eq_true_eq] at h
  have h1 := wides_len [x.kind, x.a, x.b, (x.data.length : Int)]
  have h2 := wides_len ([x.input.sh.h, x.input.sh.w, x.input.sh.c, (x.input.data.length : Int)] ++ x.input.data)
  simp only [List.length_append, List.length_cons, List.length_nil] at h1 h2
  unfold putBytes
  rw [List.length_append, List.length_append]; omega
theorem S_l14Wide_eq (k : Nat) (x : Int) : S_l14Wide k x = some (wideB x) := by
  unfold S_l14Wide; rw [S_l01In_eq]; rfl
theorem narrow_find {k : Nat} {xs : List Int} (hk : xs.length < k) (hx : xs.length ≤ maxN) : slices_ContainsFunc_lint_int__I_PutStep_c1 k xs = some (!xs.all wideB) := by
  have hM := maxN_eq
  show _ = some (!xs.all fun x => inB x (-1099511627776) 1099511627775)
  unfold slices_ContainsFunc_lint_int__I_PutStep_c1 slices_IndexFunc_lint_int__I_PutStep_c1
  rw [find_loop xs (fun x => !inB x (-1099511627776) 1099511627775) (fun i hi next => by
    simp only [slices_IndexFunc_lint_int__I_PutStep_c1_g0, cond_dec, I_PutStep_c1, I_isWide_eq, bind_some']
    rw [if_pos (by omega), idx_nat, getD_get hi, bind_some', wrapNat1 hi (by omega)]) (fun next => by
    simp only [slices_IndexFunc_lint_int__I_PutStep_c1_g0, cond_dec]; rw [if_neg (by omega)]) hk]
  rw [findIdx_some]
  simp only [bind_some', findIdx_ge]
  rw [List.any_eq_not_all_not]; simp
theorem wideB_small {n : Nat} (h : n ≤ 20000) : wideB (n : Int) = true := inB_spec.2 (by omega)
theorem I_PutStep_eq {k : Nat} {x : Step} (hk : x.tot + 20 < k) (hN : 7 * x.tot + 100 ≤ maxN) : I_PutStep k x = some (putS x) := by
  have hM := maxN_eq
  have ht : x.tot = x.data.length + (x.input.data.length + 0 + 0) := rfl
  unfold I_PutStep
  rw [ble_le (by simp; omega), cond_dec]
  by_cases c1 : (x.data.length : Int) > 6000
  · rw [if_pos c1]; unfold putS putB; rw [decide_eq_false (show ¬ (x.data.length : Int) ≤ 6000 by omega)]; rfl
  rw [if_neg c1, cond_dec]
  by_cases c2 : (x.input.data.length : Int) > 512
  · rw [if_pos c2]; unfold putS putB; rw [decide_eq_false (show ¬ (x.input.data.length : Int) ≤ 512 by omega), Bool.false_and, Bool.and_false]; rfl
  rw [if_neg c2, narrow_find (by simp; omega) (by simp; omega), bind_some', narrow_find (by simp; omega) (by simp; omega), bind_some']
  have e1 : [x.kind, x.a, x.b, (x.data.length : Int)].all wideB = [x.kind, x.a, x.b].all wideB := by
    simp [wideB_small (n := x.data.length) (by omega)]
  have e2 : ([x.input.sh.h, x.input.sh.w, x.input.sh.c, (x.input.data.length : Int)] ++ x.input.data).all wideB = ([x.input.sh.h, x.input.sh.w, x.input.sh.c].all wideB && x.input.data.all wideB) := by
    rw [List.all_append]; simp [wideB_small (n := x.input.data.length) (by omega)]
  have d1 : decide ((x.data.length : Int) ≤ 6000) = true := decide_eq_true (by omega)
  have d2 : decide ((x.input.data.length : Int) ≤ 512) = true := decide_eq_true (by omega)
  cases h1 : [x.kind, x.a, x.b].all wideB
  · rw [e1, h1]; unfold putS putB; rw [d1, d2, h1]; rfl
  cases h2 : ([x.input.sh.h, x.input.sh.w, x.input.sh.c].all wideB && x.input.data.all wideB)
  · rw [e1, h1, e2, h2]; unfold putS putB; rw [d1, d2, h1, h2]; rfl
  have w1 := wides_len [x.kind, x.a, x.b, (x.data.length : Int)]
  simp only [List.length_cons, List.length_nil] at w1
  rw [I_putWide_m4_eq (by simp; omega) (by simp; omega) (by rw [e1, h1]), bind_some', ble_le (by omega)]
  rw [I_putWide_m5_eq (by simp; omega) (by simp; omega) (by rw [e2, h2]), bind_some', e1, h1, e2, h2]
  unfold putS putB; rw [d1, d2, h1, h2]; rfl
theorem S_PutStep_eq {k : Nat} {x : Step} (hk : x.tot + 8000 < k) (hN : 7 * x.tot + 100 ≤ maxN) : S_PutStep k x = some (putS x) := by
  have hM := maxN_eq
  have ht : x.tot = x.data.length + (x.input.data.length + 0 + 0) := rfl
  unfold S_PutStep
  rw [cond_dec]
  by_cases c1 : (x.data.length : Int) > 6000
  · rw [if_pos c1]; unfold putS putB; rw [decide_eq_false (show ¬ (x.data.length : Int) ≤ 6000 by omega)]; rfl
  rw [if_neg c1, cond_dec]
  by_cases c2 : (x.input.data.length : Int) > 512
  · rw [if_pos c2]; unfold putS putB; rw [decide_eq_false (show ¬ (x.input.data.length : Int) ≤ 512 by omega), Bool.false_and, Bool.and_false]; rfl
  rw [if_neg c2]
  simp only [S_l14Wide_eq, bind_some']
  have d1 : decide ((x.data.length : Int) ≤ 6000) = true := decide_eq_true (by omega)
  have d2 : decide ((x.input.data.length : Int) ≤ 512) = true := decide_eq_true (by omega)
  have e1 : [x.kind, x.a, x.b].all wideB = (wideB x.kind && (wideB x.a && wideB x.b)) := by simp
  have e3 : [x.input.sh.h, x.input.sh.w, x.input.sh.c].all wideB = (wideB x.input.sh.h && (wideB x.input.sh.w && wideB x.input.sh.c)) := by simp
  have hput : putS x = cond (wideB x.kind) (cond (wideB x.a) (cond (wideB x.b) (cond (wideB x.input.sh.h) (cond (wideB x.input.sh.w) (cond (wideB x.input.sh.c) (cond (x.input.data.all wideB) (putBytes x, true) ([], false)) ([], false)) ([], false)) ([], false)) ([], false)) ([], false)) ([], false) := by
    unfold putS putB
    rw [d1, d2, e1, e3]
    cases wideB x.kind <;> cases wideB x.a <;> cases wideB x.b <;> cases wideB x.input.sh.h <;> cases wideB x.input.sh.w <;> cases wideB x.input.sh.c <;> cases x.input.data.all wideB <;> rfl
  rw [hput]
  cases g1 : wideB x.kind; · rfl
  cases g2 : wideB x.a; · rfl
  cases g3 : wideB x.b; · rfl
  cases g4 : wideB x.input.sh.h; · rfl
  cases g5 : wideB x.input.sh.w; · rfl
  cases g6 : wideB x.input.sh.c; · rfl
  simp only [Bool.not_true, cond_false, cond_true]
  refine (all_loop x.input.data wideB (yes := ((S_l05Put_m2 k [x.kind, x.a, x.b, (x.data.length : Int)]).bind fun r10 => (S_l01Join k r10 x.data).bind fun r11 => (S_l05Put_m3 k r11 [x.input.sh.h, x.input.sh.w, x.input.sh.c, (x.input.data.length : Int)]).bind fun r12 => (S_l05Put_m4 k r12 x.input.data).bind fun r13 => some (r13, true))) (no := some ([], false)) (fun i hi next => by
    simp only [S_PutStep_g0]
    rw [cond_dec, if_pos (by omega), idx_nat, getD_get hi, bind_some', S_l14Wide_eq, bind_some', wrapNat1 hi (by omega)]
    cases wideB x.input.data[i] <;> rfl) (fun next => by
    simp only [S_PutStep_g0]
    rw [cond_dec, if_neg (by omega)]) (by omega)).trans ?_
  cases h2 : x.input.data.all wideB
  · rfl
  have w1 := wides_len [x.kind, x.a, x.b, (x.data.length : Int)]
  have w2 := wides_len [x.input.sh.h, x.input.sh.w, x.input.sh.c, (x.input.data.length : Int)]
  simp only [List.length_cons, List.length_nil] at w1 w2
  rw [cond_true, S_l05Put_m2_eq (by simp; omega) (by simp; omega) (by simp [g1, g2, g3, wideB_small (n := x.data.length) (by omega)]), bind_some', S_l01Join_eq (by omega) (by omega), bind_some']
  rw [S_l05Put_m3_eq (by simp; omega) (by simp; omega) (by simp [g4, g5, g6, wideB_small (n := x.input.data.length) (by omega)]), bind_some']
  rw [S_l05Put_m4_eq (by omega) (by simp; omega) h2, bind_some', cond_true]
  unfold putBytes
  rw [wides_app]; simp only [List.append_assoc]
end Go.Proofs.Ev
