/- Plain facts: loops, numbers in range, places of lists. -/
import Derived.Test.YtcgeekjfbjcofaaEvNorm
import Derived.IntWalk
set_option linter.unusedVariables false
set_option linter.unusedSimpArgs false
namespace Go.Proofs.Ev
def okI (n : Int) : Prop := -9223372036854775808 ≤ n ∧ n ≤ 9223372036854775807
theorem wrapI {n : Int} (h1 : -9223372036854775808 ≤ n) (h2 : n ≤ 9223372036854775807) : IntKind.i64.wrap n = n := Go.IntWalk.i64_in n ⟨h1, h2⟩
theorem wrapU8 {n : Int} (h1 : 0 ≤ n) (h2 : n ≤ 255) : IntKind.u8.wrap n = n := Go.IntWalk.u8_in n ⟨h1, h2⟩
theorem wrapNat1 {n m : Nat} (h : n < m) (hm : m ≤ 9223372036854775807) : IntKind.i64.wrap ((n : Int) + 1) = ((n + 1 : Nat) : Int) := by
  rw [wrapI (by omega) (by omega)]; omega
@[simp] theorem idx_nat {α : Type} (xs : List α) (i : Nat) : idx xs (i : Int) = xs[i]? := by
  have : (0 : Int) ≤ (i : Int) := by omega
  simp [idx, this]
theorem idx_zero {α : Type} (xs : List α) : idx xs 0 = xs[0]? := rfl
theorem idx_one {α : Type} (xs : List α) : idx xs 1 = xs[1]? := rfl
theorem idx_pos {α : Type} (xs : List α) {i : Int} (h : 0 ≤ i) : idx xs i = xs[i.toNat]? := by simp [idx, h]
section
variable {R V : Type} {g : V → (V → Option R) → Option R}
theorem iter_succ (k : Nat) (v : V) : iter g (k + 1) v = g v (iter g k) := rfl
/-- A loop that goes through known states, with what comes of each. -/
theorem iter_rec {st : Nat → V} {n : Nat} {P : Nat → Option R} (h : ∀ i, i < n → ∀ next : V → Option R, next (st (i + 1)) = P (i + 1) → g (st i) next = P i)
    (hn : ∀ next, g (st n) next = P n) : ∀ (k i : Nat), i ≤ n → n - i < k → iter g k (st i) = P i
  | 0, i, hi, hk => by omega
  | k + 1, i, hi, hk => by
    rw [iter_succ]
    by_cases c : i < n
    · exact h i c _ (iter_rec h hn k (i + 1) (by omega) (by omega))
    · have : i = n := by omega
      subst this; exact hn _
/-- .. whose end is one. -/
theorem iter_run {st : Nat → V} {n : Nat} {r : Option R} (h : ∀ i, i < n → ∀ next : V → Option R, g (st i) next = next (st (i + 1))) (hn : ∀ next, g (st n) next = r) {k : Nat} (hk : n < k) :
    iter g k (st 0) = r := iter_rec (P := fun _ => r) (fun i hi next e => (h i hi next).trans e) hn k 0 (Nat.zero_le _) (by omega)
/-- .. from a state on, by a measure. -/
theorem iter_ind {Inv : V → Prop} {m : V → Nat} {P : V → Option R} (h : ∀ v, Inv v → ∀ next : V → Option R, (∀ u, Inv u → m u < m v → next u = P u) → g v next = P v) :
    ∀ (k : Nat) (v : V), Inv v → m v < k → iter g k v = P v
  | 0, _, _, hk => by omega
  | k + 1, v, hv, hk => by
    rw [iter_succ]
    exact h v hv _ fun u hu hm => iter_ind h k u hu (by omega)
end
theorem cond_dec {α : Type} {p : Prop} [Decidable p] (x y : α) : cond (decide p) x y = if p then x else y := by by_cases h : p <;> simp [h]
theorem cond_bne {α : Type} (a b : Int) (x y : α) : cond (a != b) x y = if a = b then y else x := by
  by_cases h : a = b
  · simp [h]
  · have : (a != b) = true := by simpa using h
    rw [this, if_neg h]; rfl
theorem cond_beq {α : Type} (a b : Int) (x y : α) : cond (a == b) x y = if a = b then x else y := by
  by_cases h : a = b
  · simp [h]
  · have : (a == b) = false := by simpa using h
    rw [this, if_neg h]; rfl
theorem cond_not {α : Type} (b : Bool) (x y : α) : cond (!b) x y = cond b y x := by cases b <;> rfl
theorem beq_dec (a b : Int) : (a == b) = decide (a = b) := by
  by_cases h : a = b
  · simp [h]
  · rw [decide_eq_false h]; simpa using h
theorem bne_dec (a b : Int) : (a != b) = decide (a ≠ b) := by
  by_cases h : a = b
  · simp [h]
  · rw [decide_eq_true h]; simpa using h
theorem cond_if {α : Type} (p : Prop) [Decidable p] (u v : Bool) (x y : α) : cond (if p then u else v) x y = if p then cond u x y else cond v x y := by split <;> rfl
theorem getD_get {α : Type} {xs : List α} {i : Nat} (h : i < xs.length) : xs[i]? = some xs[i] := List.getElem?_eq_getElem h
theorem drop_step {α : Type} {xs : List α} {i : Nat} (h : i < xs.length) : xs.drop i = xs[i] :: xs.drop (i + 1) := (List.getElem_cons_drop h).symm
theorem take_step {α : Type} {xs : List α} {i : Nat} (h : i < xs.length) : xs.take (i + 1) = xs.take i ++ [xs[i]] := (List.take_append_getElem h).symm
/-- A list that is filled place by place. -/
theorem set_fill {α : Type} (xs : List α) (z : α) {i : Nat} (h : i < xs.length) : (xs.take i ++ List.replicate (xs.length - i) z).set i xs[i] = xs.take (i + 1) ++ List.replicate (xs.length - (i + 1)) z := by
  rw [List.set_append_right _ _ (by simp; omega)]
  have e : i - (xs.take i).length = 0 := by simp; omega
  rw [e, show xs.length - i = (xs.length - (i + 1)) + 1 from by omega, List.replicate_succ, List.set_cons_zero, take_step h, List.append_assoc]
  rfl
/-- How a loop copies a list. -/
theorem copy_loop {α R : Type} (xs : List α) (z : α) {g : Int × List α → (Int × List α → Option R) → Option R} {fin : List α → Option R}
    (h : ∀ (i : Nat) (ys : List α) (hi : i < xs.length) (next : Int × List α → Option R), ys.length = xs.length → g ((i : Int), ys) next = next (((i + 1 : Nat) : Int), ys.set i xs[i]))
    (hn : ∀ ys next, g ((xs.length : Int), ys) next = fin ys) {k : Nat} (hk : xs.length < k) : iter g k (0, List.replicate xs.length z) = fin xs := by
  have := iter_run (g := g) (st := fun i => ((i : Int), xs.take i ++ List.replicate (xs.length - i) z)) (n := xs.length) (r := fin xs) (fun i hi next => by
    rw [h i _ hi next (by simp; omega), set_fill xs z hi]) (fun next => by
    simp only [List.take_length, Nat.sub_self, List.replicate_zero, List.append_nil]; exact hn _ _) hk
  simpa using this
/-- How a loop compares two lists. -/
theorem same_loop {α R : Type} [DecidableEq α] (xs ys : List α) (hl : xs.length = ys.length) {g : Int → (Int → Option R) → Option R} {yes no : Option R}
    (h : ∀ (i : Nat) (hi : i < xs.length) (hi' : i < ys.length) (next : Int → Option R), g (i : Int) next = if xs[i] = ys[i] then next ((i + 1 : Nat) : Int) else no)
    (hn : ∀ next, g (xs.length : Int) next = yes) {k : Nat} (hk : xs.length < k) : iter g k 0 = if xs = ys then yes else no := by
  have := iter_rec (g := g) (st := fun i => (i : Int)) (n := xs.length) (P := fun i => if xs.drop i = ys.drop i then yes else no) (fun i hi next e => by
    have hi' : i < ys.length := by omega
    rw [h i hi hi' next]
    have he : (xs.drop i = ys.drop i) ↔ (xs[i] = ys[i] ∧ xs.drop (i + 1) = ys.drop (i + 1)) := by rw [drop_step hi, drop_step hi', List.cons.injEq]
    by_cases c : xs[i] = ys[i]
    · rw [if_pos c, e]; simp only [he, c, true_and]
    · rw [if_neg c, if_neg (fun q => c (he.1 q).1)]) (fun next => by
    rw [List.drop_length, List.drop_of_length_le (by omega)]; simp; exact hn next) k 0 (Nat.zero_le _) (by omega)
  simpa using this
end Go.Proofs.Ev
