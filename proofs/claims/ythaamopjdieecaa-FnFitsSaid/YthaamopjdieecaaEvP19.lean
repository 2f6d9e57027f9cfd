/- Plain laws: TickSched. -/
import Derived.Test.YthaamopjdieecaaEvP18
import Derived.Test.YthaamopjdieecaaEvD8
set_option linter.unusedVariables false
set_option linter.unusedSimpArgs false
set_option linter.unusedVariables false
set_option linter.unusedSimpArgs false
namespace Go.Proofs.Ev
def minBy (key : Task → Int) : List Task → Option Task
  | [] => none
  | x :: xs => some (xs.foldl (fun m t => cond (decide (key t < key m)) t m) x)
theorem cmp_Compare_eq (k : Nat) (a b : Int) : cmp_Compare_int k a b = some (cond (decide (a < b)) (-1) (cond (decide (a > b)) 1 0)) := by
  unfold cmp_Compare_int cmp_isNaN_int
  simp only [bind_some', bne_self_eq_false, cond_false]
  cases decide (a < b) <;> cases decide (a > b) <;> rfl
theorem cmp_Or_eq {k : Nat} {a b : Int} (hk : 3 < k) : cmp_Or_int k [a, b] = some (cond (a != 0) a b) := by
  obtain ⟨k, rfl⟩ : ∃ k', k = k' + 3 := ⟨k - 3, by omega⟩
  unfold cmp_Or_int
  show cond (a != 0) (some a) (iter (fun u4 n4 => cmp_Or_int_g0 (k + 3) ((0 : Int), [a, b], (([a, b] : List Int).length : Int)) u4 n4 (fun y2 => some (0 : Int)) (fun y3 => some y3)) (k + 2) (IntKind.i64.wrap (0 + 1))) = _
  cases h : a != 0
  · rw [wrapI (n := 0 + 1) (by omega) (by omega)]
    show cond (b != 0) (some b) (iter (fun u4 n4 => cmp_Or_int_g0 (k + 3) ((0 : Int), [a, b], (([a, b] : List Int).length : Int)) u4 n4 (fun y2 => some (0 : Int)) (fun y3 => some y3)) (k + 1) (IntKind.i64.wrap (1 + 1))) = _
    cases hb : b != 0
    · have : b = 0 := by simpa using hb
      subst this
      rw [wrapI (n := 1 + 1) (by omega) (by omega)]; rfl
    · rfl
  · rfl
theorem cmp_less {a b i j : Int} (h : j < i) : decide (cond (cond (decide (a < b)) (-1) (cond (decide (a > b)) 1 0) != (0 : Int)) (cond (decide (a < b)) (-1) (cond (decide (a > b)) 1 0)) (cond (decide (i < j)) (-1) (cond (decide (i > j)) 1 0)) < (0 : Int)) = decide (a < b) := by
  by_cases h1 : a < b
  · simp [h1]
  · by_cases h2 : a > b
    · simp [h1, h2]
    · simp [h1, h2, show ¬ i < j by omega, h]
theorem fold_mem (key : Task → Int) : ∀ (xs : List Task) (x : Task), xs.foldl (fun m t => cond (decide (key t < key m)) t m) x ∈ x :: xs
  | [], x => by simp
  | y :: xs, x => by
    rw [List.foldl_cons]
    have := fold_mem key xs (cond (decide (key y < key x)) y x)
    cases h : decide (key y < key x)
    · rw [h] at this; simp only [cond_false] at this ⊢
      rcases List.mem_cons.1 this with h | h
      · rw [h]; simp
      · simp [h]
    · rw [h] at this; simp only [cond_true] at this ⊢
      rcases List.mem_cons.1 this with h | h
      · rw [h]; simp
      · simp [h]
theorem fold_id {x : Task} {xs : List Task} (hp : (x :: xs).Pairwise fun a b => a.id < b.id) {i : Nat} (hi : i < xs.length) {m : Task} (hm : m ∈ x :: xs.take i) : m.id < xs[i].id := by
  rw [List.pairwise_cons] at hp
  rcases List.mem_cons.1 hm with rfl | hm
  · exact hp.1 _ (List.getElem_mem hi)
  · obtain ⟨j, hj, rfl⟩ := List.mem_iff_getElem.1 hm
    have hj' : j < i := by simp at hj; omega
    rw [List.getElem_take]
    exact (List.pairwise_iff_getElem.1 hp.2) j i (by omega) hi hj'

theorem MinFunc_m_eq {k : Nat} {x : Task} {xs : List Task} (hk : xs.length + 2 < k) (hN : xs.length < maxN) (hp : (x :: xs).Pairwise fun a b => a.id < b.id) : slices_MinFunc_lI_Task_I_Task_m k (x :: xs) = some (xs.foldl (fun m t => cond (decide (Task.born t < Task.born m)) t m) x) := by
  have hM := maxN_eq
  unfold slices_MinFunc_lI_Task_I_Task_m
  rw [cond_dec, if_neg (by simp; omega), idx_zero, getD_get (by simp), bind_some']
  have := iter_run (g := fun u6 n6 => slices_MinFunc_lI_Task_I_Task_m_g0 k (x :: xs, (0 : Int), (0 : Int), (0 : Int), (0 : Int)) u6 n6 (fun y5 => some (⟨y5.1, y5.2.1, y5.2.2.1, y5.2.2.2.1, y5.2.2.2.2⟩ : Task)))
    (st := fun i => let m := (xs.take i).foldl (fun m t => cond (decide (Task.born t < Task.born m)) t m) x; (((i + 1 : Nat) : Int), m.id, m.costs, m.at_, m.due, m.born)) (n := xs.length) (r := some (xs.foldl (fun m t => cond (decide (Task.born t < Task.born m)) t m) x)) (fun i hi next => by
    have hmem := fold_mem Task.born (xs.take i) x
    have hlt := fold_id hp hi hmem
    rw [take_step hi, List.foldl_append]
    generalize (xs.take i).foldl (fun m t => cond (decide (Task.born t < Task.born m)) t m) x = m at hlt
    simp only [slices_MinFunc_lI_Task_I_Task_m_g0, I_Sched_first_c2_m, I_Sched_pick_c1, bind_some', cmp_Compare_eq, cmp_Or_eq (show 3 < k by omega)]
    rw [cond_dec, if_pos (by simp; omega), idx_nat, List.getElem?_cons_succ, getD_get hi, bind_some', bind_some', wrapI (by omega) (by omega), cmp_less hlt]
    simp only [List.foldl_cons, List.foldl_nil]
    cases decide (Task.born xs[i] < Task.born m) <;> rfl) (fun next => by
    rw [List.take_length]
    simp only [slices_MinFunc_lI_Task_I_Task_m_g0]
    rw [cond_dec, if_neg (by simp)]) (k := k) (by omega)
  exact this

theorem MinFunc_m2_eq {k : Nat} {x : Task} {xs : List Task} (hk : xs.length + 2 < k) (hN : xs.length < maxN) (hp : (x :: xs).Pairwise fun a b => a.id < b.id) : slices_MinFunc_lI_Task_I_Task_m2 k (x :: xs) = some (xs.foldl (fun m t => cond (decide (Task.due t < Task.due m)) t m) x) := by
  have hM := maxN_eq
  unfold slices_MinFunc_lI_Task_I_Task_m2
  rw [cond_dec, if_neg (by simp; omega), idx_zero, getD_get (by simp), bind_some']
  have := iter_run (g := fun u6 n6 => slices_MinFunc_lI_Task_I_Task_m2_g0 k (x :: xs, (0 : Int), (0 : Int), (0 : Int), (0 : Int)) u6 n6 (fun y5 => some (⟨y5.1, y5.2.1, y5.2.2.1, y5.2.2.2.1, y5.2.2.2.2⟩ : Task)))
    (st := fun i => let m := (xs.take i).foldl (fun m t => cond (decide (Task.due t < Task.due m)) t m) x; (((i + 1 : Nat) : Int), m.id, m.costs, m.at_, m.due, m.born)) (n := xs.length) (r := some (xs.foldl (fun m t => cond (decide (Task.due t < Task.due m)) t m) x)) (fun i hi next => by
    have hmem := fold_mem Task.due (xs.take i) x
    have hlt := fold_id hp hi hmem
    rw [take_step hi, List.foldl_append]
    generalize (xs.take i).foldl (fun m t => cond (decide (Task.due t < Task.due m)) t m) x = m at hlt
    simp only [slices_MinFunc_lI_Task_I_Task_m2_g0, I_Sched_first_c2_m2, I_Sched_pick_c3, bind_some', cmp_Compare_eq, cmp_Or_eq (show 3 < k by omega)]
    rw [cond_dec, if_pos (by simp; omega), idx_nat, List.getElem?_cons_succ, getD_get hi, bind_some', bind_some', wrapI (by omega) (by omega), cmp_less hlt]
    simp only [List.foldl_cons, List.foldl_nil]
    cases decide (Task.due xs[i] < Task.due m) <;> rfl) (fun next => by
    rw [List.take_length]
    simp only [slices_MinFunc_lI_Task_I_Task_m2_g0]
    rw [cond_dec, if_neg (by simp)]) (k := k) (by omega)
  exact this

theorem IndexFunc_m7_eq {k : Nat} {xs : List Task} {s : Sched} (hk : xs.length < k) (hN : xs.length ≤ maxN) : slices_IndexFunc_lI_Task_I_Task_m7 k xs s = some ((xs.findIdx? fun t => !lateB s t).elim (-1) fun i => (i : Int)) := by
  have hM := maxN_eq
  unfold slices_IndexFunc_lI_Task_I_Task_m7
  simp only [decide_true, cond_true]
  rw [find_loop xs (fun t => !lateB s t) (yes := some (-1)) (no := some) (fun i hi next => by
    simp only [slices_IndexFunc_lI_Task_I_Task_m7_g0, I_Sched_first_c1_m, I_Sched_isLate, decide_true, cond_true, bind_some']
    rw [cond_dec, if_pos (by omega), cond_dec, if_pos (by omega), Int.toNat_natCast, getD_get hi, bind_some', wrapNat1 hi (by omega)]
    rfl) (fun next => by
    simp only [slices_IndexFunc_lI_Task_I_Task_m7_g0, decide_true, cond_true]; rw [cond_dec, if_neg (by omega)]) hk]
  exact findIdx_some _
theorem DeleteFunc_m6_eq {k : Nat} {xs : List Task} {s : Sched} (hk : xs.length < k) (hN : xs.length ≤ maxN) : slices_DeleteFunc_lI_Task_I_Task_m6 k xs s = some (xs.filter fun t => !(!lateB s t)) := by
  have hM := maxN_eq
  unfold slices_DeleteFunc_lI_Task_I_Task_m6
  rw [IndexFunc_m7_eq hk hN, bind_some']
  cases hf : xs.findIdx? fun t => !lateB s t with
  | none =>
    rw [Option.elim_none, filter_none hf]
    simp
  | some i =>
    obtain ⟨hi, hfi⟩ := filter_first hf
    rw [Option.elim_some, cond_beq, if_neg (by omega), wrapNat1 hi (by omega)]
    simp only [decide_true, cond_true]
    obtain ⟨i', ys', h1, h2, h3, h4⟩ := delete_loop xs (fun t => !lateB s t) (R := List Task) (g := fun u5 n5 => slices_DeleteFunc_lI_Task_I_Task_m6_g0 k (s.now, s.slack, s.age, s.tasks, s.run, s.left, s.turns, s.next) u5 n5 (fun y4 => cond (decide (0 ≤ y4.1 ∧ y4.1 ≤ (y4.2.length : Int))) (cond (decide (0 ≤ y4.1 ∧ y4.1 ≤ (((y4.2).take y4.1.toNat ++ List.replicate (y4.2.length - y4.1.toNat) (⟨(0 : Int), ([] : List Int), (0 : Int), (0 : Int), (0 : Int)⟩ : Task) ++ (y4.2).drop (y4.1.toNat + (y4.2.length - y4.1.toNat))).length : Int))) (some (((y4.2).take y4.1.toNat ++ List.replicate (y4.2.length - y4.1.toNat) (⟨(0 : Int), ([] : List Int), (0 : Int), (0 : Int), (0 : Int)⟩ : Task) ++ (y4.2).drop (y4.1.toNat + (y4.2.length - y4.1.toNat))).take (y4.1.toNat - 0))) none) none))
      (fin := fun y4 => cond (decide (0 ≤ y4.1 ∧ y4.1 ≤ (y4.2.length : Int))) (cond (decide (0 ≤ y4.1 ∧ y4.1 ≤ (((y4.2).take y4.1.toNat ++ List.replicate (y4.2.length - y4.1.toNat) (⟨(0 : Int), ([] : List Int), (0 : Int), (0 : Int), (0 : Int)⟩ : Task) ++ (y4.2).drop (y4.1.toNat + (y4.2.length - y4.1.toNat))).length : Int))) (some (((y4.2).take y4.1.toNat ++ List.replicate (y4.2.length - y4.1.toNat) (⟨(0 : Int), ([] : List Int), (0 : Int), (0 : Int), (0 : Int)⟩ : Task) ++ (y4.2).drop (y4.1.toNat + (y4.2.length - y4.1.toNat))).take (y4.1.toNat - 0))) none) none)
      (fun i j ys hj next hij hl hg => by
        simp only [slices_DeleteFunc_lI_Task_I_Task_m6_g0, I_Sched_first_c1_m2, I_Sched_isLate, decide_true, cond_true, bind_some', hl]
        rw [cond_dec, if_pos (by omega), cond_dec, if_pos (by omega), Int.toNat_natCast, hg, bind_some', cond_not, cond_dec, if_pos (by omega), wrapNat1 hj (by omega), wrapNat1 (show i < xs.length by omega) (by omega), Int.toNat_natCast]
        rfl)
      (fun i ys next hl => by simp only [slices_DeleteFunc_lI_Task_I_Task_m6_g0, hl]; rw [cond_dec, if_neg (by omega)])
      (xs.length - (i + 1)) i (i + 1) xs k (by omega) (by omega) (by omega) rfl rfl hfi
    refine h4.trans ?_
    obtain ⟨c1, c2⟩ := delete_cut ((⟨(0 : Int), ([] : List Int), (0 : Int), (0 : Int), (0 : Int)⟩ : Task)) h1 h2
    simp only [Int.toNat_natCast, h2]
    rw [c2, c1, cond_dec, if_pos (by omega), cond_dec, if_pos (by omega), h3]

theorem IndexFunc_m9_eq {k : Nat} {xs : List Task} {s : Sched} (hk : xs.length < k) (hN : xs.length ≤ maxN) : slices_IndexFunc_lI_Task_I_Task_m9 k xs s = some ((xs.findIdx? fun t => !(!lateB s t)).elim (-1) fun i => (i : Int)) := by
  have hM := maxN_eq
  unfold slices_IndexFunc_lI_Task_I_Task_m9
  simp only [decide_true, cond_true]
  rw [find_loop xs (fun t => !(!lateB s t)) (yes := some (-1)) (no := some) (fun i hi next => by
    simp only [slices_IndexFunc_lI_Task_I_Task_m9_g0, I_Sched_first_c1_m3, I_Sched_first_c1_m4, I_Sched_pick_c2_m, I_Sched_isLate, decide_true, cond_true, bind_some']
    rw [cond_dec, if_pos (by omega), cond_dec, if_pos (by omega), Int.toNat_natCast, getD_get hi, bind_some', wrapNat1 hi (by omega)]
    rfl) (fun next => by
    simp only [slices_IndexFunc_lI_Task_I_Task_m9_g0, decide_true, cond_true]; rw [cond_dec, if_neg (by omega)]) hk]
  exact findIdx_some _
theorem DeleteFunc_m8_eq {k : Nat} {xs : List Task} {s : Sched} (hk : xs.length < k) (hN : xs.length ≤ maxN) : slices_DeleteFunc_lI_Task_I_Task_m8 k xs s = some (xs.filter fun t => !(!(!lateB s t))) := by
  have hM := maxN_eq
  unfold slices_DeleteFunc_lI_Task_I_Task_m8
  rw [IndexFunc_m9_eq hk hN, bind_some']
  cases hf : xs.findIdx? fun t => !(!lateB s t) with
  | none =>
    rw [Option.elim_none, filter_none hf]
    simp
  | some i =>
    obtain ⟨hi, hfi⟩ := filter_first hf
    rw [Option.elim_some, cond_beq, if_neg (by omega), wrapNat1 hi (by omega)]
    simp only [decide_true, cond_true]
    obtain ⟨i', ys', h1, h2, h3, h4⟩ := delete_loop xs (fun t => !(!lateB s t)) (R := List Task) (g := fun u5 n5 => slices_DeleteFunc_lI_Task_I_Task_m8_g0 k (s.now, s.slack, s.age, s.tasks, s.run, s.left, s.turns, s.next) u5 n5 (fun y4 => cond (decide (0 ≤ y4.1 ∧ y4.1 ≤ (y4.2.length : Int))) (cond (decide (0 ≤ y4.1 ∧ y4.1 ≤ (((y4.2).take y4.1.toNat ++ List.replicate (y4.2.length - y4.1.toNat) (⟨(0 : Int), ([] : List Int), (0 : Int), (0 : Int), (0 : Int)⟩ : Task) ++ (y4.2).drop (y4.1.toNat + (y4.2.length - y4.1.toNat))).length : Int))) (some (((y4.2).take y4.1.toNat ++ List.replicate (y4.2.length - y4.1.toNat) (⟨(0 : Int), ([] : List Int), (0 : Int), (0 : Int), (0 : Int)⟩ : Task) ++ (y4.2).drop (y4.1.toNat + (y4.2.length - y4.1.toNat))).take (y4.1.toNat - 0))) none) none))
      (fin := fun y4 => cond (decide (0 ≤ y4.1 ∧ y4.1 ≤ (y4.2.length : Int))) (cond (decide (0 ≤ y4.1 ∧ y4.1 ≤ (((y4.2).take y4.1.toNat ++ List.replicate (y4.2.length - y4.1.toNat) (⟨(0 : Int), ([] : List Int), (0 : Int), (0 : Int), (0 : Int)⟩ : Task) ++ (y4.2).drop (y4.1.toNat + (y4.2.length - y4.1.toNat))).length : Int))) (some (((y4.2).take y4.1.toNat ++ List.replicate (y4.2.length - y4.1.toNat) (⟨(0 : Int), ([] : List Int), (0 : Int), (0 : Int), (0 : Int)⟩ : Task) ++ (y4.2).drop (y4.1.toNat + (y4.2.length - y4.1.toNat))).take (y4.1.toNat - 0))) none) none)
      (fun i j ys hj next hij hl hg => by
        simp only [slices_DeleteFunc_lI_Task_I_Task_m8_g0, I_Sched_first_c1_m4, I_Sched_first_c1_m4, I_Sched_pick_c2_m, I_Sched_isLate, decide_true, cond_true, bind_some', hl]
        rw [cond_dec, if_pos (by omega), cond_dec, if_pos (by omega), Int.toNat_natCast, hg, bind_some', cond_not, cond_dec, if_pos (by omega), wrapNat1 hj (by omega), wrapNat1 (show i < xs.length by omega) (by omega), Int.toNat_natCast]
        rfl)
      (fun i ys next hl => by simp only [slices_DeleteFunc_lI_Task_I_Task_m8_g0, hl]; rw [cond_dec, if_neg (by omega)])
      (xs.length - (i + 1)) i (i + 1) xs k (by omega) (by omega) (by omega) rfl rfl hfi
    refine h4.trans ?_
    obtain ⟨c1, c2⟩ := delete_cut ((⟨(0 : Int), ([] : List Int), (0 : Int), (0 : Int), (0 : Int)⟩ : Task)) h1 h2
    simp only [Int.toNat_natCast, h2]
    rw [c2, c1, cond_dec, if_pos (by omega), cond_dec, if_pos (by omega), h3]

theorem Clone_tasks_eq {k : Nat} {xs : List Task} (hx : xs.length ≤ maxN) : slices_Clone_lI_Task_I_Task k xs = some xs := by
  unfold slices_Clone_lI_Task_I_Task
  rw [ble_le (by simpa using hx)]
  cases xs with
  | nil => simp only [isNil, cond_true, List.append_nil]; exact both_same _
  | cons x l => rfl
theorem ids_pair {s : Sched} (h : tasksB s = true) : s.tasks.Pairwise fun a b => a.id < b.id := by
  rw [List.pairwise_iff_getElem]
  intro i j hi hj hij
  obtain ⟨d, rfl⟩ : ∃ d, j = i + d + 1 := ⟨j - i - 1, by omega⟩
  exact ids_lt h d i hj
def lateT (s : Sched) : Option Task := minBy Task.born (s.tasks.filter (lateB s))
def earlyT (s : Sched) : Option Task := minBy Task.due (s.tasks.filter fun t => !lateB s t)
theorem first_m_eq {k : Nat} {s : Sched} (hk : s.tot + 2 < k) (hN : s.tot < maxN) (h : tasksB s = true) : I_Sched_first_m k s s = some ((lateT s).elim 0 Task.id) := by
  have hM := maxN_eq
  have hlen := totL_len Task.tot s.tasks
  have hst : s.tot = totL Task.tot s.tasks + 0 := rfl
  have hf := List.length_filter_le (lateB s) s.tasks
  unfold I_Sched_first_m lateT
  rw [Clone_tasks_eq (by omega), bind_some', DeleteFunc_m6_eq (by omega) (by omega), bind_some']
  simp only [Bool.not_not]
  cases hq : s.tasks.filter (lateB s) with
  | nil => rfl
  | cons x xs =>
    rw [hq] at hf
    have hp := (ids_pair h).filter (lateB s)
    rw [hq] at hp
    rw [cond_beq, if_neg (by simp; omega), MinFunc_m_eq (by simp at hf; omega) (by simp at hf; omega) hp, bind_some']
    rfl
theorem first_m2_eq {k : Nat} {s : Sched} (hk : s.tot + 2 < k) (hN : s.tot < maxN) (h : tasksB s = true) : I_Sched_first_m2 k s s = some ((earlyT s).elim 0 Task.id) := by
  have hM := maxN_eq
  have hlen := totL_len Task.tot s.tasks
  have hst : s.tot = totL Task.tot s.tasks + 0 := rfl
  have hf := List.length_filter_le (fun t => !lateB s t) s.tasks
  unfold I_Sched_first_m2 earlyT
  rw [Clone_tasks_eq (by omega), bind_some', DeleteFunc_m8_eq (by omega) (by omega), bind_some']
  simp only [Bool.not_not, decide_true, cond_true]
  cases hq : s.tasks.filter fun t => !lateB s t with
  | nil => rfl
  | cons x xs =>
    rw [hq] at hf
    have hp := (ids_pair h).filter fun t => !lateB s t
    rw [hq] at hp
    rw [cond_beq, if_neg (by simp; omega), MinFunc_m2_eq (by simp at hf; omega) (by simp at hf; omega) hp, bind_some']
    rfl
def pickS (s : Sched) : Int :=
  cond ((lateT s).isSome && (!(earlyT s).isSome || (decide (s.age > 0) && (s.turns.tmod s.age == 0)))) ((lateT s).elim 0 Task.id) ((earlyT s).elim 0 Task.id)
theorem minBy_mem {key : Task → Int} {xs : List Task} {t : Task} (h : minBy key xs = some t) : t ∈ xs := by
  cases xs with
  | nil => exact nomatch h
  | cons x xs =>
    simp only [minBy, Option.some.injEq] at h
    rw [← h]; exact fold_mem key xs x
theorem late_id {s : Sched} (h : tasksB s = true) {t : Task} (ht : lateT s = some t) : 1 ≤ t.id := by
  have := (List.mem_filter.1 (minBy_mem ht)).1
  obtain ⟨i, hi, rfl⟩ := List.mem_iff_getElem.1 this
  exact (taskB_spec (tasksB_spec h hi).1).1.1
theorem early_id {s : Sched} (h : tasksB s = true) {t : Task} (ht : earlyT s = some t) : 1 ≤ t.id := by
  have := (List.mem_filter.1 (minBy_mem ht)).1
  obtain ⟨i, hi, rfl⟩ := List.mem_iff_getElem.1 this
  exact (taskB_spec (tasksB_spec h hi).1).1.1
theorem I_pick_eq {k : Nat} {s : Sched} (hk : s.tot + 2 < k) (hN : s.tot < maxN) (h : tasksB s = true) : I_Sched_pick k s = some (pickS s) := by
  unfold I_Sched_pick pickS
  rw [first_m_eq hk hN h, bind_some', first_m2_eq hk hN h, bind_some']
  have hage : ∀ X : Option Int, (cond (decide (s.age > 0)) (cond (decide (s.age = 0)) none X) X) = X := fun X => by
    by_cases c : s.age > 0
    · rw [decide_eq_true c, decide_eq_false (by omega)]; rfl
    · rw [decide_eq_false c]; rfl
  cases hl : lateT s with
  | none =>
    cases he : earlyT s with
    | none =>
      simp only [Option.elim_none, Option.isSome_none, Bool.false_and, cond_false, bne_self_eq_false, beq_self_eq_true, cond_true]
      by_cases c : s.age > 0
      · rw [decide_eq_true c, decide_eq_false (by omega)]
        cases s.turns.tmod s.age == 0 <;> rfl
      · rw [decide_eq_false c]; rfl
    | some e =>
      have h2 := early_id h he
      simp only [Option.elim_none, Option.elim_some, Option.isSome_none, Bool.false_and, cond_false, bne_self_eq_false, show (e.id == 0) = false by simp; omega]
      by_cases c : s.age > 0
      · rw [decide_eq_true c, decide_eq_false (by omega)]
        cases s.turns.tmod s.age == 0 <;> rfl
      · rw [decide_eq_false c]; rfl
  | some l =>
    have h1 := late_id h hl
    cases he : earlyT s with
    | none =>
      simp only [Option.elim_none, Option.elim_some, Option.isSome_none, Option.isSome_some, Bool.not_false, Bool.true_or, Bool.true_and, cond_true, beq_self_eq_true, show (l.id != 0) = true by simp; omega]
      by_cases c : s.age > 0
      · rw [decide_eq_true c, decide_eq_false (by omega)]
        cases s.turns.tmod s.age == 0 <;> rfl
      · rw [decide_eq_false c]; rfl
    | some e =>
      have h2 := early_id h he
      simp only [Option.elim_some, Option.isSome_some, Bool.not_true, Bool.false_or, Bool.true_and, show (l.id != 0) = true by simp; omega, show (e.id == 0) = false by simp; omega, cond_true, cond_false]
      by_cases c : s.age > 0
      · rw [decide_eq_true c, decide_eq_false (by omega)]
        cases s.turns.tmod s.age == 0 <;> rfl
      · rw [decide_eq_false c]; rfl
def better (key : Task → Int) (m : Option Task) (t : Task) : Option Task := m.elim (some t) fun u => cond (decide (key t < key u)) (some t) (some u)
theorem better_some (key : Task → Int) : ∀ (xs : List Task) (m : Task), xs.foldl (better key) (some m) = some (xs.foldl (fun m t => cond (decide (key t < key m)) t m) m)
  | [], m => rfl
  | x :: xs, m => by
    rw [List.foldl_cons, List.foldl_cons, ← better_some key xs]
    congr 1
    show cond (decide (key x < key m)) (some x) (some m) = _
    cases decide (key x < key m) <;> rfl
theorem better_min (key : Task → Int) (xs : List Task) : xs.foldl (better key) none = minBy key xs := by
  cases xs with
  | nil => rfl
  | cons x xs => exact better_some key xs x
/-- A place, -1 for none, of a task. -/
def AtT (ts : List Task) (l : Int) (m : Option Task) : Prop := (m = none ∧ l = -1) ∨ ∃ (j : Nat) (hj : j < ts.length), l = (j : Int) ∧ m = some ts[j]
theorem pick_walk {R : Type} {k : Nat} {s : Sched} {fin : Int × Int → Option R} (hN : s.tasks.length ≤ maxN) : ∀ (d i : Nat) (l e : Int) (ml me : Option Task) (kf : Nat), i + d = s.tasks.length → d < kf → AtT s.tasks l ml → AtT s.tasks e me →
    ∃ l' e', AtT s.tasks l' (((s.tasks.drop i).filter (lateB s)).foldl (better Task.born) ml) ∧ AtT s.tasks e' (((s.tasks.drop i).filter fun t => !lateB s t).foldl (better Task.due) me) ∧
      iter (fun u11 n11 => S_PickNext_g0 k (s.now, s.slack, s.age, s.tasks, s.run, s.left, s.turns, s.next) u11 n11 fin) kf (l, e, (i : Int)) = fin (l', e')
  | d, i, l, e, ml, me, 0, _, h, _, _ => by omega
  | 0, i, l, e, ml, me, kf + 1, hi, _, hl, he => by
    have : i = s.tasks.length := by omega
    subst this
    refine ⟨l, e, by simpa using hl, by simpa using he, ?_⟩
    rw [iter_succ]
    simp only [S_PickNext_g0]
    rw [cond_dec, if_neg (by omega)]
  | d + 1, i, l, e, ml, me, kf + 1, hi, h, hl, he => by
    have hM := maxN_eq
    have hlt : i < s.tasks.length := by omega
    have hself : AtT s.tasks (i : Int) (some s.tasks[i]) := .inr ⟨i, hlt, rfl, rfl⟩
    have hstep : ∀ (l2 e2 : Int) (ml2 me2 : Option Task), AtT s.tasks l2 ml2 → AtT s.tasks e2 me2 → ml2 = cond (lateB s s.tasks[i]) (better Task.born ml s.tasks[i]) ml → me2 = cond (lateB s s.tasks[i]) me (better Task.due me s.tasks[i]) →
        (∀ next : Int × Int × Int → Option R, S_PickNext_g0 k (s.now, s.slack, s.age, s.tasks, s.run, s.left, s.turns, s.next) (l, e, (i : Int)) next fin = next (l2, e2, ((i + 1 : Nat) : Int))) →
        ∃ l' e', AtT s.tasks l' (((s.tasks.drop i).filter (lateB s)).foldl (better Task.born) ml) ∧ AtT s.tasks e' (((s.tasks.drop i).filter fun t => !lateB s t).foldl (better Task.due) me) ∧
          iter (fun u11 n11 => S_PickNext_g0 k (s.now, s.slack, s.age, s.tasks, s.run, s.left, s.turns, s.next) u11 n11 fin) (kf + 1) (l, e, (i : Int)) = fin (l', e') := fun l2 e2 ml2 me2 h1 h2 e1 e2' hg => by
      obtain ⟨l', e', g1, g2, g3⟩ := pick_walk (k := k) (fin := fin) hN d (i + 1) l2 e2 ml2 me2 kf (by omega) (by omega) h1 h2
      refine ⟨l', e', ?_, ?_, ?_⟩
      · rw [drop_step hlt, List.filter_cons]
        rw [e1] at g1
        cases hb : lateB s s.tasks[i]
        · rw [hb] at g1; exact g1
        · rw [hb] at g1; exact g1
      · rw [drop_step hlt, List.filter_cons]
        rw [e2'] at g2
        cases hb : lateB s s.tasks[i]
        · rw [hb] at g2; exact g2
        · rw [hb] at g2; exact g2
      · rw [iter_succ, hg]; exact g3
    have e0 : ∀ next : Int × Int × Int → Option R, S_PickNext_g0 k (s.now, s.slack, s.age, s.tasks, s.run, s.left, s.turns, s.next) (l, e, (i : Int)) next fin =
        cond (lateB s s.tasks[i]) (cond (decide (l < (0 : Int))) (next ((i : Int), e, ((i + 1 : Nat) : Int))) ((idx s.tasks l).bind fun e3 => cond (decide (s.tasks[i].born < e3.born)) (next ((i : Int), e, ((i + 1 : Nat) : Int))) (next (l, e, ((i + 1 : Nat) : Int)))))
          (cond (decide (e < (0 : Int))) (next (l, (i : Int), ((i + 1 : Nat) : Int))) ((idx s.tasks e).bind fun e4 => cond (decide (s.tasks[i].due < e4.due)) (next (l, (i : Int), ((i + 1 : Nat) : Int))) (next (l, e, ((i + 1 : Nat) : Int))))) := fun next => by
      simp only [S_PickNext_g0]
      rw [cond_dec, if_pos (by omega), idx_nat, getD_get hlt, bind_some', wrapNat1 hlt (by omega)]
      rfl
    cases hb : lateB s s.tasks[i]
    · rcases he with ⟨rfl, rfl⟩ | ⟨j, hj, rfl, rfl⟩
      · exact hstep l (i : Int) ml (some s.tasks[i]) hl hself (by rw [hb]; rfl) (by rw [hb]; rfl) fun next => by rw [e0, hb]; rfl
      · by_cases c : s.tasks[i].due < s.tasks[j].due
        · exact hstep l (i : Int) ml (some s.tasks[i]) hl hself (by rw [hb]; rfl) (by rw [hb]; show _ = cond (decide (s.tasks[i].due < s.tasks[j].due)) _ _; rw [decide_eq_true c]; rfl) fun next => by
            rw [e0, hb, cond_false, cond_dec, if_neg (by omega), idx_nat, getD_get hj, bind_some', decide_eq_true c]; rfl
        · exact hstep l (j : Int) ml (some s.tasks[j]) hl (.inr ⟨j, hj, rfl, rfl⟩) (by rw [hb]; rfl) (by rw [hb]; show _ = cond (decide (s.tasks[i].due < s.tasks[j].due)) _ _; rw [decide_eq_false c]; rfl) fun next => by
            rw [e0, hb, cond_false, cond_dec, if_neg (by omega), idx_nat, getD_get hj, bind_some', decide_eq_false c]; rfl
    · rcases hl with ⟨rfl, rfl⟩ | ⟨j, hj, rfl, rfl⟩
      · exact hstep (i : Int) e (some s.tasks[i]) me hself he (by rw [hb]; rfl) (by rw [hb]; rfl) fun next => by rw [e0, hb]; rfl
      · by_cases c : s.tasks[i].born < s.tasks[j].born
        · exact hstep (i : Int) e (some s.tasks[i]) me hself he (by rw [hb]; show _ = cond (decide (s.tasks[i].born < s.tasks[j].born)) _ _; rw [decide_eq_true c]; rfl) (by rw [hb]; rfl) fun next => by
            rw [e0, hb, cond_true, cond_dec, if_neg (by omega), idx_nat, getD_get hj, bind_some', decide_eq_true c]; rfl
        · exact hstep (j : Int) e (some s.tasks[j]) me (.inr ⟨j, hj, rfl, rfl⟩) he (by rw [hb]; show _ = cond (decide (s.tasks[i].born < s.tasks[j].born)) _ _; rw [decide_eq_false c]; rfl) (by rw [hb]; rfl) fun next => by
            rw [e0, hb, cond_true, cond_dec, if_neg (by omega), idx_nat, getD_get hj, bind_some', decide_eq_false c]; rfl
theorem S_PickNext_eq {k : Nat} {s : Sched} (hk : s.tot < k) (hN : s.tot ≤ maxN) (h : schedB s = true) : S_PickNext k s = some (pickS s) := by
  have hM := maxN_eq
  have hs := schedB_spec h
  have hlen := totL_len Task.tot s.tasks
  have hst : s.tot = totL Task.tot s.tasks + 0 := rfl
  unfold S_PickNext
  rw [S_SchedOk_eq hk hN, bind_some', h]
  simp only [Bool.not_true, cond_false]
  obtain ⟨l, e, hl, he, hi⟩ := pick_walk (R := Int) (k := k) (s := s) (fin := fun y5 => cond (decide (y5.1 ≥ (0 : Int))) (cond (decide (y5.2 < (0 : Int))) ((idx s.tasks y5.1).bind fun e6 => some e6.id) (cond (decide (s.age > (0 : Int))) (cond (decide (s.age = 0)) none (cond ((s.turns.tmod s.age) == (0 : Int)) ((idx s.tasks y5.1).bind fun e7 => some e7.id) (cond (decide (y5.2 ≥ (0 : Int))) ((idx s.tasks y5.2).bind fun e8 => some e8.id) (some (0 : Int))))) (cond (decide (y5.2 ≥ (0 : Int))) ((idx s.tasks y5.2).bind fun e9 => some e9.id) (some (0 : Int))))) (cond (decide (y5.2 ≥ (0 : Int))) ((idx s.tasks y5.2).bind fun e10 => some e10.id) (some (0 : Int)))) (by omega) s.tasks.length 0 (-1) (-1) none none k (by omega) (by omega) (.inl ⟨rfl, rfl⟩) (.inl ⟨rfl, rfl⟩)
  refine hi.trans ?_
  rw [List.drop_zero, better_min] at hl he
  unfold pickS
  have el : lateT s = minBy Task.born (s.tasks.filter (lateB s)) := rfl
  have ee : earlyT s = minBy Task.due (s.tasks.filter fun t => !lateB s t) := rfl
  rw [← el] at hl
  rw [← ee] at he
  rcases hl with ⟨hl, rfl⟩ | ⟨j, hj, rfl, hl⟩
  · rcases he with ⟨he, rfl⟩ | ⟨j2, hj2, rfl, he⟩
    · rw [hl, he]; rfl
    · rw [hl, he]
      simp only [Option.isSome_none, Bool.false_and, cond_false, Option.elim_some]
      rw [decide_eq_false (show ¬ ((-1 : Int) ≥ 0) by omega), decide_eq_true (show ((j2 : Int) ≥ 0) by omega), idx_nat, getD_get hj2]; rfl
  · rcases he with ⟨he, rfl⟩ | ⟨j2, hj2, rfl, he⟩
    · rw [hl, he]
      rw [decide_eq_true (show ((j : Int) ≥ 0) by omega), idx_nat, getD_get hj]; rfl
    · rw [hl, he]
      simp only [Option.isSome_some, Bool.not_true, Bool.false_or, Bool.true_and, Option.elim_some]
      rw [decide_eq_true (show ((j : Int) ≥ 0) by omega), decide_eq_false (show ¬ ((j2 : Int) < 0) by omega), decide_eq_true (show ((j2 : Int) ≥ 0) by omega), idx_nat, getD_get hj, idx_nat, getD_get hj2]
      by_cases c : s.age > 0
      · rw [decide_eq_true c, decide_eq_false (show ¬ s.age = 0 by omega)]
        cases s.turns.tmod s.age == 0 <;> rfl
      · rw [decide_eq_false c]; rfl
/-- The rest of a tick: so many cycles are left of the layer that runs. -/
def goOn (s : Sched) (run left turns : Int) : Sched × Int × Bool :=
  cond (decide (left - 1 > 0)) (⟨s.now + 1, s.slack, s.age, s.tasks, run, left - 1, turns, s.next⟩, 0, false)
    ((s.tasks.findIdx? fun t => t.id == run).elim (s, 0, false) fun i => (s.tasks[i]?).elim (s, 0, false) fun t =>
      cond (decide (t.at_ + 1 < t.costs.length)) (⟨s.now + 1, s.slack, s.age, s.tasks.set i ⟨t.id, t.costs, t.at_ + 1, t.due, t.born⟩, 0, left - 1, turns, s.next⟩, run, false)
        (⟨s.now + 1, s.slack, s.age, offT (s.tasks.set i ⟨t.id, t.costs, t.at_ + 1, t.due, t.born⟩) run, 0, left - 1, turns, s.next⟩, run, true))
theorem S_rest_eq {k : Nat} {s : Sched} {run left turns : Int} (hk : s.tot < k) (hN : s.tot ≤ maxN) (h : schedB s = true) (hl : 1 ≤ left ∧ left ≤ 1000) {i : Nat} (hf : (s.tasks.findIdx? fun t => t.id == run) = some i) :
    (cond (decide ((IntKind.i64.wrap (left - (1 : Int))) > (0 : Int))) (some ((⟨(IntKind.i64.wrap (s.now + (1 : Int))), s.slack, s.age, s.tasks, run, (IntKind.i64.wrap (left - (1 : Int))), turns, s.next⟩ : Sched), (0 : Int), false)) ((S_l07At k (⟨(IntKind.i64.wrap (s.now + (1 : Int))), s.slack, s.age, s.tasks, run, (IntKind.i64.wrap (left - (1 : Int))), turns, s.next⟩ : Sched) run).bind fun r23 => cond (decide (0 ≤ r23 ∧ r23 < (s.tasks.length : Int))) ((s.tasks[r23.toNat]?).bind fun e24 => cond (decide (0 ≤ r23 ∧ r23 < (s.tasks.length : Int))) ((s.tasks[r23.toNat]?).bind fun e25 => cond (decide (0 ≤ r23 ∧ r23 < ((s.tasks.set r23.toNat (⟨e25.id, e25.costs, (IntKind.i64.wrap (e24.at_ + (1 : Int))), e25.due, e25.born⟩ : Task)).length : Int))) (((s.tasks.set r23.toNat (⟨e25.id, e25.costs, (IntKind.i64.wrap (e24.at_ + (1 : Int))), e25.due, e25.born⟩ : Task))[r23.toNat]?).bind fun e26 => cond (decide (0 ≤ r23 ∧ r23 < ((s.tasks.set r23.toNat (⟨e25.id, e25.costs, (IntKind.i64.wrap (e24.at_ + (1 : Int))), e25.due, e25.born⟩ : Task)).length : Int))) (((s.tasks.set r23.toNat (⟨e25.id, e25.costs, (IntKind.i64.wrap (e24.at_ + (1 : Int))), e25.due, e25.born⟩ : Task))[r23.toNat]?).bind fun e27 => cond (decide (e26.at_ < (e27.costs.length : Int))) (some ((⟨(IntKind.i64.wrap (s.now + (1 : Int))), s.slack, s.age, (s.tasks.set r23.toNat (⟨e25.id, e25.costs, (IntKind.i64.wrap (e24.at_ + (1 : Int))), e25.due, e25.born⟩ : Task)), (0 : Int), (IntKind.i64.wrap (left - (1 : Int))), turns, s.next⟩ : Sched), run, false)) ((numTask (s.tasks.set r23.toNat (⟨e25.id, e25.costs, (IntKind.i64.wrap (e24.at_ + (1 : Int))), e25.due, e25.born⟩ : Task))).bind fun y28 => (S_l07Off_m3 k (IntKind.i64.wrap (s.now + (1 : Int))) s.slack s.age y28 (0 : Int) (IntKind.i64.wrap (left - (1 : Int))) turns s.next run).bind fun r29 => cond (nodTask r29) ((unTask (s.tasks.set r23.toNat (⟨e25.id, e25.costs, (IntKind.i64.wrap (e24.at_ + (1 : Int))), e25.due, e25.born⟩ : Task)) r29).bind fun z30 => some ((⟨(IntKind.i64.wrap (s.now + (1 : Int))), s.slack, s.age, z30, (0 : Int), (IntKind.i64.wrap (left - (1 : Int))), turns, s.next⟩ : Sched), run, true)) none)) none) none) none) none)) = some (goOn s run left turns) := by
  have hM := maxN_eq
  have hs := schedB_spec h
  have hlen := totL_len Task.tot s.tasks
  have hst : s.tot = totL Task.tot s.tasks + 0 := rfl
  obtain ⟨hi, hid⟩ := find_at hf
  have ht := taskB_spec (tasksB_spec hs.2.2.2.2.2.2.1 hi).1
  unfold goOn
  rw [wrapI (n := left - 1) (by omega) (by omega), wrapI (n := s.now + 1) (by omega) (by omega)]
  by_cases c : left - 1 > 0
  · rw [decide_eq_true c]; rfl
  rw [decide_eq_false c, cond_false, cond_false]
  rw [S_l07At_eq (by show s.tasks.length < k; omega) (by show s.tasks.length ≤ maxN; omega), bind_some']
  show (fun r23 : Int => _) (findT s.tasks run) = _
  rw [findT_some hf]
  simp only [Int.toNat_natCast, List.length_set]
  rw [cond_dec, if_pos (by omega), getD_get hi, bind_some', cond_dec, if_pos (by omega), bind_some', cond_dec, if_pos (by omega), List.getElem?_set_self hi, bind_some', cond_dec, if_pos (by omega), bind_some', hf, Option.elim_some, getD_get hi, Option.elim_some, wrapI (n := s.tasks[i].at_ + 1) (by omega) (by omega)]
  simp only
  by_cases c2 : s.tasks[i].at_ + 1 < (s.tasks[i].costs.length : Int)
  · rw [decide_eq_true c2]; rfl
  rw [decide_eq_false c2, cond_false, cond_false, numTask_eq, bind_some', l07Off_m3_eq (by rw [numTs_length, List.length_set]; omega) (by rw [numTs_length, List.length_set]; omega), bind_some', nodTask_part, cond_true, unTask_part _ (fun t => !(t.id == run)) (fun z => !(z.id == run)) (fun n t => rfl), bind_some']
  rfl
theorem I_rest_eq {k : Nat} {s : Sched} {run left turns : Int} (hk : s.tot < k) (hN : s.tot ≤ maxN) (h : schedB s = true) (hl : 1 ≤ left ∧ left ≤ 1000) {i : Nat} (hf : (s.tasks.findIdx? fun t => t.id == run) = some i) :
    (cond (decide ((IntKind.i64.wrap (left - (1 : Int))) > (0 : Int))) (cond (decide (s.slack = s.slack)) (cond (decide (s.age = s.age)) (cond (decide (s.next = s.next)) (some (((0 : Int), false), IntKind.i64.wrap (s.now + (1 : Int)), s.tasks, run, IntKind.i64.wrap (left - (1 : Int)), turns)) none) none) none) ((I_Sched_find k (⟨(IntKind.i64.wrap (s.now + (1 : Int))), s.slack, s.age, s.tasks, run, (IntKind.i64.wrap (left - (1 : Int))), turns, s.next⟩ : Sched) run).bind fun r1 => cond (decide (0 ≤ r1 ∧ r1 < (s.tasks.length : Int))) ((s.tasks[r1.toNat]?).bind fun e2 => (s.tasks[r1.toNat]?).bind fun e3 => ((s.tasks.set r1.toNat (⟨e3.id, e3.costs, (IntKind.i64.wrap (e2.at_ + (1 : Int))), e3.due, e3.born⟩ : Task))[r1.toNat]?).bind fun e4 => ((s.tasks.set r1.toNat (⟨e3.id, e3.costs, (IntKind.i64.wrap (e2.at_ + (1 : Int))), e3.due, e3.born⟩ : Task))[r1.toNat]?).bind fun e5 => cond (decide (e4.at_ < (e5.costs.length : Int))) (cond (decide (s.slack = s.slack)) (cond (decide (s.age = s.age)) (cond (decide (s.next = s.next)) (some ((run, false), IntKind.i64.wrap (s.now + (1 : Int)), s.tasks.set r1.toNat (⟨e3.id, e3.costs, (IntKind.i64.wrap (e2.at_ + (1 : Int))), e3.due, e3.born⟩ : Task), (0 : Int), IntKind.i64.wrap (left - (1 : Int)), turns)) none) none) none) ((numTask (s.tasks.set r1.toNat (⟨e3.id, e3.costs, (IntKind.i64.wrap (e2.at_ + (1 : Int))), e3.due, e3.born⟩ : Task))).bind fun y6 => (pI_Sched_drop_m3 k (IntKind.i64.wrap (s.now + (1 : Int))) s.slack s.age y6 (0 : Int) (IntKind.i64.wrap (left - (1 : Int))) turns s.next run).bind fun r7 => cond (nodTask r7.1) ((unTask (s.tasks.set r1.toNat (⟨e3.id, e3.costs, (IntKind.i64.wrap (e2.at_ + (1 : Int))), e3.due, e3.born⟩ : Task)) r7.1).bind fun z8 => cond (decide (s.slack = s.slack)) (cond (decide (s.age = s.age)) (cond (decide (s.next = s.next)) (some ((run, true), IntKind.i64.wrap (s.now + (1 : Int)), z8, r7.2.1, r7.2.2, turns)) none) none) none) none)) none)) = some (((goOn s run left turns).2.1, (goOn s run left turns).2.2), (goOn s run left turns).1.now, (goOn s run left turns).1.tasks, (goOn s run left turns).1.run, (goOn s run left turns).1.left, (goOn s run left turns).1.turns) := by
  have hM := maxN_eq
  have hs := schedB_spec h
  have hlen := totL_len Task.tot s.tasks
  have hst : s.tot = totL Task.tot s.tasks + 0 := rfl
  obtain ⟨hi, hid⟩ := find_at hf
  have ht := taskB_spec (tasksB_spec hs.2.2.2.2.2.2.1 hi).1
  unfold goOn
  simp only [decide_true, cond_true]
  rw [wrapI (n := left - 1) (by omega) (by omega), wrapI (n := s.now + 1) (by omega) (by omega)]
  by_cases c : left - 1 > 0
  · rw [decide_eq_true c]; rfl
  rw [decide_eq_false c, cond_false, cond_false]
  rw [I_find_eq (by show s.tasks.length < k; omega) (by show s.tasks.length ≤ maxN; omega), bind_some']
  show (fun r23 : Int => _) (findT s.tasks run) = _
  rw [findT_some hf]
  simp only [Int.toNat_natCast, List.length_set]
  rw [cond_dec, if_pos (by omega), getD_get hi, bind_some', bind_some', List.getElem?_set_self hi, bind_some', bind_some', hf, Option.elim_some, getD_get hi, Option.elim_some, wrapI (n := s.tasks[i].at_ + 1) (by omega) (by omega)]
  simp only
  by_cases c2 : s.tasks[i].at_ + 1 < (s.tasks[i].costs.length : Int)
  · rw [decide_eq_true c2]; rfl
  rw [decide_eq_false c2, cond_false, cond_false, numTask_eq, bind_some', drop_m3_eq (by rw [numTs_length, List.length_set]; omega) (by rw [numTs_length, List.length_set]; omega), bind_some']
  simp only
  rw [nodTask_part, cond_true, unTask_part _ (fun t => !(t.id == run)) (fun z => !(z.id == run)) (fun n t => rfl), bind_some']
  have hne : ((0 : Int) == run) = false := by simp; omega
  rw [hne]
  rfl
def tickS (s : Sched) (stalled : Bool) : Sched × Int × Bool :=
  cond (schedB s && !(s.now == 1000000))
    (cond stalled (⟨s.now + 1, s.slack, s.age, s.tasks, s.run, s.left, s.turns, s.next⟩, 0, false)
      (cond (s.run == 0)
        (cond (pickS s == 0) (⟨s.now + 1, s.slack, s.age, s.tasks, s.run, s.left, s.turns, s.next⟩, 0, false)
          ((s.tasks.findIdx? fun t => t.id == pickS s).elim (s, 0, false) fun i => (s.tasks[i]?).elim (s, 0, false) fun t => goOn s (pickS s) (costAt t) (cond (decide (s.turns + 1 > 1000000)) 0 (s.turns + 1))))
        (goOn s s.run s.left s.turns))) (s, 0, false)
theorem pick_find {s : Sched} (h : schedB s = true) (hp : pickS s ≠ 0) : ∃ (i : Nat) (hi : i < s.tasks.length), (s.tasks.findIdx? fun t => t.id == pickS s) = some i ∧ s.tasks[i].id = pickS s := by
  have hs := schedB_spec h
  have : ∃ t ∈ s.tasks, pickS s = t.id := by
    unfold pickS at hp ⊢
    cases hl : lateT s with
    | none =>
      cases he : earlyT s with
      | none => rw [hl, he] at hp; exact (hp rfl).elim
      | some e => exact ⟨e, (List.mem_filter.1 (minBy_mem he)).1, rfl⟩
    | some l =>
      cases he : earlyT s with
      | none => exact ⟨l, (List.mem_filter.1 (minBy_mem hl)).1, rfl⟩
      | some e =>
        simp only [Option.isSome_some, Bool.not_true, Bool.false_or, Bool.true_and, Option.elim_some]
        cases (decide (s.age > 0) && (s.turns.tmod s.age == 0))
        · exact ⟨e, (List.mem_filter.1 (minBy_mem he)).1, rfl⟩
        · exact ⟨l, (List.mem_filter.1 (minBy_mem hl)).1, rfl⟩
  obtain ⟨t, ht, e⟩ := this
  obtain ⟨i, hi, rfl⟩ := List.mem_iff_getElem.1 ht
  exact ⟨i, hi, by rw [e]; exact find_id hs.2.2.2.2.2.2.1 hi, e.symm⟩
theorem run_find {s : Sched} (h : schedB s = true) (hr : (s.run == 0) = false) : (1 ≤ s.left ∧ s.left ≤ 1000) ∧ ∃ i, (s.tasks.findIdx? fun t => t.id == s.run) = some i := by
  have hs := schedB_spec h
  have hrun := hs.2.2.2.2.2.2.2
  unfold runB at hrun
  rw [hr, cond_false] at hrun
  cases hf : s.tasks.findIdx? fun t => t.id == s.run with
  | none => rw [hf] at hrun; exact nomatch hrun
  | some i =>
    obtain ⟨hi, hid⟩ := find_at hf
    have h1 := run_left h (List.getElem_mem hi) hid.symm
    have h2 := idx_costAt (tasksB_spec hs.2.2.2.2.2.2.1 hi).1
    exact ⟨by omega, i, rfl⟩
theorem S_TickSched_eq {k : Nat} {s : Sched} {st : Bool} (hk : s.tot < k) (hN : s.tot ≤ maxN) : S_TickSched k s st = some (tickS s st) := by
  have hM := maxN_eq
  have hlen := totL_len Task.tot s.tasks
  have hst : s.tot = totL Task.tot s.tasks + 0 := rfl
  unfold S_TickSched tickS
  rw [S_l07Copy_eq hk hN, bind_some', S_SchedOk_eq hk hN, bind_some']
  cases h : schedB s
  · rfl
  have hs := schedB_spec h
  simp only [Bool.not_true, cond_false, Bool.true_and]
  cases (s.now == (1000000 : Int))
  case true => rfl
  simp only [cond_false, Bool.not_false, cond_true]
  cases st
  case true => rw [wrapI (n := s.now + 1) (by omega) (by omega)]; rfl
  simp only [cond_false]
  cases hr : s.run == 0
  · simp only [cond_false]
    obtain ⟨hl, i, hf⟩ := run_find h hr
    exact S_rest_eq hk hN h hl hf
  simp only [cond_true]
  rw [S_PickNext_eq hk hN h, bind_some']
  by_cases hp : pickS s = 0
  · rw [hp, wrapI (n := s.now + 1) (by omega) (by omega)]; rfl
  rw [cond_beq, if_neg hp, cond_beq, if_neg hp]
  obtain ⟨i, hi, hf, hid⟩ := pick_find h hp
  have hc := idx_costAt (tasksB_spec hs.2.2.2.2.2.2.1 hi).1
  rw [S_l07At_eq (by show s.tasks.length < k; omega) (by show s.tasks.length ≤ maxN; omega), bind_some']
  show (fun r4 : Int => _) (findT s.tasks (pickS s)) = _
  rw [findT_some hf]
  simp only [Int.toNat_natCast]
  rw [cond_dec, if_pos (by omega), getD_get hi, bind_some', hc.1, bind_some', hf, Option.elim_some, getD_get hi, Option.elim_some, wrapI (n := s.turns + 1) (by omega) (by omega)]
  by_cases ct : s.turns + 1 > 1000000
  · rw [decide_eq_true ct, cond_true, cond_true]
    exact S_rest_eq hk hN h ⟨hc.2.1, hc.2.2⟩ hf
  · rw [decide_eq_false ct, cond_false, cond_false]
    exact S_rest_eq hk hN h ⟨hc.2.1, hc.2.2⟩ hf
theorem I_start_eq {k : Nat} {s : Sched} (hk : s.tot + 2 < k) (hN : s.tot < maxN) (h : schedB s = true) :
    (pickS s = 0 ∧ pI_Sched_start_m k s = some (false, s.run, s.left, s.turns)) ∨
    ∃ (i : Nat) (hi : i < s.tasks.length), pickS s ≠ 0 ∧ (s.tasks.findIdx? fun t => t.id == pickS s) = some i ∧ pI_Sched_start_m k s = some (true, pickS s, costAt s.tasks[i], cond (decide (s.turns + 1 > 1000000)) 0 (s.turns + 1)) := by
  have hM := maxN_eq
  have hs := schedB_spec h
  have hlen := totL_len Task.tot s.tasks
  have hst : s.tot = totL Task.tot s.tasks + 0 := rfl
  unfold pI_Sched_start_m
  rw [I_pick_eq hk hN hs.2.2.2.2.2.2.1, bind_some']
  simp only [decide_true, cond_true]
  by_cases hp : pickS s = 0
  · exact .inl ⟨hp, by rw [hp]; rfl⟩
  · obtain ⟨i, hi, hf, hid⟩ := pick_find h hp
    have hc := idx_costAt (tasksB_spec hs.2.2.2.2.2.2.1 hi).1
    refine .inr ⟨i, hi, hp, hf, ?_⟩
    rw [cond_beq, if_neg hp, I_find_eq (by omega) (by omega), bind_some', findT_some hf, Int.toNat_natCast, cond_dec, if_pos (by omega), getD_get hi, bind_some', hc.1, bind_some', wrapI (n := s.turns + 1) (by omega) (by omega)]
    cases decide (s.turns + 1 > 1000000) <;> rfl
theorem goOn_fix (s : Sched) (run left turns : Int) {i : Nat} (hf : (s.tasks.findIdx? fun t => t.id == run) = some i) : (goOn s run left turns).1.slack = s.slack ∧ (goOn s run left turns).1.age = s.age ∧ (goOn s run left turns).1.next = s.next := by
  obtain ⟨hi, _⟩ := find_at hf
  unfold goOn
  cases decide (left - 1 > 0)
  · rw [hf, cond_false, Option.elim_some, getD_get hi, Option.elim_some]
    cases decide (s.tasks[i].at_ + 1 < (s.tasks[i].costs.length : Int)) <;> exact ⟨rfl, rfl, rfl⟩
  · exact ⟨rfl, rfl, rfl⟩
theorem I_TickSched_eq {k : Nat} {s : Sched} {st : Bool} (hk : s.tot + 2 < k) (hN : s.tot < maxN) : I_TickSched k s st = some (tickS s st) := by
  have hM := maxN_eq
  have hlen := totL_len Task.tot s.tasks
  have hst : s.tot = totL Task.tot s.tasks + 0 := rfl
  unfold I_TickSched tickS
  rw [I_Sched_copied_eq (by omega) (by omega), bind_some', I_SchedOk_eq (by omega) (by omega), bind_some']
  cases h : schedB s
  · rfl
  have hs := schedB_spec h
  simp only [Bool.not_true, cond_false, Bool.true_and]
  cases (s.now == (1000000 : Int))
  case true => rfl
  simp only [cond_false, Bool.not_false, cond_true]
  have fin : ∀ (run left turns : Int) {i : Nat}, (s.tasks.findIdx? fun t => t.id == run) = some i → (some (((goOn s run left turns).2.1, (goOn s run left turns).2.2), (goOn s run left turns).1.now, (goOn s run left turns).1.tasks, (goOn s run left turns).1.run, (goOn s run left turns).1.left, (goOn s run left turns).1.turns)).bind (fun r3 : ((Int × Bool) × Int × List Task × Int × Int × Int) => some ((⟨r3.2.1, s.slack, s.age, r3.2.2.1, r3.2.2.2.1, r3.2.2.2.2.1, r3.2.2.2.2.2, s.next⟩ : Sched), r3.1.1, r3.1.2)) = some (goOn s run left turns) := fun run left turns i hf => by
    obtain ⟨g1, g2, g3⟩ := goOn_fix s run left turns hf
    generalize goOn s run left turns = q at g1 g2 g3 ⊢
    obtain ⟨⟨a1, a2, a3, a4, a5, a6, a7, a8⟩, b, c⟩ := q
    simp only at g1 g2 g3
    subst g1 g2 g3
    rfl
  unfold pI_Sched_tick_m
  cases st
  case true => rw [wrapI (n := s.now + 1) (by omega) (by omega)]; simp only [decide_true, cond_true, Bool.not_true, cond_false, bind_some']
  simp only [Bool.not_false, cond_true, cond_false]
  cases hr : s.run == 0
  · rw [show (s.run != 0) = true by rw [bne, hr]; rfl]
    simp only [cond_true, cond_false]
    obtain ⟨hl, i, hf⟩ := run_find h hr
    have e := I_rest_eq (k := k) (turns := s.turns) (by omega) (by omega) h hl hf
    simp only [decide_true, cond_true] at e ⊢
    rw [e]
    exact fin _ _ _ hf
  rw [show (s.run != 0) = false by rw [bne, hr]; rfl]
  simp only [cond_true, cond_false]
  rcases I_start_eq hk hN h with ⟨hp, e⟩ | ⟨i, hi, hp, hf, e⟩
  · rw [e, hp, bind_some', wrapI (n := s.now + 1) (by omega) (by omega)]
    simp only [decide_true, cond_true, Bool.not_false, bind_some', beq_self_eq_true]
  · have hc := idx_costAt (tasksB_spec hs.2.2.2.2.2.2.1 hi).1
    rw [e, bind_some', cond_beq, if_neg hp]
    have e := I_rest_eq (k := k) (turns := cond (decide (s.turns + 1 > 1000000)) 0 (s.turns + 1)) (by omega) (by omega) h ⟨hc.2.1, hc.2.2⟩ hf
    simp only [decide_true, cond_true, Bool.not_true, cond_false] at e ⊢
    rw [e, hf, Option.elim_some, getD_get hi, Option.elim_some]
    exact fin _ _ _ hf
theorem totL_set {α : Type} (t : α → Nat) (y : α) : ∀ (xs : List α) (i : Nat) (hi : i < xs.length), t y ≤ t xs[i] → totL t (xs.set i y) ≤ totL t xs
  | x :: xs, 0, _, h => by simp only [List.set_cons_zero, totL_cons]; simp at h; omega
  | x :: xs, i + 1, hi, h => by
    have := totL_set t y xs i (by simpa using hi) (by simpa using h)
    simp only [List.set_cons_succ, totL_cons]; omega
theorem goOn_tot (s : Sched) (run left turns : Int) : (goOn s run left turns).1.tot ≤ s.tot := by
  unfold goOn
  cases decide (left - 1 > 0)
  · rw [cond_false]
    cases hf : s.tasks.findIdx? fun t => t.id == run with
    | none => exact Nat.le_refl _
    | some i =>
      obtain ⟨hi, _⟩ := find_at hf
      rw [Option.elim_some, getD_get hi, Option.elim_some]
      have h1 := totL_set Task.tot ⟨s.tasks[i].id, s.tasks[i].costs, s.tasks[i].at_ + 1, s.tasks[i].due, s.tasks[i].born⟩ s.tasks i hi (Nat.le_refl _)
      cases decide (s.tasks[i].at_ + 1 < (s.tasks[i].costs.length : Int))
      · have h2 := totL_filter Task.tot (fun t => !(t.id == run)) (s.tasks.set i ⟨s.tasks[i].id, s.tasks[i].costs, s.tasks[i].at_ + 1, s.tasks[i].due, s.tasks[i].born⟩)
        simp only [cond_false, Sched.tot, offT]; omega
      · simp only [cond_true, Sched.tot]; omega
  · exact Nat.le_refl _
theorem tickS_tot (s : Sched) (st : Bool) : (tickS s st).1.tot ≤ s.tot := by
  unfold tickS
  cases (schedB s && !(s.now == 1000000))
  · exact Nat.le_refl _
  cases st
  · simp only [cond_true, cond_false]
    cases s.run == 0
    · exact goOn_tot _ _ _ _
    · simp only [cond_true]
      cases pickS s == 0
      · simp only [cond_false]
        cases s.tasks.findIdx? fun t => t.id == pickS s with
        | none => exact Nat.le_refl _
        | some i =>
          simp only [Option.elim_some]
          cases s.tasks[i]? with
          | none => exact Nat.le_refl _
          | some t => exact goOn_tot _ _ _ _
      · exact Nat.le_refl _
  · exact Nat.le_refl _
end Go.Proofs.Ev
