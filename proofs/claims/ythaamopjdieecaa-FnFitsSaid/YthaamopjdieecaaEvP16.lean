/- Plain laws: schedules: TaskOk, SchedOk, what fits, Admit. -/
import Derived.Test.YthaamopjdieecaaEvP5
import Derived.Test.YthaamopjdieecaaEvP6
import Derived.Test.YthaamopjdieecaaEvD6
import Derived.Test.YthaamopjdieecaaEvB3
set_option linter.unusedVariables false
set_option linter.unusedSimpArgs false
set_option linter.unusedVariables false
set_option linter.unusedSimpArgs false
namespace Go.Proofs.Ev
theorem cond_and (b c : Bool) : cond b (some c) (some false) = some (b && c) := by cases b <;> rfl
theorem dec_ge (a b : Int) : decide (a ≥ b) = !decide (a < b) := by rw [← decide_not]; exact decide_eq_decide.2 (by omega)
theorem dec_gt (a b : Int) : decide (a > b) = !decide (a ≤ b) := by rw [← decide_not]; exact decide_eq_decide.2 (by omega)
theorem all_loopI {R : Type} (n : Nat) (p : Nat → Bool) {g : Int → (Int → Option R) → Option R} {yes no : Option R}
    (h : ∀ (i : Nat) (hi : i < n) (next : Int → Option R), g (i : Int) next = cond (p i) (next ((i + 1 : Nat) : Int)) no)
    (hn : ∀ next, g (n : Int) next = yes) {k : Nat} (hk : n < k) : iter g k 0 = cond ((List.range n).all p) yes no :=
  all_loop (List.range n) p (g := g) (yes := yes) (no := no) (fun i hi next => by rw [h i (by simpa using hi)]; simp) (fun next => by simpa using hn next) (by simpa using hk)
/-- A loop that gathers what comes of those for which something holds. -/
theorem filter_loop {α β R : Type} (xs : List α) (p : α → Bool) (f : α → β) {g : Int × List β → (Int × List β → Option R) → Option R} {fin : List β → Option R}
    (h : ∀ (i : Nat) (ys : List β) (hi : i < xs.length) (next : Int × List β → Option R), ys.length ≤ i → g ((i : Int), ys) next = cond (p xs[i]) (next (((i + 1 : Nat) : Int), ys ++ [f xs[i]])) (next (((i + 1 : Nat) : Int), ys)))
    (hn : ∀ ys next, g ((xs.length : Int), ys) next = fin ys) {k : Nat} (hk : xs.length < k) : iter g k (0, []) = fin ((xs.filter p).map f) := by
  have := iter_run (g := g) (st := fun i => ((i : Int), ((xs.take i).filter p).map f)) (n := xs.length) (r := fin ((xs.filter p).map f)) (fun i hi next => by
    rw [h i _ hi next (by simp only [List.length_map]; exact Nat.le_trans (List.length_filter_le _ _) (by simp; omega)), take_step hi, List.filter_append, List.map_append]
    cases hp : p xs[i]
    · simp [hp]
    · simp [hp]) (fun next => by rw [List.take_length]; exact hn _ _) hk
  simpa using this
theorem sum_bd' {α : Type} {f : α → Int} {B : Int} : ∀ (xs : List α) (hf : ∀ x ∈ xs, 0 ≤ f x ∧ f x ≤ B), 0 ≤ (xs.map f).sum ∧ (xs.map f).sum ≤ B * xs.length
  | [], _ => by simp
  | x :: xs, hf => by
    have := sum_bd' xs fun y hy => hf y (by simp [hy])
    have h2 := hf x (by simp)
    simp only [List.map_cons, List.sum_cons, List.length_cons]
    rw [Int.natCast_add, Int.mul_add]
    omega
/-- A loop that adds, by its members' bounds. -/
theorem sum_loop {α R : Type} (xs : List α) (f : α → Int) {B : Int} (hf : ∀ x ∈ xs, 0 ≤ f x ∧ f x ≤ B) {g : Int × Int → (Int × Int → Option R) → Option R} {fin : Int → Option R}
    (h : ∀ (i : Nat) (s : Int) (hi : i < xs.length) (next : Int × Int → Option R), 0 ≤ s → s ≤ B * i → g (s, (i : Int)) next = next (s + f xs[i], ((i + 1 : Nat) : Int)))
    (hn : ∀ s next, g (s, (xs.length : Int)) next = fin s) {k : Nat} (hk : xs.length < k) : iter g k (0, 0) = fin ((xs.map f).sum) := by
  have := iter_run (g := g) (st := fun i => (((xs.take i).map f).sum, (i : Int))) (n := xs.length) (r := fin ((xs.map f).sum)) (fun i hi next => by
    have hb := sum_bd' (f := f) (B := B) (xs.take i) (fun x hx => hf x (List.mem_of_mem_take hx))
    rw [List.length_take, Nat.min_eq_left (by omega)] at hb
    rw [h i _ hi next hb.1 hb.2, take_step hi, List.map_append, List.sum_append]
    simp) (fun next => by rw [List.take_length]; exact hn _ _) hk
  simpa using this
/-- .. from a place on. -/
theorem sumFrom_loop {R : Type} (xs : List Int) (a : Nat) (ha : a ≤ xs.length) {B : Int} (hB : 0 ≤ B) (hf : ∀ x ∈ xs, 0 ≤ x ∧ x ≤ B) {g : Int × Int → (Int × Int → Option R) → Option R} {fin : Int → Option R}
    (h : ∀ (i : Nat) (s : Int) (hi : i < xs.length) (next : Int × Int → Option R), 0 ≤ s → s ≤ B * i → g (s, (i : Int)) next = next (s + xs[i], ((i + 1 : Nat) : Int)))
    (hn : ∀ s next, g (s, (xs.length : Int)) next = fin s) {k : Nat} (hk : xs.length < k) : iter g k (0, (a : Int)) = fin ((xs.drop a).sum) := by
  have := iter_run (g := g) (st := fun i => (((xs.drop a).take i).sum, ((a + i : Nat) : Int))) (n := xs.length - a) (r := fin ((xs.drop a).sum)) (fun i hi next => by
    have hb := sum_bd' (f := fun x : Int => x) (B := B) ((xs.drop a).take i) (fun x hx => hf x (List.mem_of_mem_drop (List.mem_of_mem_take hx)))
    rw [List.length_take, List.length_drop, Nat.min_eq_left (by omega), List.map_id'] at hb
    have hle : B * (i : Int) ≤ B * ((a + i : Nat) : Int) := Int.mul_le_mul_of_nonneg_left (by omega) hB
    rw [h (a + i) _ (by omega) next hb.1 (by omega), take_step (show i < (xs.drop a).length by simp; omega), List.sum_append]
    simp [Nat.add_assoc]) (fun next => by
      rw [show a + (xs.length - a) = xs.length by omega, List.take_of_length_le (by simp)]; exact hn _ _) (k := k) (by omega)
  simpa using this
def taskB (t : Task) : Bool := inB t.id 1 1000000 && (inB (t.costs.length : Int) 1 6 && (inB t.at_ 0 ((t.costs.length : Int) - 1) && (inB t.due 0 1000000 && (inB t.born 0 1000000 && t.costs.all fun x => inB x 1 1000))))
theorem taskB_spec {t : Task} (h : taskB t = true) : (1 ≤ t.id ∧ t.id ≤ 1000000) ∧ (1 ≤ t.costs.length ∧ t.costs.length ≤ 6) ∧ (0 ≤ t.at_ ∧ t.at_ < t.costs.length) ∧ (0 ≤ t.due ∧ t.due ≤ 1000000) ∧ (0 ≤ t.born ∧ t.born ≤ 1000000) ∧ ∀ x ∈ t.costs, 1 ≤ x ∧ x ≤ 1000 := by
  unfold taskB inB at h
  simp only [Bool.and_eq_true, decide_eq_true_eq, List.all_eq_true] at h
  obtain ⟨h1, h2, h3, h4, h5, h6⟩ := h
  exact ⟨h1, by omega, by omega, h4, h5, h6⟩
theorem S_l07Tick_eq (k : Nat) (x : Int) : S_l07Tick k x = some (inB x 0 1000000) := by unfold S_l07Tick; rw [S_l01In_eq]; rfl
theorem I_isTick_eq (k : Nat) (x : Int) : I_isTick k x = some (inB x 0 1000000) := by unfold I_isTick; rw [I_in_eq]; rfl
theorem S_TaskOk_eq {k : Nat} {t : Task} (hk : t.costs.length < k) (hN : t.costs.length ≤ maxN) : S_TaskOk k t = some (taskB t) := by
  have hM := maxN_eq
  unfold S_TaskOk taskB
  simp only [S_l01In_eq, S_l07Tick_eq, bind_some', cond_not]
  rw [wrapI (by omega) (by omega), all_loop t.costs (fun x => inB x 1 1000) (yes := some true) (no := some false) (fun i hi next => by
    simp only [S_TaskOk_g0]
    rw [cond_dec, if_pos (by omega), idx_nat, getD_get hi, bind_some', S_l01In_eq, bind_some', cond_not, wrapNat1 hi (by omega)]) (fun next => by
    simp only [S_TaskOk_g0]; rw [cond_dec, if_neg (by omega)]) hk]
  simp only [cond_and, Bool.and_true]
theorem I_TaskOk_eq {k : Nat} {t : Task} (hk : t.costs.length < k) (hN : t.costs.length ≤ maxN) : I_TaskOk k t = some (taskB t) := by
  have hM := maxN_eq
  unfold I_TaskOk slices_ContainsFunc_lint_int__I_TaskOk_c1 slices_IndexFunc_lint_int__I_TaskOk_c1 taskB
  rw [find_loop t.costs (fun x => !inB x 1 1000) (fun i hi next => by
    simp only [slices_IndexFunc_lint_int__I_TaskOk_c1_g0, cond_dec, I_TaskOk_c1, I_in_eq, bind_some']
    rw [if_pos (by omega), idx_nat, getD_get hi, bind_some', wrapNat1 hi (by omega)]) (fun next => by
    simp only [slices_IndexFunc_lint_int__I_TaskOk_c1_g0, cond_dec]; rw [if_neg (by omega)]) hk]
  rw [findIdx_some]
  simp only [I_in_eq, I_isTick_eq, bind_some', findIdx_ge]
  rw [wrapI (by omega) (by omega), List.any_eq_not_all_not]
  simp only [Bool.not_not, cond_and]
  congr 1
  generalize inB t.id 1 1000000 = a
  generalize inB (t.costs.length : Int) 1 6 = b
  generalize inB t.at_ 0 ((t.costs.length : Int) - 1) = c
  generalize inB t.due 0 1000000 = d
  generalize inB t.born 0 1000000 = e
  generalize (t.costs.all fun x => inB x 1 1000) = f
  cases a <;> cases b <;> cases c <;> cases d <;> cases e <;> cases f <;> rfl
def findT (ts : List Task) (id : Int) : Int := (ts.findIdx? fun t => t.id == id).elim (-1) fun i => (i : Int)
theorem S_l07At_eq {k : Nat} {s : Sched} {id : Int} (hk : s.tasks.length < k) (hN : s.tasks.length ≤ maxN) : S_l07At k s id = some (findT s.tasks id) := by
  have hM := maxN_eq
  unfold S_l07At findT
  rw [find_loop s.tasks (fun t => t.id == id) (yes := some (-1)) (no := some) (fun i hi next => by
    simp only [S_l07At_g0]
    rw [cond_dec, if_pos (by omega), idx_nat, getD_get hi, bind_some', wrapNat1 hi (by omega)]) (fun next => by
    simp only [S_l07At_g0]; rw [cond_dec, if_neg (by omega)]) hk]
  exact findIdx_some _
theorem I_find_eq {k : Nat} {s : Sched} {id : Int} (hk : s.tasks.length < k) (hN : s.tasks.length ≤ maxN) : I_Sched_find k s id = some (findT s.tasks id) := by
  have hM := maxN_eq
  unfold I_Sched_find slices_IndexFunc_lI_Task_I_Task_m findT
  rw [find_loop s.tasks (fun t => t.id == id) (yes := some (-1)) (no := some) (fun i hi next => by
    simp only [slices_IndexFunc_lI_Task_I_Task_m_g0, I_Sched_find_c1_m, decide_true, cond_true, bind_some']
    rw [cond_dec, if_pos (by omega), idx_nat, getD_get hi, bind_some', wrapNat1 hi (by omega)]) (fun next => by
    simp only [slices_IndexFunc_lI_Task_I_Task_m_g0, decide_true, cond_true]; rw [cond_dec, if_neg (by omega)]) hk]
  rw [findIdx_some]; rfl
def tasksB (s : Sched) : Bool := (List.range s.tasks.length).all fun i => (s.tasks[i]?).elim false fun t => taskB t && (decide (t.id < s.next) && (decide (t.born ≤ s.now) && (cond (decide (0 < i)) ((s.tasks[i - 1]?).elim false fun u => decide (u.id < t.id)) true)))
def runB (s : Sched) : Bool := cond (s.run == 0) (s.left == 0) ((s.tasks.findIdx? fun t => t.id == s.run).elim false fun i => (s.tasks[i]?).elim false fun t => (idx t.costs t.at_).elim false fun c => inB s.left 1 c)
def schedB (s : Sched) : Bool := inB s.now 0 1000000 && (inB s.slack 0 1000 && (inB s.age 0 20 && (decide ((s.tasks.length : Int) ≤ 12) && (inB s.turns 0 1000000 && (inB s.next 1 1000000 && (tasksB s && runB s))))))
theorem tasksB_spec {s : Sched} (h : tasksB s = true) {i : Nat} (hi : i < s.tasks.length) : taskB s.tasks[i] = true ∧ s.tasks[i].id < s.next ∧ s.tasks[i].born ≤ s.now ∧ ∀ j, (hj : j + 1 = i) → s.tasks[j].id < s.tasks[i].id := by
  unfold tasksB at h
  rw [List.all_eq_true] at h
  have := h i (by simpa using hi)
  rw [getD_get hi, Option.elim_some] at this
  simp only [Bool.and_eq_true, decide_eq_true_eq] at this
  obtain ⟨h1, h2, h3, h4⟩ := this
  refine ⟨h1, h2, h3, fun j hj => ?_⟩
  subst hj
  rw [decide_eq_true (by omega), cond_true, Nat.add_sub_cancel, getD_get (show j < s.tasks.length by omega), Option.elim_some] at h4
  exact of_decide_eq_true h4
theorem ids_lt {s : Sched} (h : tasksB s = true) : ∀ (d i : Nat) (hd : i + d + 1 < s.tasks.length), s.tasks[i].id < s.tasks[i + d + 1].id
  | 0, i, hd => (tasksB_spec h hd).2.2.2 i rfl
  | d + 1, i, hd => Int.lt_trans (ids_lt h d i (by omega)) ((tasksB_spec h (i := i + (d + 1) + 1) hd).2.2.2 (i + d + 1) (by omega))
theorem ids_inj {s : Sched} (h : tasksB s = true) {i j : Nat} (hi : i < s.tasks.length) (hj : j < s.tasks.length) (e : s.tasks[i].id = s.tasks[j].id) : i = j := by
  rcases Nat.lt_trichotomy i j with c | c | c
  · obtain ⟨d, rfl⟩ : ∃ d, j = i + d + 1 := ⟨j - i - 1, by omega⟩
    have := ids_lt h d i hj; omega
  · exact c
  · obtain ⟨d, rfl⟩ : ∃ d, i = j + d + 1 := ⟨i - j - 1, by omega⟩
    have := ids_lt h d j hi; omega
theorem find_id {s : Sched} (h : tasksB s = true) {i : Nat} (hi : i < s.tasks.length) : (s.tasks.findIdx? fun t => t.id == s.tasks[i].id) = some i := by
  cases e : s.tasks.findIdx? fun t => t.id == s.tasks[i].id with
  | none =>
    rw [List.findIdx?_eq_none_iff] at e
    have := e _ (List.getElem_mem hi)
    simp at this
  | some j =>
    obtain ⟨hj, hp, _⟩ := List.findIdx?_eq_some_iff_getElem.1 e
    rw [ids_inj h hj hi (by simpa using hp)]
theorem find_at {ts : List Task} {id : Int} {i : Nat} (h : (ts.findIdx? fun t => t.id == id) = some i) : ∃ hi : i < ts.length, ts[i].id = id := by
  obtain ⟨hi, hp, _⟩ := List.findIdx?_eq_some_iff_getElem.1 h
  exact ⟨hi, by simpa using hp⟩
/-- How the run is looked at, on both sides. -/
theorem run_look {s : Sched} (h : tasksB s = true) (i : Nat) (hi : (s.tasks.findIdx? fun t => t.id == s.run) = some i) :
    ((idx s.tasks (i : Int)).bind fun e8 => (idx s.tasks (i : Int)).bind fun e9 => (idx e8.costs e9.at_).bind fun e10 => some (inB s.left (1 : Int) e10)) =
    some ((s.tasks[i]?).elim false fun t => (idx t.costs t.at_).elim false fun c => inB s.left 1 c) := by
  obtain ⟨hl, _⟩ := find_at hi
  have ht := taskB_spec (tasksB_spec h hl).1
  rw [idx_nat, getD_get hl, bind_some', bind_some', Option.elim_some]
  have : idx s.tasks[i].costs s.tasks[i].at_ = some (s.tasks[i].costs[s.tasks[i].at_.toNat]'(by omega)) := by
    rw [idx_pos _ ht.2.2.1.1]; exact getD_get _
  rw [this, bind_some', Option.elim_some]
theorem findT_some {ts : List Task} {id : Int} {i : Nat} (h : (ts.findIdx? fun t => t.id == id) = some i) : findT ts id = (i : Int) := by unfold findT; rw [h]; rfl
theorem findT_none {ts : List Task} {id : Int} (h : (ts.findIdx? fun t => t.id == id) = none) : findT ts id = -1 := by unfold findT; rw [h]; rfl
theorem task_round {R : Type} {s : Sched} {i : Nat} (hi : i < s.tasks.length) (hN : s.tasks.length ≤ maxN) {next no : Option R} :
    (cond (!taskB s.tasks[i]) no (cond (decide (s.tasks[i].id ≥ s.next)) no (cond (decide (s.tasks[i].born > s.now)) no (cond (decide ((i : Int) > (0 : Int))) ((idx s.tasks (IntKind.i64.wrap ((i : Int) - (1 : Int)))).bind fun e8 => cond (decide (e8.id ≥ s.tasks[i].id)) no next) next)))) =
    cond ((s.tasks[i]?).elim false fun t => taskB t && (decide (t.id < s.next) && (decide (t.born ≤ s.now) && (cond (decide (0 < i)) ((s.tasks[i - 1]?).elim false fun u => decide (u.id < t.id)) true)))) next no := by
  have hM := maxN_eq
  rw [getD_get hi, Option.elim_some, dec_ge s.tasks[i].id s.next, dec_gt s.tasks[i].born s.now]
  simp only [cond_not]
  cases i with
  | zero =>
    rw [decide_eq_false (show ¬ (((0 : Nat) : Int) > 0) by omega), decide_eq_false (show ¬ (0 < 0) by omega)]
    simp only [cond_false, Bool.and_true]
    cases taskB s.tasks[0] <;> cases decide (s.tasks[0].id < s.next) <;> cases decide (s.tasks[0].born ≤ s.now) <;> rfl
  | succ j =>
    rw [decide_eq_true (show (((j + 1 : Nat) : Int) > 0) by omega), decide_eq_true (show (0 < j + 1) by omega), wrapI (by omega) (by omega), show ((j + 1 : Nat) : Int) - 1 = (j : Int) from by omega, idx_nat, Nat.add_sub_cancel, getD_get (show j < s.tasks.length by omega), bind_some', Option.elim_some, dec_ge s.tasks[j].id]
    simp only [cond_true, cond_not]
    cases taskB s.tasks[j + 1] <;> cases decide (s.tasks[j + 1].id < s.next) <;> cases decide (s.tasks[j + 1].born ≤ s.now) <;> cases decide (s.tasks[j].id < s.tasks[j + 1].id) <;> rfl
theorem S_SchedOk_eq {k : Nat} {s : Sched} (hk : s.tot < k) (hN : s.tot ≤ maxN) : S_SchedOk k s = some (schedB s) := by
  have hM := maxN_eq
  unfold Sched.tot at hk hN
  have hlen := totL_len Task.tot s.tasks
  unfold S_SchedOk schedB
  rw [dec_gt (s.tasks.length : Int) 12]
  simp only [S_l01In_eq, S_l07Tick_eq, bind_some', cond_not]
  rw [all_loopI s.tasks.length (fun i => (s.tasks[i]?).elim false fun t => taskB t && (decide (t.id < s.next) && (decide (t.born ≤ s.now) && (cond (decide (0 < i)) ((s.tasks[i - 1]?).elim false fun u => decide (u.id < t.id)) true)))) (fun i hi next => by
    have hm := totL_mem Task.tot (List.getElem_mem hi)
    have hm0 : s.tasks[i].tot = s.tasks[i].costs.length + 0 := rfl
    simp only [S_SchedOk_g0]
    rw [cond_dec, if_pos (by omega), idx_nat, getD_get hi, bind_some', S_TaskOk_eq (by omega) (by omega), bind_some', wrapNat1 hi (by omega)]
    exact (task_round hi (by omega)).trans (by rw [getD_get hi])) (fun next => by
    simp only [S_SchedOk_g0]; rw [cond_dec, if_neg (by omega)]) (by omega)]
  rw [show ((List.range s.tasks.length).all fun i => (s.tasks[i]?).elim false fun t => taskB t && (decide (t.id < s.next) && (decide (t.born ≤ s.now) && (cond (decide (0 < i)) ((s.tasks[i - 1]?).elim false fun u => decide (u.id < t.id)) true)))) = tasksB s from rfl]
  have hr : tasksB s = true → cond (s.run == (0 : Int)) (some (s.left == (0 : Int))) (cond (decide (findT s.tasks s.run ≥ (0 : Int))) ((idx s.tasks (findT s.tasks s.run)).bind fun e11 => (idx s.tasks (findT s.tasks s.run)).bind fun e12 => (idx e11.costs e12.at_).bind fun e13 => some (inB s.left (1 : Int) e13)) (some false)) = some (runB s) := by
    intro h
    unfold runB
    cases s.run == 0
    · simp only [cond_false]
      cases hf : s.tasks.findIdx? fun t => t.id == s.run with
      | none => rw [findT_none hf]; rfl
      | some i => rw [findT_some hf, cond_dec, if_pos (by omega), run_look h i hf]; rfl
    · rfl
  simp only [S_l07At_eq (s := s) (id := s.run) (k := k) (by omega) (by omega), bind_some']
  cases h : tasksB s
  · simp only [cond_false, Bool.false_and]
    simp only [cond_and, Bool.and_false]
  · simp only [cond_true, Bool.true_and, hr h, cond_and]
theorem I_areTasks_eq {k : Nat} {s : Sched} (hk : s.tot < k) (hN : s.tot ≤ maxN) : I_Sched_areTasks k s = some (tasksB s && decide ((s.tasks.length : Int) ≤ 12)) := by
  have hM := maxN_eq
  unfold Sched.tot at hk hN
  have hlen := totL_len Task.tot s.tasks
  unfold I_Sched_areTasks
  rw [all_loopI s.tasks.length (fun i => (s.tasks[i]?).elim false fun t => taskB t && (decide (t.id < s.next) && (decide (t.born ≤ s.now) && (cond (decide (0 < i)) ((s.tasks[i - 1]?).elim false fun u => decide (u.id < t.id)) true)))) (fun i hi next => by
    have hm := totL_mem Task.tot (List.getElem_mem hi)
    have hm0 : s.tasks[i].tot = s.tasks[i].costs.length + 0 := rfl
    simp only [I_Sched_areTasks_g0]
    rw [cond_dec, if_pos (by omega), idx_nat, getD_get hi, bind_some', I_TaskOk_eq (by omega) (by omega), bind_some', wrapNat1 hi (by omega)]
    exact (task_round hi (by omega)).trans (by rw [getD_get hi])) (fun next => by
    simp only [I_Sched_areTasks_g0]; rw [cond_dec, if_neg (by omega)]) (by omega)]
  exact cond_and _ _
theorem I_SchedOk_eq {k : Nat} {s : Sched} (hk : s.tot < k) (hN : s.tot ≤ maxN) : I_SchedOk k s = some (schedB s) := by
  have hM := maxN_eq
  have hk2 := hk
  have hN2 := hN
  unfold Sched.tot at hk hN
  have hlen := totL_len Task.tot s.tasks
  unfold I_SchedOk schedB
  simp only [I_in_eq, I_isTick_eq, bind_some', cond_not, I_areTasks_eq hk2 hN2, I_find_eq (s := s) (id := s.run) (k := k) (by omega) (by omega)]
  have hr : tasksB s = true → cond (s.run == (0 : Int)) (cond (s.run == (0 : Int)) (some (s.left == (0 : Int))) (some false)) (cond (decide (findT s.tasks s.run < (0 : Int))) (cond (s.run == (0 : Int)) (some (s.left == (0 : Int))) (some false)) ((idx s.tasks (findT s.tasks s.run)).bind fun e8 => (idx s.tasks (findT s.tasks s.run)).bind fun e9 => (idx e8.costs e9.at_).bind fun e10 => some (inB s.left (1 : Int) e10))) = some (runB s) := by
    intro h
    unfold runB
    cases s.run == 0
    · simp only [cond_false]
      cases hf : s.tasks.findIdx? fun t => t.id == s.run with
      | none => rw [findT_none hf]; rfl
      | some i => rw [findT_some hf, cond_dec, if_neg (by omega), run_look h i hf]; rfl
    · rfl
  cases h : tasksB s
  · simp only [cond_false, Bool.false_and]
    simp only [cond_and, Bool.and_false]
  · rw [hr h]
    simp only [Bool.true_and, cond_and]
    congr 1
    generalize inB s.now 0 1000000 = a
    generalize inB s.slack 0 1000 = b
    generalize inB s.age 0 20 = c
    generalize decide ((s.tasks.length : Int) ≤ 12) = d
    generalize inB s.turns 0 1000000 = e
    generalize inB s.next 1 1000000 = f
    generalize runB s = g
    cases a <;> cases b <;> cases c <;> cases d <;> cases e <;> cases f <;> cases g <;> rfl
theorem schedB_spec {s : Sched} (h : schedB s = true) : (0 ≤ s.now ∧ s.now ≤ 1000000) ∧ (0 ≤ s.slack ∧ s.slack ≤ 1000) ∧ (0 ≤ s.age ∧ s.age ≤ 20) ∧ s.tasks.length ≤ 12 ∧ (0 ≤ s.turns ∧ s.turns ≤ 1000000) ∧ (1 ≤ s.next ∧ s.next ≤ 1000000) ∧ tasksB s = true ∧ runB s = true := by
  unfold schedB inB at h
  simp only [Bool.and_eq_true, decide_eq_true_eq] at h
  obtain ⟨h1, h2, h3, h4, h5, h6, h7, h8⟩ := h
  exact ⟨h1, h2, h3, by omega, h5, h6, h7, h8⟩
end Go.Proofs.Ev
