/- Plain laws: what is left of a task, what fits, Admit. -/
import Derived.Test.YthaamopjdieecaaEvP16
set_option linter.unusedVariables false
set_option linter.unusedSimpArgs false
set_option linter.unusedVariables false
set_option linter.unusedSimpArgs false
namespace Go.Proofs.Ev
theorem S_l07Copy_eq {k : Nat} {s : Sched} (hk : s.tot < k) (hN : s.tot ≤ maxN) : S_l07Copy k s = some s := by
  have hM := maxN_eq
  unfold Sched.tot at hk hN
  have hlen := totL_len Task.tot s.tasks
  unfold S_l07Copy
  refine (app_loop s.tasks (fun t => t) (g := fun u4 n4 => S_l07Copy_g0 k (s.now, s.slack, s.age, s.tasks, s.run, s.left, s.turns, s.next, (0 : Int), (0 : Int), (0 : Int), (0 : Int), (0 : Int), (0 : Int), (0 : Int), s.now, s.slack, s.age, s.run, s.left, s.turns, s.next) u4 n4 (fun y3 => some (⟨s.now, s.slack, s.age, y3, s.run, s.left, s.turns, s.next⟩ : Sched)))
    (fin := fun y3 => some (⟨s.now, s.slack, s.age, y3, s.run, s.left, s.turns, s.next⟩ : Sched)) (fun i ys hi next hl => by
    have hm := totL_mem Task.tot (List.getElem_mem hi)
    have hm0 : s.tasks[i].tot = s.tasks[i].costs.length + 0 := rfl
    simp only [S_l07Copy_g0]
    rw [cond_dec, if_pos (by omega), idx_nat, getD_get hi, bind_some', S_l01Copy_eq (by omega) (by omega), bind_some', ble_le (by omega), wrapNat1 hi (by omega)]) (fun ys next => by
    simp only [S_l07Copy_g0]; rw [cond_dec, if_neg (by omega)]) (by omega)).trans ?_
  simp
theorem I_Sched_copied_eq {k : Nat} {s : Sched} (hk : s.tot < k) (hN : s.tot ≤ maxN) : I_Sched_copied k s = some s := by
  have hM := maxN_eq
  unfold Sched.tot at hk hN
  have hlen := totL_len Task.tot s.tasks
  unfold I_Sched_copied
  refine (app_loop s.tasks (fun t => t) (g := fun u4 n4 => I_Sched_copied_g0 k (s.tasks, (s.tasks.length : Int), s.now, s.slack, s.age, s.run, s.left, s.turns, s.next, (0 : Int), (0 : Int), (0 : Int), (0 : Int), (0 : Int), (0 : Int), (0 : Int)) u4 n4 (fun y3 => some (⟨s.now, s.slack, s.age, y3, s.run, s.left, s.turns, s.next⟩ : Sched)))
    (fin := fun y3 => some (⟨s.now, s.slack, s.age, y3, s.run, s.left, s.turns, s.next⟩ : Sched)) (fun i ys hi next hl => by
    have hm := totL_mem Task.tot (List.getElem_mem hi)
    have hm0 : s.tasks[i].tot = s.tasks[i].costs.length + 0 := rfl
    simp only [I_Sched_copied_g0]
    rw [cond_dec, if_pos (by omega), idx_nat, getD_get hi, bind_some', slices_Clone_lint_int_eq (by omega), bind_some', ble_le (by omega), wrapNat1 hi (by omega)]) (fun ys next => by
    simp only [I_Sched_copied_g0]; rw [cond_dec, if_neg (by omega)]) (by omega)).trans ?_
  simp
/-- The sum of the layers from a task's place on. -/
def restOf (t : Task) : Int := (t.costs.drop t.at_.toNat).sum
/-- The layer at a task's place. -/
def costAt (t : Task) : Int := (idx t.costs t.at_).getD 0
def remain (s : Sched) (t : Task) : Int := cond (s.run == t.id) (restOf t - costAt t + s.left) (restOf t)
theorem idx_costAt {t : Task} (h : taskB t = true) : idx t.costs t.at_ = some (costAt t) ∧ 1 ≤ costAt t ∧ costAt t ≤ 1000 := by
  have ht := taskB_spec h
  have hlt : t.at_.toNat < t.costs.length := by omega
  have e : idx t.costs t.at_ = some t.costs[t.at_.toNat] := by rw [idx_pos _ ht.2.2.1.1]; exact getD_get hlt
  unfold costAt
  rw [e, Option.getD_some]
  exact ⟨rfl, ht.2.2.2.2.2 _ (List.getElem_mem hlt)⟩
theorem restOf_bd {t : Task} (h : taskB t = true) : costAt t ≤ restOf t ∧ restOf t - costAt t ≤ 5000 ∧ 0 ≤ restOf t - costAt t := by
  have ht := taskB_spec h
  have hlt : t.at_.toNat < t.costs.length := by omega
  have e : idx t.costs t.at_ = some t.costs[t.at_.toNat] := by rw [idx_pos _ ht.2.2.1.1]; exact getD_get hlt
  have hc : costAt t = t.costs[t.at_.toNat] := by unfold costAt; rw [e]; rfl
  have hb := sum_bd' (f := fun x : Int => x) (B := 1000) (t.costs.drop (t.at_.toNat + 1)) (fun x hx => by have := ht.2.2.2.2.2 x (List.mem_of_mem_drop hx); omega)
  rw [List.map_id', List.length_drop] at hb
  unfold restOf
  rw [drop_step hlt, List.sum_cons, hc]
  omega
theorem run_left {s : Sched} (h : schedB s = true) {t : Task} (hm : t ∈ s.tasks) (hr : s.run = t.id) : 1 ≤ s.left ∧ s.left ≤ costAt t := by
  have hs := schedB_spec h
  obtain ⟨i, hi, rfl⟩ := List.mem_iff_getElem.1 hm
  have hT := (tasksB_spec hs.2.2.2.2.2.2.1 hi).1
  have ht := taskB_spec hT
  have hrun := hs.2.2.2.2.2.2.2
  unfold runB at hrun
  have h0 : (s.run == 0) = false := by rw [hr]; simp; omega
  rw [h0, cond_false, hr, find_id hs.2.2.2.2.2.2.1 hi, Option.elim_some, getD_get hi, Option.elim_some, (idx_costAt hT).1, Option.elim_some] at hrun
  exact of_decide_eq_true hrun
theorem remain_bd {s : Sched} (h : schedB s = true) {t : Task} (hm : t ∈ s.tasks) : 0 ≤ remain s t ∧ remain s t ≤ 6000 := by
  have hs := schedB_spec h
  obtain ⟨i, hi, e⟩ := List.mem_iff_getElem.1 hm
  have hT : taskB t = true := e ▸ (tasksB_spec hs.2.2.2.2.2.2.1 hi).1
  have hc := idx_costAt hT
  have hb := restOf_bd hT
  unfold remain
  cases hr : s.run == t.id
  · simp only [cond_false]; omega
  · have := run_left h hm (by simpa using hr)
    simp only [cond_true]; omega
theorem S_RemainOf_eq {k : Nat} {s : Sched} (hk : s.tot < k) (hN : s.tot ≤ maxN) (h : schedB s = true) {t : Task} (hm : t ∈ s.tasks) : S_RemainOf k s t.id = some (remain s t) := by
  have hM := maxN_eq
  have hs := schedB_spec h
  obtain ⟨i, hi, rfl⟩ := List.mem_iff_getElem.1 hm
  have hT := (tasksB_spec hs.2.2.2.2.2.2.1 hi).1
  have ht := taskB_spec hT
  have hlen := totL_len Task.tot s.tasks
  have htm := totL_mem Task.tot hm
  have hm0 : s.tasks[i].tot = s.tasks[i].costs.length + 0 := rfl
  have hst : s.tot = totL Task.tot s.tasks + 0 := rfl
  have hc := idx_costAt hT
  have hb := restOf_bd hT
  unfold S_RemainOf
  rw [S_l07At_eq (by omega) (by omega), bind_some', S_SchedOk_eq hk hN, bind_some', h, findT_some (find_id hs.2.2.2.2.2.2.1 hi)]
  simp only [Bool.not_true, cond_false]
  rw [cond_dec, if_neg (by omega), idx_nat, getD_get hi, bind_some']
  have hat : s.tasks[i].at_ = ((s.tasks[i].at_.toNat : Nat) : Int) := by omega
  have e := sumFrom_loop (R := Int) s.tasks[i].costs s.tasks[i].at_.toNat (by omega) (B := 1000) (by omega) (fun x hx => by have := ht.2.2.2.2.2 x hx; omega)
    (g := fun u7 n7 => S_RemainOf_g0 k (s.tasks[i].id, s.now, s.slack, s.age, s.tasks, s.run, s.left, s.turns, s.next, s.tasks[i].id, s.tasks[i].costs, s.tasks[i].at_, s.tasks[i].due, s.tasks[i].born) u7 n7 (fun y5 => cond (s.run == s.tasks[i].id) ((idx s.tasks[i].costs s.tasks[i].at_).bind fun e6 => some (IntKind.i64.wrap ((IntKind.i64.wrap (y5 - e6)) + s.left))) (some y5)))
    (fin := fun y5 => cond (s.run == s.tasks[i].id) ((idx s.tasks[i].costs s.tasks[i].at_).bind fun e6 => some (IntKind.i64.wrap ((IntKind.i64.wrap (y5 - e6)) + s.left))) (some y5))
    (fun j z hj next h0 h1 => by
      have := ht.2.2.2.2.2 _ (List.getElem_mem hj)
      simp only [S_RemainOf_g0]
      rw [cond_dec, if_pos (by omega), idx_nat, getD_get hj, bind_some', wrapI (by omega) (by omega), wrapNat1 hj (by omega)])
    (fun z next => by simp only [S_RemainOf_g0]; rw [cond_dec, if_neg (by omega)]) (k := k) (by omega)
  rw [← hat] at e
  refine e.trans ?_
  show cond _ _ _ = some (remain s s.tasks[i])
  unfold remain
  rw [hc.1, bind_some']
  cases hr : s.run == s.tasks[i].id
  · rfl
  · have := run_left h hm (by simpa using hr)
    simp only [cond_true]
    have e2 : (s.tasks[i].costs.drop s.tasks[i].at_.toNat).sum = restOf s.tasks[i] := rfl
    rw [e2, wrapI (n := restOf s.tasks[i] - costAt s.tasks[i]) (by omega) (by omega), wrapI (by omega) (by omega)]
theorem fold_sum {B : Int} : ∀ (xs : List Int) (s : Int) (hf : ∀ x ∈ xs, 0 ≤ x ∧ x ≤ B) (h0 : 0 ≤ s) (h1 : s + B * xs.length ≤ 9223372036854775807), xs.foldl (fun s x => IntKind.i64.wrap (s + x)) s = s + xs.sum
  | [], s, _, _, _ => by simp
  | x :: xs, s, hf, h0, h1 => by
    have hx := hf x (by simp)
    rw [List.length_cons, Int.natCast_add, Int.mul_add] at h1
    have h2 : 0 ≤ B * (xs.length : Int) := Int.mul_nonneg (by omega) (by omega)
    rw [List.foldl_cons, List.sum_cons, wrapI (by omega) (by omega), fold_sum xs (s + x) (fun y hy => hf y (by simp [hy])) (by omega) (by omega)]
    omega
theorem I_remain_eq {k : Nat} {s : Sched} (hk : s.tot < k) (hN : s.tot ≤ maxN) (h : schedB s = true) {t : Task} (hm : t ∈ s.tasks) : I_Sched_remain k s t = some (remain s t) := by
  have hM := maxN_eq
  have hs := schedB_spec h
  obtain ⟨i, hi, rfl⟩ := List.mem_iff_getElem.1 hm
  have hT := (tasksB_spec hs.2.2.2.2.2.2.1 hi).1
  have ht := taskB_spec hT
  have htm := totL_mem Task.tot hm
  have hm0 : s.tasks[i].tot = s.tasks[i].costs.length + 0 := rfl
  have hst : s.tot = totL Task.tot s.tasks + 0 := rfl
  have hc := idx_costAt hT
  have hb := restOf_bd hT
  unfold I_Sched_remain
  rw [cond_dec, if_pos (by omega), List.take_of_length_le (Nat.le_refl _), I_sum_eq (by simp; omega) (by simp; omega), bind_some', fold_sum (B := 1000) _ 0 (fun x hx => by have := ht.2.2.2.2.2 x (List.mem_of_mem_drop hx); omega) (by omega) (by simp; omega), hc.1, bind_some', Int.zero_add]
  have e2 : (s.tasks[i].costs.drop s.tasks[i].at_.toNat).sum = restOf s.tasks[i] := rfl
  rw [e2]
  unfold remain
  cases hr : s.run == s.tasks[i].id
  · rfl
  · have := run_left h hm (by simpa using hr)
    simp only [cond_true]
    rw [wrapI (n := s.left - costAt s.tasks[i]) (by omega) (by omega), wrapI (by omega) (by omega)]
    congr 1; omega
def demand (s : Sched) (d : Int) : Int := (s.tasks.map fun t => cond (decide (t.due ≤ d)) (remain s t) 0).sum
def block (s : Sched) (d : Int) : Int := (s.tasks.findIdx? fun t => t.id == s.run).elim 0 fun i => (s.tasks[i]?).elim 0 fun t => cond (decide (t.due > d)) s.left 0
theorem demand_mem {s : Sched} (h : schedB s = true) (d : Int) : ∀ t ∈ s.tasks, 0 ≤ cond (decide (t.due ≤ d)) (remain s t) 0 ∧ cond (decide (t.due ≤ d)) (remain s t) 0 ≤ 6000 := fun t ht => by
  have := remain_bd h ht
  cases decide (t.due ≤ d)
  · simp
  · simpa using this
theorem demand_bd {s : Sched} (h : schedB s = true) (d : Int) : 0 ≤ demand s d ∧ demand s d ≤ 72000 := by
  have hs := schedB_spec h
  have := sum_bd' (B := 6000) s.tasks (demand_mem h d)
  unfold demand
  omega
theorem S_DemandAt_eq {k : Nat} {s : Sched} {d : Int} (hk : s.tot < k) (hN : s.tot ≤ maxN) (h : schedB s = true) : S_DemandAt k s d = some (demand s d) := by
  have hM := maxN_eq
  have hs := schedB_spec h
  have hlen := totL_len Task.tot s.tasks
  have hst : s.tot = totL Task.tot s.tasks + 0 := rfl
  unfold S_DemandAt
  rw [S_SchedOk_eq hk hN, bind_some', h]
  simp only [Bool.not_true, cond_false]
  exact sum_loop s.tasks (fun t => cond (decide (t.due ≤ d)) (remain s t) 0) (B := 6000) (demand_mem h d) (g := fun u6 n6 => S_DemandAt_g0 k (d, s.now, s.slack, s.age, s.tasks, s.run, s.left, s.turns, s.next) u6 n6 (fun y5 => some y5)) (fin := some)
    (fun i z hi next h0 h1 => by
      have hr := remain_bd h (List.getElem_mem hi)
      have e := S_RemainOf_eq hk hN h (List.getElem_mem hi)
      simp only [S_DemandAt_g0]
      rw [cond_dec, if_pos (by omega), idx_nat, getD_get hi, bind_some', wrapNat1 hi (by omega), bind_some']
      by_cases c : s.tasks[i].due ≤ d
      · rw [decide_eq_true c, cond_true, cond_true, show (⟨s.now, s.slack, s.age, s.tasks, s.run, s.left, s.turns, s.next⟩ : Sched) = s from rfl, e, bind_some', wrapI (by omega) (by omega)]
      · rw [decide_eq_false c, cond_false, cond_false, Int.add_zero])
    (fun z next => by simp only [S_DemandAt_g0]; rw [cond_dec, if_neg (by omega)]) (by omega)
theorem I_demand_eq {k : Nat} {s : Sched} {d : Int} (hk : s.tot < k) (hN : s.tot ≤ maxN) (h : schedB s = true) : I_Sched_demand k s d = some (demand s d) := by
  have hM := maxN_eq
  have hs := schedB_spec h
  have hlen := totL_len Task.tot s.tasks
  have hst : s.tot = totL Task.tot s.tasks + 0 := rfl
  unfold I_Sched_demand
  exact sum_loop s.tasks (fun t => cond (decide (t.due ≤ d)) (remain s t) 0) (B := 6000) (demand_mem h d) (g := fun u4 n4 => I_Sched_demand_g0 k (d, s.tasks, (s.tasks.length : Int), s.now, s.slack, s.age, s.tasks, s.run, s.left, s.turns, s.next) u4 n4 (fun y3 => some y3)) (fin := some)
    (fun i z hi next h0 h1 => by
      have hr := remain_bd h (List.getElem_mem hi)
      have e := I_remain_eq hk hN h (List.getElem_mem hi)
      simp only [I_Sched_demand_g0]
      rw [cond_dec, if_pos (by omega), idx_nat, getD_get hi, bind_some', wrapNat1 hi (by omega)]
      by_cases c : s.tasks[i].due ≤ d
      · rw [decide_eq_true c, cond_true, cond_true, show (⟨s.now, s.slack, s.age, s.tasks, s.run, s.left, s.turns, s.next⟩ : Sched) = s from rfl, e, bind_some', wrapI (by omega) (by omega)]
      · rw [decide_eq_false c, cond_false, cond_false, Int.add_zero])
    (fun z next => by simp only [I_Sched_demand_g0]; rw [cond_dec, if_neg (by omega)]) (by omega)
theorem block_bd {s : Sched} (h : schedB s = true) (d : Int) : 0 ≤ block s d ∧ block s d ≤ 1000 := by
  have hs := schedB_spec h
  unfold block
  cases hf : s.tasks.findIdx? fun t => t.id == s.run with
  | none => exact ⟨Int.le_refl _, by show (0 : Int) ≤ 1000; omega⟩
  | some i =>
    obtain ⟨hi, hid⟩ := find_at hf
    have hT := (tasksB_spec hs.2.2.2.2.2.2.1 hi).1
    have := run_left h (List.getElem_mem hi) hid.symm
    have := idx_costAt hT
    rw [Option.elim_some, getD_get hi, Option.elim_some]
    cases decide (s.tasks[i].due > d)
    · exact ⟨Int.le_refl _, by show (0 : Int) ≤ 1000; omega⟩
    · simp only [cond_true]; omega
theorem block_look {s : Sched} {d : Int} (h : schedB s = true) : cond (decide (findT s.tasks s.run ≥ (0 : Int))) ((idx s.tasks (findT s.tasks s.run)).bind fun e3 => cond (decide (e3.due > d)) (some s.left) (some (0 : Int))) (some (0 : Int)) = some (block s d) := by
  unfold block
  cases hf : s.tasks.findIdx? fun t => t.id == s.run with
  | none => rw [findT_none hf]; rfl
  | some i =>
    obtain ⟨hi, _⟩ := find_at hf
    rw [findT_some hf, cond_dec, if_pos (by omega), idx_nat, getD_get hi, bind_some', Option.elim_some, getD_get hi, Option.elim_some]
    cases decide (s.tasks[i].due > d) <;> rfl
theorem S_BlockAt_eq {k : Nat} {s : Sched} {d : Int} (hk : s.tot < k) (hN : s.tot ≤ maxN) (h : schedB s = true) : S_BlockAt k s d = some (block s d) := by
  have hlen := totL_len Task.tot s.tasks
  have hst : s.tot = totL Task.tot s.tasks + 0 := rfl
  unfold S_BlockAt
  rw [S_SchedOk_eq hk hN, bind_some', h]
  simp only [Bool.not_true, cond_false]
  rw [S_l07At_eq (by omega) (by omega), bind_some', block_look h]
theorem I_block_eq {k : Nat} {s : Sched} {d : Int} (hk : s.tot < k) (hN : s.tot ≤ maxN) (h : schedB s = true) : I_Sched_block k s d = some (block s d) := by
  have hlen := totL_len Task.tot s.tasks
  have hst : s.tot = totL Task.tot s.tasks + 0 := rfl
  unfold I_Sched_block
  rw [I_find_eq (by omega) (by omega), bind_some', block_look h]
def lateB (s : Sched) (t : Task) : Bool := decide (t.due ≤ s.now)
def roomB (s : Sched) (t : Task) : Bool := decide (demand s t.due + block s t.due + s.slack ≤ t.due - s.now)
def fitsB (s : Sched) : Bool := schedB s && s.tasks.all fun t => !lateB s t && roomB s t
theorem all_and {α : Type} (p q : α → Bool) : ∀ xs : List α, (xs.all p && xs.all q) = xs.all fun x => p x && q x
  | [] => rfl
  | x :: xs => by
    rw [List.all_cons, List.all_cons, List.all_cons, ← all_and p q xs]
    cases p x <;> cases q x <;> cases xs.all p <;> cases xs.all q <;> rfl
theorem S_LateOf_eq {k : Nat} {s : Sched} (hk : s.tot < k) (hN : s.tot ≤ maxN) (h : schedB s = true) : S_LateOf k s = some ((s.tasks.filter (lateB s)).map (·.id)) := by
  have hM := maxN_eq
  have hlen := totL_len Task.tot s.tasks
  have hst : s.tot = totL Task.tot s.tasks + 0 := rfl
  unfold S_LateOf
  rw [S_SchedOk_eq hk hN, bind_some', h]
  simp only [Bool.not_true, cond_false]
  exact filter_loop s.tasks (lateB s) (·.id) (g := fun u5 n5 => S_LateOf_g0 k (s.now, s.slack, s.age, s.tasks, s.run, s.left, s.turns, s.next) u5 n5 (fun y4 => some y4)) (fin := some)
    (fun i ys hi next hl => by
      simp only [S_LateOf_g0]
      rw [cond_dec, if_pos (by omega), idx_nat, getD_get hi, bind_some', wrapNat1 hi (by omega), bind_some', ble_le (by simp; omega)]
      rfl)
    (fun ys next => by simp only [S_LateOf_g0]; rw [cond_dec, if_neg (by omega)]) (by omega)
theorem room_eq {s : Sched} (h : schedB s = true) {t : Task} (hm : t ∈ s.tasks) : decide ((IntKind.i64.wrap ((IntKind.i64.wrap (demand s t.due + block s t.due)) + s.slack)) > (IntKind.i64.wrap (t.due - s.now))) = !roomB s t := by
  have hs := schedB_spec h
  have hd := demand_bd h t.due
  have hb := block_bd h t.due
  obtain ⟨i, hi, e⟩ := List.mem_iff_getElem.1 hm
  have ht := taskB_spec (t := t) (e ▸ (tasksB_spec hs.2.2.2.2.2.2.1 hi).1)
  rw [wrapI (n := demand s t.due + block s t.due) (by omega) (by omega), wrapI (n := demand s t.due + block s t.due + s.slack) (by omega) (by omega), wrapI (by omega) (by omega), dec_gt]
  rfl
theorem S_FitsIn_eq {k : Nat} {s : Sched} (hk : s.tot < k) (hN : s.tot ≤ maxN) : S_FitsIn k s = some (fitsB s) := by
  have hM := maxN_eq
  have hlen := totL_len Task.tot s.tasks
  have hst : s.tot = totL Task.tot s.tasks + 0 := rfl
  unfold S_FitsIn fitsB
  rw [S_SchedOk_eq hk hN, bind_some']
  cases h : schedB s
  · rfl
  simp only [Bool.not_true, cond_false, Bool.true_and]
  rw [S_LateOf_eq hk hN h, bind_some', all_loop s.tasks (roomB s) (yes := some true) (no := some false) (fun i hi next => by
    simp only [S_FitsIn_g0]
    rw [cond_dec, if_pos (by omega), idx_nat, getD_get hi, bind_some', show (⟨s.now, s.slack, s.age, s.tasks, s.run, s.left, s.turns, s.next⟩ : Sched) = s from rfl, S_DemandAt_eq hk hN h, bind_some', S_BlockAt_eq hk hN h, bind_some', room_eq h (List.getElem_mem hi), cond_not, wrapNat1 hi (by omega)]) (fun next => by
    simp only [S_FitsIn_g0]; rw [cond_dec, if_neg (by omega)]) (by omega)]
  rw [← all_and, List.length_map]
  have hz : decide (((s.tasks.filter (lateB s)).length : Int) > 0) = !(s.tasks.all fun t => !lateB s t) := by
    cases ha : s.tasks.all fun t => !lateB s t
    · rw [List.all_eq_false] at ha
      obtain ⟨t, ht, hl⟩ := ha
      have : 0 < (s.tasks.filter (lateB s)).length := List.length_pos_of_mem (List.mem_filter.2 ⟨ht, by simpa using hl⟩)
      rw [decide_eq_true (by omega)]; rfl
    · rw [List.all_eq_true] at ha
      have : s.tasks.filter (lateB s) = [] := List.filter_eq_nil_iff.2 fun t ht => by simpa using ha t ht
      rw [this]; rfl
  rw [hz]
  cases s.tasks.all fun t => !lateB s t
  · rfl
  · simp only [Bool.not_true, cond_false, Bool.true_and]
    cases s.tasks.all (roomB s) <;> rfl
theorem I_FitsIn_eq {k : Nat} {s : Sched} (hk : s.tot < k) (hN : s.tot ≤ maxN) : I_FitsIn k s = some (fitsB s) := by
  have hM := maxN_eq
  have hlen := totL_len Task.tot s.tasks
  have hst : s.tot = totL Task.tot s.tasks + 0 := rfl
  unfold I_FitsIn fitsB
  rw [I_SchedOk_eq hk hN, bind_some']
  cases h : schedB s
  · rfl
  simp only [cond_true, Bool.true_and]
  unfold slices_ContainsFunc_lI_Task_I_Task_m slices_IndexFunc_lI_Task_I_Task_m2
  simp only [decide_true, cond_true]
  rw [find_loop s.tasks (fun t => !(!lateB s t && roomB s t)) (yes := some (-1)) (no := some) (fun i hi next => by
    simp only [slices_IndexFunc_lI_Task_I_Task_m2_g0, decide_true, cond_true]
    rw [cond_dec, if_pos (by omega), idx_nat, getD_get hi, bind_some', show (⟨s.now, s.slack, s.age, s.tasks, s.run, s.left, s.turns, s.next⟩ : Sched) = s from rfl]
    have e : I_FitsIn_c1_m k s.tasks[i] s = some (!(!lateB s s.tasks[i] && roomB s s.tasks[i])) := by
      unfold I_FitsIn_c1_m I_Sched_isLate
      rw [bind_some', I_demand_eq hk hN h, I_block_eq hk hN h]
      simp only [decide_true, cond_true, bind_some', room_eq h (List.getElem_mem hi)]
      unfold lateB
      cases decide (s.tasks[i].due ≤ s.now) <;> cases roomB s s.tasks[i] <;> rfl
    rw [e, bind_some', wrapNat1 hi (by omega)]) (fun next => by
    simp only [slices_IndexFunc_lI_Task_I_Task_m2_g0, decide_true, cond_true]; rw [cond_dec, if_neg (by omega)]) (by omega)]
  rw [findIdx_some]
  simp only [bind_some', findIdx_ge]
  rw [List.any_eq_not_all_not]
  simp only [Bool.not_not]
def admitS (s : Sched) (costs : List Int) (due : Int) : Sched × Int × Int :=
  cond (schedB s && taskB ⟨s.next, costs, 0, due, s.now⟩)
    (cond ((s.tasks.length : Int) == 12 || s.next == 1000000) (s, 0, 2)
      (cond (fitsB ⟨s.now, s.slack, s.age, s.tasks ++ [⟨s.next, costs, 0, due, s.now⟩], s.run, s.left, s.turns, s.next + 1⟩)
        (⟨s.now, s.slack, s.age, s.tasks ++ [⟨s.next, costs, 0, due, s.now⟩], s.run, s.left, s.turns, s.next + 1⟩, s.next, 0) (s, 0, 3))) (s, 0, 1)
theorem S_Admit_eq {k : Nat} {s : Sched} {costs : List Int} {due : Int} (hk : s.tot + costs.length + 1 < k) (hN : s.tot + costs.length + 1 ≤ maxN) : S_Admit k s costs due = some (admitS s costs due) := by
  have hM := maxN_eq
  have hlen := totL_len Task.tot s.tasks
  have hst : s.tot = totL Task.tot s.tasks + 0 := rfl
  have hT : Task.tot ⟨s.next, costs, 0, due, s.now⟩ = costs.length + 0 := rfl
  unfold S_Admit admitS
  rw [S_l07Copy_eq (by omega) (by omega), bind_some', S_l01Copy_eq (by omega) (by omega), bind_some', S_SchedOk_eq (by omega) (by omega), bind_some', S_TaskOk_eq (t := ⟨s.next, costs, 0, due, s.now⟩) (by show costs.length < k; omega) (by show costs.length ≤ maxN; omega), bind_some']
  cases h : schedB s
  · rfl
  have hs := schedB_spec h
  simp only [Bool.not_true, cond_false, Bool.true_and]
  cases taskB ⟨s.next, costs, 0, due, s.now⟩
  · rfl
  simp only [Bool.not_true, cond_false, cond_true]
  cases ((s.tasks.length : Int) == 12)
  case true => rfl
  cases (s.next == (1000000 : Int))
  case true => rfl
  simp only [cond_false, Bool.or_false]
  have ht2 : Sched.tot ⟨s.now, s.slack, s.age, s.tasks ++ [⟨s.next, costs, 0, due, s.now⟩], s.run, s.left, s.turns, s.next + 1⟩ = s.tot + (costs.length + 1) := by
    unfold Sched.tot; simp only [totL_append, totL_cons, hT]; simp [totL]
  rw [ble_le (by omega), wrapI (by omega) (by omega), S_FitsIn_eq (by omega) (by omega), bind_some', cond_not]
  cases fitsB _ <;> rfl
theorem admit_tot (s : Sched) (costs : List Int) (due : Int) : (admitS s costs due).1.tot ≤ s.tot + costs.length + 1 := by
  have hT : Task.tot ⟨s.next, costs, 0, due, s.now⟩ = costs.length + 0 := rfl
  have ht2 : Sched.tot ⟨s.now, s.slack, s.age, s.tasks ++ [⟨s.next, costs, 0, due, s.now⟩], s.run, s.left, s.turns, s.next + 1⟩ = s.tot + (costs.length + 1) := by
    unfold Sched.tot; simp only [totL_append, totL_cons, hT]; simp [totL]
  unfold admitS
  cases (schedB s && taskB ⟨s.next, costs, 0, due, s.now⟩)
  · simp only [cond_false]; omega
  cases ((s.tasks.length : Int) == 12 || s.next == 1000000)
  · cases fitsB _
    · simp only [cond_false, cond_true]; omega
    · simp only [cond_false, cond_true]; omega
  · simp only [cond_true]; omega
end Go.Proofs.Ev
