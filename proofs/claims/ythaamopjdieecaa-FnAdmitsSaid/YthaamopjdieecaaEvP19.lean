/- Plain laws: TickSched. -/
import Derived.Test.YthaamopjdieecaaEvP18
import Derived.Test.YthaamopjdieecaaEvD8
set_option linter.unusedVariables false
set_option linter.unusedSimpArgs false
set_option linter.unusedVariables false
set_option linter.unusedSimpArgs false
namespace Go.Proofs.Ev
def minBy (key : Task → Int) : List Task → Option Task
  | [] => none
  | x :: xs => some (xs.foldl (fun m t => cond (decide (key t < key m)) t m) x)
theorem fold_mem (key : Task → Int) : ∀ (xs : List Task) (x : Task), xs.foldl (fun m t => cond (decide (key t < key m)) t m) x ∈ x :: xs
  | [], x => by simp
  | y :: xs, x => by
    rw [List.foldl_cons]
    have := fold_mem key xs (cond (decide (key y < key x)) y x)
    cases h : decide (key y < key x)
    · rw [h] at this; simp only [cond_false] at this ⊢
      rcases List.mem_cons.1 this with h | h
      · rw [h]; simp
      · simp [h]
    · rw [h] at this; simp only [cond_true] at this ⊢
      rcases List.mem_cons.1 this with h | h
      · rw [h]; simp
      · simp [h]
def lateT (s : Sched) : Option Task := minBy Task.born (s.tasks.filter (lateB s))
def earlyT (s : Sched) : Option Task := minBy Task.due (s.tasks.filter fun t => !lateB s t)
def pickS (s : Sched) : Int :=
  cond ((lateT s).isSome && (!(earlyT s).isSome || (decide (s.age > 0) && (s.turns.tmod s.age == 0)))) ((lateT s).elim 0 Task.id) ((earlyT s).elim 0 Task.id)
theorem minBy_mem {key : Task → Int} {xs : List Task} {t : Task} (h : minBy key xs = some t) : t ∈ xs := by
  cases xs with
  | nil => exact nomatch h
  | cons x xs =>
    simp only [minBy, Option.some.injEq] at h
    rw [← h]; exact fold_mem key xs x
def better (key : Task → Int) (m : Option Task) (t : Task) : Option Task := m.elim (some t) fun u => cond (decide (key t < key u)) (some t) (some u)
theorem better_some (key : Task → Int) : ∀ (xs : List Task) (m : Task), xs.foldl (better key) (some m) = some (xs.foldl (fun m t => cond (decide (key t < key m)) t m) m)
  | [], m => rfl
  | x :: xs, m => by
    rw [List.foldl_cons, List.foldl_cons, ← better_some key xs]
    congr 1
    show cond (decide (key x < key m)) (some x) (some m) = _
    cases decide (key x < key m) <;> rfl
theorem better_min (key : Task → Int) (xs : List Task) : xs.foldl (better key) none = minBy key xs := by
  cases xs with
  | nil => rfl
  | cons x xs => exact better_some key xs x
/-- A place, -1 for none, of a task. -/
def AtT (ts : List Task) (l : Int) (m : Option Task) : Prop := (m = none ∧ l = -1) ∨ ∃ (j : Nat) (hj : j < ts.length), l = (j : Int) ∧ m = some ts[j]
theorem pick_walk {R : Type} {k : Nat} {s : Sched} {fin : Int × Int → Option R} (hN : s.tasks.length ≤ maxN) : ∀ (d i : Nat) (l e : Int) (ml me : Option Task) (kf : Nat), i + d = s.tasks.length → d < kf → AtT s.tasks l ml → AtT s.tasks e me →
    ∃ l' e', AtT s.tasks l' (((s.tasks.drop i).filter (lateB s)).foldl (better Task.born) ml) ∧ AtT s.tasks e' (((s.tasks.drop i).filter fun t => !lateB s t).foldl (better Task.due) me) ∧
      iter (fun u11 n11 => S_PickNext_g0 k (s.now, s.slack, s.age, s.tasks, s.run, s.left, s.turns, s.next) u11 n11 fin) kf (l, e, (i : Int)) = fin (l', e')
  | d, i, l, e, ml, me, 0, _, h, _, _ => by omega
  | 0, i, l, e, ml, me, kf + 1, hi, _, hl, he => by
    have : i = s.tasks.length := by omega
    subst this
    refine ⟨l, e, by simpa using hl, by simpa using he, ?_⟩
    rw [iter_succ]
    simp only [S_PickNext_g0]
    rw [cond_dec, if_neg (by omega)]
  | d + 1, i, l, e, ml, me, kf + 1, hi, h, hl, he => by
    have hM := maxN_eq
    have hlt : i < s.tasks.length := by omega
    have hself : AtT s.tasks (i : Int) (some s.tasks[i]) := .inr ⟨i, hlt, rfl, rfl⟩
    have hstep : ∀ (l2 e2 : Int) (ml2 me2 : Option Task), AtT s.tasks l2 ml2 → AtT s.tasks e2 me2 → ml2 = cond (lateB s s.tasks[i]) (better Task.born ml s.tasks[i]) ml → me2 = cond (lateB s s.tasks[i]) me (better Task.due me s.tasks[i]) →
        (∀ next : Int × Int × Int → Option R, S_PickNext_g0 k (s.now, s.slack, s.age, s.tasks, s.run, s.left, s.turns, s.next) (l, e, (i : Int)) next fin = next (l2, e2, ((i + 1 : Nat) : Int))) →
        ∃ l' e', AtT s.tasks l' (((s.tasks.drop i).filter (lateB s)).foldl (better Task.born) ml) ∧ AtT s.tasks e' (((s.tasks.drop i).filter fun t => !lateB s t).foldl (better Task.due) me) ∧
          iter (fun u11 n11 => S_PickNext_g0 k (s.now, s.slack, s.age, s.tasks, s.run, s.left, s.turns, s.next) u11 n11 fin) (kf + 1) (l, e, (i : Int)) = fin (l', e') := fun l2 e2 ml2 me2 h1 h2 e1 e2' hg => by
      obtain ⟨l', e', g1, g2, g3⟩ := pick_walk (k := k) (fin := fin) hN d (i + 1) l2 e2 ml2 me2 kf (by omega) (by omega) h1 h2
      refine ⟨l', e', ?_, ?_, ?_⟩
      · rw [drop_step hlt, List.filter_cons]
        rw [e1] at g1
        cases hb : lateB s s.tasks[i]
        · rw [hb] at g1; exact g1
        · rw [hb] at g1; exact g1
      · rw [drop_step hlt, List.filter_cons]
        rw [e2'] at g2
        cases hb : lateB s s.tasks[i]
        · rw [hb] at g2; exact g2
        · rw [hb] at g2; exact g2
      · rw [iter_succ, hg]; exact g3
    have e0 : ∀ next : Int × Int × Int → Option R, S_PickNext_g0 k (s.now, s.slack, s.age, s.tasks, s.run, s.left, s.turns, s.next) (l, e, (i : Int)) next fin =
        cond (lateB s s.tasks[i]) (cond (decide (l < (0 : Int))) (next ((i : Int), e, ((i + 1 : Nat) : Int))) ((idx s.tasks l).bind fun e3 => cond (decide (s.tasks[i].born < e3.born)) (next ((i : Int), e, ((i + 1 : Nat) : Int))) (next (l, e, ((i + 1 : Nat) : Int)))))
          (cond (decide (e < (0 : Int))) (next (l, (i : Int), ((i + 1 : Nat) : Int))) ((idx s.tasks e).bind fun e4 => cond (decide (s.tasks[i].due < e4.due)) (next (l, (i : Int), ((i + 1 : Nat) : Int))) (next (l, e, ((i + 1 : Nat) : Int))))) := fun next => by
      simp only [S_PickNext_g0]
      rw [cond_dec, if_pos (by omega), idx_nat, getD_get hlt, bind_some', wrapNat1 hlt (by omega)]
      rfl
    cases hb : lateB s s.tasks[i]
    · rcases he with ⟨rfl, rfl⟩ | ⟨j, hj, rfl, rfl⟩
      · exact hstep l (i : Int) ml (some s.tasks[i]) hl hself (by rw [hb]; rfl) (by rw [hb]; rfl) fun next => by rw [e0, hb]; rfl
      · by_cases c : s.tasks[i].due < s.tasks[j].due
        · exact hstep l (i : Int) ml (some s.tasks[i]) hl hself (by rw [hb]; rfl) (by rw [hb]; show _ = cond (decide (s.tasks[i].due < s.tasks[j].due)) _ _; rw [decide_eq_true c]; rfl) fun next => by
            rw [e0, hb, cond_false, cond_dec, if_neg (by omega), idx_nat, getD_get hj, bind_some', decide_eq_true c]; rfl
        · exact hstep l (j : Int) ml (some s.tasks[j]) hl (.inr ⟨j, hj, rfl, rfl⟩) (by rw [hb]; rfl) (by rw [hb]; show _ = cond (decide (s.tasks[i].due < s.tasks[j].due)) _ _; rw [decide_eq_false c]; rfl) fun next => by
            rw [e0, hb, cond_false, cond_dec, if_neg (by omega), idx_nat, getD_get hj, bind_some', decide_eq_false c]; rfl
    · rcases hl with ⟨rfl, rfl⟩ | ⟨j, hj, rfl, rfl⟩
      · exact hstep (i : Int) e (some s.tasks[i]) me hself he (by rw [hb]; rfl) (by rw [hb]; rfl) fun next => by rw [e0, hb]; rfl
      · by_cases c : s.tasks[i].born < s.tasks[j].born
        · exact hstep (i : Int) e (some s.tasks[i]) me hself he (by rw [hb]; show _ = cond (decide (s.tasks[i].born < s.tasks[j].born)) _ _; rw [decide_eq_true c]; rfl) (by rw [hb]; rfl) fun next => by
            rw [e0, hb, cond_true, cond_dec, if_neg (by omega), idx_nat, getD_get hj, bind_some', decide_eq_true c]; rfl
        · exact hstep (j : Int) e (some s.tasks[j]) me (.inr ⟨j, hj, rfl, rfl⟩) he (by rw [hb]; show _ = cond (decide (s.tasks[i].born < s.tasks[j].born)) _ _; rw [decide_eq_false c]; rfl) (by rw [hb]; rfl) fun next => by
            rw [e0, hb, cond_true, cond_dec, if_neg (by omega), idx_nat, getD_get hj, bind_some', decide_eq_false c]; rfl
theorem S_PickNext_eq {k : Nat} {s : Sched} (hk : s.tot < k) (hN : s.tot ≤ maxN) (h : schedB s = true) : S_PickNext k s = some (pickS s) := by
  have hM := maxN_eq
  have hs := schedB_spec h
  have hlen := totL_len Task.tot s.tasks
  have hst : s.tot = totL Task.tot s.tasks + 0 := rfl
  unfold S_PickNext
  rw [S_SchedOk_eq hk hN, bind_some', h]
  simp only [Bool.not_true, cond_false]
  obtain ⟨l, e, hl, he, hi⟩ := pick_walk (R := Int) (k := k) (s := s) (fin := fun y5 => cond (decide (y5.1 ≥ (0 : Int))) (cond (decide (y5.2 < (0 : Int))) ((idx s.tasks y5.1).bind fun e6 => some e6.id) (cond (decide (s.age > (0 : Int))) (cond (decide (s.age = 0)) none (cond ((s.turns.tmod s.age) == (0 : Int)) ((idx s.tasks y5.1).bind fun e7 => some e7.id) (cond (decide (y5.2 ≥ (0 : Int))) ((idx s.tasks y5.2).bind fun e8 => some e8.id) (some (0 : Int))))) (cond (decide (y5.2 ≥ (0 : Int))) ((idx s.tasks y5.2).bind fun e9 => some e9.id) (some (0 : Int))))) (cond (decide (y5.2 ≥ (0 : Int))) ((idx s.tasks y5.2).bind fun e10 => some e10.id) (some (0 : Int)))) (by omega) s.tasks.length 0 (-1) (-1) none none k (by omega) (by omega) (.inl ⟨rfl, rfl⟩) (.inl ⟨rfl, rfl⟩)
  refine hi.trans ?_
  rw [List.drop_zero, better_min] at hl he
  unfold pickS
  have el : lateT s = minBy Task.born (s.tasks.filter (lateB s)) := rfl
  have ee : earlyT s = minBy Task.due (s.tasks.filter fun t => !lateB s t) := rfl
  rw [← el] at hl
  rw [← ee] at he
  rcases hl with ⟨hl, rfl⟩ | ⟨j, hj, rfl, hl⟩
  · rcases he with ⟨he, rfl⟩ | ⟨j2, hj2, rfl, he⟩
    · rw [hl, he]; rfl
    · rw [hl, he]
      simp only [Option.isSome_none, Bool.false_and, cond_false, Option.elim_some]
      rw [decide_eq_false (show ¬ ((-1 : Int) ≥ 0) by omega), decide_eq_true (show ((j2 : Int) ≥ 0) by omega), idx_nat, getD_get hj2]; rfl
  · rcases he with ⟨he, rfl⟩ | ⟨j2, hj2, rfl, he⟩
    · rw [hl, he]
      rw [decide_eq_true (show ((j : Int) ≥ 0) by omega), idx_nat, getD_get hj]; rfl
    · rw [hl, he]
      simp only [Option.isSome_some, Bool.not_true, Bool.false_or, Bool.true_and, Option.elim_some]
      rw [decide_eq_true (show ((j : Int) ≥ 0) by omega), decide_eq_false (show ¬ ((j2 : Int) < 0) by omega), decide_eq_true (show ((j2 : Int) ≥ 0) by omega), idx_nat, getD_get hj, idx_nat, getD_get hj2]
      by_cases c : s.age > 0
      · rw [decide_eq_true c, decide_eq_false (show ¬ s.age = 0 by omega)]
        cases s.turns.tmod s.age == 0 <;> rfl
      · rw [decide_eq_false c]; rfl
/-- The rest of a tick: so many cycles are left of the layer that runs. -/
def goOn (s : Sched) (run left turns : Int) : Sched × Int × Bool :=
  cond (decide (left - 1 > 0)) (⟨s.now + 1, s.slack, s.age, s.tasks, run, left - 1, turns, s.next⟩, 0, false)
    ((s.tasks.findIdx? fun t => t.id == run).elim (s, 0, false) fun i => (s.tasks[i]?).elim (s, 0, false) fun t =>
      cond (decide (t.at_ + 1 < t.costs.length)) (⟨s.now + 1, s.slack, s.age, s.tasks.set i ⟨t.id, t.costs, t.at_ + 1, t.due, t.born⟩, 0, left - 1, turns, s.next⟩, run, false)
        (⟨s.now + 1, s.slack, s.age, offT (s.tasks.set i ⟨t.id, t.costs, t.at_ + 1, t.due, t.born⟩) run, 0, left - 1, turns, s.next⟩, run, true))
theorem S_rest_eq {k : Nat} {s : Sched} {run left turns : Int} (hk : s.tot < k) (hN : s.tot ≤ maxN) (h : schedB s = true) (hl : 1 ≤ left ∧ left ≤ 1000) {i : Nat} (hf : (s.tasks.findIdx? fun t => t.id == run) = some i) :
    (cond (decide ((IntKind.i64.wrap (left - (1 : Int))) > (0 : Int))) (some ((⟨(IntKind.i64.wrap (s.now + (1 : Int))), s.slack, s.age, s.tasks, run, (IntKind.i64.wrap (left - (1 : Int))), turns, s.next⟩ : Sched), (0 : Int), false)) ((S_l07At k (⟨(IntKind.i64.wrap (s.now + (1 : Int))), s.slack, s.age, s.tasks, run, (IntKind.i64.wrap (left - (1 : Int))), turns, s.next⟩ : Sched) run).bind fun r23 => cond (decide (0 ≤ r23 ∧ r23 < (s.tasks.length : Int))) ((s.tasks[r23.toNat]?).bind fun e24 => cond (decide (0 ≤ r23 ∧ r23 < (s.tasks.length : Int))) ((s.tasks[r23.toNat]?).bind fun e25 => cond (decide (0 ≤ r23 ∧ r23 < ((s.tasks.set r23.toNat (⟨e25.id, e25.costs, (IntKind.i64.wrap (e24.at_ + (1 : Int))), e25.due, e25.born⟩ : Task)).length : Int))) (((s.tasks.set r23.toNat (⟨e25.id, e25.costs, (IntKind.i64.wrap (e24.at_ + (1 : Int))), e25.due, e25.born⟩ : Task))[r23.toNat]?).bind fun e26 => cond (decide (0 ≤ r23 ∧ r23 < ((s.tasks.set r23.toNat (⟨e25.id, e25.costs, (IntKind.i64.wrap (e24.at_ + (1 : Int))), e25.due, e25.born⟩ : Task)).length : Int))) (((s.tasks.set r23.toNat (⟨e25.id, e25.costs, (IntKind.i64.wrap (e24.at_ + (1 : Int))), e25.due, e25.born⟩ : Task))[r23.toNat]?).bind fun e27 => cond (decide (e26.at_ < (e27.costs.length : Int))) (some ((⟨(IntKind.i64.wrap (s.now + (1 : Int))), s.slack, s.age, (s.tasks.set r23.toNat (⟨e25.id, e25.costs, (IntKind.i64.wrap (e24.at_ + (1 : Int))), e25.due, e25.born⟩ : Task)), (0 : Int), (IntKind.i64.wrap (left - (1 : Int))), turns, s.next⟩ : Sched), run, false)) ((numTask (s.tasks.set r23.toNat (⟨e25.id, e25.costs, (IntKind.i64.wrap (e24.at_ + (1 : Int))), e25.due, e25.born⟩ : Task))).bind fun y28 => (S_l07Off_m3 k (IntKind.i64.wrap (s.now + (1 : Int))) s.slack s.age y28 (0 : Int) (IntKind.i64.wrap (left - (1 : Int))) turns s.next run).bind fun r29 => cond (nodTask r29) ((unTask (s.tasks.set r23.toNat (⟨e25.id, e25.costs, (IntKind.i64.wrap (e24.at_ + (1 : Int))), e25.due, e25.born⟩ : Task)) r29).bind fun z30 => some ((⟨(IntKind.i64.wrap (s.now + (1 : Int))), s.slack, s.age, z30, (0 : Int), (IntKind.i64.wrap (left - (1 : Int))), turns, s.next⟩ : Sched), run, true)) none)) none) none) none) none)) = some (goOn s run left turns) := by
  have hM := maxN_eq
  have hs := schedB_spec h
  have hlen := totL_len Task.tot s.tasks
  have hst : s.tot = totL Task.tot s.tasks + 0 := rfl
  obtain ⟨hi, hid⟩ := find_at hf
  have ht := taskB_spec (tasksB_spec hs.2.2.2.2.2.2.1 hi).1
  unfold goOn
  rw [wrapI (n := left - 1) (by omega) (by omega), wrapI (n := s.now + 1) (by omega) (by omega)]
  by_cases c : left - 1 > 0
  · rw [decide_eq_true c]; rfl
  rw [decide_eq_false c, cond_false, cond_false]
  rw [S_l07At_eq (by show s.tasks.length < k; omega) (by show s.tasks.length ≤ maxN; omega), bind_some']
  show (fun r23 : Int => _) (findT s.tasks run) = _
  rw [findT_some hf]
  simp only [Int.toNat_natCast, List.length_set]
  rw [cond_dec, if_pos (by omega), getD_get hi, bind_some', cond_dec, if_pos (by omega), bind_some', cond_dec, if_pos (by omega), List.getElem?_set_self hi, bind_some', cond_dec, if_pos (by omega), bind_some', hf, Option.elim_some, getD_get hi, Option.elim_some, wrapI (n := s.tasks[i].at_ + 1) (by omega) (by omega)]
  simp only
  by_cases c2 : s.tasks[i].at_ + 1 < (s.tasks[i].costs.length : Int)
  · rw [decide_eq_true c2]; rfl
  rw [decide_eq_false c2, cond_false, cond_false, numTask_eq, bind_some', l07Off_m3_eq (by rw [numTs_length, List.length_set]; omega) (by rw [numTs_length, List.length_set]; omega), bind_some', nodTask_part, cond_true, unTask_part _ (fun t => !(t.id == run)) (fun z => !(z.id == run)) (fun n t => rfl), bind_some']
  rfl
def tickS (s : Sched) (stalled : Bool) : Sched × Int × Bool :=
  cond (schedB s && !(s.now == 1000000))
    (cond stalled (⟨s.now + 1, s.slack, s.age, s.tasks, s.run, s.left, s.turns, s.next⟩, 0, false)
      (cond (s.run == 0)
        (cond (pickS s == 0) (⟨s.now + 1, s.slack, s.age, s.tasks, s.run, s.left, s.turns, s.next⟩, 0, false)
          ((s.tasks.findIdx? fun t => t.id == pickS s).elim (s, 0, false) fun i => (s.tasks[i]?).elim (s, 0, false) fun t => goOn s (pickS s) (costAt t) (cond (decide (s.turns + 1 > 1000000)) 0 (s.turns + 1))))
        (goOn s s.run s.left s.turns))) (s, 0, false)
theorem pick_find {s : Sched} (h : schedB s = true) (hp : pickS s ≠ 0) : ∃ (i : Nat) (hi : i < s.tasks.length), (s.tasks.findIdx? fun t => t.id == pickS s) = some i ∧ s.tasks[i].id = pickS s := by
  have hs := schedB_spec h
  have : ∃ t ∈ s.tasks, pickS s = t.id := by
    unfold pickS at hp ⊢
    cases hl : lateT s with
    | none =>
      cases he : earlyT s with
      | none => rw [hl, he] at hp; exact (hp rfl).elim
      | some e => exact ⟨e, (List.mem_filter.1 (minBy_mem he)).1, rfl⟩
    | some l =>
      cases he : earlyT s with
      | none => exact ⟨l, (List.mem_filter.1 (minBy_mem hl)).1, rfl⟩
      | some e =>
        simp only [Option.isSome_some, Bool.not_true, Bool.false_or, Bool.true_and, Option.elim_some]
        cases (decide (s.age > 0) && (s.turns.tmod s.age == 0))
        · exact ⟨e, (List.mem_filter.1 (minBy_mem he)).1, rfl⟩
        · exact ⟨l, (List.mem_filter.1 (minBy_mem hl)).1, rfl⟩
  obtain ⟨t, ht, e⟩ := this
  obtain ⟨i, hi, rfl⟩ := List.mem_iff_getElem.1 ht
  exact ⟨i, hi, by rw [e]; exact find_id hs.2.2.2.2.2.2.1 hi, e.symm⟩
theorem run_find {s : Sched} (h : schedB s = true) (hr : (s.run == 0) = false) : (1 ≤ s.left ∧ s.left ≤ 1000) ∧ ∃ i, (s.tasks.findIdx? fun t => t.id == s.run) = some i := by
  have hs := schedB_spec h
  have hrun := hs.2.2.2.2.2.2.2
  unfold runB at hrun
  rw [hr, cond_false] at hrun
  cases hf : s.tasks.findIdx? fun t => t.id == s.run with
  | none => rw [hf] at hrun; exact nomatch hrun
  | some i =>
    obtain ⟨hi, hid⟩ := find_at hf
    have h1 := run_left h (List.getElem_mem hi) hid.symm
    have h2 := idx_costAt (tasksB_spec hs.2.2.2.2.2.2.1 hi).1
    exact ⟨by omega, i, rfl⟩
theorem S_TickSched_eq {k : Nat} {s : Sched} {st : Bool} (hk : s.tot < k) (hN : s.tot ≤ maxN) : S_TickSched k s st = some (tickS s st) := by
  have hM := maxN_eq
  have hlen := totL_len Task.tot s.tasks
  have hst : s.tot = totL Task.tot s.tasks + 0 := rfl
  unfold S_TickSched tickS
  rw [S_l07Copy_eq hk hN, bind_some', S_SchedOk_eq hk hN, bind_some']
  cases h : schedB s
  · rfl
  have hs := schedB_spec h
  simp only [Bool.not_true, cond_false, Bool.true_and]
  cases (s.now == (1000000 : Int))
  case true => rfl
  simp only [cond_false, Bool.not_false, cond_true]
  cases st
  case true => rw [wrapI (n := s.now + 1) (by omega) (by omega)]; rfl
  simp only [cond_false]
  cases hr : s.run == 0
  · simp only [cond_false]
    obtain ⟨hl, i, hf⟩ := run_find h hr
    exact S_rest_eq hk hN h hl hf
  simp only [cond_true]
  rw [S_PickNext_eq hk hN h, bind_some']
  by_cases hp : pickS s = 0
  · rw [hp, wrapI (n := s.now + 1) (by omega) (by omega)]; rfl
  rw [cond_beq, if_neg hp, cond_beq, if_neg hp]
  obtain ⟨i, hi, hf, hid⟩ := pick_find h hp
  have hc := idx_costAt (tasksB_spec hs.2.2.2.2.2.2.1 hi).1
  rw [S_l07At_eq (by show s.tasks.length < k; omega) (by show s.tasks.length ≤ maxN; omega), bind_some']
  show (fun r4 : Int => _) (findT s.tasks (pickS s)) = _
  rw [findT_some hf]
  simp only [Int.toNat_natCast]
  rw [cond_dec, if_pos (by omega), getD_get hi, bind_some', hc.1, bind_some', hf, Option.elim_some, getD_get hi, Option.elim_some, wrapI (n := s.turns + 1) (by omega) (by omega)]
  by_cases ct : s.turns + 1 > 1000000
  · rw [decide_eq_true ct, cond_true, cond_true]
    exact S_rest_eq hk hN h ⟨hc.2.1, hc.2.2⟩ hf
  · rw [decide_eq_false ct, cond_false, cond_false]
    exact S_rest_eq hk hN h ⟨hc.2.1, hc.2.2⟩ hf
theorem totL_set {α : Type} (t : α → Nat) (y : α) : ∀ (xs : List α) (i : Nat) (hi : i < xs.length), t y ≤ t xs[i] → totL t (xs.set i y) ≤ totL t xs
  | x :: xs, 0, _, h => by simp only [List.set_cons_zero, totL_cons]; simp at h; omega
  | x :: xs, i + 1, hi, h => by
    have := totL_set t y xs i (by simpa using hi) (by simpa using h)
    simp only [List.set_cons_succ, totL_cons]; omega
theorem goOn_tot (s : Sched) (run left turns : Int) : (goOn s run left turns).1.tot ≤ s.tot := by
  unfold goOn
  cases decide (left - 1 > 0)
  · rw [cond_false]
    cases hf : s.tasks.findIdx? fun t => t.id == run with
    | none => exact Nat.le_refl _
    | some i =>
      obtain ⟨hi, _⟩ := find_at hf
      rw [Option.elim_some, getD_get hi, Option.elim_some]
      have h1 := totL_set Task.tot ⟨s.tasks[i].id, s.tasks[i].costs, s.tasks[i].at_ + 1, s.tasks[i].due, s.tasks[i].born⟩ s.tasks i hi (Nat.le_refl _)
      cases decide (s.tasks[i].at_ + 1 < (s.tasks[i].costs.length : Int))
      · have h2 := totL_filter Task.tot (fun t => !(t.id == run)) (s.tasks.set i ⟨s.tasks[i].id, s.tasks[i].costs, s.tasks[i].at_ + 1, s.tasks[i].due, s.tasks[i].born⟩)
        simp only [cond_false, Sched.tot, offT]; omega
      · simp only [cond_true, Sched.tot]; omega
  · exact Nat.le_refl _
theorem tickS_tot (s : Sched) (st : Bool) : (tickS s st).1.tot ≤ s.tot := by
  unfold tickS
  cases (schedB s && !(s.now == 1000000))
  · exact Nat.le_refl _
  cases st
  · simp only [cond_true, cond_false]
    cases s.run == 0
    · exact goOn_tot _ _ _ _
    · simp only [cond_true]
      cases pickS s == 0
      · simp only [cond_false]
        cases s.tasks.findIdx? fun t => t.id == pickS s with
        | none => exact Nat.le_refl _
        | some i =>
          simp only [Option.elim_some]
          cases s.tasks[i]? with
          | none => exact Nat.le_refl _
          | some t => exact goOn_tot _ _ _ _
      · exact Nat.le_refl _
  · exact Nat.le_refl _
end Go.Proofs.Ev
