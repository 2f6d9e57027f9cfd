/- Plain laws: schedules through ticks. -/
import Derived.Test.YthaamopjdieecaaEvP31
set_option linter.unusedVariables false
set_option linter.unusedSimpArgs false
set_option linter.unusedVariables false
set_option linter.unusedSimpArgs false
namespace Go.Proofs.Ev
structure SOk (s : Sched) : Prop where
  now : 0 ≤ s.now ∧ s.now ≤ 1000000
  slack : 0 ≤ s.slack ∧ s.slack ≤ 1000
  age : 0 ≤ s.age ∧ s.age ≤ 20
  len : s.tasks.length ≤ 12
  turns : 0 ≤ s.turns ∧ s.turns ≤ 1000000
  next : 1 ≤ s.next ∧ s.next ≤ 1000000
  task : ∀ t ∈ s.tasks, taskB t = true ∧ t.id < s.next ∧ t.born ≤ s.now
  ids : s.tasks.Pairwise fun a b => a.id < b.id
  run : (s.run = 0 ∧ s.left = 0) ∨ ∃ t ∈ s.tasks, t.id = s.run ∧ 1 ≤ s.left ∧ s.left ≤ costAt t
theorem sok_of {s : Sched} (h : schedB s = true) : SOk s := by
  have hs := schedB_spec h
  have hT := hs.2.2.2.2.2.2.1
  refine ⟨hs.1, hs.2.1, hs.2.2.1, hs.2.2.2.1, hs.2.2.2.2.1, hs.2.2.2.2.2.1, fun t ht => ?_, ids_pair hT, ?_⟩
  · obtain ⟨i, hi, rfl⟩ := List.mem_iff_getElem.1 ht
    have := tasksB_spec hT hi
    exact ⟨this.1, this.2.1, this.2.2.1⟩
  · cases hr : s.run == 0
    · obtain ⟨_, i, hf⟩ := run_find h hr
      obtain ⟨hi, hid⟩ := find_at hf
      exact .inr ⟨s.tasks[i], List.getElem_mem hi, hid, run_left h (List.getElem_mem hi) hid.symm⟩
    · have hrun := hs.2.2.2.2.2.2.2
      unfold runB at hrun
      rw [hr, cond_true] at hrun
      exact .inl ⟨by simpa using hr, by simpa using hrun⟩
theorem sok_tasks {s : Sched} (h : SOk s) : tasksB s = true := by
  unfold tasksB
  rw [List.all_eq_true]
  intro i hi
  rw [List.mem_range] at hi
  obtain ⟨h1, h2, h3⟩ := h.task _ (List.getElem_mem hi)
  rw [getD_get hi, Option.elim_some]
  simp only [Bool.and_eq_true, decide_eq_true_eq]
  refine ⟨h1, h2, h3, ?_⟩
  by_cases c : 0 < i
  · rw [decide_eq_true c, cond_true, getD_get (show i - 1 < s.tasks.length by omega), Option.elim_some]
    exact decide_eq_true (List.pairwise_iff_getElem.1 h.ids (i - 1) i (by omega) hi (by omega))
  · rw [decide_eq_false c]; rfl
theorem sched_of {s : Sched} (h : SOk s) : schedB s = true := by
  have hT := sok_tasks h
  unfold schedB inB
  simp only [Bool.and_eq_true, decide_eq_true_eq]
  refine ⟨h.now, h.slack, h.age, by have := h.len; omega, h.turns, h.next, hT, ?_⟩
  rcases h.run with ⟨h1, h2⟩ | ⟨t, ht, e, l1, l2⟩
  · unfold runB; rw [h1, h2]; rfl
  · have hb := (h.task t ht).1
    have hid := (taskB_spec hb).1
    obtain ⟨i, hi, rfl⟩ := List.mem_iff_getElem.1 ht
    have h0 : (s.run == 0) = false := by rw [← e]; simp; omega
    unfold runB
    rw [h0, cond_false, ← e, find_id hT hi, Option.elim_some, getD_get hi, Option.elim_some, (idx_costAt hb).1, Option.elim_some]
    exact inB_spec.2 ⟨l1, l2⟩
theorem split_at {ts : List Task} (hp : ts.Pairwise fun a b => a.id < b.id) {t : Task} (ht : t ∈ ts) : ∃ pre post, ts = pre ++ t :: post ∧ (∀ u ∈ pre, u.id < t.id) ∧ (∀ u ∈ post, t.id < u.id) ∧ (∀ u ∈ pre, ∀ v ∈ post, u.id < v.id) ∧ (pre.Pairwise fun a b => a.id < b.id) ∧ post.Pairwise fun a b => a.id < b.id := by
  obtain ⟨pre, post, rfl⟩ := List.append_of_mem ht
  rw [List.pairwise_append, List.pairwise_cons] at hp
  obtain ⟨h1, ⟨h2, h3⟩, h4⟩ := hp
  exact ⟨pre, post, rfl, fun u hu => h4 u hu t (by simp), h2, fun u hu v hv => h4 u hu v (by simp [hv]), h1, h3⟩
theorem find_split {pre post : List Task} {t : Task} (h : ∀ u ∈ pre, u.id ≠ t.id) : ((pre ++ t :: post).findIdx? fun u => u.id == t.id) = some pre.length := by
  rw [List.findIdx?_append]
  have h1 : (pre.findIdx? fun u => u.id == t.id) = none := by
    rw [List.findIdx?_eq_none_iff]
    intro u hu; simpa using h u hu
  rw [h1, List.findIdx?_cons]
  simp
theorem off_split {pre post : List Task} {t : Task} {id : Int} (h1 : ∀ u ∈ pre, u.id ≠ id) (h2 : ∀ u ∈ post, u.id ≠ id) (ht : t.id = id) : offT (pre ++ t :: post) id = pre ++ post := by
  unfold offT
  rw [List.filter_append, List.filter_cons]
  have e1 : pre.filter (fun u => !(u.id == id)) = pre := List.filter_eq_self.2 fun u hu => by simpa using h1 u hu
  have e2 : post.filter (fun u => !(u.id == id)) = post := List.filter_eq_self.2 fun u hu => by simpa using h2 u hu
  rw [e1, e2, ht]; simp
/-- A task with its next layer. -/
def nextT (t : Task) : Task := ⟨t.id, t.costs, t.at_ + 1, t.due, t.born⟩
theorem goOn_split {s : Sched} {pre post : List Task} {t : Task} {L tr : Int} (e : s.tasks = pre ++ t :: post) (h1 : ∀ u ∈ pre, u.id ≠ t.id) (h2 : ∀ u ∈ post, u.id ≠ t.id) :
    goOn s t.id L tr = if L - 1 > 0 then (⟨s.now + 1, s.slack, s.age, s.tasks, t.id, L - 1, tr, s.next⟩, 0, false) else
      if t.at_ + 1 < t.costs.length then (⟨s.now + 1, s.slack, s.age, pre ++ nextT t :: post, 0, L - 1, tr, s.next⟩, t.id, false)
      else (⟨s.now + 1, s.slack, s.age, pre ++ post, 0, L - 1, tr, s.next⟩, t.id, true) := by
  unfold goOn
  have hf : (s.tasks.findIdx? fun u => u.id == t.id) = some pre.length := by rw [e]; exact find_split h1
  have hg : s.tasks[pre.length]? = some t := by rw [e]; simp
  have hset : s.tasks.set pre.length (nextT t) = pre ++ nextT t :: post := by rw [e]; simp
  rw [cond_dec, hf, Option.elim_some, hg, Option.elim_some, cond_dec]
  show (if L - 1 > 0 then _ else if t.at_ + 1 < (t.costs.length : Int) then (⟨s.now + 1, s.slack, s.age, s.tasks.set pre.length (nextT t), 0, L - 1, tr, s.next⟩, t.id, false) else (⟨s.now + 1, s.slack, s.age, offT (s.tasks.set pre.length (nextT t)) t.id, 0, L - 1, tr, s.next⟩, t.id, true) : Sched × Int × Bool) = _
  rw [hset, off_split (t := nextT t) h1 h2 rfl]
/-- Whose turn it is, with what is left of its layer. -/
structure Turn (s : Sched) (t : Task) (L tr : Int) : Prop where
  mem : t ∈ s.tasks
  lo : 1 ≤ L
  hi : L ≤ costAt t
  rem : ∀ u ∈ s.tasks, remain s u = cond (t.id == u.id) (restOf u - costAt u + L) (restOf u)
  trn : 0 ≤ tr ∧ tr ≤ 1000000
  eq : tickS s false = goOn s t.id L tr
theorem ids_eq {s : Sched} (h : SOk s) {t u : Task} (ht : t ∈ s.tasks) (hu : u ∈ s.tasks) (e : t.id = u.id) : t = u := by
  obtain ⟨i, hi, rfl⟩ := List.mem_iff_getElem.1 ht
  obtain ⟨j, hj, rfl⟩ := List.mem_iff_getElem.1 hu
  have := ids_inj (sok_tasks h) hi hj e
  subst this; rfl
theorem minBy_none {key : Task → Int} {xs : List Task} (h : minBy key xs = none) : xs = [] := by
  cases xs with
  | nil => rfl
  | cons x l => exact nomatch h
theorem pick_zero {s : Sched} (h : SOk s) (hp : pickS s = 0) : s.tasks = [] := by
  have hT := sok_tasks h
  have hl : lateT s = none := by
    cases hl : lateT s with
    | none => rfl
    | some t =>
      have h1 := late_id hT hl
      cases he : earlyT s with
      | none =>
        unfold pickS at hp; rw [hl, he] at hp
        simp only [Option.isSome_some, Option.isSome_none, Bool.not_false, Bool.true_or, Bool.true_and, cond_true, Option.elim_some] at hp
        omega
      | some e =>
        have h2 := early_id hT he
        unfold pickS at hp; rw [hl, he] at hp
        simp only [Option.isSome_some, Bool.not_true, Bool.false_or, Bool.true_and, Option.elim_some] at hp
        cases hc : (decide (s.age > 0) && (s.turns.tmod s.age == 0)) <;> rw [hc] at hp
        · simp only [cond_false] at hp; omega
        · simp only [cond_true] at hp; omega
  have he : earlyT s = none := by
    cases he : earlyT s with
    | none => rfl
    | some e =>
      have h2 := early_id hT he
      unfold pickS at hp; rw [hl, he] at hp
      simp only [Option.isSome_none, Bool.false_and, cond_false, Option.elim_some] at hp
      omega
  have f1 := minBy_none hl
  have f2 := minBy_none he
  cases ht : s.tasks with
  | nil => rfl
  | cons x l =>
    have hx : x ∈ s.tasks := by rw [ht]; simp
    cases hq : lateB s x
    · have : x ∈ s.tasks.filter fun t => !lateB s t := List.mem_filter.2 ⟨hx, by rw [hq]; rfl⟩
      rw [f2] at this; exact nomatch this
    · have : x ∈ s.tasks.filter (lateB s) := List.mem_filter.2 ⟨hx, hq⟩
      rw [f1] at this; exact nomatch this
theorem tick_turn {s : Sched} (h : SOk s) (hn : s.now ≠ 1000000) :
    (s.tasks = [] ∧ s.run = 0 ∧ s.left = 0 ∧ tickS s false = (⟨s.now + 1, s.slack, s.age, s.tasks, s.run, s.left, s.turns, s.next⟩, 0, false)) ∨ ∃ t L tr, Turn s t L tr ∧ (s.run = t.id ∨ (s.run = 0 ∧ pickS s = t.id)) := by
  have hb := sched_of h
  have hnow : (schedB s && !(s.now == 1000000)) = true := by rw [hb]; simpa using hn
  rcases h.run with ⟨h1, h2⟩ | ⟨t, ht, e, l1, l2⟩
  · by_cases hp : pickS s = 0
    · left
      refine ⟨pick_zero h hp, h1, h2, ?_⟩
      unfold tickS
      rw [hnow, h1, hp]; rfl
    · right
      obtain ⟨i, hi, hf, hid⟩ := pick_find hb hp
      have ht := List.getElem_mem hi
      have hc := idx_costAt (h.task _ ht).1
      refine ⟨s.tasks[i], costAt s.tasks[i], cond (decide (s.turns + 1 > 1000000)) 0 (s.turns + 1), ⟨ht, hc.2.1, Int.le_refl _, fun u hu => ?_, ?_, ?_⟩, .inr ⟨h1, hid.symm⟩⟩
      · have hu0 := (taskB_spec (h.task u hu).1).1
        have : (s.run == u.id) = false := by rw [h1]; simp; omega
        unfold remain
        rw [this, cond_false]
        cases hq : s.tasks[i].id == u.id
        · rfl
        · have := ids_eq h ht hu (by simpa using hq)
          rw [cond_true, this]; omega
      · have := h.turns
        rw [cond_dec]; split <;> omega
      · have hp' : (pickS s == 0) = false := by simpa using hp
        unfold tickS
        rw [hnow, h1, hp', hf]
        simp only [cond_true, cond_false, Option.elim_some]
        rw [getD_get hi, Option.elim_some, hid]; rfl
  · right
    have ht0 := (taskB_spec (h.task t ht).1).1
    refine ⟨t, s.left, s.turns, ⟨ht, l1, l2, fun u hu => ?_, h.turns, ?_⟩, .inl e.symm⟩
    · unfold remain; rw [e]
    · have : (s.run == 0) = false := by rw [← e]; simp; omega
      unfold tickS
      rw [hnow, this, e]; rfl
/-- What is left of those that are due as 'p' says. -/
def dsum (p : Int → Bool) (s : Sched) : Int := (s.tasks.map fun t => cond (p t.due) (remain s t) 0).sum
theorem rest_next {t : Task} (h : taskB t = true) : restOf (nextT t) = restOf t - costAt t := by
  have ht := taskB_spec h
  have hlt : t.at_.toNat < t.costs.length := by omega
  have e : idx t.costs t.at_ = some t.costs[t.at_.toNat] := by rw [idx_pos _ ht.2.2.1.1]; exact getD_get hlt
  have hc : costAt t = t.costs[t.at_.toNat] := by unfold costAt; rw [e]; rfl
  unfold restOf nextT
  have e2 : (t.at_ + 1).toNat = t.at_.toNat + 1 := by omega
  simp only
  rw [e2, drop_step hlt, List.sum_cons, hc]; omega
theorem rest_last {t : Task} (h : taskB t = true) (hl : ¬ t.at_ + 1 < t.costs.length) : restOf t - costAt t = 0 := by
  rw [← rest_next h]
  unfold restOf nextT
  simp only
  rw [List.drop_eq_nil_of_le (by omega)]; rfl
/-- What a tick at work comes to. -/
structure Worked (s : Sched) (t : Task) (r : Sched × Int × Bool) : Prop where
  ok : SOk r.1
  now : r.1.now = s.now + 1
  slack : r.1.slack = s.slack
  age : r.1.age = s.age
  next : r.1.next = s.next
  sum : ∀ p : Int → Bool, dsum p r.1 = dsum p s - cond (p t.due) 1 0
  from_ : ∀ u ∈ r.1.tasks, ∃ v ∈ s.tasks, v.id = u.id ∧ v.due = u.due
  told : (r.2.1 = 0 ∧ r.2.2 = false ∧ r.1.run = t.id ∧ r.1.tasks = s.tasks) ∨ (r.2.1 = t.id ∧ r.1.run = 0 ∧ r.1.left = 0)
  goes : r.2.2 = true → r.2.1 = t.id ∧ ∀ u ∈ r.1.tasks, u.id ≠ t.id
theorem worked {s : Sched} {t : Task} {L tr : Int} (h : SOk s) (hn : s.now ≠ 1000000) (T : Turn s t L tr) : Worked s t (tickS s false) := by
  obtain ⟨pre, post, e, h1, h2, h3, h4, h5⟩ := split_at h.ids T.mem
  have hb := (h.task t T.mem).1
  have htb := taskB_spec hb
  have n1 : ∀ u ∈ pre, u.id ≠ t.id := fun u hu => by have := h1 u hu; omega
  have n2 : ∀ u ∈ post, u.id ≠ t.id := fun u hu => by have := h2 u hu; omega
  have m1 : ∀ u ∈ pre, u ∈ s.tasks := fun u hu => by rw [e]; simp [hu]
  have m2 : ∀ u ∈ post, u ∈ s.tasks := fun u hu => by rw [e]; simp [hu]
  have hlen := h.len
  rw [e, List.length_append, List.length_cons] at hlen
  have hnow := h.now
  -- the sum, told by parts
  have part : ∀ (p : Int → Bool) (s' : Sched) (l : List Task), (∀ u ∈ l, u ∈ s.tasks ∧ u.id ≠ t.id) → (∀ u ∈ l, s'.run ≠ u.id) → (l.map fun u => cond (p u.due) (remain s' u) 0) = l.map fun u => cond (p u.due) (remain s u) 0 := fun p s' l hl hr => List.map_congr_left fun u hu => by
    have r1 : remain s' u = restOf u := by unfold remain; rw [show (s'.run == u.id) = false by simpa using hr u hu]; rfl
    have r2 : remain s u = restOf u := by rw [T.rem u (hl u hu).1, show (t.id == u.id) = false by simpa using fun q => (hl u hu).2 q.symm]; rfl
    rw [r1, r2]
  have q1 : ∀ u ∈ pre, u ∈ s.tasks ∧ u.id ≠ t.id := fun u hu => ⟨m1 u hu, n1 u hu⟩
  have q2 : ∀ u ∈ post, u ∈ s.tasks ∧ u.id ≠ t.id := fun u hu => ⟨m2 u hu, n2 u hu⟩
  have z1 : ∀ u ∈ s.tasks, (0 : Int) ≠ u.id := fun u hu => by have := (taskB_spec (h.task u hu).1).1; omega
  have rt : remain s t = restOf t - costAt t + L := by rw [T.rem t T.mem]; simp
  have old : ∀ p : Int → Bool, dsum p s = (pre.map fun u => cond (p u.due) (remain s u) 0).sum + (cond (p t.due) (restOf t - costAt t + L) 0 + (post.map fun u => cond (p u.due) (remain s u) 0).sum) := fun p => by
    unfold dsum; rw [← rt]; conv => lhs; rw [e, List.map_append, List.sum_append, List.map_cons, List.sum_cons]
  rw [T.eq, goOn_split e n1 n2]
  have hlo := T.lo
  by_cases c1 : L - 1 > 0
  · rw [if_pos c1]
    refine ⟨⟨by simp only; omega, h.slack, h.age, h.len, T.trn, h.next, fun u hu => ?_, h.ids, .inr ⟨t, T.mem, rfl, ?_⟩⟩, rfl, rfl, rfl, rfl, fun p => ?_, fun u hu => ⟨u, hu, rfl, rfl⟩, .inl ⟨rfl, rfl, rfl, rfl⟩, fun hg => nomatch hg⟩
    · have := h.task u hu; exact ⟨this.1, this.2.1, by simp only; omega⟩
    · have := T.hi; simp only; omega
    · rw [old p]
      unfold dsum
      simp only
      conv => lhs; rw [show List.map (fun u : Task => cond (p u.due) (remain ⟨s.now + 1, s.slack, s.age, s.tasks, t.id, L - 1, tr, s.next⟩ u) 0) s.tasks = List.map (fun u : Task => cond (p u.due) (remain ⟨s.now + 1, s.slack, s.age, s.tasks, t.id, L - 1, tr, s.next⟩ u) 0) (pre ++ t :: post) from by rw [← e], List.map_append, List.sum_append, List.map_cons, List.sum_cons]
      rw [part p _ pre q1 (fun u hu => (n1 u hu).symm), part p _ post q2 (fun u hu => (n2 u hu).symm)]
      have : remain ⟨s.now + 1, s.slack, s.age, s.tasks, t.id, L - 1, tr, s.next⟩ t = restOf t - costAt t + (L - 1) := by unfold remain; simp
      rw [this]
      cases p t.due <;> simp only [cond_true, cond_false] <;> omega
  · have hL : L = 1 := by omega
    subst hL
    rw [if_neg c1]
    by_cases c2 : t.at_ + 1 < t.costs.length
    · rw [if_pos c2]
      have hnb : taskB (nextT t) = true := by
        unfold taskB inB nextT
        unfold taskB inB at hb
        simp only [Bool.and_eq_true, decide_eq_true_eq] at hb ⊢
        exact ⟨hb.1, hb.2.1, ⟨by omega, by omega⟩, hb.2.2.2.1, hb.2.2.2.2.1, hb.2.2.2.2.2⟩
      refine ⟨⟨by simp only; omega, h.slack, h.age, by simp only [List.length_append, List.length_cons]; omega, T.trn, h.next, fun u hu => ?_, ?_, .inl ⟨rfl, rfl⟩⟩, rfl, rfl, rfl, rfl, fun p => ?_, fun u hu => ?_, .inr ⟨rfl, rfl, rfl⟩, fun hg => nomatch hg⟩
      · simp only at hu ⊢
        rcases List.mem_append.1 hu with hu | hu
        · have := h.task u (m1 u hu); exact ⟨this.1, this.2.1, by omega⟩
        · rcases List.mem_cons.1 hu with rfl | hu
          · have := h.task t T.mem; exact ⟨hnb, this.2.1, by show t.born ≤ _; omega⟩
          · have := h.task u (m2 u hu); exact ⟨this.1, this.2.1, by omega⟩
      · simp only
        rw [List.pairwise_append, List.pairwise_cons]
        refine ⟨h4, ⟨h2, h5⟩, fun u hu v hv => ?_⟩
        rcases List.mem_cons.1 hv with rfl | hv
        · exact h1 u hu
        · exact h3 u hu v hv
      · rw [old p]
        unfold dsum
        simp only
        rw [List.map_append, List.sum_append, List.map_cons, List.sum_cons]
        rw [part p _ pre q1 (fun u hu => z1 u (m1 u hu)), part p _ post q2 (fun u hu => z1 u (m2 u hu))]
        have hd : (nextT t).due = t.due := rfl
        have : remain ⟨s.now + 1, s.slack, s.age, pre ++ nextT t :: post, 0, 1 - 1, tr, s.next⟩ (nextT t) = restOf t - costAt t := by
          unfold remain
          rw [show ((0 : Int) == (nextT t).id) = false by show ((0 : Int) == t.id) = false; simp; omega, cond_false, rest_next hb]
        rw [this, hd]
        cases p t.due <;> simp only [cond_true, cond_false] <;> omega
      · simp only at hu
        rcases List.mem_append.1 hu with hu | hu
        · exact ⟨u, m1 u hu, rfl, rfl⟩
        · rcases List.mem_cons.1 hu with rfl | hu
          · exact ⟨t, T.mem, rfl, rfl⟩
          · exact ⟨u, m2 u hu, rfl, rfl⟩
    · rw [if_neg c2]
      have hr := rest_last hb c2
      refine ⟨⟨by simp only; omega, h.slack, h.age, by simp only [List.length_append]; omega, T.trn, h.next, fun u hu => ?_, ?_, .inl ⟨rfl, rfl⟩⟩, rfl, rfl, rfl, rfl, fun p => ?_, fun u hu => ?_, .inr ⟨rfl, rfl, rfl⟩, fun _ => ⟨rfl, fun u hu => ?_⟩⟩
      · simp only at hu ⊢
        rcases List.mem_append.1 hu with hu | hu
        · have := h.task u (m1 u hu); exact ⟨this.1, this.2.1, by omega⟩
        · have := h.task u (m2 u hu); exact ⟨this.1, this.2.1, by omega⟩
      · simp only
        rw [List.pairwise_append]
        exact ⟨h4, h5, h3⟩
      · rw [old p]
        unfold dsum
        simp only
        rw [List.map_append, List.sum_append]
        rw [part p _ pre q1 (fun u hu => z1 u (m1 u hu)), part p _ post q2 (fun u hu => z1 u (m2 u hu)), hr]
        cases p t.due <;> simp only [cond_true, cond_false] <;> omega
      · simp only at hu
        rcases List.mem_append.1 hu with hu | hu
        · exact ⟨u, m1 u hu, rfl, rfl⟩
        · exact ⟨u, m2 u hu, rfl, rfl⟩
      · simp only at hu
        rcases List.mem_append.1 hu with hu | hu
        · exact n1 u hu
        · exact n2 u hu
/-- A stalled tick. -/
theorem tick_stalled {s : Sched} (h : SOk s) (hn : s.now ≠ 1000000) : tickS s true = (⟨s.now + 1, s.slack, s.age, s.tasks, s.run, s.left, s.turns, s.next⟩, 0, false) := by
  have hnow : (schedB s && !(s.now == 1000000)) = true := by rw [sched_of h]; simpa using hn
  unfold tickS; rw [hnow]; rfl
theorem later_ok {s : Sched} (h : SOk s) (hn : s.now ≠ 1000000) : SOk ⟨s.now + 1, s.slack, s.age, s.tasks, s.run, s.left, s.turns, s.next⟩ := by
  have := h.now
  exact ⟨by simp only; omega, h.slack, h.age, h.len, h.turns, h.next, fun u hu => by have := h.task u hu; exact ⟨this.1, this.2.1, by simp only; omega⟩, h.ids, h.run⟩
end Go.Proofs.Ev
