/- Plain laws: FnFits. -/
import Derived.Test.YthaamopjdieecaaEvP35
set_option linter.unusedVariables false
set_option linter.unusedSimpArgs false
set_option linter.unusedVariables false
set_option linter.unusedSimpArgs false
set_option maxRecDepth 100000
namespace Go.Proofs.Ev
theorem fold_le (key : Task → Int) : ∀ (xs : List Task) (x : Task), key (xs.foldl (fun m t => cond (decide (key t < key m)) t m) x) ≤ key x ∧ ∀ u ∈ xs, key (xs.foldl (fun m t => cond (decide (key t < key m)) t m) x) ≤ key u
  | [], x => ⟨Int.le_refl _, fun u hu => nomatch hu⟩
  | y :: xs, x => by
    rw [List.foldl_cons]
    have := fold_le key xs (cond (decide (key y < key x)) y x)
    by_cases h : key y < key x
    · rw [decide_eq_true h, cond_true] at this ⊢
      refine ⟨by omega, fun u hu => ?_⟩
      rcases List.mem_cons.1 hu with rfl | hu
      · exact this.1
      · exact this.2 u hu
    · rw [decide_eq_false h, cond_false] at this ⊢
      refine ⟨this.1, fun u hu => ?_⟩
      rcases List.mem_cons.1 hu with rfl | hu
      · omega
      · exact this.2 u hu
theorem minBy_le {key : Task → Int} {xs : List Task} {t : Task} (h : minBy key xs = some t) : ∀ u ∈ xs, key t ≤ key u := by
  cases xs with
  | nil => exact nomatch h
  | cons x xs =>
    simp only [minBy, Option.some.injEq] at h
    have := fold_le key xs x
    rw [h] at this
    intro u hu
    rcases List.mem_cons.1 hu with rfl | hu
    · exact this.1
    · exact this.2 u hu
/-- Where no task is late, the one that is due first is picked. -/
theorem pick_first {s : Sched} (h : SOk s) (hl : ∀ t ∈ s.tasks, s.now < t.due) {t : Task} (ht : t ∈ s.tasks) (hp : pickS s = t.id) : ∀ u ∈ s.tasks, t.due ≤ u.due := by
  have nl : ∀ u ∈ s.tasks, lateB s u = false := fun u hu => decide_eq_false (by have := hl u hu; omega)
  have e1 : s.tasks.filter (lateB s) = [] := List.filter_eq_nil_iff.2 fun u hu => by rw [nl u hu]; simp
  have e2 : s.tasks.filter (fun t => !lateB s t) = s.tasks := List.filter_eq_self.2 fun u hu => by rw [nl u hu]; rfl
  have f1 : lateT s = none := by unfold lateT; rw [e1]; rfl
  have f2 : earlyT s = minBy Task.due s.tasks := by unfold earlyT; rw [e2]
  cases hm : minBy Task.due s.tasks with
  | none => rw [minBy_none hm] at ht; exact nomatch ht
  | some m =>
    have : pickS s = m.id := by unfold pickS; rw [f1, f2, hm]; rfl
    have hmt := ids_eq h (minBy_mem hm) ht (this.symm.trans hp)
    subst hmt
    exact minBy_le hm
theorem block_zero {s : Sched} (h : SOk s) (hr : s.run = 0) (d : Int) : block s d = 0 := by
  unfold block
  have : (s.tasks.findIdx? fun t => t.id == s.run) = none := by
    rw [List.findIdx?_eq_none_iff]
    intro u hu
    have := (taskB_spec (h.task u hu).1).1
    rw [hr]; simp; omega
  rw [this]; rfl
theorem block_run {s : Sched} (h : SOk s) {t : Task} (ht : t ∈ s.tasks) (hr : s.run = t.id) (d : Int) : block s d = if t.due > d then s.left else 0 := by
  unfold block
  obtain ⟨i, hi, rfl⟩ := List.mem_iff_getElem.1 ht
  rw [hr, find_id (sok_tasks h) hi, Option.elim_some, getD_get hi, Option.elim_some, cond_dec]
/-- A tick at work takes one off what must be done by each due. -/
theorem room_step {s : Sched} {t : Task} {L tr : Int} (h : SOk s) (hn : s.now ≠ 1000000) (hl : ∀ t ∈ s.tasks, s.now < t.due) (T : Turn s t L tr) (hr : s.run = t.id ∨ (s.run = 0 ∧ pickS s = t.id)) (hL : s.run = t.id → L = s.left) :
    ∀ v ∈ s.tasks, demand (tickS s false).1 v.due + block (tickS s false).1 v.due + 1 ≤ demand s v.due + block s v.due := by
  intro v hv
  have W := worked h hn T
  have hd := W.sum (fun x => decide (x ≤ v.due))
  have hd : demand (tickS s false).1 v.due = demand s v.due - cond (decide (t.due ≤ v.due)) 1 0 := hd
  have ht0 := (taskB_spec (h.task t T.mem).1).1
  have hlo := T.lo
  -- the block behind the tick
  have hb' : block (tickS s false).1 v.due ≤ if t.due > v.due then L - 1 else 0 := by
    rcases W.told with ⟨_, _, g3, g4⟩ | ⟨_, g2, g3⟩
    · rw [block_run W.ok (by rw [g4]; exact T.mem) g3]
      obtain ⟨pre, post, e, h1, h2, _⟩ := split_at h.ids T.mem
      have hg := goOn_split (L := L) (tr := tr) e (fun u hu => by have := h1 u hu; omega) (fun u hu => by have := h2 u hu; omega)
      rw [T.eq, hg] at g3 ⊢
      by_cases c1 : L - 1 > 0
      · simp only [if_pos c1]; exact Int.le_refl _
      · rw [if_neg c1] at g3
        by_cases c2 : t.at_ + 1 < t.costs.length
        · rw [if_pos c2] at g3; simp only at g3; omega
        · rw [if_neg c2] at g3; simp only at g3; omega
    · rw [block_zero W.ok g2]; split <;> omega
  rcases hr with hr | ⟨hr, hp⟩
  · have hb := block_run h T.mem hr v.due
    have := hL hr
    rw [cond_dec] at hd
    by_cases c : t.due ≤ v.due
    · rw [if_pos c] at hd
      rw [if_neg (by omega)] at hb hb'
      omega
    · rw [if_neg c] at hd
      rw [if_pos (by omega)] at hb hb'
      omega
  · have hb := block_zero h hr v.due
    have c := pick_first h hl T.mem hp v hv
    rw [cond_dec, if_pos c] at hd
    rw [if_neg (by omega)] at hb'
    omega
theorem demand_own {s : Sched} (h : SOk s) {t : Task} (ht : t ∈ s.tasks) : 1 ≤ demand s t.due := by
  have hb := sched_of h
  obtain ⟨i, hi, rfl⟩ := List.mem_iff_getElem.1 ht
  have hp := remain_pos hb (List.getElem_mem hi)
  have e : s.tasks = s.tasks.take i ++ s.tasks[i] :: s.tasks.drop (i + 1) := by rw [← drop_step hi, List.take_append_drop]
  have h1 := sum_bd' (f := fun u : Task => cond (decide (u.due ≤ s.tasks[i].due)) (remain s u) 0) (B := 6000) (s.tasks.take i) (fun u hu => demand_mem hb _ u (List.mem_of_mem_take hu))
  have h2 := sum_bd' (f := fun u : Task => cond (decide (u.due ≤ s.tasks[i].due)) (remain s u) 0) (B := 6000) (s.tasks.drop (i + 1)) (fun u hu => demand_mem hb _ u (List.mem_of_mem_drop hu))
  have hsum : demand s s.tasks[i].due = ((s.tasks.take i).map fun u : Task => cond (decide (u.due ≤ s.tasks[i].due)) (remain s u) 0).sum + (remain s s.tasks[i] + ((s.tasks.drop (i + 1)).map fun u : Task => cond (decide (u.due ≤ s.tasks[i].due)) (remain s u) 0).sum) := by
    have : demand s s.tasks[i].due = ((s.tasks.take i ++ s.tasks[i] :: s.tasks.drop (i + 1)).map fun u : Task => cond (decide (u.due ≤ s.tasks[i].due)) (remain s u) 0).sum := by rw [← e]; rfl
    rw [this, List.map_append, List.sum_append, List.map_cons, List.sum_cons, decide_eq_true (Int.le_refl _), cond_true]
  omega
/-- There is room for all, with so many stalled ticks. -/
def RoomFor (s : Sched) (st : Int) : Prop := ∀ t ∈ s.tasks, demand s t.due + block s t.due + st ≤ t.due - s.now
theorem room_early {s : Sched} (h : SOk s) {st : Int} (hs : 0 ≤ st) (hr : RoomFor s st) : ∀ t ∈ s.tasks, s.now < t.due := fun t ht => by
  have h1 := demand_own h ht
  have h2 := block_bd (sched_of h) t.due
  have := hr t ht
  omega
theorem I_LateOf_none {k : Nat} {s : Sched} (hk : s.tot < k) (hN : s.tot ≤ maxN) (h : SOk s) (hl : ∀ t ∈ s.tasks, s.now < t.due) : I_LateOf k s = some [] := by
  have hM := maxN_eq
  have hlen := totL_len Task.tot s.tasks
  have hst : s.tot = totL Task.tot s.tasks + 0 := rfl
  unfold I_LateOf
  rw [I_SchedOk_eq hk hN, bind_some', sched_of h]
  refine iter_run (st := fun i => ((i : Int), ([] : List Int))) (n := s.tasks.length) (r := some []) (fun i hi next => ?_) (fun next => ?_) (k := k) (by omega)
  · have := hl _ (List.getElem_mem hi)
    simp only [I_LateOf_g0, I_Sched_isLate]
    rw [cond_dec, if_pos (by omega), idx_nat, getD_get hi, bind_some', bind_some', cond_dec, if_neg (by omega), wrapNat1 hi (by omega)]
  · simp only [I_LateOf_g0]
    rw [cond_dec, if_neg (by omega)]
theorem due_loop {R : Type} {k : Nat} {p : List Int × Int × List Task × Int × Int × Int × Int × Int × List Task × Int × Int × Int × Int × Int × Int × Int × Int × Int × Int × Int × List Task} {fin : Option R} {xret : Bool → Option R}
    (h : ∀ u ∈ p.2.2.1, u.id = p.2.2.2.2.1 → ¬ p.2.2.2.2.2.2.2.2.2.2.2.2.2.1 > u.due) (hk : p.2.2.1.length < k) (hN : p.2.2.1.length ≤ maxN) :
    iter (fun u n => L_FnFits_g1 k p u n (fun _ => fin) (fun y => xret y)) k (0 : Int) = fin := by
  have hM := maxN_eq
  refine iter_run (st := fun i => (i : Int)) (n := p.2.2.1.length) (r := fin) (fun i hi next => ?_) (fun next => ?_) (k := k) hk
  · have := h _ (List.getElem_mem hi)
    simp only [L_FnFits_g1]
    rw [cond_dec, if_pos (by omega), idx_nat, getD_get hi, bind_some', cond_beq, bind_some', wrapNat1 hi (by omega)]
    by_cases c : p.2.2.1[i].id = p.2.2.2.2.1
    · rw [if_pos c, cond_dec, if_neg (this c)]
    · rw [if_neg c]
  · simp only [L_FnFits_g1]
    rw [cond_dec, if_neg (by omega)]
theorem L_at_some (k : Nat) (code : List Int) {i : Int} (hi : 0 ≤ i) : ∃ r, L_at k code i = some r := by
  unfold L_at
  rw [cond_dec]
  by_cases c : i < (code.length : Int)
  · rw [if_pos c, idx_pos _ hi, getD_get (show i.toNat < code.length by omega)]; exact ⟨_, rfl⟩
  · rw [if_neg c]; exact ⟨_, rfl⟩
/-- What holds through the ticks. -/
structure Run (due : List Task) (s : Sched) (st i : Int) : Prop where
  ok : SOk s
  stb : 0 ≤ st ∧ st ≤ 1000
  ib : 0 ≤ i ∧ i ≤ 1200
  now : s.now ≤ 997000 + i
  room : RoomFor s st
  from_ : ∀ t ∈ s.tasks, ∃ u ∈ due, u.id = t.id ∧ u.due = t.due
  tot : s.tot ≤ 5000
theorem run_tick {due : List Task} (hdue : due.Pairwise fun a b => a.id < b.id) {s : Sched} {st i : Int} (h : Run due s st i) (hi : i < 1200) (hne : 0 < s.tasks.length) :
    (1 ≤ st → Run due (tickS s true).1 (st - 1) (i + 1) ∧ (tickS s true).2.2 = false) ∧ (Run due (tickS s false).1 st (i + 1) ∧ ((tickS s false).2.2 = true → ∀ u ∈ due, u.id = (tickS s false).2.1 → ¬ (tickS s false).1.now > u.due)) := by
  have hnow := h.now
  have hn : s.now ≠ 1000000 := by omega
  have hl := room_early h.ok h.stb.1 h.room
  have hi0 := h.ib
  refine ⟨fun hst => ?_, ?_⟩
  · rw [tick_stalled h.ok hn]
    have hst0 := h.stb
    refine ⟨⟨later_ok h.ok hn, by omega, by omega, by simp only; omega, fun t ht => ?_, h.from_, h.tot⟩, rfl⟩
    have := h.room t ht
    have e1 : demand ⟨s.now + 1, s.slack, s.age, s.tasks, s.run, s.left, s.turns, s.next⟩ t.due = demand s t.due := rfl
    have e2 : block ⟨s.now + 1, s.slack, s.age, s.tasks, s.run, s.left, s.turns, s.next⟩ t.due = block s t.due := rfl
    rw [e1, e2]; simp only; omega
  · rcases tick_turn h.ok hn with ⟨t1, _⟩ | ⟨t, L, tr, T, hr⟩
    · rw [t1] at hne; exact (Nat.lt_irrefl _ hne).elim
    have W := worked h.ok hn T
    have hL : s.run = t.id → L = s.left := fun e => by
      have r1 := T.rem t T.mem
      unfold remain at r1
      rw [e] at r1
      simp only [beq_self_eq_true, cond_true] at r1
      omega
    have hs := room_step h.ok hn hl T hr hL
    refine ⟨⟨W.ok, h.stb, by omega, by rw [W.now]; omega, fun u hu => ?_, fun u hu => ?_, Nat.le_trans (tickS_tot s false) h.tot⟩, fun hg u hu e => ?_⟩
    · obtain ⟨v, hv, _, e⟩ := W.from_ u hu
      have h1 := hs v hv
      have h2 := h.room v hv
      rw [W.now, ← e]; omega
    · obtain ⟨v, hv, e1, e2⟩ := W.from_ u hu
      obtain ⟨w, hw, e3, e4⟩ := h.from_ v hv
      exact ⟨w, hw, e3.trans e1, e4.trans e2⟩
    · obtain ⟨w, hw, e3, e4⟩ := h.from_ t T.mem
      have huw : u = w := by
        have e := e.trans ((W.goes hg).1.trans e3.symm)
        obtain ⟨a, ha, rfl⟩ := List.mem_iff_getElem.1 hu
        obtain ⟨b, hb, rfl⟩ := List.mem_iff_getElem.1 hw
        rcases Nat.lt_trichotomy a b with c | c | c
        · have := List.pairwise_iff_getElem.1 hdue a b ha hb c; omega
        · subst c; rfl
        · have := List.pairwise_iff_getElem.1 hdue b a hb ha c; omega
      have := hl t T.mem
      rw [huw, e4, W.now]; omega
theorem L_FnFits_eq (code : List Int) (hb : okS okB code) : ∃ k, L_FnFits k code = some true := by
  obtain ⟨k, hk0⟩ : ∃ k, code.length + 10000 < k := ⟨_, Nat.lt_succ_self _⟩
  refine ⟨k, ?_⟩
  have hM := maxN_eq
  unfold L_FnFits L_big
  rw [bind_some']
  by_cases c : (code.length : Int) > 1048576
  · rw [decide_eq_true c]; rfl
  rw [decide_eq_false c, cond_false]
  unfold S_DrawFitsIn S_DrawSchedOk
  obtain ⟨r, e, hs, _⟩ := draw7_gives (b := code) (by omega) (k := k) (by omega)
  rw [e, bind_some', bind_some', bind_some']
  generalize r.1.2 = s at hs
  rw [I_FitsIn_eq (by omega) (by omega), bind_some', S_FitsIn_eq (by omega) (by omega), bind_some']
  have n2 : ∀ a : Bool, (a == a) = true := fun a => by simp
  rw [n2]
  simp only [Bool.not_true, cond_false]
  cases hf : fitsB s
  · rfl
  simp only [Bool.not_true, cond_false]
  rw [cond_dec]
  by_cases hn : s.now > 997000
  · rw [if_pos hn]
  rw [if_neg hn]
  unfold fitsB at hf
  rw [Bool.and_eq_true, List.all_eq_true] at hf
  have hok := sok_of hf.1
  have hroom : RoomFor s s.slack := fun t ht => by
    have := (Bool.and_eq_true_iff.1 (hf.2 t ht)).2
    exact of_decide_eq_true this
  have hdl : s.tasks.length ≤ 12 := hok.len
  have G := Gives.iter (Q := fun r : Bool => r = true) (g := fun u32 n32 => L_FnFits_g0 k (code, s.tasks) u32 n32 (fun y30 => some true) (fun y31 => some y31))
    (Inv := fun v : Int × Int × Int × Int × Int × List Task × Int × Int × Int × Int => Run s.tasks ⟨v.2.2.1, v.2.2.2.1, v.2.2.2.2.1, v.2.2.2.2.2.1, v.2.2.2.2.2.2.1, v.2.2.2.2.2.2.2.1, v.2.2.2.2.2.2.2.2.1, v.2.2.2.2.2.2.2.2.2⟩ v.1 v.2.1) (m := fun v => (1200 - v.2.1).toNat) (fun v next hv hnx => ?_) k (s.slack, (0 : Int), s.now, s.slack, s.age, s.tasks, s.run, s.left, s.turns, s.next)
    ⟨hok, hok.slack, by simp, by simp only; omega, hroom, fun t ht => ⟨t, ht, rfl, rfl⟩, by show s.tot ≤ 5000; omega⟩ (by simp; omega)
  · obtain ⟨r, e, rfl⟩ := G
    exact e
  show Gives (L_FnFits_g0 k (code, s.tasks) v next _ _) _
  unfold L_FnFits_g0
  generalize hz : (⟨v.2.2.1, v.2.2.2.1, v.2.2.2.2.1, v.2.2.2.2.2.1, v.2.2.2.2.2.2.1, v.2.2.2.2.2.2.2.1, v.2.2.2.2.2.2.2.2.1, v.2.2.2.2.2.2.2.2.2⟩ : Sched) = z at hv
  have hzt : z.tasks = v.2.2.2.2.2.1 := by rw [← hz]
  refine Gives.cond (fun h1 => Gives.cond (fun h2 => ?_) fun _ => Gives.some rfl) fun _ => Gives.some rfl
  have h1 := of_decide_eq_true h1
  have h2 := of_decide_eq_true h2
  have hi0 := hv.ib
  have hzl : 0 < z.tasks.length := by rw [hzt]; omega
  obtain ⟨hstall, hwork, hgoes⟩ := run_tick hok.ids hv h1 hzl
  have htot := hv.tot
  have ei : IntKind.i64.wrap (v.2.1 + 1) = v.2.1 + 1 := wrapI (by omega) (by omega)
  -- what follows upon a tick
  have go : ∀ (st : Bool) (m : Int), Run s.tasks (tickS z st).1 m (v.2.1 + 1) → ((tickS z st).2.2 = true → ∀ u ∈ s.tasks, u.id = (tickS z st).2.1 → ¬ (tickS z st).1.now > u.due) →
      ∀ (p : List Int × Int × List Task × Int × Int × Int × Int × Int × List Task × Int × Int × Int × Int × Int × Int × Int × Int × Int × Int × Int × List Task), p.2.2.1 = s.tasks → p.2.2.2.2.1 = (tickS z st).2.1 → p.2.2.2.2.2.2.2.2.2.2.2.2.2.1 = (tickS z st).1.now →
      Gives (cond ((tickS z st).2.2) (iter (fun u n => L_FnFits_g1 k p u n (fun _ => (I_LateOf k (tickS z st).1).bind fun r10 => cond (decide ((r10.length : Int) > (0 : Int))) (some false) (next (m, IntKind.i64.wrap (v.2.1 + (1 : Int)), (tickS z st).1.now, (tickS z st).1.slack, (tickS z st).1.age, (tickS z st).1.tasks, (tickS z st).1.run, (tickS z st).1.left, (tickS z st).1.turns, (tickS z st).1.next))) (fun y => some y)) k (0 : Int))
        ((I_LateOf k (tickS z st).1).bind fun r13 => cond (decide ((r13.length : Int) > (0 : Int))) (some false) (next (m, IntKind.i64.wrap (v.2.1 + (1 : Int)), (tickS z st).1.now, (tickS z st).1.slack, (tickS z st).1.age, (tickS z st).1.tasks, (tickS z st).1.run, (tickS z st).1.left, (tickS z st).1.turns, (tickS z st).1.next)))) fun r : Bool => r = true := fun st m hr hg p p1 p2 p3 => by
    have hlate := I_LateOf_none (k := k) (by have := hr.tot; omega) (by have := hr.tot; omega) hr.ok (room_early hr.ok hr.stb.1 hr.room)
    have fin : Gives ((I_LateOf k (tickS z st).1).bind fun r13 => cond (decide ((r13.length : Int) > (0 : Int))) (some false) (next (m, IntKind.i64.wrap (v.2.1 + (1 : Int)), (tickS z st).1.now, (tickS z st).1.slack, (tickS z st).1.age, (tickS z st).1.tasks, (tickS z st).1.run, (tickS z st).1.left, (tickS z st).1.turns, (tickS z st).1.next))) fun r : Bool => r = true := by
      rw [hlate, bind_some', ei]
      exact hnx _ hr (by simp only; omega)
    refine Gives.cond (fun hq => ?_) fun _ => fin
    rw [due_loop (by rw [p1, p2, p3]; exact hg hq) (by rw [p1]; omega) (by rw [p1]; omega)]
    exact fin
  refine Gives.cond (fun h3 => ?_) fun _ => ?_
  · have h3 := of_decide_eq_true h3
    obtain ⟨a, ha⟩ := L_at_some k code (i := v.2.1) (by omega)
    simp only [ha, bind_some']
    refine Gives.cond (fun h4 => ?_) fun h4 => ?_
    · rw [h4, I_TickSched_eq (by omega) (by omega), bind_some']
      obtain ⟨g1, g2⟩ := hstall (by omega)
      rw [wrapI (n := v.1 - 1) (by omega) (by have := hv.stb; omega)]
      exact go true (v.1 - 1) g1 (fun h => by rw [g2] at h; exact nomatch h) _ rfl rfl rfl
    · rw [h4, I_TickSched_eq (by omega) (by omega), bind_some']
      exact go false v.1 hwork hgoes _ rfl rfl rfl
  · rw [I_TickSched_eq (by omega) (by omega), bind_some']
    exact go false v.1 hwork hgoes _ rfl rfl rfl
end Go.Proofs.Ev
