/- Plain laws: FnAdmits. -/
import Derived.Test.YthaamopjdieecaaEvP30
set_option linter.unusedVariables false
set_option linter.unusedSimpArgs false
set_option linter.unusedVariables false
set_option linter.unusedSimpArgs false
set_option maxRecDepth 100000
namespace Go.Proofs.Ev
/-- What is left of all. -/
def workS (s : Sched) : Int := (s.tasks.map (remain s)).sum
theorem remain_pos {s : Sched} (h : schedB s = true) {t : Task} (hm : t ∈ s.tasks) : 1 ≤ remain s t := by
  have hs := schedB_spec h
  obtain ⟨i, hi, e⟩ := List.mem_iff_getElem.1 hm
  have hT : taskB t = true := e ▸ (tasksB_spec hs.2.2.2.2.2.2.1 hi).1
  have hc := idx_costAt hT
  have hb := restOf_bd hT
  unfold remain
  cases hr : s.run == t.id
  · simp only [cond_false]; omega
  · have := run_left h hm (by simpa using hr)
    simp only [cond_true]; omega
theorem I_workLeft_eq {k : Nat} {s : Sched} (hk : s.tot < k) (hN : s.tot ≤ maxN) (h : schedB s = true) : I_Sched_workLeft k s = some (workS s) := by
  have hM := maxN_eq
  have hs := schedB_spec h
  have hlen := totL_len Task.tot s.tasks
  have hst : s.tot = totL Task.tot s.tasks + 0 := rfl
  unfold I_Sched_workLeft
  exact sum_loop s.tasks (remain s) (B := 6000) (fun t ht => remain_bd h ht) (g := fun u4 n4 => I_Sched_workLeft_g0 k (s.tasks, (s.tasks.length : Int), s.now, s.slack, s.age, s.tasks, s.run, s.left, s.turns, s.next) u4 n4 (fun y3 => some y3)) (fin := some)
    (fun i z hi next h0 h1 => by
      have hr := remain_bd h (List.getElem_mem hi)
      have e := I_remain_eq hk hN h (List.getElem_mem hi)
      simp only [I_Sched_workLeft_g0]
      rw [cond_dec, if_pos (by omega), idx_nat, getD_get hi, bind_some', wrapNat1 hi (by omega)]
      rw [show (⟨s.now, s.slack, s.age, s.tasks, s.run, s.left, s.turns, s.next⟩ : Sched) = s from rfl, e, bind_some', wrapI (by omega) (by omega)])
    (fun z next => by simp only [I_Sched_workLeft_g0]; rw [cond_dec, if_neg (by omega)]) (by omega)
theorem I_WorkLeft_eq {k : Nat} {s : Sched} (hk : s.tot < k) (hN : s.tot ≤ maxN) : I_WorkLeft k s = some (cond (schedB s) (workS s) (-1)) := by
  unfold I_WorkLeft
  rw [I_SchedOk_eq hk hN, bind_some']
  cases h : schedB s
  · rfl
  · rw [I_workLeft_eq hk hN h]; rfl
/-- What Admit does, by its answers. -/
theorem admit_cases (s : Sched) (costs : List Int) (due : Int) :
    ((admitS s costs due).2.2 = 0 ∧ 0 < (admitS s costs due).2.1 ∧ schedB s = true ∧ fitsB (admitS s costs due).1 = true ∧ (admitS s costs due).1 = ⟨s.now, s.slack, s.age, s.tasks ++ [⟨s.next, costs, 0, due, s.now⟩], s.run, s.left, s.turns, s.next + 1⟩) ∨
    ((admitS s costs due).2.2 ≠ 0 ∧ (admitS s costs due).2.1 = 0 ∧ (admitS s costs due).1 = s) := by
  unfold admitS
  cases h : schedB s && taskB ⟨s.next, costs, 0, due, s.now⟩
  · right; simp
  have hb := (Bool.and_eq_true_iff.1 h).1
  have hs := schedB_spec hb
  cases ((s.tasks.length : Int) == 12 || s.next == 1000000)
  · cases hf : fitsB ⟨s.now, s.slack, s.age, s.tasks ++ [⟨s.next, costs, 0, due, s.now⟩], s.run, s.left, s.turns, s.next + 1⟩
    · right; simp
    · left; simp only [cond_true, cond_false]
      exact ⟨trivial, by omega, hb, hf, trivial⟩
  · right; simp
theorem empty_admit {slack : Int} (hs : schedB (newS slack 1) = true) {costs : List Int} (h1 : 0 < costs.length) (h2 : costs.length ≤ 6) (hc : ∀ x ∈ costs, 1 ≤ x ∧ x ≤ 1000) (d : Int) (hd : d = 0 ∨ d = 1) :
    (admitS (newS slack 1) costs (costs.sum + slack - d)).2.2 = cond (d == 0) 0 3 := by
  have hb := schedB_spec hs
  have hsum := sum_bd' (f := fun x : Int => x) (B := 1000) costs (fun x hx => by have := hc x hx; omega)
  rw [List.map_id'] at hsum
  have hpos : 1 ≤ costs.sum := by
    cases costs with
    | nil => simp at h1
    | cons x l =>
      have g1 := hc x (by simp)
      have g2 := sum_bd' (f := fun x : Int => x) (B := 1000) l (fun y hy => by have := hc y (by simp [hy]); omega)
      rw [List.map_id'] at g2
      rw [List.sum_cons]; omega
  have hsl : (newS slack 1).slack = slack := rfl
  rw [hsl] at hb
  have hT : taskB ⟨1, costs, 0, costs.sum + slack - d, 0⟩ = true := by
    unfold taskB inB
    simp only [Bool.and_eq_true, decide_eq_true_eq, List.all_eq_true]
    exact ⟨by omega, by omega, by omega, by omega, by omega, fun x hx => by have := hc x hx; omega⟩
  have e1 : (newS slack 1).next = 1 := rfl
  have e2 : (newS slack 1).now = 0 := rfl
  unfold admitS
  rw [e1, e2, hs, hT]
  have hsch : schedB ⟨0, slack, 1, [⟨1, costs, 0, costs.sum + slack - d, 0⟩], 0, 0, 0, 2⟩ = true := by
    unfold schedB tasksB runB inB
    have hr : List.range [(⟨1, costs, 0, costs.sum + slack - d, 0⟩ : Task)].length = [0] := rfl
    simp only [hr, List.all_cons, List.all_nil, Bool.and_true, Bool.and_eq_true, decide_eq_true_eq]
    refine ⟨by omega, by omega, by omega, by simp, by omega, by omega, ?_, rfl⟩
    show (taskB _ && _) = true
    rw [hT]; rfl
  have hrem : remain ⟨0, slack, 1, [⟨1, costs, 0, costs.sum + slack - d, 0⟩], 0, 0, 0, 2⟩ ⟨1, costs, 0, costs.sum + slack - d, 0⟩ = costs.sum := by
    unfold remain restOf; rfl
  have hroom : roomB ⟨0, slack, 1, [⟨1, costs, 0, costs.sum + slack - d, 0⟩], 0, 0, 0, 2⟩ ⟨1, costs, 0, costs.sum + slack - d, 0⟩ = decide (d = 0) := by
    unfold roomB demand block
    have hbl : ([(⟨1, costs, 0, costs.sum + slack - d, 0⟩ : Task)].findIdx? fun t => t.id == (0 : Int)) = none := rfl
    simp only [List.map_cons, List.map_nil, List.sum_cons, List.sum_nil, hrem, hbl, Option.elim_none]
    rw [decide_eq_true (Int.le_refl _), cond_true]
    exact decide_eq_decide.2 (by omega)
  have hfit : fitsB ⟨0, slack, 1, [⟨1, costs, 0, costs.sum + slack - d, 0⟩], 0, 0, 0, 2⟩ = decide (d = 0) := by
    unfold fitsB
    simp only [hsch, List.all_cons, List.all_nil, Bool.and_true, Bool.true_and, hroom]
    rcases hd with rfl | rfl
    · unfold lateB
      simp only
      rw [decide_eq_false (by omega)]; rfl
    · cases lateB _ _ <;> rfl
  show (cond (true && true) (cond (((([] : List Task).length : Nat) : Int) == 12 || (1 : Int) == 1000000) _ (cond (fitsB ⟨0, slack, 1, [⟨1, costs, 0, costs.sum + slack - d, 0⟩], 0, 0, 0, 2⟩) _ _)) _ : Sched × Int × Int).2.2 = _
  rw [hfit]
  rcases hd with rfl | rfl <;> rfl
theorem admits_tail {k : Nat} {s : Sched} {costs : List Int} (hk : 20 < k) (hl : costs.length ≤ 6) : ((I_NewSched k s.slack (1 : Int)).bind fun r8 => cond (!r8.2) (some true) (iter (fun u16 n16 => L_FnAdmits_g0 k (s.now, s.slack, s.age, s.run, s.left, s.turns, s.next, costs, r8.1.now, r8.1.slack, r8.1.age, r8.1.run, r8.1.left, r8.1.turns, r8.1.next, s.tasks, r8.1.tasks) u16 n16 (fun y12 => cond ((costs.length : Int) == (0 : Int)) (some true) (cond (decide ((costs.length : Int) > (6 : Int))) (some true) ((I_Admit k r8.1 costs (IntKind.i64.wrap (y12 + s.slack))).bind fun r13 => (I_Admit k r8.1 costs (IntKind.i64.wrap ((IntKind.i64.wrap (y12 + s.slack)) - (1 : Int)))).bind fun r14 => cond (r13.2.2 == (0 : Int)) (some (r14.2.2 == (3 : Int))) (some false)))) (fun y15 => some y15)) k ((0 : Int), (0 : Int)))) = some true := by
  have hM := maxN_eq
  rw [I_New_eq (by omega), bind_some']
  cases hs : schedB (newS s.slack 1)
  · rfl
  simp only [cond_true, Bool.not_true, cond_false]
  have hb := schedB_spec hs
  have hsl : (newS s.slack 1).slack = s.slack := rfl
  rw [hsl] at hb
  have hsd : (newS s.slack 1).tot = 0 := rfl
  have G := Gives.iter (Q := fun r : Bool => r = true) (g := fun u16 n16 => L_FnAdmits_g0 k (s.now, s.slack, s.age, s.run, s.left, s.turns, s.next, costs, (newS s.slack 1).now, (newS s.slack 1).slack, (newS s.slack 1).age, (newS s.slack 1).run, (newS s.slack 1).left, (newS s.slack 1).turns, (newS s.slack 1).next, s.tasks, (newS s.slack 1).tasks) u16 n16 (fun y12 => cond ((costs.length : Int) == (0 : Int)) (some true) (cond (decide ((costs.length : Int) > (6 : Int))) (some true) ((I_Admit k (newS s.slack 1) costs (IntKind.i64.wrap (y12 + s.slack))).bind fun r13 => (I_Admit k (newS s.slack 1) costs (IntKind.i64.wrap ((IntKind.i64.wrap (y12 + s.slack)) - (1 : Int)))).bind fun r14 => cond (r13.2.2 == (0 : Int)) (some (r14.2.2 == (3 : Int))) (some false)))) (fun y15 => some y15))
    (Inv := fun v : Int × Int => 0 ≤ v.2 ∧ v.2 ≤ costs.length ∧ v.1 = (costs.take v.2.toNat).sum ∧ ∀ x ∈ costs.take v.2.toNat, 1 ≤ x ∧ x ≤ 1000) (m := fun v => costs.length - v.2.toNat) (fun v next hv hn => ?_) k ((0 : Int), (0 : Int)) ⟨Int.le_refl _, by simp only; omega, rfl, by simp⟩ (by simp; omega)
  · obtain ⟨r, e, rfl⟩ := G
    exact e
  obtain ⟨v1, v2, v3, v4⟩ := hv
  have hsum := sum_bd' (f := fun x : Int => x) (B := 1000) (costs.take v.2.toNat) (fun x hx => by have := v4 x hx; omega)
  rw [List.map_id', ← v3, List.length_take] at hsum
  have hmin : min v.2.toNat costs.length ≤ 6 := by omega
  show Gives (L_FnAdmits_g0 k _ v next _ _) _
  unfold L_FnAdmits_g0
  simp only
  refine Gives.cond (fun h1 => ?_) fun h1 => ?_
  · have h1 := of_decide_eq_true h1
    have hi : v.2.toNat < costs.length := by omega
    refine Gives.must (by omega) ?_
    rw [getD_get hi, bind_some']
    refine Gives.cond (fun _ => Gives.some rfl) fun h3 => Gives.must (by omega) ?_
    rw [bind_some']
    refine Gives.cond (fun _ => Gives.some rfl) fun h4 => Gives.must (by omega) ?_
    rw [bind_some']
    have h3 := of_decide_eq_false h3
    have h4 := of_decide_eq_false h4
    have e1 : IntKind.i64.wrap (v.2 + 1) = v.2 + 1 := wrapI (by omega) (by omega)
    have e2 : IntKind.i64.wrap (v.1 + costs[v.2.toNat]) = v.1 + costs[v.2.toNat] := wrapI (by omega) (by omega)
    have e3 : (v.2 + 1).toNat = v.2.toNat + 1 := by omega
    rw [e1, e2]
    refine hn _ ⟨by simp only; omega, by simp only; omega, ?_, ?_⟩ (by simp only; omega)
    · simp only
      rw [e3, take_step hi, List.sum_append, ← v3]; simp
    · simp only
      rw [e3, take_step hi]
      intro x hx
      rcases List.mem_append.1 hx with hx | hx
      · exact v4 x hx
      · rw [List.mem_singleton] at hx; subst hx; omega
  · have h1 := of_decide_eq_false h1
    have hfull : v.2.toNat = costs.length := by omega
    rw [hfull, List.take_length] at v3 v4
    refine Gives.cond (fun _ => Gives.some rfl) fun h2 => Gives.cond (fun _ => Gives.some rfl) fun _ => ?_
    have h2 : 0 < costs.length := by
      rw [beq_dec] at h2
      have := of_decide_eq_false h2; omega
    rw [wrapI (n := v.1 + s.slack) (by omega) (by omega), wrapI (n := v.1 + s.slack - 1) (by omega) (by omega)]
    rw [I_Admit_eq (by rw [hsd]; omega) (by rw [hsd]; omega), bind_some', I_Admit_eq (by rw [hsd]; omega) (by rw [hsd]; omega), bind_some']
    have a1 := empty_admit hs h2 hl v4 0 (.inl rfl)
    have a2 := empty_admit hs h2 hl v4 1 (.inr rfl)
    rw [Int.sub_zero] at a1
    rw [v3, a1, a2]
    exact Gives.some rfl
theorem L_FnAdmits_eq (code : List Int) (hb : okS okB code) : ∃ k, L_FnAdmits k code = some true := by
  refine ⟨code.length + 10001, ?_⟩
  have hM := maxN_eq
  unfold L_FnAdmits L_big
  rw [bind_some']
  by_cases c : (code.length : Int) > 1048576
  · rw [decide_eq_true c]; rfl
  rw [decide_eq_false c, cond_false]
  obtain ⟨⟨s, costs, due⟩, e, hs, hl⟩ := drawAdmit_gives (b := code) (by omega) (k := code.length + 10001) (by omega)
  simp only at hs hl
  rw [e, bind_some']
  simp only
  have ht := admit_tot s costs due
  rw [S_Admit_eq (s := s) (by omega) (by omega), bind_some', I_Admit_eq (s := s) (by omega) (by omega), bind_some']
  have tail := admits_tail (k := code.length + 10001) (s := s) (costs := costs) (by omega) hl
  rw [I_FitsIn_eq (s := (admitS s costs due).1) (by omega) (by omega), I_WorkLeft_eq (s := (admitS s costs due).1) (by omega) (by omega), I_WorkLeft_eq (s := s) (by omega) (by omega)]
  simp only [bind_some']
  have n1 : ∀ a : Int, (a != a) = false := fun a => by simp
  have n2 : ∀ a : Bool, (a == a) = true := fun a => by simp
  rw [n1, n1, n1, cond_false, cond_false, cond_false]
  rcases admit_cases s costs due with ⟨g1, g2, g3, g4, g5⟩ | ⟨g1, g2, g3⟩
  · have hf : schedB (admitS s costs due).1 = true := by
      unfold fitsB at g4
      exact (Bool.and_eq_true_iff.1 g4).1
    have hw : workS s < workS (admitS s costs due).1 := by
      have hp := remain_pos hf (t := ⟨s.next, costs, 0, due, s.now⟩) (by rw [g5]; simp)
      rw [g5] at hp ⊢
      unfold workS
      simp only [List.map_append, List.sum_append, List.map_cons, List.map_nil, List.sum_cons, List.sum_nil]
      have : s.tasks.map (remain ⟨s.now, s.slack, s.age, s.tasks ++ [⟨s.next, costs, 0, due, s.now⟩], s.run, s.left, s.turns, s.next + 1⟩) = s.tasks.map (remain s) := rfl
      rw [this]; omega
    rw [g1, g4, hf, g3]
    simp only [decide_eq_true g2, cond_true, Bool.not_true, cond_false]
    rw [decide_eq_false (by omega), cond_false]
    exact tail
  · have z1 : ((admitS s costs due).2.2 == 0) = false := by simpa using g1
    have z2 : ((admitS s costs due).2.2 != 0) = true := by simpa using g1
    rw [g2, z1, z2, g3, n1]
    simp only [cond_true, cond_false]
    exact tail
end Go.Proofs.Ev
