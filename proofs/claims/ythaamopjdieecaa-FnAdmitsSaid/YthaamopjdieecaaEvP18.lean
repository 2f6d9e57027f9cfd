/- Plain laws: lists with numbers for inner slices; DeleteFunc; CancelTask. -/
import Derived.Test.YthaamopjdieecaaEvP17
import Derived.Test.YthaamopjdieecaaEvD7
set_option linter.unusedVariables false
set_option linter.unusedSimpArgs false
set_option linter.unusedVariables false
set_option linter.unusedSimpArgs false
namespace Go.Proofs.Ev
def numT (n : Nat) (t : Task) : TaskK := ⟨t.id, n + 1, t.at_, t.due, t.born⟩
def numTs : Nat → List Task → List TaskK
  | _, [] => []
  | n, t :: l => numT n t :: numTs (n + 5) l
theorem numEls_task : ∀ (ts : List Task) (n : Nat), numEls .task .taskK n ts = some (numTs n ts)
  | [], n => rfl
  | t :: l, n => by
    have ih := numEls_task l (n + 5)
    show ((S.taskK.ofCells (numCells n (taskC t))).bind fun y => (numEls .task .taskK (n + S.task.sz) l).bind fun ys => some (y :: ys)) = _
    rw [show S.task.sz = 5 from rfl, ih]
    rfl
theorem numTs_length : ∀ (ts : List Task) (n : Nat), (numTs n ts).length = ts.length
  | [], n => rfl
  | t :: l, n => by simp [numTs, numTs_length l]
theorem toks_taskK : ∀ zs : List TaskK, toks (allCells .taskK zs) = zs.map (·.costs)
  | [] => rfl
  | z :: l => by
    show toks (taskKC z ++ allCells .taskK l) = _
    rw [List.map_cons, ← toks_taskK l]; rfl
theorem nodupB_of : ∀ {l : List Nat}, l.Nodup → nodupB l = true
  | [], _ => rfl
  | x :: l, h => by
    rw [List.nodup_cons] at h
    simp only [nodupB]
    cases hm : mem x l
    · exact nodupB_of h.2
    · exact (h.1 ((mem_iff x l).1 hm)).elim
theorem numTs_pair : ∀ (ts : List Task) (n : Nat), (∀ z ∈ numTs n ts, n < z.costs) ∧ (numTs n ts).Pairwise fun a b => a.costs < b.costs
  | [], n => ⟨(fun z hz => by simp [numTs] at hz), List.Pairwise.nil⟩
  | t :: l, n => by
    obtain ⟨h1, h2⟩ := numTs_pair l (n + 5)
    refine ⟨fun z hz => ?_, List.Pairwise.cons (fun z hz => ?_) h2⟩
    · rcases List.mem_cons.1 hz with rfl | hz
      · show n < n + 1; omega
      · have := h1 z hz; omega
    · have := h1 z hz
      show n + 1 < z.costs; omega
theorem nodTask_part {ts : List Task} {n : Nat} (q : TaskK → Bool) : nodTask ((numTs n ts).filter q) = true := by
  have h := ((numTs_pair ts n).2.filter q)
  have h2 : nodupB (((numTs n ts).filter q).map (·.costs)) = true := by
    refine nodupB_of ?_
    rw [List.Nodup, List.pairwise_map]
    exact h.imp fun h e => by omega
  unfold nodTask
  exact (congrArg nodupB (toks_taskK ((numTs n ts).filter q))).trans h2
theorem unEls_cons (C : List R) (y : TaskK) (l : List TaskK) : unEls .task .taskK C (y :: l) = (unCells C (taskKC y)).bind fun c => (S.task.ofCells c).bind fun x => (unEls .task .taskK C l).bind fun xs => some (x :: xs) := rfl
theorem unEls_part (p : Task → Bool) (q : TaskK → Bool) (hq : ∀ n t, q (numT n t) = p t) (C : List R) : ∀ (ts : List Task) (n : Nat), (∀ (i : Nat) (h : i < ts.length), C[n + 5 * i]? = some (.ints ts[i].costs)) →
    unEls .task .taskK C ((numTs n ts).filter q) = some (ts.filter p)
  | [], n, _ => rfl
  | t :: l, n, hC => by
    have ih := unEls_part p q hq C l (n + 5) fun i hi => by
      have := hC (i + 1) (by simpa using hi)
      rw [show n + 5 + 5 * i = n + 5 * (i + 1) from by omega, this]; rfl
    have h0 : C[n]? = some (.ints t.costs) := by
      have := hC 0 (by simp)
      simpa using this
    have e1 : (numTs n (t :: l)).filter q = cond (p t) (numT n t :: (numTs (n + 5) l).filter q) ((numTs (n + 5) l).filter q) := by
      simp only [numTs, List.filter_cons, hq]
      cases p t <;> rfl
    have e2 : (t :: l).filter p = cond (p t) (t :: l.filter p) (l.filter p) := by
      rw [List.filter_cons]
      cases p t <;> rfl
    refine (congrArg (unEls .task .taskK C) e1).trans (Eq.trans ?_ (congrArg some e2.symm))
    clear e1 e2
    cases p t
    · exact ih
    · have hc : unCells C (taskKC (numT n t)) = some (taskC t) := by
        have hu : unCell C (.tok (n + 1)) = some (.ints t.costs) := by
          show (match C[n]? with | some (.sl t xs) => some (R.sl t xs) | _ => none) = _
          rw [h0]
        show ((unCell C (.i t.id)).bind fun x => ((unCell C (.tok (n + 1))).bind fun x => ((unCell C (.i t.at_)).bind fun x => ((unCell C (.i t.due)).bind fun x => ((unCell C (.i t.born)).bind fun x => (some []).bind fun xs => some (x :: xs)).bind fun xs => some (x :: xs)).bind fun xs => some (x :: xs)).bind fun xs => some (x :: xs)).bind fun xs => some (x :: xs)) = _
        rw [hu]; rfl
      refine (unEls_cons C (numT n t) _).trans ?_
      rw [hc]
      exact congrArg (fun r : Option (List Task) => r.bind fun xs => some (t :: xs)) ih
theorem allCells_task (ts : List Task) (i : Nat) (h : i < ts.length) : (allCells .task ts)[1 + 5 * i]? = some (.ints ts[i].costs) := by
  have := allCells_of (s := .task) (xs := ts) (i := i) (j := 1) (r := .ints ts[i].costs) ⟨ts[i], getD_get h, rfl⟩
  rw [show S.task.sz = 5 from rfl] at this
  rw [show 1 + 5 * i = i * 5 + 1 from by omega]
  exact this
theorem numTask_eq (ts : List Task) : numTask ts = some (numTs 1 ts) := numEls_task ts 1
theorem unTask_part (ts : List Task) (p : Task → Bool) (q : TaskK → Bool) (hq : ∀ n t, q (numT n t) = p t) : unTask ts ((numTs 1 ts).filter q) = some (ts.filter p) :=
  unEls_part p q hq _ ts 1 fun i hi => allCells_task ts i hi
theorem l07Off_m3_eq {k : Nat} {zs : List TaskK} {a b c d e f g id : Int} (hk : zs.length < k) (hN : zs.length ≤ maxN) : S_l07Off_m3 k a b c zs d e f g id = some (zs.filter fun z => !(z.id == id)) := by
  have hM := maxN_eq
  unfold S_l07Off_m3
  simp only [decide_true, cond_true]
  refine (filter_loop zs (fun z => !(z.id == id)) (fun z => z) (g := fun u4 n4 => S_l07Off_m3_g0 k (id, a, b, c, d, e, f, g, zs) u4 n4 (fun y3 => some y3)) (fin := some) (fun i ys hi next hl => by
    simp only [S_l07Off_m3_g0]
    rw [cond_dec, if_pos (by omega), cond_dec, if_pos (by omega), Int.toNat_natCast, getD_get hi, bind_some', cond_dec, if_pos (by omega), bind_some', ble_le (by simp; omega), wrapNat1 hi (by omega)]
    rfl) (fun ys next => by
    simp only [S_l07Off_m3_g0]; rw [cond_dec, if_neg (by omega)]) hk).trans ?_
  simp
def offT (ts : List Task) (id : Int) : List Task := ts.filter fun t => !(t.id == id)
def cancelS (s : Sched) (id : Int) : Sched × Bool :=
  cond (schedB s && decide (0 ≤ findT s.tasks id)) (⟨s.now, s.slack, s.age, offT s.tasks id, cond (s.run == id) 0 s.run, cond (s.run == id) 0 s.left, s.turns, s.next⟩, true) (s, false)
theorem S_CancelTask_eq {k : Nat} {s : Sched} {id : Int} (hk : s.tot < k) (hN : s.tot ≤ maxN) : S_CancelTask k s id = some (cancelS s id) := by
  have hlen := totL_len Task.tot s.tasks
  have hst : s.tot = totL Task.tot s.tasks + 0 := rfl
  unfold S_CancelTask cancelS
  rw [S_l07Copy_eq hk hN, bind_some', S_SchedOk_eq hk hN, bind_some']
  cases schedB s
  · rfl
  simp only [Bool.not_true, cond_false, Bool.true_and]
  rw [S_l07At_eq (by omega) (by omega), bind_some']
  by_cases c : findT s.tasks id < 0
  · rw [decide_eq_true c, decide_eq_false (by omega)]; rfl
  rw [decide_eq_false c, decide_eq_true (by omega)]
  simp only [cond_false, cond_true]
  rw [numTask_eq, bind_some', l07Off_m3_eq (by rw [numTs_length]; omega) (by rw [numTs_length]; omega), bind_some', nodTask_part, cond_true, unTask_part s.tasks (fun t => !(t.id == id)) (fun z => !(z.id == id)) (fun n t => rfl), bind_some']
  unfold offT
  cases s.run == id <;> rfl
theorem totL_filter {α : Type} (t : α → Nat) (p : α → Bool) : ∀ xs : List α, totL t (xs.filter p) ≤ totL t xs
  | [] => Nat.le_refl _
  | x :: l => by
    have ih := totL_filter t p l
    rw [List.filter_cons, totL_cons]
    cases p x
    · simp; omega
    · simp only [if_true, totL_cons]; omega
theorem cancelS_tot (s : Sched) (id : Int) : (cancelS s id).1.tot ≤ s.tot := by
  unfold cancelS
  cases (schedB s && decide (0 ≤ findT s.tasks id))
  · exact Nat.le_refl _
  · have := totL_filter Task.tot (fun t => !(t.id == id)) s.tasks
    simp only [cond_true, Sched.tot, offT]; omega
end Go.Proofs.Ev
