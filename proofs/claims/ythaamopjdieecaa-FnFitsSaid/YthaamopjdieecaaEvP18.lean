/- Plain laws: lists with numbers for inner slices; DeleteFunc; CancelTask. -/
import Derived.Test.YthaamopjdieecaaEvP17
import Derived.Test.YthaamopjdieecaaEvD7
set_option linter.unusedVariables false
set_option linter.unusedSimpArgs false
set_option linter.unusedVariables false
set_option linter.unusedSimpArgs false
namespace Go.Proofs.Ev
def numT (n : Nat) (t : Task) : TaskK := ⟨t.id, n + 1, t.at_, t.due, t.born⟩
def numTs : Nat → List Task → List TaskK
  | _, [] => []
  | n, t :: l => numT n t :: numTs (n + 5) l
theorem numEls_task : ∀ (ts : List Task) (n : Nat), numEls .task .taskK n ts = some (numTs n ts)
  | [], n => rfl
  | t :: l, n => by
    have ih := numEls_task l (n + 5)
    show ((S.taskK.ofCells (numCells n (taskC t))).bind fun y => (numEls .task .taskK (n + S.task.sz) l).bind fun ys => some (y :: ys)) = _
    rw [show S.task.sz = 5 from rfl, ih]
    rfl
theorem numTs_length : ∀ (ts : List Task) (n : Nat), (numTs n ts).length = ts.length
  | [], n => rfl
  | t :: l, n => by simp [numTs, numTs_length l]
theorem toks_taskK : ∀ zs : List TaskK, toks (allCells .taskK zs) = zs.map (·.costs)
  | [] => rfl
  | z :: l => by
    show toks (taskKC z ++ allCells .taskK l) = _
    rw [List.map_cons, ← toks_taskK l]; rfl
theorem nodupB_of : ∀ {l : List Nat}, l.Nodup → nodupB l = true
  | [], _ => rfl
  | x :: l, h => by
    rw [List.nodup_cons] at h
    simp only [nodupB]
    cases hm : mem x l
    · exact nodupB_of h.2
    · exact (h.1 ((mem_iff x l).1 hm)).elim
theorem numTs_pair : ∀ (ts : List Task) (n : Nat), (∀ z ∈ numTs n ts, n < z.costs) ∧ (numTs n ts).Pairwise fun a b => a.costs < b.costs
  | [], n => ⟨(fun z hz => by simp [numTs] at hz), List.Pairwise.nil⟩
  | t :: l, n => by
    obtain ⟨h1, h2⟩ := numTs_pair l (n + 5)
    refine ⟨fun z hz => ?_, List.Pairwise.cons (fun z hz => ?_) h2⟩
    · rcases List.mem_cons.1 hz with rfl | hz
      · show n < n + 1; omega
      · have := h1 z hz; omega
    · have := h1 z hz
      show n + 1 < z.costs; omega
theorem nodTask_part {ts : List Task} {n : Nat} (q : TaskK → Bool) : nodTask ((numTs n ts).filter q) = true := by
  have h := ((numTs_pair ts n).2.filter q)
  have h2 : nodupB (((numTs n ts).filter q).map (·.costs)) = true := by
    refine nodupB_of ?_
    rw [List.Nodup, List.pairwise_map]
    exact h.imp fun h e => by omega
  unfold nodTask
  exact (congrArg nodupB (toks_taskK ((numTs n ts).filter q))).trans h2
theorem unEls_cons (C : List R) (y : TaskK) (l : List TaskK) : unEls .task .taskK C (y :: l) = (unCells C (taskKC y)).bind fun c => (S.task.ofCells c).bind fun x => (unEls .task .taskK C l).bind fun xs => some (x :: xs) := rfl
theorem unEls_part (p : Task → Bool) (q : TaskK → Bool) (hq : ∀ n t, q (numT n t) = p t) (C : List R) : ∀ (ts : List Task) (n : Nat), (∀ (i : Nat) (h : i < ts.length), C[n + 5 * i]? = some (.ints ts[i].costs)) →
    unEls .task .taskK C ((numTs n ts).filter q) = some (ts.filter p)
  | [], n, _ => rfl
  | t :: l, n, hC => by
    have ih := unEls_part p q hq C l (n + 5) fun i hi => by
      have := hC (i + 1) (by simpa using hi)
      rw [show n + 5 + 5 * i = n + 5 * (i + 1) from by omega, this]; rfl
    have h0 : C[n]? = some (.ints t.costs) := by
      have := hC 0 (by simp)
      simpa using this
    have e1 : (numTs n (t :: l)).filter q = cond (p t) (numT n t :: (numTs (n + 5) l).filter q) ((numTs (n + 5) l).filter q) := by
      simp only [numTs, List.filter_cons, hq]
      cases p t <;> rfl
    have e2 : (t :: l).filter p = cond (p t) (t :: l.filter p) (l.filter p) := by
      rw [List.filter_cons]
      cases p t <;> rfl
    refine (congrArg (unEls .task .taskK C) e1).trans (Eq.trans ?_ (congrArg some e2.symm))
    clear e1 e2
    cases p t
    · exact ih
    · have hc : unCells C (taskKC (numT n t)) = some (taskC t) := by
        have hu : unCell C (.tok (n + 1)) = some (.ints t.costs) := by
          show (match C[n]? with | some (.sl t xs) => some (R.sl t xs) | _ => none) = _
          rw [h0]
        show ((unCell C (.i t.id)).bind fun x => ((unCell C (.tok (n + 1))).bind fun x => ((unCell C (.i t.at_)).bind fun x => ((unCell C (.i t.due)).bind fun x => ((unCell C (.i t.born)).bind fun x => (some []).bind fun xs => some (x :: xs)).bind fun xs => some (x :: xs)).bind fun xs => some (x :: xs)).bind fun xs => some (x :: xs)).bind fun xs => some (x :: xs)) = _
        rw [hu]; rfl
      refine (unEls_cons C (numT n t) _).trans ?_
      rw [hc]
      exact congrArg (fun r : Option (List Task) => r.bind fun xs => some (t :: xs)) ih
theorem allCells_task (ts : List Task) (i : Nat) (h : i < ts.length) : (allCells .task ts)[1 + 5 * i]? = some (.ints ts[i].costs) := by
  have := allCells_of (s := .task) (xs := ts) (i := i) (j := 1) (r := .ints ts[i].costs) ⟨ts[i], getD_get h, rfl⟩
  rw [show S.task.sz = 5 from rfl] at this
  rw [show 1 + 5 * i = i * 5 + 1 from by omega]
  exact this
theorem numTask_eq (ts : List Task) : numTask ts = some (numTs 1 ts) := numEls_task ts 1
theorem unTask_part (ts : List Task) (p : Task → Bool) (q : TaskK → Bool) (hq : ∀ n t, q (numT n t) = p t) : unTask ts ((numTs 1 ts).filter q) = some (ts.filter p) :=
  unEls_part p q hq _ ts 1 fun i hi => allCells_task ts i hi
theorem delete_loop {α R : Type} (xs : List α) (p : α → Bool) {g : Int × Int × List α → (Int × Int × List α → Option R) → Option R} {fin : Int × List α → Option R}
    (h : ∀ (i j : Nat) (ys : List α) (hj : j < xs.length) (next : Int × Int × List α → Option R), i ≤ j → ys.length = xs.length → ys[j]? = some xs[j] →
      g ((i : Int), (j : Int), ys) next = cond (p xs[j]) (next ((i : Int), ((j + 1 : Nat) : Int), ys)) (next (((i + 1 : Nat) : Int), ((j + 1 : Nat) : Int), ys.set i xs[j])))
    (hn : ∀ (i : Nat) (ys : List α) next, ys.length = xs.length → g ((i : Int), (xs.length : Int), ys) next = fin ((i : Int), ys)) :
    ∀ (d i j : Nat) (ys : List α) (k : Nat), j + d = xs.length → d < k → i ≤ j → ys.length = xs.length → ys.drop j = xs.drop j → ys.take i = (xs.take j).filter (fun x => !p x) →
      ∃ (i' : Nat) (ys' : List α), i' ≤ xs.length ∧ ys'.length = xs.length ∧ ys'.take i' = xs.filter (fun x => !p x) ∧ iter g k ((i : Int), (j : Int), ys) = fin ((i' : Int), ys')
  | d, i, j, ys, 0, _, h2, _, _, _, _ => by omega
  | 0, i, j, ys, k + 1, h1, _, h3, h4, _, h6 => by
    have hj : j = xs.length := by omega
    subst hj
    refine ⟨i, ys, h3, h4, by rw [h6, List.take_length], ?_⟩
    rw [iter_succ]; exact hn i ys _ h4
  | d + 1, i, j, ys, k + 1, h1, h2, h3, h4, h5, h6 => by
    have hj : j < xs.length := by omega
    have hg : ys[j]? = some xs[j] := by
      have : (ys.drop j)[0]? = (xs.drop j)[0]? := by rw [h5]
      rw [List.getElem?_drop, List.getElem?_drop, Nat.add_zero] at this
      rw [this]; exact getD_get hj
    rw [iter_succ, h i j ys hj _ h3 h4 hg]
    have hdrop : ∀ zs : List α, (∀ m, j < m → zs[m]? = ys[m]?) → zs.drop (j + 1) = xs.drop (j + 1) := fun zs hz => by
      apply List.ext_getElem?
      intro m
      rw [List.getElem?_drop, List.getElem?_drop, hz _ (by omega)]
      have : (ys.drop j)[m + 1]? = (xs.drop j)[m + 1]? := by rw [h5]
      rw [List.getElem?_drop, List.getElem?_drop] at this
      rw [show j + 1 + m = j + (m + 1) from by omega]; exact this
    cases hp : p xs[j]
    · simp only [cond_false]
      refine delete_loop xs p h hn d (i + 1) (j + 1) (ys.set i xs[j]) k (by omega) (by omega) (by omega) (by simp [h4]) (hdrop _ fun m hm => List.getElem?_set_ne (by omega)) ?_
      rw [take_step hj, List.filter_append, ← h6]
      have hi : i < ys.length := by omega
      rw [take_step (show i < (ys.set i xs[j]).length by simp; omega), List.take_set_of_le (Nat.le_refl _)]
      simp [hp]
    · simp only [cond_true]
      refine delete_loop xs p h hn d i (j + 1) ys k (by omega) (by omega) (by omega) h4 (hdrop _ fun m hm => rfl) ?_
      rw [take_step hj, List.filter_append, ← h6]
      simp [hp]
theorem filter_none {α : Type} {p : α → Bool} {xs : List α} (h : xs.findIdx? p = none) : xs.filter (fun x => !p x) = xs := by
  rw [List.findIdx?_eq_none_iff] at h
  exact List.filter_eq_self.2 fun x hx => by rw [h x hx]; rfl
theorem filter_first {α : Type} {p : α → Bool} {xs : List α} {i : Nat} (h : xs.findIdx? p = some i) : i < xs.length ∧ xs.take i = (xs.take (i + 1)).filter (fun x => !p x) := by
  obtain ⟨hi, hp, hlt⟩ := List.findIdx?_eq_some_iff_getElem.1 h
  refine ⟨hi, ?_⟩
  rw [take_step hi, List.filter_append]
  have h1 : (xs.take i).filter (fun x => !p x) = xs.take i := List.filter_eq_self.2 fun x hx => by
    obtain ⟨j, hj, rfl⟩ := List.mem_iff_getElem.1 hx
    have hj' : j < i := by simp at hj; omega
    rw [List.getElem_take]
    have := hlt j hj'
    simpa using this
  rw [h1]
  simp [hp]
/-- What is cut off behind the deleting, and what is left. -/
theorem delete_cut {α : Type} {ys : List α} {i n : Nat} (z : α) (hi : i ≤ n) (hy : ys.length = n) : ((ys.take i ++ List.replicate (n - i) z ++ ys.drop (i + (n - i))).take (i - 0)) = ys.take i ∧ (ys.take i ++ List.replicate (n - i) z ++ ys.drop (i + (n - i))).length = n := by
  refine ⟨?_, by simp; omega⟩
  rw [Nat.sub_zero, List.append_assoc, List.take_append_of_le_length (by simp; omega), List.take_take, Nat.min_self]
theorem IndexFunc_m5_eq {k : Nat} {zs : List TaskK} {id : Int} (hk : zs.length < k) (hN : zs.length ≤ maxN) : slices_IndexFunc_lI_Task_I_Task_m5 k zs id = some ((zs.findIdx? fun z => z.id == id).elim (-1) fun i => (i : Int)) := by
  have hM := maxN_eq
  unfold slices_IndexFunc_lI_Task_I_Task_m5
  rw [find_loop zs (fun t => t.id == id) (yes := some (-1)) (no := some) (fun i hi next => by
    simp only [slices_IndexFunc_lI_Task_I_Task_m5_g0, pI_Sched_drop_c1_m3, decide_true, cond_true, bind_some']
    rw [cond_dec, if_pos (by omega), idx_nat, getD_get hi, bind_some', wrapNat1 hi (by omega)]) (fun next => by
    simp only [slices_IndexFunc_lI_Task_I_Task_m5_g0, decide_true, cond_true]; rw [cond_dec, if_neg (by omega)]) hk]
  exact findIdx_some _
theorem DeleteFunc_m4_eq {k : Nat} {zs : List TaskK} {id : Int} (hk : zs.length < k) (hN : zs.length ≤ maxN) : slices_DeleteFunc_lI_Task_I_Task_m4 k zs id = some (zs.filter fun z => !(z.id == id)) := by
  have hM := maxN_eq
  unfold slices_DeleteFunc_lI_Task_I_Task_m4
  rw [IndexFunc_m5_eq hk hN, bind_some']
  cases hf : zs.findIdx? fun z => z.id == id with
  | none =>
    rw [Option.elim_none, filter_none hf]
    simp
  | some i =>
    obtain ⟨hi, hfi⟩ := filter_first hf
    rw [Option.elim_some, cond_beq, if_neg (by omega), wrapNat1 hi (by omega)]
    simp only [decide_true, cond_true]
    obtain ⟨i', ys', h1, h2, h3, h4⟩ := delete_loop zs (fun z => z.id == id) (R := List TaskK) (g := fun u5 n5 => slices_DeleteFunc_lI_Task_I_Task_m4_g0 k id u5 n5 (fun y4 => cond (decide (0 ≤ y4.1 ∧ y4.1 ≤ (y4.2.length : Int))) (cond (decide (0 ≤ y4.1 ∧ y4.1 ≤ (((y4.2).take y4.1.toNat ++ List.replicate (y4.2.length - y4.1.toNat) (⟨(0 : Int), (0 : Nat), (0 : Int), (0 : Int), (0 : Int)⟩ : TaskK) ++ (y4.2).drop (y4.1.toNat + (y4.2.length - y4.1.toNat))).length : Int))) (some (((y4.2).take y4.1.toNat ++ List.replicate (y4.2.length - y4.1.toNat) (⟨(0 : Int), (0 : Nat), (0 : Int), (0 : Int), (0 : Int)⟩ : TaskK) ++ (y4.2).drop (y4.1.toNat + (y4.2.length - y4.1.toNat))).take (y4.1.toNat - 0))) none) none))
      (fin := fun y4 => cond (decide (0 ≤ y4.1 ∧ y4.1 ≤ (y4.2.length : Int))) (cond (decide (0 ≤ y4.1 ∧ y4.1 ≤ (((y4.2).take y4.1.toNat ++ List.replicate (y4.2.length - y4.1.toNat) (⟨(0 : Int), (0 : Nat), (0 : Int), (0 : Int), (0 : Int)⟩ : TaskK) ++ (y4.2).drop (y4.1.toNat + (y4.2.length - y4.1.toNat))).length : Int))) (some (((y4.2).take y4.1.toNat ++ List.replicate (y4.2.length - y4.1.toNat) (⟨(0 : Int), (0 : Nat), (0 : Int), (0 : Int), (0 : Int)⟩ : TaskK) ++ (y4.2).drop (y4.1.toNat + (y4.2.length - y4.1.toNat))).take (y4.1.toNat - 0))) none) none)
      (fun i j ys hj next hij hl hg => by
        simp only [slices_DeleteFunc_lI_Task_I_Task_m4_g0, pI_Sched_drop_c1_m3, decide_true, cond_true, bind_some', hl]
        rw [cond_dec, if_pos (by omega), cond_dec, if_pos (by omega), Int.toNat_natCast, hg, bind_some', cond_not, cond_dec, if_pos (by omega), wrapNat1 hj (by omega), wrapNat1 (show i < zs.length by omega) (by omega), Int.toNat_natCast])
      (fun i ys next hl => by simp only [slices_DeleteFunc_lI_Task_I_Task_m4_g0, hl]; rw [cond_dec, if_neg (by omega)])
      (zs.length - (i + 1)) i (i + 1) zs k (by omega) (by omega) (by omega) rfl rfl hfi
    refine h4.trans ?_
    obtain ⟨c1, c2⟩ := delete_cut (⟨0, 0, 0, 0, 0⟩ : TaskK) h1 h2
    simp only [Int.toNat_natCast, h2]
    rw [c2, c1, cond_dec, if_pos (by omega), cond_dec, if_pos (by omega), h3]
theorem l07Off_m3_eq {k : Nat} {zs : List TaskK} {a b c d e f g id : Int} (hk : zs.length < k) (hN : zs.length ≤ maxN) : S_l07Off_m3 k a b c zs d e f g id = some (zs.filter fun z => !(z.id == id)) := by
  have hM := maxN_eq
  unfold S_l07Off_m3
  simp only [decide_true, cond_true]
  refine (filter_loop zs (fun z => !(z.id == id)) (fun z => z) (g := fun u4 n4 => S_l07Off_m3_g0 k (id, a, b, c, d, e, f, g, zs) u4 n4 (fun y3 => some y3)) (fin := some) (fun i ys hi next hl => by
    simp only [S_l07Off_m3_g0]
    rw [cond_dec, if_pos (by omega), cond_dec, if_pos (by omega), Int.toNat_natCast, getD_get hi, bind_some', cond_dec, if_pos (by omega), bind_some', ble_le (by simp; omega), wrapNat1 hi (by omega)]
    rfl) (fun ys next => by
    simp only [S_l07Off_m3_g0]; rw [cond_dec, if_neg (by omega)]) hk).trans ?_
  simp
def offT (ts : List Task) (id : Int) : List Task := ts.filter fun t => !(t.id == id)
def cancelS (s : Sched) (id : Int) : Sched × Bool :=
  cond (schedB s && decide (0 ≤ findT s.tasks id)) (⟨s.now, s.slack, s.age, offT s.tasks id, cond (s.run == id) 0 s.run, cond (s.run == id) 0 s.left, s.turns, s.next⟩, true) (s, false)
theorem drop_m3_eq {k : Nat} {zs : List TaskK} {a b c d e f g id : Int} (hk : zs.length < k) (hN : zs.length ≤ maxN) : pI_Sched_drop_m3 k a b c zs d e f g id = some (zs.filter fun z => !(z.id == id), cond (d == id) 0 d, cond (d == id) 0 e) := by
  unfold pI_Sched_drop_m3
  rw [DeleteFunc_m4_eq hk hN, bind_some']
  simp only [decide_true, cond_true]
  cases d == id <;> rfl
theorem S_CancelTask_eq {k : Nat} {s : Sched} {id : Int} (hk : s.tot < k) (hN : s.tot ≤ maxN) : S_CancelTask k s id = some (cancelS s id) := by
  have hlen := totL_len Task.tot s.tasks
  have hst : s.tot = totL Task.tot s.tasks + 0 := rfl
  unfold S_CancelTask cancelS
  rw [S_l07Copy_eq hk hN, bind_some', S_SchedOk_eq hk hN, bind_some']
  cases schedB s
  · rfl
  simp only [Bool.not_true, cond_false, Bool.true_and]
  rw [S_l07At_eq (by omega) (by omega), bind_some']
  by_cases c : findT s.tasks id < 0
  · rw [decide_eq_true c, decide_eq_false (by omega)]; rfl
  rw [decide_eq_false c, decide_eq_true (by omega)]
  simp only [cond_false, cond_true]
  rw [numTask_eq, bind_some', l07Off_m3_eq (by rw [numTs_length]; omega) (by rw [numTs_length]; omega), bind_some', nodTask_part, cond_true, unTask_part s.tasks (fun t => !(t.id == id)) (fun z => !(z.id == id)) (fun n t => rfl), bind_some']
  unfold offT
  cases s.run == id <;> rfl
theorem totL_filter {α : Type} (t : α → Nat) (p : α → Bool) : ∀ xs : List α, totL t (xs.filter p) ≤ totL t xs
  | [] => Nat.le_refl _
  | x :: l => by
    have ih := totL_filter t p l
    rw [List.filter_cons, totL_cons]
    cases p x
    · simp; omega
    · simp only [if_true, totL_cons]; omega
theorem cancelS_tot (s : Sched) (id : Int) : (cancelS s id).1.tot ≤ s.tot := by
  unfold cancelS
  cases (schedB s && decide (0 ≤ findT s.tasks id))
  · exact Nat.le_refl _
  · have := totL_filter Task.tot (fun t => !(t.id == id)) s.tasks
    simp only [cond_true, Sched.tot, offT]; omega
end Go.Proofs.Ev
