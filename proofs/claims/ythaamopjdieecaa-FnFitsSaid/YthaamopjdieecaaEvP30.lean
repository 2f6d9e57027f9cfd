/- Plain laws: drawn schedules, all of them. -/
import Derived.Test.YthaamopjdieecaaEvP29
set_option linter.unusedVariables false
set_option linter.unusedSimpArgs false
set_option linter.unusedVariables false
set_option linter.unusedSimpArgs false
set_option maxRecDepth 100000
namespace Go.Proofs.Ev
/-- A drawn schedule, with the cursor. -/
def DrewS (B : Nat) (b : List Int) (r : Sched × Int × Int) : Prop := r.1.tot ≤ B ∧ Cur b r.2.1
theorem drawn_end {b : List Int} (hb : b.length ≤ 1048576) {k B : Nat} (hk : B + 100 < k) (hB : B ≤ 100000) (z : Sched) (c h : Int) (hc : Cur b c) (hz : z.tot ≤ B) : Gives ((S_l01Once_m k b c h (30 : Int)).bind fun r98 => cond (r98.1) (iter (fun u101 n101 => S_l07DrawSched_m_g1 k ((0 : Int), (0 : Int), (0 : Int), (0 : Int), (0 : Int), (0 : Int), (0 : Int), b, r98.2.1, r98.2.2) u101 n101 (fun y100 => cond (decide (b = b)) (some ((⟨y100.1, y100.2.1, y100.2.2.1, y100.2.2.2.2.2.2.2, y100.2.2.2.1, y100.2.2.2.2.1, y100.2.2.2.2.2.1, y100.2.2.2.2.2.2.1⟩ : Sched), r98.2.1, r98.2.2)) none)) k ((0 : Int), z.now, z.slack, z.age, z.run, z.left, z.turns, z.next, z.tasks)) (cond (decide (b = b)) (some (z, r98.2.1, r98.2.2)) none)) (DrewS (B + 26) b) := by
  have hM := maxN_eq
  refine (once_gives hb hc).bind fun r98 hc98 => Gives.cond (fun _ => ?_) fun _ => Gives.must rfl (Gives.some ⟨by simp only; omega, hc98⟩)
  refine Gives.iter (Inv := fun v : Int × Int × Int × Int × Int × Int × Int × Int × List Task => 0 ≤ v.1 ∧ v.1 ≤ 13 ∧ ((totL Task.tot v.2.2.2.2.2.2.2.2 : Nat) : Int) ≤ (B : Int) + 2 * v.1) (m := fun v => (13 - v.1).toNat) (fun v next hv hn => ?_) k _ ?_ ?_
  · obtain ⟨v1, v2, v3⟩ := hv
    unfold S_l07DrawSched_m_g1
    refine Gives.cond (fun h1 => ?_) fun h1 => Gives.must rfl (Gives.some ⟨?_, hc98⟩)
    · have h1 := of_decide_eq_true h1
      rw [S_Admit_eq (by simp only [Sched.tot, List.length_cons, List.length_nil]; omega) (by simp only [Sched.tot, List.length_cons, List.length_nil]; omega), bind_some']
      have ht := admit_tot (⟨v.2.1, v.2.2.1, v.2.2.2.1, v.2.2.2.2.2.2.2.2, v.2.2.2.2.1, v.2.2.2.2.2.1, v.2.2.2.2.2.2.1, v.2.2.2.2.2.2.2.1⟩ : Sched) [1] 900
      simp only [Sched.tot, List.length_cons, List.length_nil] at ht
      refine hn _ ?_ ?_
      · simp only
        rw [wrapI (n := v.1 + 1) (by omega) (by omega)]
        omega
      · simp only
        rw [wrapI (n := v.1 + 1) (by omega) (by omega)]
        omega
    · simp only [Sched.tot]; omega
  · simp only [Sched.tot] at hz ⊢; omega
  · simp only; omega
theorem drawn_mid {b : List Int} (hb : b.length ≤ 1048576) {k B : Nat} (hk : B + 100 < k) (hB : B ≤ 100000) (z : Sched) (c h : Int) (hc : Cur b c) (hz : z.tot ≤ B) : Gives ((S_l01Once_m k b c h (12 : Int)).bind fun r56 => cond (r56.1) ((S_l01Below_m k b r56.2.1 r56.2.2 (6 : Int)).bind fun r57 => cond (r57.1 == (0 : Int)) ((S_l01PickInt_m k b r57.2.1 r57.2.2 [(-1 : Int), (1000000 : Int), (1000001 : Int)]).bind fun r58 => (S_l01Once_m k b r58.2.1 r58.2.2 (30 : Int)).bind fun r59 => cond (r59.1) (iter (fun u62 n62 => S_l07DrawSched_m_g1 k ((0 : Int), (0 : Int), (0 : Int), (0 : Int), (0 : Int), (0 : Int), (0 : Int), b, r59.2.1, r59.2.2) u62 n62 (fun y61 => cond (decide (b = b)) (some ((⟨y61.1, y61.2.1, y61.2.2.1, y61.2.2.2.2.2.2.2, y61.2.2.2.1, y61.2.2.2.2.1, y61.2.2.2.2.2.1, y61.2.2.2.2.2.2.1⟩ : Sched), r59.2.1, r59.2.2)) none)) k ((0 : Int), r58.1, z.slack, z.age, z.run, z.left, z.turns, z.next, z.tasks)) (cond (decide (b = b)) (some ((⟨r58.1, z.slack, z.age, z.tasks, z.run, z.left, z.turns, z.next⟩ : Sched), r59.2.1, r59.2.2)) none)) (cond (r57.1 == (1 : Int)) ((S_l01PickInt_m k b r57.2.1 r57.2.2 [(0 : Int), (1 : Int), (99 : Int), (-1 : Int)]).bind fun r63 => (S_l01Once_m k b r63.2.1 r63.2.2 (30 : Int)).bind fun r64 => cond (r64.1) (iter (fun u67 n67 => S_l07DrawSched_m_g1 k ((0 : Int), (0 : Int), (0 : Int), (0 : Int), (0 : Int), (0 : Int), (0 : Int), b, r64.2.1, r64.2.2) u67 n67 (fun y66 => cond (decide (b = b)) (some ((⟨y66.1, y66.2.1, y66.2.2.1, y66.2.2.2.2.2.2.2, y66.2.2.2.1, y66.2.2.2.2.1, y66.2.2.2.2.2.1, y66.2.2.2.2.2.2.1⟩ : Sched), r64.2.1, r64.2.2)) none)) k ((0 : Int), z.now, z.slack, z.age, z.run, r63.1, z.turns, z.next, z.tasks)) (cond (decide (b = b)) (some ((⟨z.now, z.slack, z.age, z.tasks, z.run, r63.1, z.turns, z.next⟩ : Sched), r64.2.1, r64.2.2)) none)) (cond (r57.1 == (2 : Int)) ((S_l01PickInt_m k b r57.2.1 r57.2.2 [(0 : Int), (1 : Int), (99 : Int)]).bind fun r68 => (S_l01Once_m k b r68.2.1 r68.2.2 (30 : Int)).bind fun r69 => cond (r69.1) (iter (fun u72 n72 => S_l07DrawSched_m_g1 k ((0 : Int), (0 : Int), (0 : Int), (0 : Int), (0 : Int), (0 : Int), (0 : Int), b, r69.2.1, r69.2.2) u72 n72 (fun y71 => cond (decide (b = b)) (some ((⟨y71.1, y71.2.1, y71.2.2.1, y71.2.2.2.2.2.2.2, y71.2.2.2.1, y71.2.2.2.2.1, y71.2.2.2.2.2.1, y71.2.2.2.2.2.2.1⟩ : Sched), r69.2.1, r69.2.2)) none)) k ((0 : Int), z.now, z.slack, z.age, r68.1, z.left, z.turns, z.next, z.tasks)) (cond (decide (b = b)) (some ((⟨z.now, z.slack, z.age, z.tasks, r68.1, z.left, z.turns, z.next⟩ : Sched), r69.2.1, r69.2.2)) none)) (cond (r57.1 == (3 : Int)) ((S_l01PickInt_m k b r57.2.1 r57.2.2 [(0 : Int), (1 : Int), (1000000 : Int), (1000001 : Int)]).bind fun r73 => (S_l01Once_m k b r73.2.1 r73.2.2 (30 : Int)).bind fun r74 => cond (r74.1) (iter (fun u77 n77 => S_l07DrawSched_m_g1 k ((0 : Int), (0 : Int), (0 : Int), (0 : Int), (0 : Int), (0 : Int), (0 : Int), b, r74.2.1, r74.2.2) u77 n77 (fun y76 => cond (decide (b = b)) (some ((⟨y76.1, y76.2.1, y76.2.2.1, y76.2.2.2.2.2.2.2, y76.2.2.2.1, y76.2.2.2.2.1, y76.2.2.2.2.2.1, y76.2.2.2.2.2.2.1⟩ : Sched), r74.2.1, r74.2.2)) none)) k ((0 : Int), z.now, z.slack, z.age, z.run, z.left, z.turns, r73.1, z.tasks)) (cond (decide (b = b)) (some ((⟨z.now, z.slack, z.age, z.tasks, z.run, z.left, z.turns, r73.1⟩ : Sched), r74.2.1, r74.2.2)) none)) (cond (r57.1 == (4 : Int)) (cond (decide ((z.tasks.length : Int) > (0 : Int))) (cond (decide (0 ≤ (0 : Int) ∧ (0 : Int) < (z.tasks.length : Int))) ((z.tasks[(0 : Int).toNat]?).bind fun e78 => (S_l01PickInt_m k b r57.2.1 r57.2.2 [(-1 : Int), (e78.costs.length : Int)]).bind fun r79 => cond (decide (0 ≤ (0 : Int) ∧ (0 : Int) < (z.tasks.length : Int))) ((z.tasks[(0 : Int).toNat]?).bind fun e80 => (S_l01Once_m k b r79.2.1 r79.2.2 (30 : Int)).bind fun r81 => cond (r81.1) (iter (fun u84 n84 => S_l07DrawSched_m_g1 k ((0 : Int), (0 : Int), (0 : Int), (0 : Int), (0 : Int), (0 : Int), (0 : Int), b, r81.2.1, r81.2.2) u84 n84 (fun y83 => cond (decide (b = b)) (some ((⟨y83.1, y83.2.1, y83.2.2.1, y83.2.2.2.2.2.2.2, y83.2.2.2.1, y83.2.2.2.2.1, y83.2.2.2.2.2.1, y83.2.2.2.2.2.2.1⟩ : Sched), r81.2.1, r81.2.2)) none)) k ((0 : Int), z.now, z.slack, z.age, z.run, z.left, z.turns, z.next, z.tasks.set ((0 : Int).toNat) (⟨e80.id, e80.costs, r79.1, e80.due, e80.born⟩ : Task))) (cond (decide (b = b)) (some ((⟨z.now, z.slack, z.age, (z.tasks.set ((0 : Int).toNat) (⟨e80.id, e80.costs, r79.1, e80.due, e80.born⟩ : Task)), z.run, z.left, z.turns, z.next⟩ : Sched), r81.2.1, r81.2.2)) none)) none) none) ((S_l01Once_m k b r57.2.1 r57.2.2 (30 : Int)).bind fun r85 => cond (r85.1) (iter (fun u88 n88 => S_l07DrawSched_m_g1 k ((0 : Int), (0 : Int), (0 : Int), (0 : Int), (0 : Int), (0 : Int), (0 : Int), b, r85.2.1, r85.2.2) u88 n88 (fun y87 => cond (decide (b = b)) (some ((⟨y87.1, y87.2.1, y87.2.2.1, y87.2.2.2.2.2.2.2, y87.2.2.2.1, y87.2.2.2.2.1, y87.2.2.2.2.2.1, y87.2.2.2.2.2.2.1⟩ : Sched), r85.2.1, r85.2.2)) none)) k ((0 : Int), z.now, z.slack, z.age, z.run, z.left, z.turns, z.next, z.tasks)) (cond (decide (b = b)) (some (z, r85.2.1, r85.2.2)) none))) (cond (r57.1 == (5 : Int)) ((S_l01PickInt_m k b r57.2.1 r57.2.2 [(-1 : Int), (20 : Int), (21 : Int)]).bind fun r89 => (S_l01Once_m k b r89.2.1 r89.2.2 (30 : Int)).bind fun r90 => cond (r90.1) (iter (fun u93 n93 => S_l07DrawSched_m_g1 k ((0 : Int), (0 : Int), (0 : Int), (0 : Int), (0 : Int), (0 : Int), (0 : Int), b, r90.2.1, r90.2.2) u93 n93 (fun y92 => cond (decide (b = b)) (some ((⟨y92.1, y92.2.1, y92.2.2.1, y92.2.2.2.2.2.2.2, y92.2.2.2.1, y92.2.2.2.2.1, y92.2.2.2.2.2.1, y92.2.2.2.2.2.2.1⟩ : Sched), r90.2.1, r90.2.2)) none)) k ((0 : Int), z.now, z.slack, r89.1, z.run, z.left, z.turns, z.next, z.tasks)) (cond (decide (b = b)) (some ((⟨z.now, z.slack, r89.1, z.tasks, z.run, z.left, z.turns, z.next⟩ : Sched), r90.2.1, r90.2.2)) none)) ((S_l01Once_m k b r57.2.1 r57.2.2 (30 : Int)).bind fun r94 => cond (r94.1) (iter (fun u97 n97 => S_l07DrawSched_m_g1 k ((0 : Int), (0 : Int), (0 : Int), (0 : Int), (0 : Int), (0 : Int), (0 : Int), b, r94.2.1, r94.2.2) u97 n97 (fun y96 => cond (decide (b = b)) (some ((⟨y96.1, y96.2.1, y96.2.2.1, y96.2.2.2.2.2.2.2, y96.2.2.2.1, y96.2.2.2.2.1, y96.2.2.2.2.2.1, y96.2.2.2.2.2.2.1⟩ : Sched), r94.2.1, r94.2.2)) none)) k ((0 : Int), z.now, z.slack, z.age, z.run, z.left, z.turns, z.next, z.tasks)) (cond (decide (b = b)) (some (z, r94.2.1, r94.2.2)) none)))))))) ((S_l01Once_m k b r56.2.1 r56.2.2 (30 : Int)).bind fun r98 => cond (r98.1) (iter (fun u101 n101 => S_l07DrawSched_m_g1 k ((0 : Int), (0 : Int), (0 : Int), (0 : Int), (0 : Int), (0 : Int), (0 : Int), b, r98.2.1, r98.2.2) u101 n101 (fun y100 => cond (decide (b = b)) (some ((⟨y100.1, y100.2.1, y100.2.2.1, y100.2.2.2.2.2.2.2, y100.2.2.2.1, y100.2.2.2.2.1, y100.2.2.2.2.2.1, y100.2.2.2.2.2.2.1⟩ : Sched), r98.2.1, r98.2.2)) none)) k ((0 : Int), z.now, z.slack, z.age, z.run, z.left, z.turns, z.next, z.tasks)) (cond (decide (b = b)) (some (z, r98.2.1, r98.2.2)) none))) (DrewS (B + 26) b) := by
  refine (once_gives hb hc).bind fun r56 hc56 => Gives.cond (fun _ => ?_) fun _ => drawn_end hb hk hB z _ _ hc56 hz
  refine (below_gives hb hc56).bind fun r57 ⟨_, hc57⟩ => ?_
  refine Gives.cond (fun _ => ?_) fun _ => Gives.cond (fun _ => ?_) fun _ => Gives.cond (fun _ => ?_) fun _ => Gives.cond (fun _ => ?_) fun _ => Gives.cond (fun _ => ?_) fun _ => Gives.cond (fun _ => ?_) fun _ => ?_
  · exact (pick_gives hb hc57 (by simp)).bind fun r ⟨_, hr⟩ => drawn_end hb hk hB ⟨r.1, z.slack, z.age, z.tasks, z.run, z.left, z.turns, z.next⟩ _ _ hr hz
  · exact (pick_gives hb hc57 (by simp)).bind fun r ⟨_, hr⟩ => drawn_end hb hk hB ⟨z.now, z.slack, z.age, z.tasks, z.run, r.1, z.turns, z.next⟩ _ _ hr hz
  · exact (pick_gives hb hc57 (by simp)).bind fun r ⟨_, hr⟩ => drawn_end hb hk hB ⟨z.now, z.slack, z.age, z.tasks, r.1, z.left, z.turns, z.next⟩ _ _ hr hz
  · exact (pick_gives hb hc57 (by simp)).bind fun r ⟨_, hr⟩ => drawn_end hb hk hB ⟨z.now, z.slack, z.age, z.tasks, z.run, z.left, z.turns, r.1⟩ _ _ hr hz
  · refine Gives.cond (fun h1 => ?_) fun _ => drawn_end hb hk hB z _ _ hc57 hz
    have h1 := of_decide_eq_true h1
    have h0 : 0 < z.tasks.length := by omega
    refine Gives.must (by omega) ?_
    rw [show (0 : Int).toNat = 0 from rfl, List.getElem?_eq_getElem h0, bind_some']
    refine (pick_gives hb hc57 (by simp)).bind fun r ⟨_, hr⟩ => Gives.must (by omega) ?_
    rw [bind_some']
    refine drawn_end hb hk hB ⟨z.now, z.slack, z.age, z.tasks.set 0 ⟨z.tasks[0].id, z.tasks[0].costs, r.1, z.tasks[0].due, z.tasks[0].born⟩, z.run, z.left, z.turns, z.next⟩ _ _ hr ?_
    have := totL_set Task.tot ⟨z.tasks[0].id, z.tasks[0].costs, r.1, z.tasks[0].due, z.tasks[0].born⟩ z.tasks 0 h0 (Nat.le_refl _)
    simp only [Sched.tot] at hz ⊢; omega
  · exact (pick_gives hb hc57 (by simp)).bind fun r ⟨_, hr⟩ => drawn_end hb hk hB ⟨z.now, z.slack, r.1, z.tasks, z.run, z.left, z.turns, z.next⟩ _ _ hr hz
  · exact drawn_end hb hk hB z _ _ hc57 hz
theorem sched_gives {b : List Int} (hb : b.length ≤ 1048576) {k : Nat} (hk : 10000 < k) {n ci ch : Int} (hc : Cur b ci) (hn : n ≤ 400) : Gives (S_l07DrawSched_m k b ci ch n) (DrewS 4026 b) := by
  have hM := maxN_eq
  unfold S_l07DrawSched_m
  refine (pick_gives hb hc (by simp)).bind fun r1 ⟨_, hc1⟩ => (pick_gives hb hc1 (by simp)).bind fun r2 ⟨_, hc2⟩ => (ops_gives hb (by omega) hc2 hn).bind fun r3 ⟨⟨l3, o3⟩, hc3⟩ => ?_
  have ht : totL List.length r3.1 ≤ 3600 := by
    have : ∀ (l : List (List Int)), (∀ op ∈ l, OpOk op) → totL List.length l ≤ 9 * l.length := fun l => by
      induction l with
      | nil => intro _; simp [totL]
      | cons x l ih =>
        intro h
        have h1 := ih fun y hy => h y (by simp [hy])
        have h2 := h x (by simp)
        unfold OpOk at h2
        rw [totL_cons, List.length_cons]; omega
    have := this r3.1 o3; omega
  have hp := (playS_tot r1.1 r2.1 r3.1).1
  rw [S_PlaySched_eq (by omega) (by omega), bind_some']
  refine (once_gives hb hc3).bind fun r5 hc5 => Gives.cond (fun _ => ?_) fun _ => drawn_mid hb (B := 4000) (by omega) (by omega) (playS r1.1 r2.1 r3.1).1 _ _ hc5 (by omega)
  refine (below_gives hb hc5).bind fun r6 ⟨⟨a0, a1, _⟩, hc6⟩ => ?_
  have a1 := a1 (by omega)
  refine Gives.iter (Inv := fun v : Int × Int × Int × Int × Int × Int × Int × Int × List Task => 0 ≤ v.1 ∧ v.1 ≤ 60 ∧ totL Task.tot v.2.2.2.2.2.2.2.2 ≤ 4000) (m := fun v => v.1.toNat) (fun v next hv hn => ?_) k _ ?_ ?_
  · obtain ⟨v1, v2, v3⟩ := hv
    unfold S_l07DrawSched_m_g0
    refine Gives.cond (fun h1 => ?_) fun h1 => drawn_mid hb (B := 4000) (by omega) (by omega) ⟨v.2.1, v.2.2.1, v.2.2.2.1, v.2.2.2.2.2.2.2.2, v.2.2.2.2.1, v.2.2.2.2.2.1, v.2.2.2.2.2.2.1, v.2.2.2.2.2.2.2.1⟩ _ _ hc6 (by simp only [Sched.tot]; omega)
    have h1 := of_decide_eq_true h1
    rw [S_TickSched_eq (by simp only [Sched.tot]; omega) (by simp only [Sched.tot]; omega), bind_some']
    have ht := tickS_tot (⟨v.2.1, v.2.2.1, v.2.2.2.1, v.2.2.2.2.2.2.2.2, v.2.2.2.2.1, v.2.2.2.2.2.1, v.2.2.2.2.2.2.1, v.2.2.2.2.2.2.2.1⟩ : Sched) true
    simp only [Sched.tot] at ht
    refine hn _ ?_ ?_
    · simp only
      rw [wrapI (n := v.1 - 1) (by omega) (by omega)]
      omega
    · simp only
      rw [wrapI (n := v.1 - 1) (by omega) (by omega)]
      omega
  · simp only [Sched.tot] at hp ⊢; omega
  · simp only; omega
theorem size_eq {b : List Int} (hb : b.length ≤ 1048576) (k : Nat) {most : Int} (h0 : 2 ≤ most) (h1 : most ≤ 1000000) : Gives (S_l01Size k b most) fun n => 2 ≤ n ∧ n ≤ most := by
  unfold S_l01Size
  have e : IntKind.i64.wrap ((b.length : Int).tdiv 16) = (b.length : Int).tdiv 16 := by
    have h2 : (b.length : Int).tdiv 16 = (b.length : Int) / 16 := Int.tdiv_eq_ediv_of_nonneg (by omega)
    rw [h2, wrapI (by omega) (by omega)]
  have h2 : (b.length : Int).tdiv 16 = (b.length : Int) / 16 := Int.tdiv_eq_ediv_of_nonneg (by omega)
  rw [e, h2, wrapI (n := 2 + (b.length : Int) / 16) (by omega) (by omega)]
  refine Gives.cond (fun h => Gives.some ⟨by omega, by omega⟩) fun h => ?_
  have h := of_decide_eq_false h
  exact Gives.some ⟨by omega, by omega⟩
theorem draw7_gives {b : List Int} (hb : b.length ≤ 1048576) {k : Nat} (hk : b.length + 10000 < k) : Gives (S_l07Draw_m k b) fun r => r.1.2.tot ≤ 4026 ∧ Cur b r.2.1 := by
  unfold S_l07Draw_m
  refine (new_gives hb (by omega)).bind fun r1 hc1 => (size_eq hb k (by omega) (by omega)).bind fun r2 ⟨h20, h21⟩ => (below_gives hb hc1).bind fun r3 ⟨⟨_, h3, _⟩, hc3⟩ => ?_
  have h3 := h3 (by omega)
  refine (sched_gives hb (by omega) hc3 (by omega)).bind fun r4 ⟨h4, hc4⟩ => Gives.must rfl (Gives.some ⟨h4, hc4⟩)
end Go.Proofs.Ev
