/- Plain laws: FnScheds. -/
import Derived.Test.YthaamopjdieecaaEvP34
import Derived.Test.YthaamopjdieecaaEvD13
set_option linter.unusedVariables false
set_option linter.unusedSimpArgs false
set_option linter.unusedVariables false
set_option linter.unusedSimpArgs false
set_option maxRecDepth 100000
namespace Go.Proofs.Ev
theorem L_same_eq {k : Nat} {xs : List Int} (hk : xs.length < k) (hN : xs.length ≤ maxN) : L_same k xs xs = some true := by
  have hM := maxN_eq
  unfold L_same
  rw [cond_bne, if_pos rfl]
  refine (same_loop xs xs rfl (yes := some true) (no := some false) (fun i hi _ next => ?_) (fun next => ?_) hk).trans (by simp)
  · simp only [L_same_g0]
    rw [cond_dec, if_pos (by omega), idx_nat, getD_get hi, bind_some', bind_some', cond_bne, if_pos rfl, wrapNat1 hi (by omega)]; simp
  · simp only [L_same_g0]
    rw [cond_dec, if_neg (by omega)]
theorem ops_tot {l : List (List Int)} (h : ∀ op ∈ l, OpOk op) : totL List.length l ≤ 9 * l.length := by
  induction l with
  | nil => simp [totL]
  | cons x l ih =>
    have h1 := ih fun y hy => h y (by simp [hy])
    have h2 := h x (by simp)
    unfold OpOk at h2
    rw [totL_cons, List.length_cons]; omega
theorem drawPlay_gives {b : List Int} (hb : b.length ≤ 1048576) {k : Nat} (hk : b.length + 10000 < k) : Gives (S_DrawPlaySched k b) fun r => totL List.length r.2.2 ≤ 3600 := by
  have fin : ∀ (l : List (List Int)), (l.length ≤ 400 ∧ ∀ op ∈ l, OpOk op) → totL List.length l ≤ 3600 := fun l h => by have := ops_tot h.2; omega
  unfold S_DrawPlaySched
  refine (new_gives hb (by omega)).bind fun r1 hc1 => (size_eq hb k (by omega) (by omega)).bind fun r2 ⟨h20, h21⟩ => (below_gives hb hc1).bind fun r3 ⟨⟨_, h3, _⟩, hc3⟩ => ?_
  have h3 := h3 (by omega)
  refine (once_gives hb hc3).bind fun r4 hc4 => Gives.cond (fun _ => ?_) fun _ => ?_
  · refine (below_gives hb hc4).bind fun r5 ⟨⟨a0, a1, _⟩, hc5⟩ => (pick_gives hb hc5 (by simp)).bind fun r6 ⟨_, hc6⟩ => (pick_gives hb hc6 (by simp)).bind fun r7 ⟨_, hc7⟩ => ?_
    have a1 := a1 (by omega)
    exact (ops_gives hb (by omega) hc7 (by rw [wrapI (by omega) (by omega)]; omega)).bind fun r8 ⟨h8, _⟩ => Gives.some (fin _ h8)
  · exact (pick_gives hb hc4 (by simp)).bind fun r6 ⟨_, hc6⟩ => (pick_gives hb hc6 (by simp)).bind fun r7 ⟨_, hc7⟩ => (ops_gives hb (by omega) hc7 (by omega)).bind fun r8 ⟨h8, _⟩ => Gives.some (fin _ h8)
theorem work_tick {k : Nat} {s : Sched} (hk : s.tot < k) (hN : s.tot ≤ maxN) (h : SOk s) : I_WorkLeft k s = some (workS s) := by
  rw [I_WorkLeft_eq hk hN, sched_of h]; rfl
theorem sched_tail {k : Nat} {s : Sched} (hk : s.tot + 2 < k) (hN : s.tot < maxN) (h : SOk s) : ((I_TickSched k s true).bind fun r11 => cond (r11.2.1 == (0 : Int)) ((I_WorkLeft k r11.1).bind fun r12 => some (r12 == workS s)) (some false)) = some true := by
  have ht := tickS_tot s true
  rw [I_TickSched_eq hk hN, bind_some', work_tick (by omega) (by omega) (tick_ok h true)]
  by_cases hn : s.now = 1000000
  · rw [tick_end hn]; simp
  · rw [tick_stalled h hn]
    have : workS ⟨s.now + 1, s.slack, s.age, s.tasks, s.run, s.left, s.turns, s.next⟩ = workS s := rfl
    rw [this]; simp
theorem L_FnScheds_eq (code : List Int) (hb : okS okB code) : ∃ k, L_FnScheds k code = some true := by
  obtain ⟨k, hk0⟩ : ∃ k, code.length + 10000 < k := ⟨_, Nat.lt_succ_self _⟩
  refine ⟨k, ?_⟩
  have hM := maxN_eq
  unfold L_FnScheds L_big
  rw [bind_some']
  by_cases c : (code.length : Int) > 1048576
  · rw [decide_eq_true c]; rfl
  rw [decide_eq_false c, cond_false]
  obtain ⟨⟨a, b, ops⟩, e, hl⟩ := drawPlay_gives (b := code) (by omega) (k := k) (by omega)
  simp only at hl
  rw [e, bind_some']
  simp only
  have ht := playS_tot a b ops
  rw [S_PlaySched_eq (by omega) (by omega), bind_some', I_PlaySched_eq (by omega) (by omega), bind_some', L_same_eq (by omega) (by omega), bind_some']
  simp only [Bool.not_true, cond_false]
  rw [cond_beq]
  by_cases h0 : ((playS a b ops).2.length : Int) = 0
  · rw [if_pos h0]
  rw [if_neg h0]
  have hok : SOk (playS a b ops).1 := by
    unfold playS at h0 ⊢
    cases hc : (schedB (newS a b) && !decide ((ops.length : Int) > 300))
    · rw [hc] at h0; exact (h0 rfl).elim
    · exact play_ok (sok_of (Bool.and_eq_true_iff.1 hc).1) ops []
  generalize (playS a b ops).1 = s at ht hok
  have htick := tickS_tot s false
  rw [I_SchedOk_eq (by omega) (by omega), bind_some', sched_of hok, S_SchedOk_eq (by omega) (by omega), bind_some', sched_of hok, work_tick (by omega) (by omega) hok, bind_some', I_TickSched_eq (by omega) (by omega), bind_some', work_tick (by omega) (by omega) (tick_ok hok false), bind_some']
  simp only [Bool.not_true, cond_false]
  have tail := sched_tail (k := k) (s := s) (by omega) (by omega) hok
  have hw := work_bd (sched_of hok)
  rw [cond_dec]
  by_cases hn : s.now < 1000000
  · rw [if_pos hn]
    rcases tick_turn hok (by omega) with ⟨t1, _, _, t2⟩ | ⟨t, L, tr, T, _⟩
    · have w0 := work_nil t1
      have w1 : workS (tickS s false).1 = 0 := by rw [t2]; exact work_nil t1
      have e1 : (tickS s false).2.1 = 0 := by rw [t2]
      have e2 : (tickS s false).2.2 = false := by rw [t2]
      rw [w1, e1, e2]
      rw [w0] at tail ⊢
      exact tail
    · have W := worked hok (by omega) T
      have hs := W.sum (fun _ => true)
      have hp := work_pos hok (List.ne_nil_of_mem T.mem)
      rw [← workS_dsum, ← workS_dsum, cond_true] at hs
      rw [cond_dec, if_pos (by omega), hs, wrapI (by omega) (by omega), cond_bne, if_pos rfl, cond_beq, if_neg (by omega)]
      exact tail
  · rw [if_neg hn]; exact tail
end Go.Proofs.Ev
