/- Plain laws: lists of lists; PlaySched. -/
import Derived.Test.YthaamopjdieecaaEvP19
set_option linter.unusedVariables false
set_option linter.unusedSimpArgs false
set_option linter.unusedVariables false
set_option linter.unusedSimpArgs false
namespace Go.Proofs.Ev
def opS (s : Sched) : List Int → Sched × Int
  | a :: b :: rest => cond (a == 0) ((admitS s rest b).1, cond ((admitS s rest b).2.2 != 0) (IntKind.i64.wrap (0 - (admitS s rest b).2.2)) (admitS s rest b).2.1)
      (cond (a == 1) ((cancelS s b).1, cond (cancelS s b).2 1 0)
        (cond (a == 2) ((tickS s (b == 1)).1, cond (tickS s (b == 1)).2.2 (IntKind.i64.wrap ((tickS s (b == 1)).2.1 + 1000000)) (tickS s (b == 1)).2.1) (s, -9)))
  | _ => (s, -9)
def stepS (p : Sched × List Int) (op : List Int) : Sched × List Int := ((opS p.1 op).1, p.2 ++ [(opS p.1 op).2])
def zeroS : Sched := ⟨0, 0, 0, [], 0, 0, 0, 0⟩
def newS (slack age : Int) : Sched := ⟨0, slack, age, [], 0, 0, 0, 1⟩
def playS (slack age : Int) (ops : List (List Int)) : Sched × List Int :=
  cond (schedB (newS slack age) && !decide ((ops.length : Int) > 300)) (ops.foldl stepS (newS slack age, [])) (zeroS, [])
theorem opS_tot (s : Sched) (op : List Int) : (opS s op).1.tot ≤ s.tot + op.length + 1 := by
  match op with
  | [] => show s.tot ≤ _; omega
  | [_] => show s.tot ≤ _; omega
  | a :: b :: rest =>
    have h1 := admit_tot s rest b
    have h2 := cancelS_tot s b
    have h3 := tickS_tot s (b == 1)
    unfold opS
    simp only [List.length_cons]
    cases a == 0
    · cases a == 1
      · cases a == 2
        · show s.tot ≤ _; omega
        · show (tickS s (b == 1)).1.tot ≤ _; omega
      · show (cancelS s b).1.tot ≤ _; omega
    · show (admitS s rest b).1.tot ≤ _; omega
theorem fold_tot : ∀ (ops : List (List Int)) (p : Sched × List Int), (ops.foldl stepS p).1.tot ≤ p.1.tot + totL List.length ops
  | [], p => by show p.1.tot ≤ _; omega
  | op :: ops, p => by
    have h1 := fold_tot ops (stepS p op)
    have h2 := opS_tot p.1 op
    have h3 : (stepS p op).1 = (opS p.1 op).1 := rfl
    rw [h3] at h1
    rw [List.foldl_cons, totL_cons]; omega
theorem fold_outs : ∀ (ops : List (List Int)) (p : Sched × List Int), (ops.foldl stepS p).2.length = p.2.length + ops.length
  | [], p => rfl
  | op :: ops, p => by
    rw [List.foldl_cons, fold_outs ops]
    simp [stepS]; omega
theorem S_New_eq {k : Nat} {a b : Int} (hk : 0 < k) : S_NewSched k a b = some (cond (schedB (newS a b)) (newS a b, true) (zeroS, false)) := by
  unfold S_NewSched
  rw [S_SchedOk_eq (by exact hk) (by exact Nat.zero_le _), bind_some']
  show cond (!(schedB (newS a b))) _ _ = _
  cases schedB (newS a b) <;> rfl
/-- What a loop's state holds. -/
def stP (i : Nat) (p : Sched × List Int) : Int × Int × Int × Int × Int × Int × Int × Int × List Int × List Task :=
  ((i : Int), p.1.now, p.1.slack, p.1.age, p.1.run, p.1.left, p.1.turns, p.1.next, p.2, p.1.tasks)
theorem S_op_eq {ρ : Type} {k : Nat} {ops : List (List Int)} {z : Int × Int × Int × Int × Int × Int × Int} {i : Nat} {p : Sched × List Int} {next : _ → Option ρ} {x0 : _ → Option ρ} (hi : i < ops.length) (hl : ops.length ≤ maxN) (hk : p.1.tot + ops[i].length + 1 < k) (hN : p.1.tot + ops[i].length + 1 ≤ maxN) (ho : p.2.length < maxN) :
    S_PlaySched_g0 k (ops, z) (stP i p) next x0 = next (stP (i + 1) (stepS p ops[i])) := by
  have hM := maxN_eq
  unfold stP
  simp only [S_PlaySched_g0]
  rw [cond_dec, if_pos (by omega), idx_nat, getD_get hi, bind_some', wrapNat1 hi (by omega)]
  have hb : ∀ (x : Int) {α : Type} (u v : α), cond (Nat.ble (p.2.length + [x].length) maxN) u v = u := fun x α u v => ble_le (by simp; omega)
  simp only [hb]
  show _ = next (((i + 1 : Nat) : Int), (opS p.1 ops[i]).1.now, (opS p.1 ops[i]).1.slack, (opS p.1 ops[i]).1.age, (opS p.1 ops[i]).1.run, (opS p.1 ops[i]).1.left, (opS p.1 ops[i]).1.turns, (opS p.1 ops[i]).1.next, p.2 ++ [(opS p.1 ops[i]).2], (opS p.1 ops[i]).1.tasks)
  generalize ops[i] = op at *
  match op with
  | [] => rfl
  | [_] => rfl
  | a :: b :: rest =>
    simp only [List.length_cons] at hk hN
    rw [cond_dec, if_pos (by simp only [List.length_cons]; omega), idx_zero]
    simp only [List.getElem?_cons_zero, bind_some']
    have e1 : idx (a :: b :: rest) 1 = some b := rfl
    have e2 : ((a :: b :: rest).take (a :: b :: rest).length).drop ((2 : Int).toNat) = rest := by rw [List.take_length]; rfl
    simp only [e1, e2, bind_some']
    rw [S_Admit_eq (s := p.1) (by omega) (by omega), S_CancelTask_eq (s := p.1) (by omega) (by omega), S_TickSched_eq (s := p.1) (by omega) (by omega)]
    simp only [bind_some']
    unfold opS
    simp only
    cases a == 0
    · cases a == 1
      · cases a == 2
        · rfl
        · simp only [cond_true, cond_false]
          cases (tickS p.1 (b == 1)).2.2 <;> rfl
      · simp only [cond_true, cond_false]
        cases (cancelS p.1 b).2 <;> rfl
    · simp only [cond_true]
      rw [cond_dec, if_pos (by simp only [List.length_cons]; omega)]
      cases (admitS p.1 rest b).2.2 != 0 <;> rfl
theorem S_PlaySched_eq {k : Nat} {a b : Int} {ops : List (List Int)} (hk : 2 * totL List.length ops + 2 < k) (hN : 2 * totL List.length ops + 2 ≤ maxN) : S_PlaySched k a b ops = some (playS a b ops) := by
  have hM := maxN_eq
  have hlen := totL_len List.length ops
  unfold S_PlaySched playS
  rw [S_New_eq (by omega), bind_some']
  cases schedB (newS a b)
  · rfl
  simp only [cond_true, Bool.true_and, Bool.not_true, cond_false]
  cases decide ((ops.length : Int) > 300)
  case true => rfl
  simp only [cond_false, Bool.not_false, cond_true]
  exact iter_run (g := fun u11 n11 => S_PlaySched_g0 k (ops, (0 : Int), (0 : Int), (0 : Int), (0 : Int), (0 : Int), (0 : Int), (0 : Int)) u11 n11 (fun y10 => some ((⟨y10.1, y10.2.1, y10.2.2.1, y10.2.2.2.2.2.2.2.2, y10.2.2.2.1, y10.2.2.2.2.1, y10.2.2.2.2.2.1, y10.2.2.2.2.2.2.1⟩ : Sched), y10.2.2.2.2.2.2.2.1)))
    (st := fun i => stP i ((ops.take i).foldl stepS (newS a b, []))) (n := ops.length) (r := some (ops.foldl stepS (newS a b, []))) (fun i hi next => by
      have h1 := fold_tot (ops.take i) (newS a b, [])
      have h2 := fold_outs (ops.take i) (newS a b, [])
      have h3 := totL_take List.length ops i
      have h4 := totL_mem List.length (List.getElem_mem hi)
      have h5 : (newS a b).tot = 0 := rfl
      simp only [List.length_nil, List.length_take] at h1 h2
      show S_PlaySched_g0 k (ops, _) (stP i ((ops.take i).foldl stepS (newS a b, []))) next _ = next (stP (i + 1) ((ops.take (i + 1)).foldl stepS (newS a b, [])))
      rw [S_op_eq hi (by omega) (by omega) (by omega) (by omega), take_step hi, List.foldl_append]
      rfl) (fun next => by
      rw [List.take_length]
      unfold stP
      simp only [S_PlaySched_g0]
      rw [cond_dec, if_neg (by omega)]) (k := k) (by omega)
theorem playS_tot (a b : Int) (ops : List (List Int)) : (playS a b ops).1.tot ≤ totL List.length ops ∧ (playS a b ops).2.length ≤ totL List.length ops := by
  unfold playS
  cases (schedB (newS a b) && !decide ((ops.length : Int) > 300))
  · exact ⟨Nat.zero_le _, Nat.zero_le _⟩
  · have h1 := fold_tot ops (newS a b, [])
    have h2 := fold_outs ops (newS a b, [])
    have h3 := totL_len List.length ops
    have h5 : (newS a b).tot = 0 := rfl
    simp only [List.length_nil] at h1 h2
    simp only [cond_true]
    omega
end Go.Proofs.Ev
