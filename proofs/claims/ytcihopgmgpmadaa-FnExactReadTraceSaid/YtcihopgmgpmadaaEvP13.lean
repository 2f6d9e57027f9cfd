/- Plain laws: TakeStep of the reference: its loop. -/
import Derived.Test.YtcihopgmgpmadaaEvP12
set_option linter.unusedVariables false
set_option linter.unusedSimpArgs false
set_option linter.unusedVariables false
set_option linter.unusedSimpArgs false
namespace Go.Proofs.Ev
section
variable {R : Type} {k : Nat} {b : List Int} {m : Int} {q1 q2 q3 q4 q5 q6 q7 q8 q9 q10 q11 q12 : Int} {d : List Int} {fin : Int × Bool × List Int → Option R}
theorem step_bad (hk : 7 ≤ k) (hb : ∀ x ∈ b, okB x) (hl : b.length ≤ maxN) (hm : m ≤ maxN) : ∀ (n i : Nat) (a : Int) (acc : List Int) (kf : Nat), (i : Int) + n = m → n < kf → acc.length + n ≤ maxN →
    ∃ ys, iter (fun u14 n14 => S_TakeStep_g0 k (m, q1, q2, q3, q4, q5, q6, b, q7, q8, q9, q10, q11, q12, d) u14 n14 fin) kf ((i : Int), a, true, acc) = fin (a, true, ys)
  | n, i, a, acc, 0, _, h, _ => by omega
  | 0, i, a, acc, kf + 1, hi, _, _ => by
    refine ⟨acc, ?_⟩
    rw [iter_succ]
    simp only [S_TakeStep_g0]
    rw [cond_dec, if_neg (by omega)]
  | n + 1, i, a, acc, kf + 1, hi, h, hN => by
    have hM := maxN_eq
    obtain ⟨ys, e⟩ := step_bad hk hb hl hm n (i + 1) a (acc ++ [0]) kf (by omega) (by omega) (by simp; omega)
    refine ⟨ys, ?_⟩
    rw [← e, iter_succ]
    generalize iter _ kf = nx
    simp only [S_TakeStep_g0]
    rw [cond_dec, if_pos (by omega), S_l05Next_eq hk hb hl, bind_some', readNum_true, ble_le (by simp; omega), wrapI (by omega) (by omega), show (i : Int) + 1 = ((i + 1 : Nat) : Int) from by omega]
end
end Go.Proofs.Ev
