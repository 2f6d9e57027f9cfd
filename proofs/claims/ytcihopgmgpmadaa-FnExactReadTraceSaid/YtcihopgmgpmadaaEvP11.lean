/- Plain laws: the readers of numbers. -/
import Derived.Test.YtcihopgmgpmadaaEvP10
set_option linter.unusedVariables false
set_option linter.unusedSimpArgs false
set_option linter.unusedVariables false
set_option linter.unusedSimpArgs false
namespace Go.Proofs.Ev
/-- A reader's number: what it is, and where the reader stands behind it. -/
def readNum (b : List Int) (at_ : Int) (bad : Bool) : Int × Int × Bool :=
  cond bad (0, at_, true) (cond (decide ((takeWide b at_).2 < 0)) (0, at_, true) ((takeWide b at_).1, (takeWide b at_).2, false))
theorem S_l05Next_eq {k : Nat} {b : List Int} {a : Int} {bad : Bool} (hk : 7 ≤ k) (hb : ∀ x ∈ b, okB x) (hl : b.length ≤ maxN) : S_l05Next_m k b a bad = some (readNum b a bad) := by
  unfold S_l05Next_m readNum
  simp only [S_TakeWide_eq hk hb hl, bind_some', decide_true, cond_true]
  cases bad <;> cases decide ((takeWide b a).2 < 0) <;> rfl
theorem I_number_eq {k : Nat} {b : List Int} {a : Int} {bad : Bool} (hk : 7 ≤ k) (hb : ∀ x ∈ b, okB x) (hl : b.length ≤ maxN) : pI_wideReader_number_m k ⟨b, a, bad⟩ = some (readNum b a bad) := by
  unfold pI_wideReader_number_m readNum
  simp only [I_TakeWide_eq hk hb hl, bind_some', decide_true, cond_true]
  cases bad <;> cases decide ((takeWide b a).2 < 0) <;> rfl
end Go.Proofs.Ev
