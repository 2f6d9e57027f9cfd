/- Plain laws: EndTick, TicksOf, CutTrace. -/
import Derived.Test.YtcohhbpegbhcgaaGreatEvP4
import Derived.Test.YtcohhbpegbhcgaaGreatEvD3
set_option linter.unusedVariables false
set_option linter.unusedSimpArgs false
set_option linter.unusedVariables false
set_option linter.unusedSimpArgs false
namespace Go.Proofs.Ev
/-- A loop that appends what comes of each place. -/
theorem app_loopI {β R : Type} (n : Nat) (f : Nat → β) {g : Int × List β → (Int × List β → Option R) → Option R} {fin : List β → Option R}
    (h : ∀ (i : Nat) (ys : List β) (hi : i < n) (next : Int × List β → Option R), ys.length = i → g ((i : Int), ys) next = next (((i + 1 : Nat) : Int), ys ++ [f i]))
    (hn : ∀ ys next, g ((n : Int), ys) next = fin ys) {k : Nat} (hk : n < k) : iter g k (0, []) = fin ((List.range n).map f) := by
  have := iter_run (g := g) (st := fun i => ((i : Int), (List.range i).map f)) (n := n) (r := fin ((List.range n).map f)) (fun i hi next => by
    rw [h i _ hi next (by simp), List.range_succ, List.map_append]; rfl) (fun next => hn _ _) hk
  simpa using this
def takes (x : Step) : Int := cond (inB x.kind 4 5 && inB x.a 0 200) x.a 0
end Go.Proofs.Ev
