/-
  No cell of these rows narrows 'for every input' (looked for: loops, veiled, ifaces, maps, wideKeys, modest, calm, conditions, laid).
  DERIVED. THE GIVEN ROWS OF THIS SEAT. 7 by the template 'for every input the law returns true; each argument reads behind the call as it read before'; 0 by the template 'total and deterministic' (their statements: YtpiopmjbcadfbaaGreatTotals.lean).
  GIVEN WITH THE SEED: the statements are not yours to turn. If you find one false, say at which input.
  Laid BY PROGRAM, IN A SANDBOX (cutbox-rows.mjs): the forced cells as the released guide's own fill.sh prints them over the translation 292cced4c0604f23… (all of the seat's roots in one cut). By AI agents, Wed Nov 11 2026. No macro, syntax, notation, axiom, sorry.
-/
import Derived.Test.YtpiopmjbcadfbaaGreatChecked
import GoSem.Claim
import GoSem.ClaimJoined
import GoSem.ClaimMapViews
import Derived.JoinedTies
import Derived.KernelRfl
namespace Go.Proofs.YtpiopmjbcadfbaaGreat
/- THE CELL 'sum', in the pinned program and in every row, IS THE sha256 OF THE DUMP (.gsa) THAT YtpiopmjbcadfbaaGreatProg.lean LOADS. Nothing in Lean hashes anything: it is a label: what it is worth is what the hold of that sum in a sandbox is worth. -/
noncomputable def Tryz.pinned : Pinned := { name := "ytpiopmjbcadfbaagreat", sum := "292cced4c0604f2341b44607cbe68a99611d5d735d94e6c89ab8d491e979f39b", checked := Tryz.checked }
namespace Rows
def none {H : Type} : Left H := { results := [], args := [] }

/-- 'laws.FnPromises': WHATEVER THE INPUT: true; the input reads as it did. -/
def fnPromisesSpec : ChangeSpec := { name := "fnPromises", fn := fun _ => fun
  | [d] => { results := [.lit (.bool true)], args := [d] }
  | _ => none }
def fnPromisesRow : OpenClaim := { program := "ytpiopmjbcadfbaagreat", sum := "292cced4c0604f2341b44607cbe68a99611d5d735d94e6c89ab8d491e979f39b", func := "loop.example/g00778/laws.FnPromises", spec := "fnPromises", unfollowed := true, recurses := true, apart := false }
def FnPromisesSaid : Prop := fnPromisesRow.holds Tryz.pinned (OpenSpec.ofChange fnPromisesSpec)

/-- ITS FALSE NEIGHBOUR: 'it returns false'. Refute it at one input. -/
def fnPromisesWrong : ChangeSpec := { name := "fnPromises", fn := fun _ => fun
  | [d] => { results := [.lit (.bool false)], args := [d] }
  | _ => none }
def FnPromisesWrongFalsely : Prop := fnPromisesRow.holds Tryz.pinned (OpenSpec.ofChange fnPromisesWrong)

/-- 'laws.FnExactQuietSteps': WHATEVER THE INPUT: true; the input reads as it did. -/
def fnExactQuietStepsSpec : ChangeSpec := { name := "fnExactQuietSteps", fn := fun _ => fun
  | [d1, d2, d3] => { results := [.lit (.bool true)], args := [d1, d2, d3] }
  | _ => none }
def fnExactQuietStepsRow : OpenClaim := { program := "ytpiopmjbcadfbaagreat", sum := "292cced4c0604f2341b44607cbe68a99611d5d735d94e6c89ab8d491e979f39b", func := "loop.example/g00778/laws.FnExactQuietSteps", spec := "fnExactQuietSteps", unfollowed := true, recurses := true, apart := false }
def FnExactQuietStepsSaid : Prop := fnExactQuietStepsRow.holds Tryz.pinned (OpenSpec.ofChange fnExactQuietStepsSpec)

/-- ITS FALSE NEIGHBOUR: 'it returns false'. Refute it at one input. -/
def fnExactQuietStepsWrong : ChangeSpec := { name := "fnExactQuietSteps", fn := fun _ => fun
  | [d1, d2, d3] => { results := [.lit (.bool false)], args := [d1, d2, d3] }
  | _ => none }
def FnExactQuietStepsWrongFalsely : Prop := fnExactQuietStepsRow.holds Tryz.pinned (OpenSpec.ofChange fnExactQuietStepsWrong)

/-- 'laws.FnExactWaitsOf': WHATEVER THE INPUT: true; the input reads as it did. -/
def fnExactWaitsOfSpec : ChangeSpec := { name := "fnExactWaitsOf", fn := fun _ => fun
  | [d1, d2, d3] => { results := [.lit (.bool true)], args := [d1, d2, d3] }
  | _ => none }
def fnExactWaitsOfRow : OpenClaim := { program := "ytpiopmjbcadfbaagreat", sum := "292cced4c0604f2341b44607cbe68a99611d5d735d94e6c89ab8d491e979f39b", func := "loop.example/g00778/laws.FnExactWaitsOf", spec := "fnExactWaitsOf", unfollowed := true, recurses := true, apart := false }
def FnExactWaitsOfSaid : Prop := fnExactWaitsOfRow.holds Tryz.pinned (OpenSpec.ofChange fnExactWaitsOfSpec)

/-- ITS FALSE NEIGHBOUR: 'it returns false'. Refute it at one input. -/
def fnExactWaitsOfWrong : ChangeSpec := { name := "fnExactWaitsOf", fn := fun _ => fun
  | [d1, d2, d3] => { results := [.lit (.bool false)], args := [d1, d2, d3] }
  | _ => none }
def FnExactWaitsOfWrongFalsely : Prop := fnExactWaitsOfRow.holds Tryz.pinned (OpenSpec.ofChange fnExactWaitsOfWrong)

/-- 'laws.FnExactPromisesKept': WHATEVER THE INPUT: true; the input reads as it did. -/
def fnExactPromisesKeptSpec : ChangeSpec := { name := "fnExactPromisesKept", fn := fun _ => fun
  | [d1, d2, d3] => { results := [.lit (.bool true)], args := [d1, d2, d3] }
  | _ => none }
def fnExactPromisesKeptRow : OpenClaim := { program := "ytpiopmjbcadfbaagreat", sum := "292cced4c0604f2341b44607cbe68a99611d5d735d94e6c89ab8d491e979f39b", func := "loop.example/g00778/laws.FnExactPromisesKept", spec := "fnExactPromisesKept", unfollowed := true, recurses := true, apart := false }
def FnExactPromisesKeptSaid : Prop := fnExactPromisesKeptRow.holds Tryz.pinned (OpenSpec.ofChange fnExactPromisesKeptSpec)

/-- ITS FALSE NEIGHBOUR: 'it returns false'. Refute it at one input. -/
def fnExactPromisesKeptWrong : ChangeSpec := { name := "fnExactPromisesKept", fn := fun _ => fun
  | [d1, d2, d3] => { results := [.lit (.bool false)], args := [d1, d2, d3] }
  | _ => none }
def FnExactPromisesKeptWrongFalsely : Prop := fnExactPromisesKeptRow.holds Tryz.pinned (OpenSpec.ofChange fnExactPromisesKeptWrong)

/-- 'laws.FnExactAnswersRight': WHATEVER THE INPUT: true; the input reads as it did. -/
def fnExactAnswersRightSpec : ChangeSpec := { name := "fnExactAnswersRight", fn := fun _ => fun
  | [d1, d2, d3] => { results := [.lit (.bool true)], args := [d1, d2, d3] }
  | _ => none }
def fnExactAnswersRightRow : OpenClaim := { program := "ytpiopmjbcadfbaagreat", sum := "292cced4c0604f2341b44607cbe68a99611d5d735d94e6c89ab8d491e979f39b", func := "loop.example/g00778/laws.FnExactAnswersRight", spec := "fnExactAnswersRight", unfollowed := true, recurses := true, apart := false }
def FnExactAnswersRightSaid : Prop := fnExactAnswersRightRow.holds Tryz.pinned (OpenSpec.ofChange fnExactAnswersRightSpec)

/-- ITS FALSE NEIGHBOUR: 'it returns false'. Refute it at one input. -/
def fnExactAnswersRightWrong : ChangeSpec := { name := "fnExactAnswersRight", fn := fun _ => fun
  | [d1, d2, d3] => { results := [.lit (.bool false)], args := [d1, d2, d3] }
  | _ => none }
def FnExactAnswersRightWrongFalsely : Prop := fnExactAnswersRightRow.holds Tryz.pinned (OpenSpec.ofChange fnExactAnswersRightWrong)

/-- 'laws.FnExactPromisedOf': WHATEVER THE INPUT: true; the input reads as it did. -/
def fnExactPromisedOfSpec : ChangeSpec := { name := "fnExactPromisedOf", fn := fun _ => fun
  | [d1, d2, d3] => { results := [.lit (.bool true)], args := [d1, d2, d3] }
  | _ => none }
def fnExactPromisedOfRow : OpenClaim := { program := "ytpiopmjbcadfbaagreat", sum := "292cced4c0604f2341b44607cbe68a99611d5d735d94e6c89ab8d491e979f39b", func := "loop.example/g00778/laws.FnExactPromisedOf", spec := "fnExactPromisedOf", unfollowed := true, recurses := true, apart := false }
def FnExactPromisedOfSaid : Prop := fnExactPromisedOfRow.holds Tryz.pinned (OpenSpec.ofChange fnExactPromisedOfSpec)

/-- ITS FALSE NEIGHBOUR: 'it returns false'. Refute it at one input. -/
def fnExactPromisedOfWrong : ChangeSpec := { name := "fnExactPromisedOf", fn := fun _ => fun
  | [d1, d2, d3] => { results := [.lit (.bool false)], args := [d1, d2, d3] }
  | _ => none }
def FnExactPromisedOfWrongFalsely : Prop := fnExactPromisedOfRow.holds Tryz.pinned (OpenSpec.ofChange fnExactPromisedOfWrong)

/-- 'laws.FnExactEntriesOf': WHATEVER THE INPUT: true; the input reads as it did. -/
def fnExactEntriesOfSpec : ChangeSpec := { name := "fnExactEntriesOf", fn := fun _ => fun
  | [d1, d2, d3] => { results := [.lit (.bool true)], args := [d1, d2, d3] }
  | _ => none }
def fnExactEntriesOfRow : OpenClaim := { program := "ytpiopmjbcadfbaagreat", sum := "292cced4c0604f2341b44607cbe68a99611d5d735d94e6c89ab8d491e979f39b", func := "loop.example/g00778/laws.FnExactEntriesOf", spec := "fnExactEntriesOf", unfollowed := true, recurses := true, apart := false }
def FnExactEntriesOfSaid : Prop := fnExactEntriesOfRow.holds Tryz.pinned (OpenSpec.ofChange fnExactEntriesOfSpec)

/-- ITS FALSE NEIGHBOUR: 'it returns false'. Refute it at one input. -/
def fnExactEntriesOfWrong : ChangeSpec := { name := "fnExactEntriesOf", fn := fun _ => fun
  | [d1, d2, d3] => { results := [.lit (.bool false)], args := [d1, d2, d3] }
  | _ => none }
def FnExactEntriesOfWrongFalsely : Prop := fnExactEntriesOfRow.holds Tryz.pinned (OpenSpec.ofChange fnExactEntriesOfWrong)

/- THE SECOND FORM. 'bulk': how many values and letters a reading holds, each counted each time it is reached (what is shared counts as often as it is met; a slice's spare places count too). A statement '..UptoSaid' is the law's where the arguments, and the package variables that the reading takes, are together of bulk at most 1048576: NARROWER than '..Said'. Prove '..Said' where nothing that the law and all that it calls make is longer than what came in: it says more and counts as full. Else prove '..UptoSaid'. A law counts once. -/
mutual
def uptoBulk {H : Type} : DataW H → Nat
  | .lit (.string bytes) => bytes.length + 1
  | .lit _ => 1
  | .nil => 1
  | .ptr d => uptoBulk d + 1
  | .slice elems spare => uptoBulkAll elems + uptoBulkAll spare + 1
  | .agg parts => uptoBulkAll parts + 1
  | .iface _ d => uptoBulk d + 1
  | .map entries => uptoBulkEntries entries + 1
  | .held _ => 1
def uptoBulkAll {H : Type} : List (DataW H) → Nat
  | [] => 0
  | d :: r => uptoBulk d + uptoBulkAll r
def uptoBulkEntries {H : Type} : List (Lit × DataW H) → Nat
  | [] => 0
  | x :: r => uptoBulkEntry x + uptoBulkEntries r
def uptoBulkEntry {H : Type} : Lit × DataW H → Nat
  | (.string bytes, d) => bytes.length + uptoBulk d + 1
  | (_, d) => uptoBulk d + 1
 end
def uptoSmall : (H : Type) → List (DataW H) → Bool := fun _ ds => decide (uptoBulkAll ds ≤ 1048576)
def OpenSpec.upto (s : _root_.Go.ChangeSpec) : _root_.Go.OpenSpec := { _root_.Go.OpenSpec.ofChange s with cond := some uptoSmall }

/-- 'laws.FnPromises', WHERE WHAT IT READS IS OF BULK AT MOST 1048576: true; the input reads as it did. -/
def fnPromisesUptoRow : OpenClaim := { program := "ytpiopmjbcadfbaagreat", sum := "292cced4c0604f2341b44607cbe68a99611d5d735d94e6c89ab8d491e979f39b", func := "loop.example/g00778/laws.FnPromises", spec := "fnPromises", unfollowed := true, recurses := true, apart := false, narrowed := true }
def FnPromisesUptoSaid : Prop := fnPromisesUptoRow.holds Tryz.pinned (OpenSpec.upto fnPromisesSpec)

/-- 'laws.FnExactQuietSteps', WHERE WHAT IT READS IS OF BULK AT MOST 1048576: true; the input reads as it did. -/
def fnExactQuietStepsUptoRow : OpenClaim := { program := "ytpiopmjbcadfbaagreat", sum := "292cced4c0604f2341b44607cbe68a99611d5d735d94e6c89ab8d491e979f39b", func := "loop.example/g00778/laws.FnExactQuietSteps", spec := "fnExactQuietSteps", unfollowed := true, recurses := true, apart := false, narrowed := true }
def FnExactQuietStepsUptoSaid : Prop := fnExactQuietStepsUptoRow.holds Tryz.pinned (OpenSpec.upto fnExactQuietStepsSpec)

/-- 'laws.FnExactWaitsOf', WHERE WHAT IT READS IS OF BULK AT MOST 1048576: true; the input reads as it did. -/
def fnExactWaitsOfUptoRow : OpenClaim := { program := "ytpiopmjbcadfbaagreat", sum := "292cced4c0604f2341b44607cbe68a99611d5d735d94e6c89ab8d491e979f39b", func := "loop.example/g00778/laws.FnExactWaitsOf", spec := "fnExactWaitsOf", unfollowed := true, recurses := true, apart := false, narrowed := true }
def FnExactWaitsOfUptoSaid : Prop := fnExactWaitsOfUptoRow.holds Tryz.pinned (OpenSpec.upto fnExactWaitsOfSpec)

/-- 'laws.FnExactPromisesKept', WHERE WHAT IT READS IS OF BULK AT MOST 1048576: true; the input reads as it did. -/
def fnExactPromisesKeptUptoRow : OpenClaim := { program := "ytpiopmjbcadfbaagreat", sum := "292cced4c0604f2341b44607cbe68a99611d5d735d94e6c89ab8d491e979f39b", func := "loop.example/g00778/laws.FnExactPromisesKept", spec := "fnExactPromisesKept", unfollowed := true, recurses := true, apart := false, narrowed := true }
def FnExactPromisesKeptUptoSaid : Prop := fnExactPromisesKeptUptoRow.holds Tryz.pinned (OpenSpec.upto fnExactPromisesKeptSpec)

/-- 'laws.FnExactAnswersRight', WHERE WHAT IT READS IS OF BULK AT MOST 1048576: true; the input reads as it did. -/
def fnExactAnswersRightUptoRow : OpenClaim := { program := "ytpiopmjbcadfbaagreat", sum := "292cced4c0604f2341b44607cbe68a99611d5d735d94e6c89ab8d491e979f39b", func := "loop.example/g00778/laws.FnExactAnswersRight", spec := "fnExactAnswersRight", unfollowed := true, recurses := true, apart := false, narrowed := true }
def FnExactAnswersRightUptoSaid : Prop := fnExactAnswersRightUptoRow.holds Tryz.pinned (OpenSpec.upto fnExactAnswersRightSpec)

/-- 'laws.FnExactPromisedOf', WHERE WHAT IT READS IS OF BULK AT MOST 1048576: true; the input reads as it did. -/
def fnExactPromisedOfUptoRow : OpenClaim := { program := "ytpiopmjbcadfbaagreat", sum := "292cced4c0604f2341b44607cbe68a99611d5d735d94e6c89ab8d491e979f39b", func := "loop.example/g00778/laws.FnExactPromisedOf", spec := "fnExactPromisedOf", unfollowed := true, recurses := true, apart := false, narrowed := true }
def FnExactPromisedOfUptoSaid : Prop := fnExactPromisedOfUptoRow.holds Tryz.pinned (OpenSpec.upto fnExactPromisedOfSpec)

/-- 'laws.FnExactEntriesOf', WHERE WHAT IT READS IS OF BULK AT MOST 1048576: true; the input reads as it did. -/
def fnExactEntriesOfUptoRow : OpenClaim := { program := "ytpiopmjbcadfbaagreat", sum := "292cced4c0604f2341b44607cbe68a99611d5d735d94e6c89ab8d491e979f39b", func := "loop.example/g00778/laws.FnExactEntriesOf", spec := "fnExactEntriesOf", unfollowed := true, recurses := true, apart := false, narrowed := true }
def FnExactEntriesOfUptoSaid : Prop := fnExactEntriesOfUptoRow.holds Tryz.pinned (OpenSpec.upto fnExactEntriesOfSpec)

end Rows
end Go.Proofs.YtpiopmjbcadfbaaGreat
