/-
  No cell of these rows narrows 'for every input' (looked for: loops, veiled, ifaces, maps, wideKeys, modest, calm, conditions, laid).
  DERIVED. THE GIVEN ROWS OF THIS SEAT. 10 by the template 'for every input the law returns true; each argument reads behind the call as it read before'; 0 by the template 'total and deterministic' (their statements: YtmjpoakinmeglaaTotals.lean).
  GIVEN WITH THE SEED: the statements are not yours to turn. If you find one false, say at which input.
  Laid BY PROGRAM, IN A SANDBOX (cutbox-rows.mjs): the forced cells as the released guide's own fill.sh prints them over the translation 20b94f111ef35ac3… (all of the seat's roots in one cut). By AI agents, Wed Nov 11 2026. No macro, syntax, notation, axiom, sorry.
-/
import Derived.Test.YtmjpoakinmeglaaChecked
import GoSem.Claim
import GoSem.ClaimJoined
import GoSem.ClaimMapViews
import Derived.JoinedTies
import Derived.KernelRfl
namespace Go.Proofs.Ytmjpoakinmeglaa
/- THE CELL 'sum', in the pinned program and in every row, IS THE sha256 OF THE DUMP (.gsa) THAT YtmjpoakinmeglaaProg.lean LOADS. Nothing in Lean hashes anything: it is a label: what it is worth is what the hold of that sum in a sandbox is worth. -/
noncomputable def Try.pinned : Pinned := { name := "ytmjpoakinmeglaa", sum := "20b94f111ef35ac36e11dd5abf2051824dd136326061b29361b92b3f3a2aaa89", checked := Try.checked }
namespace Rows
def none {H : Type} : Left H := { results := [], args := [] }

/-- 'laws.FnExactSplitBatch': WHATEVER THE INPUT: true; the input reads as it did. -/
def fnExactSplitBatchSpec : ChangeSpec := { name := "fnExactSplitBatch", fn := fun _ => fun
  | [d] => { results := [.lit (.bool true)], args := [d] }
  | _ => none }
def fnExactSplitBatchRow : OpenClaim := { program := "ytmjpoakinmeglaa", sum := "20b94f111ef35ac36e11dd5abf2051824dd136326061b29361b92b3f3a2aaa89", func := "loop.example/g00778/laws.FnExactSplitBatch", spec := "fnExactSplitBatch", unfollowed := true, recurses := true, apart := false }
def FnExactSplitBatchSaid : Prop := fnExactSplitBatchRow.holds Try.pinned (OpenSpec.ofChange fnExactSplitBatchSpec)

/-- ITS FALSE NEIGHBOUR: 'it returns false'. Refute it at one input. -/
def fnExactSplitBatchWrong : ChangeSpec := { name := "fnExactSplitBatch", fn := fun _ => fun
  | [d] => { results := [.lit (.bool false)], args := [d] }
  | _ => none }
def FnExactSplitBatchWrongFalsely : Prop := fnExactSplitBatchRow.holds Try.pinned (OpenSpec.ofChange fnExactSplitBatchWrong)

/-- 'laws.FnExactTicksOf': WHATEVER THE INPUT: true; the input reads as it did. -/
def fnExactTicksOfSpec : ChangeSpec := { name := "fnExactTicksOf", fn := fun _ => fun
  | [d] => { results := [.lit (.bool true)], args := [d] }
  | _ => none }
def fnExactTicksOfRow : OpenClaim := { program := "ytmjpoakinmeglaa", sum := "20b94f111ef35ac36e11dd5abf2051824dd136326061b29361b92b3f3a2aaa89", func := "loop.example/g00778/laws.FnExactTicksOf", spec := "fnExactTicksOf", apart := false }
def FnExactTicksOfSaid : Prop := fnExactTicksOfRow.holds Try.pinned (OpenSpec.ofChange fnExactTicksOfSpec)

/-- ITS FALSE NEIGHBOUR: 'it returns false'. Refute it at one input. -/
def fnExactTicksOfWrong : ChangeSpec := { name := "fnExactTicksOf", fn := fun _ => fun
  | [d] => { results := [.lit (.bool false)], args := [d] }
  | _ => none }
def FnExactTicksOfWrongFalsely : Prop := fnExactTicksOfRow.holds Try.pinned (OpenSpec.ofChange fnExactTicksOfWrong)

/-- 'laws.FnExactPutStep': WHATEVER THE INPUT: true; the input reads as it did. -/
def fnExactPutStepSpec : ChangeSpec := { name := "fnExactPutStep", fn := fun _ => fun
  | [d] => { results := [.lit (.bool true)], args := [d] }
  | _ => none }
def fnExactPutStepRow : OpenClaim := { program := "ytmjpoakinmeglaa", sum := "20b94f111ef35ac36e11dd5abf2051824dd136326061b29361b92b3f3a2aaa89", func := "loop.example/g00778/laws.FnExactPutStep", spec := "fnExactPutStep", unfollowed := true, recurses := true, apart := false }
def FnExactPutStepSaid : Prop := fnExactPutStepRow.holds Try.pinned (OpenSpec.ofChange fnExactPutStepSpec)

/-- ITS FALSE NEIGHBOUR: 'it returns false'. Refute it at one input. -/
def fnExactPutStepWrong : ChangeSpec := { name := "fnExactPutStep", fn := fun _ => fun
  | [d] => { results := [.lit (.bool false)], args := [d] }
  | _ => none }
def FnExactPutStepWrongFalsely : Prop := fnExactPutStepRow.holds Try.pinned (OpenSpec.ofChange fnExactPutStepWrong)

/-- 'laws.FnExactTakeStep': WHATEVER THE INPUT: true; the input reads as it did. -/
def fnExactTakeStepSpec : ChangeSpec := { name := "fnExactTakeStep", fn := fun _ => fun
  | [d1, d2] => { results := [.lit (.bool true)], args := [d1, d2] }
  | _ => none }
def fnExactTakeStepRow : OpenClaim := { program := "ytmjpoakinmeglaa", sum := "20b94f111ef35ac36e11dd5abf2051824dd136326061b29361b92b3f3a2aaa89", func := "loop.example/g00778/laws.FnExactTakeStep", spec := "fnExactTakeStep", apart := false }
def FnExactTakeStepSaid : Prop := fnExactTakeStepRow.holds Try.pinned (OpenSpec.ofChange fnExactTakeStepSpec)

/-- ITS FALSE NEIGHBOUR: 'it returns false'. Refute it at one input. -/
def fnExactTakeStepWrong : ChangeSpec := { name := "fnExactTakeStep", fn := fun _ => fun
  | [d1, d2] => { results := [.lit (.bool false)], args := [d1, d2] }
  | _ => none }
def FnExactTakeStepWrongFalsely : Prop := fnExactTakeStepRow.holds Try.pinned (OpenSpec.ofChange fnExactTakeStepWrong)

/-- 'laws.FnExactCutTrace': WHATEVER THE INPUT: true; the input reads as it did. -/
def fnExactCutTraceSpec : ChangeSpec := { name := "fnExactCutTrace", fn := fun _ => fun
  | [d1, d2] => { results := [.lit (.bool true)], args := [d1, d2] }
  | _ => none }
def fnExactCutTraceRow : OpenClaim := { program := "ytmjpoakinmeglaa", sum := "20b94f111ef35ac36e11dd5abf2051824dd136326061b29361b92b3f3a2aaa89", func := "loop.example/g00778/laws.FnExactCutTrace", spec := "fnExactCutTrace", apart := false }
def FnExactCutTraceSaid : Prop := fnExactCutTraceRow.holds Try.pinned (OpenSpec.ofChange fnExactCutTraceSpec)

/-- ITS FALSE NEIGHBOUR: 'it returns false'. Refute it at one input. -/
def fnExactCutTraceWrong : ChangeSpec := { name := "fnExactCutTrace", fn := fun _ => fun
  | [d1, d2] => { results := [.lit (.bool false)], args := [d1, d2] }
  | _ => none }
def FnExactCutTraceWrongFalsely : Prop := fnExactCutTraceRow.holds Try.pinned (OpenSpec.ofChange fnExactCutTraceWrong)

/-- 'laws.FnExactTraceOf': WHATEVER THE INPUT: true; the input reads as it did. -/
def fnExactTraceOfSpec : ChangeSpec := { name := "fnExactTraceOf", fn := fun _ => fun
  | [d] => { results := [.lit (.bool true)], args := [d] }
  | _ => none }
def fnExactTraceOfRow : OpenClaim := { program := "ytmjpoakinmeglaa", sum := "20b94f111ef35ac36e11dd5abf2051824dd136326061b29361b92b3f3a2aaa89", func := "loop.example/g00778/laws.FnExactTraceOf", spec := "fnExactTraceOf", unfollowed := true, recurses := true, apart := false }
def FnExactTraceOfSaid : Prop := fnExactTraceOfRow.holds Try.pinned (OpenSpec.ofChange fnExactTraceOfSpec)

/-- ITS FALSE NEIGHBOUR: 'it returns false'. Refute it at one input. -/
def fnExactTraceOfWrong : ChangeSpec := { name := "fnExactTraceOf", fn := fun _ => fun
  | [d] => { results := [.lit (.bool false)], args := [d] }
  | _ => none }
def FnExactTraceOfWrongFalsely : Prop := fnExactTraceOfRow.holds Try.pinned (OpenSpec.ofChange fnExactTraceOfWrong)

/-- 'laws.FnExactCancelTask': WHATEVER THE INPUT: true; the input reads as it did. -/
def fnExactCancelTaskSpec : ChangeSpec := { name := "fnExactCancelTask", fn := fun _ => fun
  | [d1, d2] => { results := [.lit (.bool true)], args := [d1, d2] }
  | _ => none }
def fnExactCancelTaskRow : OpenClaim := { program := "ytmjpoakinmeglaa", sum := "20b94f111ef35ac36e11dd5abf2051824dd136326061b29361b92b3f3a2aaa89", func := "loop.example/g00778/laws.FnExactCancelTask", spec := "fnExactCancelTask", unfollowed := true, recurses := true, apart := false }
def FnExactCancelTaskSaid : Prop := fnExactCancelTaskRow.holds Try.pinned (OpenSpec.ofChange fnExactCancelTaskSpec)

/-- ITS FALSE NEIGHBOUR: 'it returns false'. Refute it at one input. -/
def fnExactCancelTaskWrong : ChangeSpec := { name := "fnExactCancelTask", fn := fun _ => fun
  | [d1, d2] => { results := [.lit (.bool false)], args := [d1, d2] }
  | _ => none }
def FnExactCancelTaskWrongFalsely : Prop := fnExactCancelTaskRow.holds Try.pinned (OpenSpec.ofChange fnExactCancelTaskWrong)

/-- 'laws.FnExactGroupWishes': WHATEVER THE INPUT: true; the input reads as it did. -/
def fnExactGroupWishesSpec : ChangeSpec := { name := "fnExactGroupWishes", fn := fun _ => fun
  | [d1, d2] => { results := [.lit (.bool true)], args := [d1, d2] }
  | _ => none }
def fnExactGroupWishesRow : OpenClaim := { program := "ytmjpoakinmeglaa", sum := "20b94f111ef35ac36e11dd5abf2051824dd136326061b29361b92b3f3a2aaa89", func := "loop.example/g00778/laws.FnExactGroupWishes", spec := "fnExactGroupWishes", unfollowed := true, recurses := true, apart := false }
def FnExactGroupWishesSaid : Prop := fnExactGroupWishesRow.holds Try.pinned (OpenSpec.ofChange fnExactGroupWishesSpec)

/-- ITS FALSE NEIGHBOUR: 'it returns false'. Refute it at one input. -/
def fnExactGroupWishesWrong : ChangeSpec := { name := "fnExactGroupWishes", fn := fun _ => fun
  | [d1, d2] => { results := [.lit (.bool false)], args := [d1, d2] }
  | _ => none }
def FnExactGroupWishesWrongFalsely : Prop := fnExactGroupWishesRow.holds Try.pinned (OpenSpec.ofChange fnExactGroupWishesWrong)

/-- 'laws.FnExactReadTrace': WHATEVER THE INPUT: true; the input reads as it did. -/
def fnExactReadTraceSpec : ChangeSpec := { name := "fnExactReadTrace", fn := fun _ => fun
  | [d] => { results := [.lit (.bool true)], args := [d] }
  | _ => none }
def fnExactReadTraceRow : OpenClaim := { program := "ytmjpoakinmeglaa", sum := "20b94f111ef35ac36e11dd5abf2051824dd136326061b29361b92b3f3a2aaa89", func := "loop.example/g00778/laws.FnExactReadTrace", spec := "fnExactReadTrace", apart := false }
def FnExactReadTraceSaid : Prop := fnExactReadTraceRow.holds Try.pinned (OpenSpec.ofChange fnExactReadTraceSpec)

/-- ITS FALSE NEIGHBOUR: 'it returns false'. Refute it at one input. -/
def fnExactReadTraceWrong : ChangeSpec := { name := "fnExactReadTrace", fn := fun _ => fun
  | [d] => { results := [.lit (.bool false)], args := [d] }
  | _ => none }
def FnExactReadTraceWrongFalsely : Prop := fnExactReadTraceRow.holds Try.pinned (OpenSpec.ofChange fnExactReadTraceWrong)

/-- 'laws.FnExactBatchCost': WHATEVER THE INPUT: true; the input reads as it did. -/
def fnExactBatchCostSpec : ChangeSpec := { name := "fnExactBatchCost", fn := fun _ => fun
  | [d1, d2] => { results := [.lit (.bool true)], args := [d1, d2] }
  | _ => none }
def fnExactBatchCostRow : OpenClaim := { program := "ytmjpoakinmeglaa", sum := "20b94f111ef35ac36e11dd5abf2051824dd136326061b29361b92b3f3a2aaa89", func := "loop.example/g00778/laws.FnExactBatchCost", spec := "fnExactBatchCost", unfollowed := true, recurses := true, apart := false }
def FnExactBatchCostSaid : Prop := fnExactBatchCostRow.holds Try.pinned (OpenSpec.ofChange fnExactBatchCostSpec)

/-- ITS FALSE NEIGHBOUR: 'it returns false'. Refute it at one input. -/
def fnExactBatchCostWrong : ChangeSpec := { name := "fnExactBatchCost", fn := fun _ => fun
  | [d1, d2] => { results := [.lit (.bool false)], args := [d1, d2] }
  | _ => none }
def FnExactBatchCostWrongFalsely : Prop := fnExactBatchCostRow.holds Try.pinned (OpenSpec.ofChange fnExactBatchCostWrong)

/- THE SECOND FORM. 'bulk': how many values and letters a reading holds, each counted each time it is reached (what is shared counts as often as it is met; a slice's spare places count too). A statement '..UptoSaid' is the law's where the arguments, and the package variables that the reading takes, are together of bulk at most 1048576: NARROWER than '..Said'. Prove '..Said' where nothing that the law and all that it calls make is longer than what came in: it says more and counts as full. Else prove '..UptoSaid'. A law counts once. -/
mutual
def uptoBulk {H : Type} : DataW H → Nat
  | .lit (.string bytes) => bytes.length + 1
  | .lit _ => 1
  | .nil => 1
  | .ptr d => uptoBulk d + 1
  | .slice elems spare => uptoBulkAll elems + uptoBulkAll spare + 1
  | .agg parts => uptoBulkAll parts + 1
  | .iface _ d => uptoBulk d + 1
  | .map entries => uptoBulkEntries entries + 1
  | .held _ => 1
def uptoBulkAll {H : Type} : List (DataW H) → Nat
  | [] => 0
  | d :: r => uptoBulk d + uptoBulkAll r
def uptoBulkEntries {H : Type} : List (Lit × DataW H) → Nat
  | [] => 0
  | x :: r => uptoBulkEntry x + uptoBulkEntries r
def uptoBulkEntry {H : Type} : Lit × DataW H → Nat
  | (.string bytes, d) => bytes.length + uptoBulk d + 1
  | (_, d) => uptoBulk d + 1
 end
def uptoSmall : (H : Type) → List (DataW H) → Bool := fun _ ds => decide (uptoBulkAll ds ≤ 1048576)
def OpenSpec.upto (s : _root_.Go.ChangeSpec) : _root_.Go.OpenSpec := { _root_.Go.OpenSpec.ofChange s with cond := some uptoSmall }

/-- 'laws.FnExactSplitBatch', WHERE WHAT IT READS IS OF BULK AT MOST 1048576: true; the input reads as it did. -/
def fnExactSplitBatchUptoRow : OpenClaim := { program := "ytmjpoakinmeglaa", sum := "20b94f111ef35ac36e11dd5abf2051824dd136326061b29361b92b3f3a2aaa89", func := "loop.example/g00778/laws.FnExactSplitBatch", spec := "fnExactSplitBatch", unfollowed := true, recurses := true, apart := false, narrowed := true }
def FnExactSplitBatchUptoSaid : Prop := fnExactSplitBatchUptoRow.holds Try.pinned (OpenSpec.upto fnExactSplitBatchSpec)

/-- 'laws.FnExactTicksOf', WHERE WHAT IT READS IS OF BULK AT MOST 1048576: true; the input reads as it did. -/
def fnExactTicksOfUptoRow : OpenClaim := { program := "ytmjpoakinmeglaa", sum := "20b94f111ef35ac36e11dd5abf2051824dd136326061b29361b92b3f3a2aaa89", func := "loop.example/g00778/laws.FnExactTicksOf", spec := "fnExactTicksOf", apart := false, narrowed := true }
def FnExactTicksOfUptoSaid : Prop := fnExactTicksOfUptoRow.holds Try.pinned (OpenSpec.upto fnExactTicksOfSpec)

/-- 'laws.FnExactPutStep', WHERE WHAT IT READS IS OF BULK AT MOST 1048576: true; the input reads as it did. -/
def fnExactPutStepUptoRow : OpenClaim := { program := "ytmjpoakinmeglaa", sum := "20b94f111ef35ac36e11dd5abf2051824dd136326061b29361b92b3f3a2aaa89", func := "loop.example/g00778/laws.FnExactPutStep", spec := "fnExactPutStep", unfollowed := true, recurses := true, apart := false, narrowed := true }
def FnExactPutStepUptoSaid : Prop := fnExactPutStepUptoRow.holds Try.pinned (OpenSpec.upto fnExactPutStepSpec)

/-- 'laws.FnExactTakeStep', WHERE WHAT IT READS IS OF BULK AT MOST 1048576: true; the input reads as it did. -/
def fnExactTakeStepUptoRow : OpenClaim := { program := "ytmjpoakinmeglaa", sum := "20b94f111ef35ac36e11dd5abf2051824dd136326061b29361b92b3f3a2aaa89", func := "loop.example/g00778/laws.FnExactTakeStep", spec := "fnExactTakeStep", apart := false, narrowed := true }
def FnExactTakeStepUptoSaid : Prop := fnExactTakeStepUptoRow.holds Try.pinned (OpenSpec.upto fnExactTakeStepSpec)

/-- 'laws.FnExactCutTrace', WHERE WHAT IT READS IS OF BULK AT MOST 1048576: true; the input reads as it did. -/
def fnExactCutTraceUptoRow : OpenClaim := { program := "ytmjpoakinmeglaa", sum := "20b94f111ef35ac36e11dd5abf2051824dd136326061b29361b92b3f3a2aaa89", func := "loop.example/g00778/laws.FnExactCutTrace", spec := "fnExactCutTrace", apart := false, narrowed := true }
def FnExactCutTraceUptoSaid : Prop := fnExactCutTraceUptoRow.holds Try.pinned (OpenSpec.upto fnExactCutTraceSpec)

/-- 'laws.FnExactTraceOf', WHERE WHAT IT READS IS OF BULK AT MOST 1048576: true; the input reads as it did. -/
def fnExactTraceOfUptoRow : OpenClaim := { program := "ytmjpoakinmeglaa", sum := "20b94f111ef35ac36e11dd5abf2051824dd136326061b29361b92b3f3a2aaa89", func := "loop.example/g00778/laws.FnExactTraceOf", spec := "fnExactTraceOf", unfollowed := true, recurses := true, apart := false, narrowed := true }
def FnExactTraceOfUptoSaid : Prop := fnExactTraceOfUptoRow.holds Try.pinned (OpenSpec.upto fnExactTraceOfSpec)

/-- 'laws.FnExactCancelTask', WHERE WHAT IT READS IS OF BULK AT MOST 1048576: true; the input reads as it did. -/
def fnExactCancelTaskUptoRow : OpenClaim := { program := "ytmjpoakinmeglaa", sum := "20b94f111ef35ac36e11dd5abf2051824dd136326061b29361b92b3f3a2aaa89", func := "loop.example/g00778/laws.FnExactCancelTask", spec := "fnExactCancelTask", unfollowed := true, recurses := true, apart := false, narrowed := true }
def FnExactCancelTaskUptoSaid : Prop := fnExactCancelTaskUptoRow.holds Try.pinned (OpenSpec.upto fnExactCancelTaskSpec)

/-- 'laws.FnExactGroupWishes', WHERE WHAT IT READS IS OF BULK AT MOST 1048576: true; the input reads as it did. -/
def fnExactGroupWishesUptoRow : OpenClaim := { program := "ytmjpoakinmeglaa", sum := "20b94f111ef35ac36e11dd5abf2051824dd136326061b29361b92b3f3a2aaa89", func := "loop.example/g00778/laws.FnExactGroupWishes", spec := "fnExactGroupWishes", unfollowed := true, recurses := true, apart := false, narrowed := true }
def FnExactGroupWishesUptoSaid : Prop := fnExactGroupWishesUptoRow.holds Try.pinned (OpenSpec.upto fnExactGroupWishesSpec)

/-- 'laws.FnExactReadTrace', WHERE WHAT IT READS IS OF BULK AT MOST 1048576: true; the input reads as it did. -/
def fnExactReadTraceUptoRow : OpenClaim := { program := "ytmjpoakinmeglaa", sum := "20b94f111ef35ac36e11dd5abf2051824dd136326061b29361b92b3f3a2aaa89", func := "loop.example/g00778/laws.FnExactReadTrace", spec := "fnExactReadTrace", apart := false, narrowed := true }
def FnExactReadTraceUptoSaid : Prop := fnExactReadTraceUptoRow.holds Try.pinned (OpenSpec.upto fnExactReadTraceSpec)

/-- 'laws.FnExactBatchCost', WHERE WHAT IT READS IS OF BULK AT MOST 1048576: true; the input reads as it did. -/
def fnExactBatchCostUptoRow : OpenClaim := { program := "ytmjpoakinmeglaa", sum := "20b94f111ef35ac36e11dd5abf2051824dd136326061b29361b92b3f3a2aaa89", func := "loop.example/g00778/laws.FnExactBatchCost", spec := "fnExactBatchCost", unfollowed := true, recurses := true, apart := false, narrowed := true }
def FnExactBatchCostUptoSaid : Prop := fnExactBatchCostUptoRow.holds Try.pinned (OpenSpec.upto fnExactBatchCostSpec)

end Rows
end Go.Proofs.Ytmjpoakinmeglaa
