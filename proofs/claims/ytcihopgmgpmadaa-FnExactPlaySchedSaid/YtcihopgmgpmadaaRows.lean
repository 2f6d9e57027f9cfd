/-
  No cell of these rows narrows 'for every input' (looked for: loops, veiled, ifaces, maps, wideKeys, modest, calm, conditions, laid).
  DERIVED. THE GIVEN ROWS OF THIS SEAT. 12 by the template 'for every input the law returns true; each argument reads behind the call as it read before'; 0 by the template 'total and deterministic' (their statements: YtcihopgmgpmadaaTotals.lean).
  GIVEN WITH THE SEED: the statements are not yours to turn. If you find one false, say at which input.
  Laid BY PROGRAM, IN A SANDBOX (cutbox-rows.mjs): the forced cells as the released guide's own fill.sh prints them over the translation c3a7ecbfb62fb547… (all of the seat's roots in one cut). By AI agents, Wed Nov 11 2026. No macro, syntax, notation, axiom, sorry.
-/
import Derived.Test.YtcihopgmgpmadaaChecked
import GoSem.Claim
import GoSem.ClaimJoined
import GoSem.ClaimMapViews
import Derived.JoinedTies
import Derived.KernelRfl
namespace Go.Proofs.Ytcihopgmgpmadaa
/- THE CELL 'sum', in the pinned program and in every row, IS THE sha256 OF THE DUMP (.gsa) THAT YtcihopgmgpmadaaProg.lean LOADS. Nothing in Lean hashes anything: it is a label: what it is worth is what the hold of that sum in a sandbox is worth. -/
noncomputable def Try.pinned : Pinned := { name := "ytcihopgmgpmadaa", sum := "c3a7ecbfb62fb54779a2464ac1e15eb4259f31dd4a5791ffc10a1a59b084e1b3", checked := Try.checked }
namespace Rows
def none {H : Type} : Left H := { results := [], args := [] }

/-- 'laws.FnExactTakeStep': WHATEVER THE INPUT: true; the input reads as it did. -/
def fnExactTakeStepSpec : ChangeSpec := { name := "fnExactTakeStep", fn := fun _ => fun
  | [d1, d2] => { results := [.lit (.bool true)], args := [d1, d2] }
  | _ => none }
def fnExactTakeStepRow : OpenClaim := { program := "ytcihopgmgpmadaa", sum := "c3a7ecbfb62fb54779a2464ac1e15eb4259f31dd4a5791ffc10a1a59b084e1b3", func := "loop.example/g00778/laws.FnExactTakeStep", spec := "fnExactTakeStep", apart := false }
def FnExactTakeStepSaid : Prop := fnExactTakeStepRow.holds Try.pinned (OpenSpec.ofChange fnExactTakeStepSpec)

/-- ITS FALSE NEIGHBOUR: 'it returns false'. Refute it at one input. -/
def fnExactTakeStepWrong : ChangeSpec := { name := "fnExactTakeStep", fn := fun _ => fun
  | [d1, d2] => { results := [.lit (.bool false)], args := [d1, d2] }
  | _ => none }
def FnExactTakeStepWrongFalsely : Prop := fnExactTakeStepRow.holds Try.pinned (OpenSpec.ofChange fnExactTakeStepWrong)

/-- 'laws.FnExactReadTrace': WHATEVER THE INPUT: true; the input reads as it did. -/
def fnExactReadTraceSpec : ChangeSpec := { name := "fnExactReadTrace", fn := fun _ => fun
  | [d] => { results := [.lit (.bool true)], args := [d] }
  | _ => none }
def fnExactReadTraceRow : OpenClaim := { program := "ytcihopgmgpmadaa", sum := "c3a7ecbfb62fb54779a2464ac1e15eb4259f31dd4a5791ffc10a1a59b084e1b3", func := "loop.example/g00778/laws.FnExactReadTrace", spec := "fnExactReadTrace", apart := false }
def FnExactReadTraceSaid : Prop := fnExactReadTraceRow.holds Try.pinned (OpenSpec.ofChange fnExactReadTraceSpec)

/-- ITS FALSE NEIGHBOUR: 'it returns false'. Refute it at one input. -/
def fnExactReadTraceWrong : ChangeSpec := { name := "fnExactReadTrace", fn := fun _ => fun
  | [d] => { results := [.lit (.bool false)], args := [d] }
  | _ => none }
def FnExactReadTraceWrongFalsely : Prop := fnExactReadTraceRow.holds Try.pinned (OpenSpec.ofChange fnExactReadTraceWrong)

/-- 'laws.FnExactPutStep': WHATEVER THE INPUT: true; the input reads as it did. -/
def fnExactPutStepSpec : ChangeSpec := { name := "fnExactPutStep", fn := fun _ => fun
  | [d] => { results := [.lit (.bool true)], args := [d] }
  | _ => none }
def fnExactPutStepRow : OpenClaim := { program := "ytcihopgmgpmadaa", sum := "c3a7ecbfb62fb54779a2464ac1e15eb4259f31dd4a5791ffc10a1a59b084e1b3", func := "loop.example/g00778/laws.FnExactPutStep", spec := "fnExactPutStep", unfollowed := true, recurses := true, apart := false }
def FnExactPutStepSaid : Prop := fnExactPutStepRow.holds Try.pinned (OpenSpec.ofChange fnExactPutStepSpec)

/-- ITS FALSE NEIGHBOUR: 'it returns false'. Refute it at one input. -/
def fnExactPutStepWrong : ChangeSpec := { name := "fnExactPutStep", fn := fun _ => fun
  | [d] => { results := [.lit (.bool false)], args := [d] }
  | _ => none }
def FnExactPutStepWrongFalsely : Prop := fnExactPutStepRow.holds Try.pinned (OpenSpec.ofChange fnExactPutStepWrong)

/-- 'laws.FnExactTraceOf': WHATEVER THE INPUT: true; the input reads as it did. -/
def fnExactTraceOfSpec : ChangeSpec := { name := "fnExactTraceOf", fn := fun _ => fun
  | [d] => { results := [.lit (.bool true)], args := [d] }
  | _ => none }
def fnExactTraceOfRow : OpenClaim := { program := "ytcihopgmgpmadaa", sum := "c3a7ecbfb62fb54779a2464ac1e15eb4259f31dd4a5791ffc10a1a59b084e1b3", func := "loop.example/g00778/laws.FnExactTraceOf", spec := "fnExactTraceOf", unfollowed := true, recurses := true, apart := false }
def FnExactTraceOfSaid : Prop := fnExactTraceOfRow.holds Try.pinned (OpenSpec.ofChange fnExactTraceOfSpec)

/-- ITS FALSE NEIGHBOUR: 'it returns false'. Refute it at one input. -/
def fnExactTraceOfWrong : ChangeSpec := { name := "fnExactTraceOf", fn := fun _ => fun
  | [d] => { results := [.lit (.bool false)], args := [d] }
  | _ => none }
def FnExactTraceOfWrongFalsely : Prop := fnExactTraceOfRow.holds Try.pinned (OpenSpec.ofChange fnExactTraceOfWrong)

/-- 'laws.FnExactAdmit': WHATEVER THE INPUT: true; the input reads as it did. -/
def fnExactAdmitSpec : ChangeSpec := { name := "fnExactAdmit", fn := fun _ => fun
  | [d1, d2, d3] => { results := [.lit (.bool true)], args := [d1, d2, d3] }
  | _ => none }
def fnExactAdmitRow : OpenClaim := { program := "ytcihopgmgpmadaa", sum := "c3a7ecbfb62fb54779a2464ac1e15eb4259f31dd4a5791ffc10a1a59b084e1b3", func := "loop.example/g00778/laws.FnExactAdmit", spec := "fnExactAdmit", unfollowed := true, recurses := true, apart := false }
def FnExactAdmitSaid : Prop := fnExactAdmitRow.holds Try.pinned (OpenSpec.ofChange fnExactAdmitSpec)

/-- ITS FALSE NEIGHBOUR: 'it returns false'. Refute it at one input. -/
def fnExactAdmitWrong : ChangeSpec := { name := "fnExactAdmit", fn := fun _ => fun
  | [d1, d2, d3] => { results := [.lit (.bool false)], args := [d1, d2, d3] }
  | _ => none }
def FnExactAdmitWrongFalsely : Prop := fnExactAdmitRow.holds Try.pinned (OpenSpec.ofChange fnExactAdmitWrong)

/-- 'laws.FnExactCancelTask': WHATEVER THE INPUT: true; the input reads as it did. -/
def fnExactCancelTaskSpec : ChangeSpec := { name := "fnExactCancelTask", fn := fun _ => fun
  | [d1, d2] => { results := [.lit (.bool true)], args := [d1, d2] }
  | _ => none }
def fnExactCancelTaskRow : OpenClaim := { program := "ytcihopgmgpmadaa", sum := "c3a7ecbfb62fb54779a2464ac1e15eb4259f31dd4a5791ffc10a1a59b084e1b3", func := "loop.example/g00778/laws.FnExactCancelTask", spec := "fnExactCancelTask", unfollowed := true, recurses := true, apart := false }
def FnExactCancelTaskSaid : Prop := fnExactCancelTaskRow.holds Try.pinned (OpenSpec.ofChange fnExactCancelTaskSpec)

/-- ITS FALSE NEIGHBOUR: 'it returns false'. Refute it at one input. -/
def fnExactCancelTaskWrong : ChangeSpec := { name := "fnExactCancelTask", fn := fun _ => fun
  | [d1, d2] => { results := [.lit (.bool false)], args := [d1, d2] }
  | _ => none }
def FnExactCancelTaskWrongFalsely : Prop := fnExactCancelTaskRow.holds Try.pinned (OpenSpec.ofChange fnExactCancelTaskWrong)

/-- 'laws.FnExactTickSched': WHATEVER THE INPUT: true; the input reads as it did. -/
def fnExactTickSchedSpec : ChangeSpec := { name := "fnExactTickSched", fn := fun _ => fun
  | [d1, d2] => { results := [.lit (.bool true)], args := [d1, d2] }
  | _ => none }
def fnExactTickSchedRow : OpenClaim := { program := "ytcihopgmgpmadaa", sum := "c3a7ecbfb62fb54779a2464ac1e15eb4259f31dd4a5791ffc10a1a59b084e1b3", func := "loop.example/g00778/laws.FnExactTickSched", spec := "fnExactTickSched", unfollowed := true, recurses := true, apart := false }
def FnExactTickSchedSaid : Prop := fnExactTickSchedRow.holds Try.pinned (OpenSpec.ofChange fnExactTickSchedSpec)

/-- ITS FALSE NEIGHBOUR: 'it returns false'. Refute it at one input. -/
def fnExactTickSchedWrong : ChangeSpec := { name := "fnExactTickSched", fn := fun _ => fun
  | [d1, d2] => { results := [.lit (.bool false)], args := [d1, d2] }
  | _ => none }
def FnExactTickSchedWrongFalsely : Prop := fnExactTickSchedRow.holds Try.pinned (OpenSpec.ofChange fnExactTickSchedWrong)

/-- 'laws.FnExactPlaySched': WHATEVER THE INPUT: true; the input reads as it did. -/
def fnExactPlaySchedSpec : ChangeSpec := { name := "fnExactPlaySched", fn := fun _ => fun
  | [d1, d2, d3] => { results := [.lit (.bool true)], args := [d1, d2, d3] }
  | _ => none }
def fnExactPlaySchedRow : OpenClaim := { program := "ytcihopgmgpmadaa", sum := "c3a7ecbfb62fb54779a2464ac1e15eb4259f31dd4a5791ffc10a1a59b084e1b3", func := "loop.example/g00778/laws.FnExactPlaySched", spec := "fnExactPlaySched", unfollowed := true, recurses := true, apart := false }
def FnExactPlaySchedSaid : Prop := fnExactPlaySchedRow.holds Try.pinned (OpenSpec.ofChange fnExactPlaySchedSpec)

/-- ITS FALSE NEIGHBOUR: 'it returns false'. Refute it at one input. -/
def fnExactPlaySchedWrong : ChangeSpec := { name := "fnExactPlaySched", fn := fun _ => fun
  | [d1, d2, d3] => { results := [.lit (.bool false)], args := [d1, d2, d3] }
  | _ => none }
def FnExactPlaySchedWrongFalsely : Prop := fnExactPlaySchedRow.holds Try.pinned (OpenSpec.ofChange fnExactPlaySchedWrong)

/-- 'laws.FnExactSplitBatch': WHATEVER THE INPUT: true; the input reads as it did. -/
def fnExactSplitBatchSpec : ChangeSpec := { name := "fnExactSplitBatch", fn := fun _ => fun
  | [d] => { results := [.lit (.bool true)], args := [d] }
  | _ => none }
def fnExactSplitBatchRow : OpenClaim := { program := "ytcihopgmgpmadaa", sum := "c3a7ecbfb62fb54779a2464ac1e15eb4259f31dd4a5791ffc10a1a59b084e1b3", func := "loop.example/g00778/laws.FnExactSplitBatch", spec := "fnExactSplitBatch", unfollowed := true, recurses := true, apart := false }
def FnExactSplitBatchSaid : Prop := fnExactSplitBatchRow.holds Try.pinned (OpenSpec.ofChange fnExactSplitBatchSpec)

/-- ITS FALSE NEIGHBOUR: 'it returns false'. Refute it at one input. -/
def fnExactSplitBatchWrong : ChangeSpec := { name := "fnExactSplitBatch", fn := fun _ => fun
  | [d] => { results := [.lit (.bool false)], args := [d] }
  | _ => none }
def FnExactSplitBatchWrongFalsely : Prop := fnExactSplitBatchRow.holds Try.pinned (OpenSpec.ofChange fnExactSplitBatchWrong)

/-- 'laws.FnExactGroupWishes': WHATEVER THE INPUT: true; the input reads as it did. -/
def fnExactGroupWishesSpec : ChangeSpec := { name := "fnExactGroupWishes", fn := fun _ => fun
  | [d1, d2] => { results := [.lit (.bool true)], args := [d1, d2] }
  | _ => none }
def fnExactGroupWishesRow : OpenClaim := { program := "ytcihopgmgpmadaa", sum := "c3a7ecbfb62fb54779a2464ac1e15eb4259f31dd4a5791ffc10a1a59b084e1b3", func := "loop.example/g00778/laws.FnExactGroupWishes", spec := "fnExactGroupWishes", unfollowed := true, recurses := true, apart := false }
def FnExactGroupWishesSaid : Prop := fnExactGroupWishesRow.holds Try.pinned (OpenSpec.ofChange fnExactGroupWishesSpec)

/-- ITS FALSE NEIGHBOUR: 'it returns false'. Refute it at one input. -/
def fnExactGroupWishesWrong : ChangeSpec := { name := "fnExactGroupWishes", fn := fun _ => fun
  | [d1, d2] => { results := [.lit (.bool false)], args := [d1, d2] }
  | _ => none }
def FnExactGroupWishesWrongFalsely : Prop := fnExactGroupWishesRow.holds Try.pinned (OpenSpec.ofChange fnExactGroupWishesWrong)

/-- 'laws.FnExactOrderByDue': WHATEVER THE INPUT: true; the input reads as it did. -/
def fnExactOrderByDueSpec : ChangeSpec := { name := "fnExactOrderByDue", fn := fun _ => fun
  | [d] => { results := [.lit (.bool true)], args := [d] }
  | _ => none }
def fnExactOrderByDueRow : OpenClaim := { program := "ytcihopgmgpmadaa", sum := "c3a7ecbfb62fb54779a2464ac1e15eb4259f31dd4a5791ffc10a1a59b084e1b3", func := "loop.example/g00778/laws.FnExactOrderByDue", spec := "fnExactOrderByDue", unfollowed := true, recurses := true, apart := false }
def FnExactOrderByDueSaid : Prop := fnExactOrderByDueRow.holds Try.pinned (OpenSpec.ofChange fnExactOrderByDueSpec)

/-- ITS FALSE NEIGHBOUR: 'it returns false'. Refute it at one input. -/
def fnExactOrderByDueWrong : ChangeSpec := { name := "fnExactOrderByDue", fn := fun _ => fun
  | [d] => { results := [.lit (.bool false)], args := [d] }
  | _ => none }
def FnExactOrderByDueWrongFalsely : Prop := fnExactOrderByDueRow.holds Try.pinned (OpenSpec.ofChange fnExactOrderByDueWrong)

/-- 'laws.FnAdmits': WHATEVER THE INPUT: true; the input reads as it did. -/
def fnAdmitsSpec : ChangeSpec := { name := "fnAdmits", fn := fun _ => fun
  | [d] => { results := [.lit (.bool true)], args := [d] }
  | _ => none }
def fnAdmitsRow : OpenClaim := { program := "ytcihopgmgpmadaa", sum := "c3a7ecbfb62fb54779a2464ac1e15eb4259f31dd4a5791ffc10a1a59b084e1b3", func := "loop.example/g00778/laws.FnAdmits", spec := "fnAdmits", unfollowed := true, recurses := true, apart := false }
def FnAdmitsSaid : Prop := fnAdmitsRow.holds Try.pinned (OpenSpec.ofChange fnAdmitsSpec)

/-- ITS FALSE NEIGHBOUR: 'it returns false'. Refute it at one input. -/
def fnAdmitsWrong : ChangeSpec := { name := "fnAdmits", fn := fun _ => fun
  | [d] => { results := [.lit (.bool false)], args := [d] }
  | _ => none }
def FnAdmitsWrongFalsely : Prop := fnAdmitsRow.holds Try.pinned (OpenSpec.ofChange fnAdmitsWrong)

/- THE SECOND FORM. 'bulk': how many values and letters a reading holds, each counted each time it is reached (what is shared counts as often as it is met; a slice's spare places count too). A statement '..UptoSaid' is the law's where the arguments, and the package variables that the reading takes, are together of bulk at most 1048576: NARROWER than '..Said'. Prove '..Said' where nothing that the law and all that it calls make is longer than what came in: it says more and counts as full. Else prove '..UptoSaid'. A law counts once. -/
mutual
def uptoBulk {H : Type} : DataW H → Nat
  | .lit (.string bytes) => bytes.length + 1
  | .lit _ => 1
  | .nil => 1
  | .ptr d => uptoBulk d + 1
  | .slice elems spare => uptoBulkAll elems + uptoBulkAll spare + 1
  | .agg parts => uptoBulkAll parts + 1
  | .iface _ d => uptoBulk d + 1
  | .map entries => uptoBulkEntries entries + 1
  | .held _ => 1
def uptoBulkAll {H : Type} : List (DataW H) → Nat
  | [] => 0
  | d :: r => uptoBulk d + uptoBulkAll r
def uptoBulkEntries {H : Type} : List (Lit × DataW H) → Nat
  | [] => 0
  | x :: r => uptoBulkEntry x + uptoBulkEntries r
def uptoBulkEntry {H : Type} : Lit × DataW H → Nat
  | (.string bytes, d) => bytes.length + uptoBulk d + 1
  | (_, d) => uptoBulk d + 1
 end
def uptoSmall : (H : Type) → List (DataW H) → Bool := fun _ ds => decide (uptoBulkAll ds ≤ 1048576)
def OpenSpec.upto (s : _root_.Go.ChangeSpec) : _root_.Go.OpenSpec := { _root_.Go.OpenSpec.ofChange s with cond := some uptoSmall }

/-- 'laws.FnExactTakeStep', WHERE WHAT IT READS IS OF BULK AT MOST 1048576: true; the input reads as it did. -/
def fnExactTakeStepUptoRow : OpenClaim := { program := "ytcihopgmgpmadaa", sum := "c3a7ecbfb62fb54779a2464ac1e15eb4259f31dd4a5791ffc10a1a59b084e1b3", func := "loop.example/g00778/laws.FnExactTakeStep", spec := "fnExactTakeStep", apart := false, narrowed := true }
def FnExactTakeStepUptoSaid : Prop := fnExactTakeStepUptoRow.holds Try.pinned (OpenSpec.upto fnExactTakeStepSpec)

/-- 'laws.FnExactReadTrace', WHERE WHAT IT READS IS OF BULK AT MOST 1048576: true; the input reads as it did. -/
def fnExactReadTraceUptoRow : OpenClaim := { program := "ytcihopgmgpmadaa", sum := "c3a7ecbfb62fb54779a2464ac1e15eb4259f31dd4a5791ffc10a1a59b084e1b3", func := "loop.example/g00778/laws.FnExactReadTrace", spec := "fnExactReadTrace", apart := false, narrowed := true }
def FnExactReadTraceUptoSaid : Prop := fnExactReadTraceUptoRow.holds Try.pinned (OpenSpec.upto fnExactReadTraceSpec)

/-- 'laws.FnExactPutStep', WHERE WHAT IT READS IS OF BULK AT MOST 1048576: true; the input reads as it did. -/
def fnExactPutStepUptoRow : OpenClaim := { program := "ytcihopgmgpmadaa", sum := "c3a7ecbfb62fb54779a2464ac1e15eb4259f31dd4a5791ffc10a1a59b084e1b3", func := "loop.example/g00778/laws.FnExactPutStep", spec := "fnExactPutStep", unfollowed := true, recurses := true, apart := false, narrowed := true }
def FnExactPutStepUptoSaid : Prop := fnExactPutStepUptoRow.holds Try.pinned (OpenSpec.upto fnExactPutStepSpec)

/-- 'laws.FnExactTraceOf', WHERE WHAT IT READS IS OF BULK AT MOST 1048576: true; the input reads as it did. -/
def fnExactTraceOfUptoRow : OpenClaim := { program := "ytcihopgmgpmadaa", sum := "c3a7ecbfb62fb54779a2464ac1e15eb4259f31dd4a5791ffc10a1a59b084e1b3", func := "loop.example/g00778/laws.FnExactTraceOf", spec := "fnExactTraceOf", unfollowed := true, recurses := true, apart := false, narrowed := true }
def FnExactTraceOfUptoSaid : Prop := fnExactTraceOfUptoRow.holds Try.pinned (OpenSpec.upto fnExactTraceOfSpec)

/-- 'laws.FnExactAdmit', WHERE WHAT IT READS IS OF BULK AT MOST 1048576: true; the input reads as it did. -/
def fnExactAdmitUptoRow : OpenClaim := { program := "ytcihopgmgpmadaa", sum := "c3a7ecbfb62fb54779a2464ac1e15eb4259f31dd4a5791ffc10a1a59b084e1b3", func := "loop.example/g00778/laws.FnExactAdmit", spec := "fnExactAdmit", unfollowed := true, recurses := true, apart := false, narrowed := true }
def FnExactAdmitUptoSaid : Prop := fnExactAdmitUptoRow.holds Try.pinned (OpenSpec.upto fnExactAdmitSpec)

/-- 'laws.FnExactCancelTask', WHERE WHAT IT READS IS OF BULK AT MOST 1048576: true; the input reads as it did. -/
def fnExactCancelTaskUptoRow : OpenClaim := { program := "ytcihopgmgpmadaa", sum := "c3a7ecbfb62fb54779a2464ac1e15eb4259f31dd4a5791ffc10a1a59b084e1b3", func := "loop.example/g00778/laws.FnExactCancelTask", spec := "fnExactCancelTask", unfollowed := true, recurses := true, apart := false, narrowed := true }
def FnExactCancelTaskUptoSaid : Prop := fnExactCancelTaskUptoRow.holds Try.pinned (OpenSpec.upto fnExactCancelTaskSpec)

/-- 'laws.FnExactTickSched', WHERE WHAT IT READS IS OF BULK AT MOST 1048576: true; the input reads as it did. -/
def fnExactTickSchedUptoRow : OpenClaim := { program := "ytcihopgmgpmadaa", sum := "c3a7ecbfb62fb54779a2464ac1e15eb4259f31dd4a5791ffc10a1a59b084e1b3", func := "loop.example/g00778/laws.FnExactTickSched", spec := "fnExactTickSched", unfollowed := true, recurses := true, apart := false, narrowed := true }
def FnExactTickSchedUptoSaid : Prop := fnExactTickSchedUptoRow.holds Try.pinned (OpenSpec.upto fnExactTickSchedSpec)

/-- 'laws.FnExactPlaySched', WHERE WHAT IT READS IS OF BULK AT MOST 1048576: true; the input reads as it did. -/
def fnExactPlaySchedUptoRow : OpenClaim := { program := "ytcihopgmgpmadaa", sum := "c3a7ecbfb62fb54779a2464ac1e15eb4259f31dd4a5791ffc10a1a59b084e1b3", func := "loop.example/g00778/laws.FnExactPlaySched", spec := "fnExactPlaySched", unfollowed := true, recurses := true, apart := false, narrowed := true }
def FnExactPlaySchedUptoSaid : Prop := fnExactPlaySchedUptoRow.holds Try.pinned (OpenSpec.upto fnExactPlaySchedSpec)

/-- 'laws.FnExactSplitBatch', WHERE WHAT IT READS IS OF BULK AT MOST 1048576: true; the input reads as it did. -/
def fnExactSplitBatchUptoRow : OpenClaim := { program := "ytcihopgmgpmadaa", sum := "c3a7ecbfb62fb54779a2464ac1e15eb4259f31dd4a5791ffc10a1a59b084e1b3", func := "loop.example/g00778/laws.FnExactSplitBatch", spec := "fnExactSplitBatch", unfollowed := true, recurses := true, apart := false, narrowed := true }
def FnExactSplitBatchUptoSaid : Prop := fnExactSplitBatchUptoRow.holds Try.pinned (OpenSpec.upto fnExactSplitBatchSpec)

/-- 'laws.FnExactGroupWishes', WHERE WHAT IT READS IS OF BULK AT MOST 1048576: true; the input reads as it did. -/
def fnExactGroupWishesUptoRow : OpenClaim := { program := "ytcihopgmgpmadaa", sum := "c3a7ecbfb62fb54779a2464ac1e15eb4259f31dd4a5791ffc10a1a59b084e1b3", func := "loop.example/g00778/laws.FnExactGroupWishes", spec := "fnExactGroupWishes", unfollowed := true, recurses := true, apart := false, narrowed := true }
def FnExactGroupWishesUptoSaid : Prop := fnExactGroupWishesUptoRow.holds Try.pinned (OpenSpec.upto fnExactGroupWishesSpec)

/-- 'laws.FnExactOrderByDue', WHERE WHAT IT READS IS OF BULK AT MOST 1048576: true; the input reads as it did. -/
def fnExactOrderByDueUptoRow : OpenClaim := { program := "ytcihopgmgpmadaa", sum := "c3a7ecbfb62fb54779a2464ac1e15eb4259f31dd4a5791ffc10a1a59b084e1b3", func := "loop.example/g00778/laws.FnExactOrderByDue", spec := "fnExactOrderByDue", unfollowed := true, recurses := true, apart := false, narrowed := true }
def FnExactOrderByDueUptoSaid : Prop := fnExactOrderByDueUptoRow.holds Try.pinned (OpenSpec.upto fnExactOrderByDueSpec)

/-- 'laws.FnAdmits', WHERE WHAT IT READS IS OF BULK AT MOST 1048576: true; the input reads as it did. -/
def fnAdmitsUptoRow : OpenClaim := { program := "ytcihopgmgpmadaa", sum := "c3a7ecbfb62fb54779a2464ac1e15eb4259f31dd4a5791ffc10a1a59b084e1b3", func := "loop.example/g00778/laws.FnAdmits", spec := "fnAdmits", unfollowed := true, recurses := true, apart := false, narrowed := true }
def FnAdmitsUptoSaid : Prop := fnAdmitsUptoRow.holds Try.pinned (OpenSpec.upto fnAdmitsSpec)

end Rows
end Go.Proofs.Ytcihopgmgpmadaa
