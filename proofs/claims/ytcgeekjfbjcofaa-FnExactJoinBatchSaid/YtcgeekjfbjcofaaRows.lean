/-
  No cell of these rows narrows 'for every input' (looked for: loops, veiled, ifaces, maps, wideKeys, modest, calm, conditions, laid).
  DERIVED. THE GIVEN ROWS OF THIS SEAT. 6 by the template 'for every input the law returns true; each argument reads behind the call as it read before'; 0 by the template 'total and deterministic' (their statements: YtcgeekjfbjcofaaTotals.lean).
  GIVEN WITH THE SEED: the statements are not yours to turn. If you find one false, say at which input.
  Laid BY PROGRAM, IN A SANDBOX (cutbox-rows.mjs): the forced cells as the released guide's own fill.sh prints them over the translation 91596e3026216e00… (all of the seat's roots in one cut). By AI agents, Wed Nov 11 2026. No macro, syntax, notation, axiom, sorry.
-/
import Derived.Test.YtcgeekjfbjcofaaChecked
import GoSem.Claim
import GoSem.ClaimJoined
import GoSem.ClaimMapViews
import Derived.JoinedTies
import Derived.KernelRfl
namespace Go.Proofs.Ytcgeekjfbjcofaa
/- THE CELL 'sum', in the pinned program and in every row, IS THE sha256 OF THE DUMP (.gsa) THAT YtcgeekjfbjcofaaProg.lean LOADS. Nothing in Lean hashes anything: it is a label: what it is worth is what the hold of that sum in a sandbox is worth. -/
noncomputable def Try.pinned : Pinned := { name := "ytcgeekjfbjcofaa", sum := "91596e3026216e004e86cdf616393c8d1244ba549f4f7a761994493b507af4a5", checked := Try.checked }
namespace Rows
def none {H : Type} : Left H := { results := [], args := [] }

/-- 'laws.FnExactReshape': WHATEVER THE INPUT: true; the input reads as it did. -/
def fnExactReshapeSpec : ChangeSpec := { name := "fnExactReshape", fn := fun _ => fun
  | [d1, d2] => { results := [.lit (.bool true)], args := [d1, d2] }
  | _ => none }
def fnExactReshapeRow : OpenClaim := { program := "ytcgeekjfbjcofaa", sum := "91596e3026216e004e86cdf616393c8d1244ba549f4f7a761994493b507af4a5", func := "loop.example/g00778/laws.FnExactReshape", spec := "fnExactReshape", unfollowed := true, recurses := true, apart := false }
def FnExactReshapeSaid : Prop := fnExactReshapeRow.holds Try.pinned (OpenSpec.ofChange fnExactReshapeSpec)

/-- ITS FALSE NEIGHBOUR: 'it returns false'. Refute it at one input. -/
def fnExactReshapeWrong : ChangeSpec := { name := "fnExactReshape", fn := fun _ => fun
  | [d1, d2] => { results := [.lit (.bool false)], args := [d1, d2] }
  | _ => none }
def FnExactReshapeWrongFalsely : Prop := fnExactReshapeRow.holds Try.pinned (OpenSpec.ofChange fnExactReshapeWrong)

/-- 'laws.FnExactSameStep': WHATEVER THE INPUT: true; the input reads as it did. -/
def fnExactSameStepSpec : ChangeSpec := { name := "fnExactSameStep", fn := fun _ => fun
  | [d1, d2] => { results := [.lit (.bool true)], args := [d1, d2] }
  | _ => none }
def fnExactSameStepRow : OpenClaim := { program := "ytcgeekjfbjcofaa", sum := "91596e3026216e004e86cdf616393c8d1244ba549f4f7a761994493b507af4a5", func := "loop.example/g00778/laws.FnExactSameStep", spec := "fnExactSameStep", apart := false }
def FnExactSameStepSaid : Prop := fnExactSameStepRow.holds Try.pinned (OpenSpec.ofChange fnExactSameStepSpec)

/-- ITS FALSE NEIGHBOUR: 'it returns false'. Refute it at one input. -/
def fnExactSameStepWrong : ChangeSpec := { name := "fnExactSameStep", fn := fun _ => fun
  | [d1, d2] => { results := [.lit (.bool false)], args := [d1, d2] }
  | _ => none }
def FnExactSameStepWrongFalsely : Prop := fnExactSameStepRow.holds Try.pinned (OpenSpec.ofChange fnExactSameStepWrong)

/-- 'laws.FnExactFlatOf': WHATEVER THE INPUT: true; the input reads as it did. -/
def fnExactFlatOfSpec : ChangeSpec := { name := "fnExactFlatOf", fn := fun _ => fun
  | [d] => { results := [.lit (.bool true)], args := [d] }
  | _ => none }
def fnExactFlatOfRow : OpenClaim := { program := "ytcgeekjfbjcofaa", sum := "91596e3026216e004e86cdf616393c8d1244ba549f4f7a761994493b507af4a5", func := "loop.example/g00778/laws.FnExactFlatOf", spec := "fnExactFlatOf", unfollowed := true, recurses := true, apart := false }
def FnExactFlatOfSaid : Prop := fnExactFlatOfRow.holds Try.pinned (OpenSpec.ofChange fnExactFlatOfSpec)

/-- ITS FALSE NEIGHBOUR: 'it returns false'. Refute it at one input. -/
def fnExactFlatOfWrong : ChangeSpec := { name := "fnExactFlatOf", fn := fun _ => fun
  | [d] => { results := [.lit (.bool false)], args := [d] }
  | _ => none }
def FnExactFlatOfWrongFalsely : Prop := fnExactFlatOfRow.holds Try.pinned (OpenSpec.ofChange fnExactFlatOfWrong)

/-- 'laws.FnExactJoinBatch': WHATEVER THE INPUT: true; the input reads as it did. -/
def fnExactJoinBatchSpec : ChangeSpec := { name := "fnExactJoinBatch", fn := fun _ => fun
  | [d] => { results := [.lit (.bool true)], args := [d] }
  | _ => none }
def fnExactJoinBatchRow : OpenClaim := { program := "ytcgeekjfbjcofaa", sum := "91596e3026216e004e86cdf616393c8d1244ba549f4f7a761994493b507af4a5", func := "loop.example/g00778/laws.FnExactJoinBatch", spec := "fnExactJoinBatch", unfollowed := true, recurses := true, apart := false }
def FnExactJoinBatchSaid : Prop := fnExactJoinBatchRow.holds Try.pinned (OpenSpec.ofChange fnExactJoinBatchSpec)

/-- ITS FALSE NEIGHBOUR: 'it returns false'. Refute it at one input. -/
def fnExactJoinBatchWrong : ChangeSpec := { name := "fnExactJoinBatch", fn := fun _ => fun
  | [d] => { results := [.lit (.bool false)], args := [d] }
  | _ => none }
def FnExactJoinBatchWrongFalsely : Prop := fnExactJoinBatchRow.holds Try.pinned (OpenSpec.ofChange fnExactJoinBatchWrong)

/-- 'laws.FnExactOrderByDue': WHATEVER THE INPUT: true; the input reads as it did. -/
def fnExactOrderByDueSpec : ChangeSpec := { name := "fnExactOrderByDue", fn := fun _ => fun
  | [d] => { results := [.lit (.bool true)], args := [d] }
  | _ => none }
def fnExactOrderByDueRow : OpenClaim := { program := "ytcgeekjfbjcofaa", sum := "91596e3026216e004e86cdf616393c8d1244ba549f4f7a761994493b507af4a5", func := "loop.example/g00778/laws.FnExactOrderByDue", spec := "fnExactOrderByDue", unfollowed := true, recurses := true, apart := false }
def FnExactOrderByDueSaid : Prop := fnExactOrderByDueRow.holds Try.pinned (OpenSpec.ofChange fnExactOrderByDueSpec)

/-- ITS FALSE NEIGHBOUR: 'it returns false'. Refute it at one input. -/
def fnExactOrderByDueWrong : ChangeSpec := { name := "fnExactOrderByDue", fn := fun _ => fun
  | [d] => { results := [.lit (.bool false)], args := [d] }
  | _ => none }
def FnExactOrderByDueWrongFalsely : Prop := fnExactOrderByDueRow.holds Try.pinned (OpenSpec.ofChange fnExactOrderByDueWrong)

/-- 'laws.FnExactFirstOther': WHATEVER THE INPUT: true; the input reads as it did. -/
def fnExactFirstOtherSpec : ChangeSpec := { name := "fnExactFirstOther", fn := fun _ => fun
  | [d1, d2] => { results := [.lit (.bool true)], args := [d1, d2] }
  | _ => none }
def fnExactFirstOtherRow : OpenClaim := { program := "ytcgeekjfbjcofaa", sum := "91596e3026216e004e86cdf616393c8d1244ba549f4f7a761994493b507af4a5", func := "loop.example/g00778/laws.FnExactFirstOther", spec := "fnExactFirstOther", apart := false }
def FnExactFirstOtherSaid : Prop := fnExactFirstOtherRow.holds Try.pinned (OpenSpec.ofChange fnExactFirstOtherSpec)

/-- ITS FALSE NEIGHBOUR: 'it returns false'. Refute it at one input. -/
def fnExactFirstOtherWrong : ChangeSpec := { name := "fnExactFirstOther", fn := fun _ => fun
  | [d1, d2] => { results := [.lit (.bool false)], args := [d1, d2] }
  | _ => none }
def FnExactFirstOtherWrongFalsely : Prop := fnExactFirstOtherRow.holds Try.pinned (OpenSpec.ofChange fnExactFirstOtherWrong)

/- THE SECOND FORM. 'bulk': how many values and letters a reading holds, each counted each time it is reached (what is shared counts as often as it is met; a slice's spare places count too). A statement '..UptoSaid' is the law's where the arguments, and the package variables that the reading takes, are together of bulk at most 1048576: NARROWER than '..Said'. Prove '..Said' where nothing that the law and all that it calls make is longer than what came in: it says more and counts as full. Else prove '..UptoSaid'. A law counts once. -/
mutual
def uptoBulk {H : Type} : DataW H → Nat
  | .lit (.string bytes) => bytes.length + 1
  | .lit _ => 1
  | .nil => 1
  | .ptr d => uptoBulk d + 1
  | .slice elems spare => uptoBulkAll elems + uptoBulkAll spare + 1
  | .agg parts => uptoBulkAll parts + 1
  | .iface _ d => uptoBulk d + 1
  | .map entries => uptoBulkEntries entries + 1
  | .held _ => 1
def uptoBulkAll {H : Type} : List (DataW H) → Nat
  | [] => 0
  | d :: r => uptoBulk d + uptoBulkAll r
def uptoBulkEntries {H : Type} : List (Lit × DataW H) → Nat
  | [] => 0
  | x :: r => uptoBulkEntry x + uptoBulkEntries r
def uptoBulkEntry {H : Type} : Lit × DataW H → Nat
  | (.string bytes, d) => bytes.length + uptoBulk d + 1
  | (_, d) => uptoBulk d + 1
 end
def uptoSmall : (H : Type) → List (DataW H) → Bool := fun _ ds => decide (uptoBulkAll ds ≤ 1048576)
def OpenSpec.upto (s : _root_.Go.ChangeSpec) : _root_.Go.OpenSpec := { _root_.Go.OpenSpec.ofChange s with cond := some uptoSmall }

/-- 'laws.FnExactReshape', WHERE WHAT IT READS IS OF BULK AT MOST 1048576: true; the input reads as it did. -/
def fnExactReshapeUptoRow : OpenClaim := { program := "ytcgeekjfbjcofaa", sum := "91596e3026216e004e86cdf616393c8d1244ba549f4f7a761994493b507af4a5", func := "loop.example/g00778/laws.FnExactReshape", spec := "fnExactReshape", unfollowed := true, recurses := true, apart := false, narrowed := true }
def FnExactReshapeUptoSaid : Prop := fnExactReshapeUptoRow.holds Try.pinned (OpenSpec.upto fnExactReshapeSpec)

/-- 'laws.FnExactSameStep', WHERE WHAT IT READS IS OF BULK AT MOST 1048576: true; the input reads as it did. -/
def fnExactSameStepUptoRow : OpenClaim := { program := "ytcgeekjfbjcofaa", sum := "91596e3026216e004e86cdf616393c8d1244ba549f4f7a761994493b507af4a5", func := "loop.example/g00778/laws.FnExactSameStep", spec := "fnExactSameStep", apart := false, narrowed := true }
def FnExactSameStepUptoSaid : Prop := fnExactSameStepUptoRow.holds Try.pinned (OpenSpec.upto fnExactSameStepSpec)

/-- 'laws.FnExactFlatOf', WHERE WHAT IT READS IS OF BULK AT MOST 1048576: true; the input reads as it did. -/
def fnExactFlatOfUptoRow : OpenClaim := { program := "ytcgeekjfbjcofaa", sum := "91596e3026216e004e86cdf616393c8d1244ba549f4f7a761994493b507af4a5", func := "loop.example/g00778/laws.FnExactFlatOf", spec := "fnExactFlatOf", unfollowed := true, recurses := true, apart := false, narrowed := true }
def FnExactFlatOfUptoSaid : Prop := fnExactFlatOfUptoRow.holds Try.pinned (OpenSpec.upto fnExactFlatOfSpec)

/-- 'laws.FnExactJoinBatch', WHERE WHAT IT READS IS OF BULK AT MOST 1048576: true; the input reads as it did. -/
def fnExactJoinBatchUptoRow : OpenClaim := { program := "ytcgeekjfbjcofaa", sum := "91596e3026216e004e86cdf616393c8d1244ba549f4f7a761994493b507af4a5", func := "loop.example/g00778/laws.FnExactJoinBatch", spec := "fnExactJoinBatch", unfollowed := true, recurses := true, apart := false, narrowed := true }
def FnExactJoinBatchUptoSaid : Prop := fnExactJoinBatchUptoRow.holds Try.pinned (OpenSpec.upto fnExactJoinBatchSpec)

/-- 'laws.FnExactOrderByDue', WHERE WHAT IT READS IS OF BULK AT MOST 1048576: true; the input reads as it did. -/
def fnExactOrderByDueUptoRow : OpenClaim := { program := "ytcgeekjfbjcofaa", sum := "91596e3026216e004e86cdf616393c8d1244ba549f4f7a761994493b507af4a5", func := "loop.example/g00778/laws.FnExactOrderByDue", spec := "fnExactOrderByDue", unfollowed := true, recurses := true, apart := false, narrowed := true }
def FnExactOrderByDueUptoSaid : Prop := fnExactOrderByDueUptoRow.holds Try.pinned (OpenSpec.upto fnExactOrderByDueSpec)

/-- 'laws.FnExactFirstOther', WHERE WHAT IT READS IS OF BULK AT MOST 1048576: true; the input reads as it did. -/
def fnExactFirstOtherUptoRow : OpenClaim := { program := "ytcgeekjfbjcofaa", sum := "91596e3026216e004e86cdf616393c8d1244ba549f4f7a761994493b507af4a5", func := "loop.example/g00778/laws.FnExactFirstOther", spec := "fnExactFirstOther", apart := false, narrowed := true }
def FnExactFirstOtherUptoSaid : Prop := fnExactFirstOtherUptoRow.holds Try.pinned (OpenSpec.upto fnExactFirstOtherSpec)

end Rows
end Go.Proofs.Ytcgeekjfbjcofaa
