/-
  No cell of these rows narrows 'for every input' (looked for: loops, veiled, ifaces, maps, wideKeys, modest, calm, conditions, laid).
  DERIVED. THE GIVEN ROWS OF THIS SEAT. 8 by the template 'for every input the law returns true; each argument reads behind the call as it read before'; 0 by the template 'total and deterministic' (their statements: YtjfcdjhkfhhieaaTotals.lean).
  GIVEN WITH THE SEED: the statements are not yours to turn. If you find one false, say at which input.
  Laid BY PROGRAM, IN A SANDBOX (cutbox-rows.mjs): the forced cells as the released guide's own fill.sh prints them over the translation 8865d7b7b862b3f4… (all of the seat's roots in one cut). By AI agents, Wed Nov 11 2026. No macro, syntax, notation, axiom, sorry.
-/
import Derived.Test.YtjfcdjhkfhhieaaChecked
import GoSem.Claim
import GoSem.ClaimJoined
import GoSem.ClaimMapViews
import Derived.JoinedTies
import Derived.KernelRfl
namespace Go.Proofs.Ytjfcdjhkfhhieaa
/- THE CELL 'sum', in the pinned program and in every row, IS THE sha256 OF THE DUMP (.gsa) THAT YtjfcdjhkfhhieaaProg.lean LOADS. Nothing in Lean hashes anything: it is a label: what it is worth is what the hold of that sum in a sandbox is worth. -/
noncomputable def Try.pinned : Pinned := { name := "ytjfcdjhkfhhieaa", sum := "8865d7b7b862b3f49b8f9e765b6ae13e3778c08b05179d985d6ef3f57569994b", checked := Try.checked }
namespace Rows
def none {H : Type} : Left H := { results := [], args := [] }

/-- 'laws.FnExactAdmit': WHATEVER THE INPUT: true; the input reads as it did. -/
def fnExactAdmitSpec : ChangeSpec := { name := "fnExactAdmit", fn := fun _ => fun
  | [d1, d2, d3] => { results := [.lit (.bool true)], args := [d1, d2, d3] }
  | _ => none }
def fnExactAdmitRow : OpenClaim := { program := "ytjfcdjhkfhhieaa", sum := "8865d7b7b862b3f49b8f9e765b6ae13e3778c08b05179d985d6ef3f57569994b", func := "loop.example/g00778/laws.FnExactAdmit", spec := "fnExactAdmit", unfollowed := true, recurses := true, apart := false }
def FnExactAdmitSaid : Prop := fnExactAdmitRow.holds Try.pinned (OpenSpec.ofChange fnExactAdmitSpec)

/-- ITS FALSE NEIGHBOUR: 'it returns false'. Refute it at one input. -/
def fnExactAdmitWrong : ChangeSpec := { name := "fnExactAdmit", fn := fun _ => fun
  | [d1, d2, d3] => { results := [.lit (.bool false)], args := [d1, d2, d3] }
  | _ => none }
def FnExactAdmitWrongFalsely : Prop := fnExactAdmitRow.holds Try.pinned (OpenSpec.ofChange fnExactAdmitWrong)

/-- 'laws.FnExactSavedBy': WHATEVER THE INPUT: true; the input reads as it did. -/
def fnExactSavedBySpec : ChangeSpec := { name := "fnExactSavedBy", fn := fun _ => fun
  | [d1, d2] => { results := [.lit (.bool true)], args := [d1, d2] }
  | _ => none }
def fnExactSavedByRow : OpenClaim := { program := "ytjfcdjhkfhhieaa", sum := "8865d7b7b862b3f49b8f9e765b6ae13e3778c08b05179d985d6ef3f57569994b", func := "loop.example/g00778/laws.FnExactSavedBy", spec := "fnExactSavedBy", unfollowed := true, recurses := true, apart := false }
def FnExactSavedBySaid : Prop := fnExactSavedByRow.holds Try.pinned (OpenSpec.ofChange fnExactSavedBySpec)

/-- ITS FALSE NEIGHBOUR: 'it returns false'. Refute it at one input. -/
def fnExactSavedByWrong : ChangeSpec := { name := "fnExactSavedBy", fn := fun _ => fun
  | [d1, d2] => { results := [.lit (.bool false)], args := [d1, d2] }
  | _ => none }
def FnExactSavedByWrongFalsely : Prop := fnExactSavedByRow.holds Try.pinned (OpenSpec.ofChange fnExactSavedByWrong)

/-- 'laws.FnExactCutModel': WHATEVER THE INPUT: true; the input reads as it did. -/
def fnExactCutModelSpec : ChangeSpec := { name := "fnExactCutModel", fn := fun _ => fun
  | [d1, d2, d3] => { results := [.lit (.bool true)], args := [d1, d2, d3] }
  | _ => none }
def fnExactCutModelRow : OpenClaim := { program := "ytjfcdjhkfhhieaa", sum := "8865d7b7b862b3f49b8f9e765b6ae13e3778c08b05179d985d6ef3f57569994b", func := "loop.example/g00778/laws.FnExactCutModel", spec := "fnExactCutModel", unfollowed := true, recurses := true, apart := false }
def FnExactCutModelSaid : Prop := fnExactCutModelRow.holds Try.pinned (OpenSpec.ofChange fnExactCutModelSpec)

/-- ITS FALSE NEIGHBOUR: 'it returns false'. Refute it at one input. -/
def fnExactCutModelWrong : ChangeSpec := { name := "fnExactCutModel", fn := fun _ => fun
  | [d1, d2, d3] => { results := [.lit (.bool false)], args := [d1, d2, d3] }
  | _ => none }
def FnExactCutModelWrongFalsely : Prop := fnExactCutModelRow.holds Try.pinned (OpenSpec.ofChange fnExactCutModelWrong)

/-- 'laws.FnExactTickSched': WHATEVER THE INPUT: true; the input reads as it did. -/
def fnExactTickSchedSpec : ChangeSpec := { name := "fnExactTickSched", fn := fun _ => fun
  | [d1, d2] => { results := [.lit (.bool true)], args := [d1, d2] }
  | _ => none }
def fnExactTickSchedRow : OpenClaim := { program := "ytjfcdjhkfhhieaa", sum := "8865d7b7b862b3f49b8f9e765b6ae13e3778c08b05179d985d6ef3f57569994b", func := "loop.example/g00778/laws.FnExactTickSched", spec := "fnExactTickSched", unfollowed := true, recurses := true, apart := false }
def FnExactTickSchedSaid : Prop := fnExactTickSchedRow.holds Try.pinned (OpenSpec.ofChange fnExactTickSchedSpec)

/-- ITS FALSE NEIGHBOUR: 'it returns false'. Refute it at one input. -/
def fnExactTickSchedWrong : ChangeSpec := { name := "fnExactTickSched", fn := fun _ => fun
  | [d1, d2] => { results := [.lit (.bool false)], args := [d1, d2] }
  | _ => none }
def FnExactTickSchedWrongFalsely : Prop := fnExactTickSchedRow.holds Try.pinned (OpenSpec.ofChange fnExactTickSchedWrong)

/-- 'laws.FnExactJoinModels': WHATEVER THE INPUT: true; the input reads as it did. -/
def fnExactJoinModelsSpec : ChangeSpec := { name := "fnExactJoinModels", fn := fun _ => fun
  | [d1, d2] => { results := [.lit (.bool true)], args := [d1, d2] }
  | _ => none }
def fnExactJoinModelsRow : OpenClaim := { program := "ytjfcdjhkfhhieaa", sum := "8865d7b7b862b3f49b8f9e765b6ae13e3778c08b05179d985d6ef3f57569994b", func := "loop.example/g00778/laws.FnExactJoinModels", spec := "fnExactJoinModels", unfollowed := true, recurses := true, apart := false }
def FnExactJoinModelsSaid : Prop := fnExactJoinModelsRow.holds Try.pinned (OpenSpec.ofChange fnExactJoinModelsSpec)

/-- ITS FALSE NEIGHBOUR: 'it returns false'. Refute it at one input. -/
def fnExactJoinModelsWrong : ChangeSpec := { name := "fnExactJoinModels", fn := fun _ => fun
  | [d1, d2] => { results := [.lit (.bool false)], args := [d1, d2] }
  | _ => none }
def FnExactJoinModelsWrongFalsely : Prop := fnExactJoinModelsRow.holds Try.pinned (OpenSpec.ofChange fnExactJoinModelsWrong)

/-- 'laws.FnExactStartJob': WHATEVER THE INPUT: true; the input reads as it did. -/
def fnExactStartJobSpec : ChangeSpec := { name := "fnExactStartJob", fn := fun _ => fun
  | [d1, d2] => { results := [.lit (.bool true)], args := [d1, d2] }
  | _ => none }
def fnExactStartJobRow : OpenClaim := { program := "ytjfcdjhkfhhieaa", sum := "8865d7b7b862b3f49b8f9e765b6ae13e3778c08b05179d985d6ef3f57569994b", func := "loop.example/g00778/laws.FnExactStartJob", spec := "fnExactStartJob", unfollowed := true, recurses := true, apart := false }
def FnExactStartJobSaid : Prop := fnExactStartJobRow.holds Try.pinned (OpenSpec.ofChange fnExactStartJobSpec)

/-- ITS FALSE NEIGHBOUR: 'it returns false'. Refute it at one input. -/
def fnExactStartJobWrong : ChangeSpec := { name := "fnExactStartJob", fn := fun _ => fun
  | [d1, d2] => { results := [.lit (.bool false)], args := [d1, d2] }
  | _ => none }
def FnExactStartJobWrongFalsely : Prop := fnExactStartJobRow.holds Try.pinned (OpenSpec.ofChange fnExactStartJobWrong)

/-- 'laws.FnExactPlaySched': WHATEVER THE INPUT: true; the input reads as it did. -/
def fnExactPlaySchedSpec : ChangeSpec := { name := "fnExactPlaySched", fn := fun _ => fun
  | [d1, d2, d3] => { results := [.lit (.bool true)], args := [d1, d2, d3] }
  | _ => none }
def fnExactPlaySchedRow : OpenClaim := { program := "ytjfcdjhkfhhieaa", sum := "8865d7b7b862b3f49b8f9e765b6ae13e3778c08b05179d985d6ef3f57569994b", func := "loop.example/g00778/laws.FnExactPlaySched", spec := "fnExactPlaySched", unfollowed := true, recurses := true, apart := false }
def FnExactPlaySchedSaid : Prop := fnExactPlaySchedRow.holds Try.pinned (OpenSpec.ofChange fnExactPlaySchedSpec)

/-- ITS FALSE NEIGHBOUR: 'it returns false'. Refute it at one input. -/
def fnExactPlaySchedWrong : ChangeSpec := { name := "fnExactPlaySched", fn := fun _ => fun
  | [d1, d2, d3] => { results := [.lit (.bool false)], args := [d1, d2, d3] }
  | _ => none }
def FnExactPlaySchedWrongFalsely : Prop := fnExactPlaySchedRow.holds Try.pinned (OpenSpec.ofChange fnExactPlaySchedWrong)

/-- 'laws.FnExactEvalBatch': WHATEVER THE INPUT: true; the input reads as it did. -/
def fnExactEvalBatchSpec : ChangeSpec := { name := "fnExactEvalBatch", fn := fun _ => fun
  | [d1, d2] => { results := [.lit (.bool true)], args := [d1, d2] }
  | _ => none }
def fnExactEvalBatchRow : OpenClaim := { program := "ytjfcdjhkfhhieaa", sum := "8865d7b7b862b3f49b8f9e765b6ae13e3778c08b05179d985d6ef3f57569994b", func := "loop.example/g00778/laws.FnExactEvalBatch", spec := "fnExactEvalBatch", unfollowed := true, recurses := true, apart := false }
def FnExactEvalBatchSaid : Prop := fnExactEvalBatchRow.holds Try.pinned (OpenSpec.ofChange fnExactEvalBatchSpec)

/-- ITS FALSE NEIGHBOUR: 'it returns false'. Refute it at one input. -/
def fnExactEvalBatchWrong : ChangeSpec := { name := "fnExactEvalBatch", fn := fun _ => fun
  | [d1, d2] => { results := [.lit (.bool false)], args := [d1, d2] }
  | _ => none }
def FnExactEvalBatchWrongFalsely : Prop := fnExactEvalBatchRow.holds Try.pinned (OpenSpec.ofChange fnExactEvalBatchWrong)

/- THE SECOND FORM. 'bulk': how many values and letters a reading holds, each counted each time it is reached (what is shared counts as often as it is met; a slice's spare places count too). A statement '..UptoSaid' is the law's where the arguments, and the package variables that the reading takes, are together of bulk at most 1048576: NARROWER than '..Said'. Prove '..Said' where nothing that the law and all that it calls make is longer than what came in: it says more and counts as full. Else prove '..UptoSaid'. A law counts once. -/
mutual
def uptoBulk {H : Type} : DataW H → Nat
  | .lit (.string bytes) => bytes.length + 1
  | .lit _ => 1
  | .nil => 1
  | .ptr d => uptoBulk d + 1
  | .slice elems spare => uptoBulkAll elems + uptoBulkAll spare + 1
  | .agg parts => uptoBulkAll parts + 1
  | .iface _ d => uptoBulk d + 1
  | .map entries => uptoBulkEntries entries + 1
  | .held _ => 1
def uptoBulkAll {H : Type} : List (DataW H) → Nat
  | [] => 0
  | d :: r => uptoBulk d + uptoBulkAll r
def uptoBulkEntries {H : Type} : List (Lit × DataW H) → Nat
  | [] => 0
  | x :: r => uptoBulkEntry x + uptoBulkEntries r
def uptoBulkEntry {H : Type} : Lit × DataW H → Nat
  | (.string bytes, d) => bytes.length + uptoBulk d + 1
  | (_, d) => uptoBulk d + 1
 end
def uptoSmall : (H : Type) → List (DataW H) → Bool := fun _ ds => decide (uptoBulkAll ds ≤ 1048576)
def OpenSpec.upto (s : _root_.Go.ChangeSpec) : _root_.Go.OpenSpec := { _root_.Go.OpenSpec.ofChange s with cond := some uptoSmall }

/-- 'laws.FnExactAdmit', WHERE WHAT IT READS IS OF BULK AT MOST 1048576: true; the input reads as it did. -/
def fnExactAdmitUptoRow : OpenClaim := { program := "ytjfcdjhkfhhieaa", sum := "8865d7b7b862b3f49b8f9e765b6ae13e3778c08b05179d985d6ef3f57569994b", func := "loop.example/g00778/laws.FnExactAdmit", spec := "fnExactAdmit", unfollowed := true, recurses := true, apart := false, narrowed := true }
def FnExactAdmitUptoSaid : Prop := fnExactAdmitUptoRow.holds Try.pinned (OpenSpec.upto fnExactAdmitSpec)

/-- 'laws.FnExactSavedBy', WHERE WHAT IT READS IS OF BULK AT MOST 1048576: true; the input reads as it did. -/
def fnExactSavedByUptoRow : OpenClaim := { program := "ytjfcdjhkfhhieaa", sum := "8865d7b7b862b3f49b8f9e765b6ae13e3778c08b05179d985d6ef3f57569994b", func := "loop.example/g00778/laws.FnExactSavedBy", spec := "fnExactSavedBy", unfollowed := true, recurses := true, apart := false, narrowed := true }
def FnExactSavedByUptoSaid : Prop := fnExactSavedByUptoRow.holds Try.pinned (OpenSpec.upto fnExactSavedBySpec)

/-- 'laws.FnExactCutModel', WHERE WHAT IT READS IS OF BULK AT MOST 1048576: true; the input reads as it did. -/
def fnExactCutModelUptoRow : OpenClaim := { program := "ytjfcdjhkfhhieaa", sum := "8865d7b7b862b3f49b8f9e765b6ae13e3778c08b05179d985d6ef3f57569994b", func := "loop.example/g00778/laws.FnExactCutModel", spec := "fnExactCutModel", unfollowed := true, recurses := true, apart := false, narrowed := true }
def FnExactCutModelUptoSaid : Prop := fnExactCutModelUptoRow.holds Try.pinned (OpenSpec.upto fnExactCutModelSpec)

/-- 'laws.FnExactTickSched', WHERE WHAT IT READS IS OF BULK AT MOST 1048576: true; the input reads as it did. -/
def fnExactTickSchedUptoRow : OpenClaim := { program := "ytjfcdjhkfhhieaa", sum := "8865d7b7b862b3f49b8f9e765b6ae13e3778c08b05179d985d6ef3f57569994b", func := "loop.example/g00778/laws.FnExactTickSched", spec := "fnExactTickSched", unfollowed := true, recurses := true, apart := false, narrowed := true }
def FnExactTickSchedUptoSaid : Prop := fnExactTickSchedUptoRow.holds Try.pinned (OpenSpec.upto fnExactTickSchedSpec)

/-- 'laws.FnExactJoinModels', WHERE WHAT IT READS IS OF BULK AT MOST 1048576: true; the input reads as it did. -/
def fnExactJoinModelsUptoRow : OpenClaim := { program := "ytjfcdjhkfhhieaa", sum := "8865d7b7b862b3f49b8f9e765b6ae13e3778c08b05179d985d6ef3f57569994b", func := "loop.example/g00778/laws.FnExactJoinModels", spec := "fnExactJoinModels", unfollowed := true, recurses := true, apart := false, narrowed := true }
def FnExactJoinModelsUptoSaid : Prop := fnExactJoinModelsUptoRow.holds Try.pinned (OpenSpec.upto fnExactJoinModelsSpec)

/-- 'laws.FnExactStartJob', WHERE WHAT IT READS IS OF BULK AT MOST 1048576: true; the input reads as it did. -/
def fnExactStartJobUptoRow : OpenClaim := { program := "ytjfcdjhkfhhieaa", sum := "8865d7b7b862b3f49b8f9e765b6ae13e3778c08b05179d985d6ef3f57569994b", func := "loop.example/g00778/laws.FnExactStartJob", spec := "fnExactStartJob", unfollowed := true, recurses := true, apart := false, narrowed := true }
def FnExactStartJobUptoSaid : Prop := fnExactStartJobUptoRow.holds Try.pinned (OpenSpec.upto fnExactStartJobSpec)

/-- 'laws.FnExactPlaySched', WHERE WHAT IT READS IS OF BULK AT MOST 1048576: true; the input reads as it did. -/
def fnExactPlaySchedUptoRow : OpenClaim := { program := "ytjfcdjhkfhhieaa", sum := "8865d7b7b862b3f49b8f9e765b6ae13e3778c08b05179d985d6ef3f57569994b", func := "loop.example/g00778/laws.FnExactPlaySched", spec := "fnExactPlaySched", unfollowed := true, recurses := true, apart := false, narrowed := true }
def FnExactPlaySchedUptoSaid : Prop := fnExactPlaySchedUptoRow.holds Try.pinned (OpenSpec.upto fnExactPlaySchedSpec)

/-- 'laws.FnExactEvalBatch', WHERE WHAT IT READS IS OF BULK AT MOST 1048576: true; the input reads as it did. -/
def fnExactEvalBatchUptoRow : OpenClaim := { program := "ytjfcdjhkfhhieaa", sum := "8865d7b7b862b3f49b8f9e765b6ae13e3778c08b05179d985d6ef3f57569994b", func := "loop.example/g00778/laws.FnExactEvalBatch", spec := "fnExactEvalBatch", unfollowed := true, recurses := true, apart := false, narrowed := true }
def FnExactEvalBatchUptoSaid : Prop := fnExactEvalBatchUptoRow.holds Try.pinned (OpenSpec.upto fnExactEvalBatchSpec)

end Rows
end Go.Proofs.Ytjfcdjhkfhhieaa
