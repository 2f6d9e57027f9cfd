/-
  No cell of these rows narrows 'for every input' (looked for: loops, veiled, ifaces, maps, wideKeys, modest, calm, conditions, laid).
  DERIVED. THE GIVEN ROWS OF THIS SEAT. 11 by the template 'for every input the law returns true; each argument reads behind the call as it read before'; 0 by the template 'total and deterministic' (their statements: YthaamopjdieecaaTotals.lean).
  GIVEN WITH THE SEED: the statements are not yours to turn. If you find one false, say at which input.
  Laid BY PROGRAM, IN A SANDBOX (cutbox-rows.mjs): the forced cells as the released guide's own fill.sh prints them over the translation fd29248dfb476b99… (all of the seat's roots in one cut). By AI agents, Wed Nov 11 2026. No macro, syntax, notation, axiom, sorry.
-/
import Derived.Test.YthaamopjdieecaaChecked
import GoSem.Claim
import GoSem.ClaimJoined
import GoSem.ClaimMapViews
import Derived.JoinedTies
import Derived.KernelRfl
namespace Go.Proofs.Ythaamopjdieecaa
/- THE CELL 'sum', in the pinned program and in every row, IS THE sha256 OF THE DUMP (.gsa) THAT YthaamopjdieecaaProg.lean LOADS. Nothing in Lean hashes anything: it is a label: what it is worth is what the hold of that sum in a sandbox is worth. -/
noncomputable def Try.pinned : Pinned := { name := "ythaamopjdieecaa", sum := "fd29248dfb476b99b567a7aeddc5e275454c3bcf77acf293d4b2a52f9c4971b6", checked := Try.checked }
namespace Rows
def none {H : Type} : Left H := { results := [], args := [] }

/-- 'laws.FnExactPutStep': WHATEVER THE INPUT: true; the input reads as it did. -/
def fnExactPutStepSpec : ChangeSpec := { name := "fnExactPutStep", fn := fun _ => fun
  | [d] => { results := [.lit (.bool true)], args := [d] }
  | _ => none }
def fnExactPutStepRow : OpenClaim := { program := "ythaamopjdieecaa", sum := "fd29248dfb476b99b567a7aeddc5e275454c3bcf77acf293d4b2a52f9c4971b6", func := "loop.example/g00778/laws.FnExactPutStep", spec := "fnExactPutStep", unfollowed := true, recurses := true, apart := false }
def FnExactPutStepSaid : Prop := fnExactPutStepRow.holds Try.pinned (OpenSpec.ofChange fnExactPutStepSpec)

/-- ITS FALSE NEIGHBOUR: 'it returns false'. Refute it at one input. -/
def fnExactPutStepWrong : ChangeSpec := { name := "fnExactPutStep", fn := fun _ => fun
  | [d] => { results := [.lit (.bool false)], args := [d] }
  | _ => none }
def FnExactPutStepWrongFalsely : Prop := fnExactPutStepRow.holds Try.pinned (OpenSpec.ofChange fnExactPutStepWrong)

/-- 'laws.FnExactTraceOf': WHATEVER THE INPUT: true; the input reads as it did. -/
def fnExactTraceOfSpec : ChangeSpec := { name := "fnExactTraceOf", fn := fun _ => fun
  | [d] => { results := [.lit (.bool true)], args := [d] }
  | _ => none }
def fnExactTraceOfRow : OpenClaim := { program := "ythaamopjdieecaa", sum := "fd29248dfb476b99b567a7aeddc5e275454c3bcf77acf293d4b2a52f9c4971b6", func := "loop.example/g00778/laws.FnExactTraceOf", spec := "fnExactTraceOf", unfollowed := true, recurses := true, apart := false }
def FnExactTraceOfSaid : Prop := fnExactTraceOfRow.holds Try.pinned (OpenSpec.ofChange fnExactTraceOfSpec)

/-- ITS FALSE NEIGHBOUR: 'it returns false'. Refute it at one input. -/
def fnExactTraceOfWrong : ChangeSpec := { name := "fnExactTraceOf", fn := fun _ => fun
  | [d] => { results := [.lit (.bool false)], args := [d] }
  | _ => none }
def FnExactTraceOfWrongFalsely : Prop := fnExactTraceOfRow.holds Try.pinned (OpenSpec.ofChange fnExactTraceOfWrong)

/-- 'laws.FnAdmits': WHATEVER THE INPUT: true; the input reads as it did. -/
def fnAdmitsSpec : ChangeSpec := { name := "fnAdmits", fn := fun _ => fun
  | [d] => { results := [.lit (.bool true)], args := [d] }
  | _ => none }
def fnAdmitsRow : OpenClaim := { program := "ythaamopjdieecaa", sum := "fd29248dfb476b99b567a7aeddc5e275454c3bcf77acf293d4b2a52f9c4971b6", func := "loop.example/g00778/laws.FnAdmits", spec := "fnAdmits", unfollowed := true, recurses := true, apart := false }
def FnAdmitsSaid : Prop := fnAdmitsRow.holds Try.pinned (OpenSpec.ofChange fnAdmitsSpec)

/-- ITS FALSE NEIGHBOUR: 'it returns false'. Refute it at one input. -/
def fnAdmitsWrong : ChangeSpec := { name := "fnAdmits", fn := fun _ => fun
  | [d] => { results := [.lit (.bool false)], args := [d] }
  | _ => none }
def FnAdmitsWrongFalsely : Prop := fnAdmitsRow.holds Try.pinned (OpenSpec.ofChange fnAdmitsWrong)

/-- 'laws.FnScheds': WHATEVER THE INPUT: true; the input reads as it did. -/
def fnSchedsSpec : ChangeSpec := { name := "fnScheds", fn := fun _ => fun
  | [d] => { results := [.lit (.bool true)], args := [d] }
  | _ => none }
def fnSchedsRow : OpenClaim := { program := "ythaamopjdieecaa", sum := "fd29248dfb476b99b567a7aeddc5e275454c3bcf77acf293d4b2a52f9c4971b6", func := "loop.example/g00778/laws.FnScheds", spec := "fnScheds", unfollowed := true, recurses := true, apart := false }
def FnSchedsSaid : Prop := fnSchedsRow.holds Try.pinned (OpenSpec.ofChange fnSchedsSpec)

/-- ITS FALSE NEIGHBOUR: 'it returns false'. Refute it at one input. -/
def fnSchedsWrong : ChangeSpec := { name := "fnScheds", fn := fun _ => fun
  | [d] => { results := [.lit (.bool false)], args := [d] }
  | _ => none }
def FnSchedsWrongFalsely : Prop := fnSchedsRow.holds Try.pinned (OpenSpec.ofChange fnSchedsWrong)

/-- 'laws.FnFits': WHATEVER THE INPUT: true; the input reads as it did. -/
def fnFitsSpec : ChangeSpec := { name := "fnFits", fn := fun _ => fun
  | [d] => { results := [.lit (.bool true)], args := [d] }
  | _ => none }
def fnFitsRow : OpenClaim := { program := "ythaamopjdieecaa", sum := "fd29248dfb476b99b567a7aeddc5e275454c3bcf77acf293d4b2a52f9c4971b6", func := "loop.example/g00778/laws.FnFits", spec := "fnFits", unfollowed := true, recurses := true, apart := false }
def FnFitsSaid : Prop := fnFitsRow.holds Try.pinned (OpenSpec.ofChange fnFitsSpec)

/-- ITS FALSE NEIGHBOUR: 'it returns false'. Refute it at one input. -/
def fnFitsWrong : ChangeSpec := { name := "fnFits", fn := fun _ => fun
  | [d] => { results := [.lit (.bool false)], args := [d] }
  | _ => none }
def FnFitsWrongFalsely : Prop := fnFitsRow.holds Try.pinned (OpenSpec.ofChange fnFitsWrong)

/-- 'laws.FnExactJoinModels': WHATEVER THE INPUT: true; the input reads as it did. -/
def fnExactJoinModelsSpec : ChangeSpec := { name := "fnExactJoinModels", fn := fun _ => fun
  | [d1, d2] => { results := [.lit (.bool true)], args := [d1, d2] }
  | _ => none }
def fnExactJoinModelsRow : OpenClaim := { program := "ythaamopjdieecaa", sum := "fd29248dfb476b99b567a7aeddc5e275454c3bcf77acf293d4b2a52f9c4971b6", func := "loop.example/g00778/laws.FnExactJoinModels", spec := "fnExactJoinModels", unfollowed := true, recurses := true, apart := false }
def FnExactJoinModelsSaid : Prop := fnExactJoinModelsRow.holds Try.pinned (OpenSpec.ofChange fnExactJoinModelsSpec)

/-- ITS FALSE NEIGHBOUR: 'it returns false'. Refute it at one input. -/
def fnExactJoinModelsWrong : ChangeSpec := { name := "fnExactJoinModels", fn := fun _ => fun
  | [d1, d2] => { results := [.lit (.bool false)], args := [d1, d2] }
  | _ => none }
def FnExactJoinModelsWrongFalsely : Prop := fnExactJoinModelsRow.holds Try.pinned (OpenSpec.ofChange fnExactJoinModelsWrong)

/-- 'laws.FnExactSplitBatch': WHATEVER THE INPUT: true; the input reads as it did. -/
def fnExactSplitBatchSpec : ChangeSpec := { name := "fnExactSplitBatch", fn := fun _ => fun
  | [d] => { results := [.lit (.bool true)], args := [d] }
  | _ => none }
def fnExactSplitBatchRow : OpenClaim := { program := "ythaamopjdieecaa", sum := "fd29248dfb476b99b567a7aeddc5e275454c3bcf77acf293d4b2a52f9c4971b6", func := "loop.example/g00778/laws.FnExactSplitBatch", spec := "fnExactSplitBatch", unfollowed := true, recurses := true, apart := false }
def FnExactSplitBatchSaid : Prop := fnExactSplitBatchRow.holds Try.pinned (OpenSpec.ofChange fnExactSplitBatchSpec)

/-- ITS FALSE NEIGHBOUR: 'it returns false'. Refute it at one input. -/
def fnExactSplitBatchWrong : ChangeSpec := { name := "fnExactSplitBatch", fn := fun _ => fun
  | [d] => { results := [.lit (.bool false)], args := [d] }
  | _ => none }
def FnExactSplitBatchWrongFalsely : Prop := fnExactSplitBatchRow.holds Try.pinned (OpenSpec.ofChange fnExactSplitBatchWrong)

/-- 'laws.FnExactOrderByDue': WHATEVER THE INPUT: true; the input reads as it did. -/
def fnExactOrderByDueSpec : ChangeSpec := { name := "fnExactOrderByDue", fn := fun _ => fun
  | [d] => { results := [.lit (.bool true)], args := [d] }
  | _ => none }
def fnExactOrderByDueRow : OpenClaim := { program := "ythaamopjdieecaa", sum := "fd29248dfb476b99b567a7aeddc5e275454c3bcf77acf293d4b2a52f9c4971b6", func := "loop.example/g00778/laws.FnExactOrderByDue", spec := "fnExactOrderByDue", unfollowed := true, recurses := true, apart := false }
def FnExactOrderByDueSaid : Prop := fnExactOrderByDueRow.holds Try.pinned (OpenSpec.ofChange fnExactOrderByDueSpec)

/-- ITS FALSE NEIGHBOUR: 'it returns false'. Refute it at one input. -/
def fnExactOrderByDueWrong : ChangeSpec := { name := "fnExactOrderByDue", fn := fun _ => fun
  | [d] => { results := [.lit (.bool false)], args := [d] }
  | _ => none }
def FnExactOrderByDueWrongFalsely : Prop := fnExactOrderByDueRow.holds Try.pinned (OpenSpec.ofChange fnExactOrderByDueWrong)

/-- 'laws.FnExactGroupWishes': WHATEVER THE INPUT: true; the input reads as it did. -/
def fnExactGroupWishesSpec : ChangeSpec := { name := "fnExactGroupWishes", fn := fun _ => fun
  | [d1, d2] => { results := [.lit (.bool true)], args := [d1, d2] }
  | _ => none }
def fnExactGroupWishesRow : OpenClaim := { program := "ythaamopjdieecaa", sum := "fd29248dfb476b99b567a7aeddc5e275454c3bcf77acf293d4b2a52f9c4971b6", func := "loop.example/g00778/laws.FnExactGroupWishes", spec := "fnExactGroupWishes", unfollowed := true, recurses := true, apart := false }
def FnExactGroupWishesSaid : Prop := fnExactGroupWishesRow.holds Try.pinned (OpenSpec.ofChange fnExactGroupWishesSpec)

/-- ITS FALSE NEIGHBOUR: 'it returns false'. Refute it at one input. -/
def fnExactGroupWishesWrong : ChangeSpec := { name := "fnExactGroupWishes", fn := fun _ => fun
  | [d1, d2] => { results := [.lit (.bool false)], args := [d1, d2] }
  | _ => none }
def FnExactGroupWishesWrongFalsely : Prop := fnExactGroupWishesRow.holds Try.pinned (OpenSpec.ofChange fnExactGroupWishesWrong)

/-- 'laws.FnGroups': WHATEVER THE INPUT: true; the input reads as it did. -/
def fnGroupsSpec : ChangeSpec := { name := "fnGroups", fn := fun _ => fun
  | [d] => { results := [.lit (.bool true)], args := [d] }
  | _ => none }
def fnGroupsRow : OpenClaim := { program := "ythaamopjdieecaa", sum := "fd29248dfb476b99b567a7aeddc5e275454c3bcf77acf293d4b2a52f9c4971b6", func := "loop.example/g00778/laws.FnGroups", spec := "fnGroups", unfollowed := true, recurses := true, apart := false }
def FnGroupsSaid : Prop := fnGroupsRow.holds Try.pinned (OpenSpec.ofChange fnGroupsSpec)

/-- ITS FALSE NEIGHBOUR: 'it returns false'. Refute it at one input. -/
def fnGroupsWrong : ChangeSpec := { name := "fnGroups", fn := fun _ => fun
  | [d] => { results := [.lit (.bool false)], args := [d] }
  | _ => none }
def FnGroupsWrongFalsely : Prop := fnGroupsRow.holds Try.pinned (OpenSpec.ofChange fnGroupsWrong)

/-- 'laws.FnModels': WHATEVER THE INPUT: true; the input reads as it did. -/
def fnModelsSpec : ChangeSpec := { name := "fnModels", fn := fun _ => fun
  | [d] => { results := [.lit (.bool true)], args := [d] }
  | _ => none }
def fnModelsRow : OpenClaim := { program := "ythaamopjdieecaa", sum := "fd29248dfb476b99b567a7aeddc5e275454c3bcf77acf293d4b2a52f9c4971b6", func := "loop.example/g00778/laws.FnModels", spec := "fnModels", unfollowed := true, recurses := true, apart := false }
def FnModelsSaid : Prop := fnModelsRow.holds Try.pinned (OpenSpec.ofChange fnModelsSpec)

/-- ITS FALSE NEIGHBOUR: 'it returns false'. Refute it at one input. -/
def fnModelsWrong : ChangeSpec := { name := "fnModels", fn := fun _ => fun
  | [d] => { results := [.lit (.bool false)], args := [d] }
  | _ => none }
def FnModelsWrongFalsely : Prop := fnModelsRow.holds Try.pinned (OpenSpec.ofChange fnModelsWrong)

/- THE SECOND FORM. 'bulk': how many values and letters a reading holds, each counted each time it is reached (what is shared counts as often as it is met; a slice's spare places count too). A statement '..UptoSaid' is the law's where the arguments, and the package variables that the reading takes, are together of bulk at most 1048576: NARROWER than '..Said'. Prove '..Said' where nothing that the law and all that it calls make is longer than what came in: it says more and counts as full. Else prove '..UptoSaid'. A law counts once. -/
mutual
def uptoBulk {H : Type} : DataW H → Nat
  | .lit (.string bytes) => bytes.length + 1
  | .lit _ => 1
  | .nil => 1
  | .ptr d => uptoBulk d + 1
  | .slice elems spare => uptoBulkAll elems + uptoBulkAll spare + 1
  | .agg parts => uptoBulkAll parts + 1
  | .iface _ d => uptoBulk d + 1
  | .map entries => uptoBulkEntries entries + 1
  | .held _ => 1
def uptoBulkAll {H : Type} : List (DataW H) → Nat
  | [] => 0
  | d :: r => uptoBulk d + uptoBulkAll r
def uptoBulkEntries {H : Type} : List (Lit × DataW H) → Nat
  | [] => 0
  | x :: r => uptoBulkEntry x + uptoBulkEntries r
def uptoBulkEntry {H : Type} : Lit × DataW H → Nat
  | (.string bytes, d) => bytes.length + uptoBulk d + 1
  | (_, d) => uptoBulk d + 1
 end
def uptoSmall : (H : Type) → List (DataW H) → Bool := fun _ ds => decide (uptoBulkAll ds ≤ 1048576)
def OpenSpec.upto (s : _root_.Go.ChangeSpec) : _root_.Go.OpenSpec := { _root_.Go.OpenSpec.ofChange s with cond := some uptoSmall }

/-- 'laws.FnExactPutStep', WHERE WHAT IT READS IS OF BULK AT MOST 1048576: true; the input reads as it did. -/
def fnExactPutStepUptoRow : OpenClaim := { program := "ythaamopjdieecaa", sum := "fd29248dfb476b99b567a7aeddc5e275454c3bcf77acf293d4b2a52f9c4971b6", func := "loop.example/g00778/laws.FnExactPutStep", spec := "fnExactPutStep", unfollowed := true, recurses := true, apart := false, narrowed := true }
def FnExactPutStepUptoSaid : Prop := fnExactPutStepUptoRow.holds Try.pinned (OpenSpec.upto fnExactPutStepSpec)

/-- 'laws.FnExactTraceOf', WHERE WHAT IT READS IS OF BULK AT MOST 1048576: true; the input reads as it did. -/
def fnExactTraceOfUptoRow : OpenClaim := { program := "ythaamopjdieecaa", sum := "fd29248dfb476b99b567a7aeddc5e275454c3bcf77acf293d4b2a52f9c4971b6", func := "loop.example/g00778/laws.FnExactTraceOf", spec := "fnExactTraceOf", unfollowed := true, recurses := true, apart := false, narrowed := true }
def FnExactTraceOfUptoSaid : Prop := fnExactTraceOfUptoRow.holds Try.pinned (OpenSpec.upto fnExactTraceOfSpec)

/-- 'laws.FnAdmits', WHERE WHAT IT READS IS OF BULK AT MOST 1048576: true; the input reads as it did. -/
def fnAdmitsUptoRow : OpenClaim := { program := "ythaamopjdieecaa", sum := "fd29248dfb476b99b567a7aeddc5e275454c3bcf77acf293d4b2a52f9c4971b6", func := "loop.example/g00778/laws.FnAdmits", spec := "fnAdmits", unfollowed := true, recurses := true, apart := false, narrowed := true }
def FnAdmitsUptoSaid : Prop := fnAdmitsUptoRow.holds Try.pinned (OpenSpec.upto fnAdmitsSpec)

/-- 'laws.FnScheds', WHERE WHAT IT READS IS OF BULK AT MOST 1048576: true; the input reads as it did. -/
def fnSchedsUptoRow : OpenClaim := { program := "ythaamopjdieecaa", sum := "fd29248dfb476b99b567a7aeddc5e275454c3bcf77acf293d4b2a52f9c4971b6", func := "loop.example/g00778/laws.FnScheds", spec := "fnScheds", unfollowed := true, recurses := true, apart := false, narrowed := true }
def FnSchedsUptoSaid : Prop := fnSchedsUptoRow.holds Try.pinned (OpenSpec.upto fnSchedsSpec)

/-- 'laws.FnFits', WHERE WHAT IT READS IS OF BULK AT MOST 1048576: true; the input reads as it did. -/
def fnFitsUptoRow : OpenClaim := { program := "ythaamopjdieecaa", sum := "fd29248dfb476b99b567a7aeddc5e275454c3bcf77acf293d4b2a52f9c4971b6", func := "loop.example/g00778/laws.FnFits", spec := "fnFits", unfollowed := true, recurses := true, apart := false, narrowed := true }
def FnFitsUptoSaid : Prop := fnFitsUptoRow.holds Try.pinned (OpenSpec.upto fnFitsSpec)

/-- 'laws.FnExactJoinModels', WHERE WHAT IT READS IS OF BULK AT MOST 1048576: true; the input reads as it did. -/
def fnExactJoinModelsUptoRow : OpenClaim := { program := "ythaamopjdieecaa", sum := "fd29248dfb476b99b567a7aeddc5e275454c3bcf77acf293d4b2a52f9c4971b6", func := "loop.example/g00778/laws.FnExactJoinModels", spec := "fnExactJoinModels", unfollowed := true, recurses := true, apart := false, narrowed := true }
def FnExactJoinModelsUptoSaid : Prop := fnExactJoinModelsUptoRow.holds Try.pinned (OpenSpec.upto fnExactJoinModelsSpec)

/-- 'laws.FnExactSplitBatch', WHERE WHAT IT READS IS OF BULK AT MOST 1048576: true; the input reads as it did. -/
def fnExactSplitBatchUptoRow : OpenClaim := { program := "ythaamopjdieecaa", sum := "fd29248dfb476b99b567a7aeddc5e275454c3bcf77acf293d4b2a52f9c4971b6", func := "loop.example/g00778/laws.FnExactSplitBatch", spec := "fnExactSplitBatch", unfollowed := true, recurses := true, apart := false, narrowed := true }
def FnExactSplitBatchUptoSaid : Prop := fnExactSplitBatchUptoRow.holds Try.pinned (OpenSpec.upto fnExactSplitBatchSpec)

/-- 'laws.FnExactOrderByDue', WHERE WHAT IT READS IS OF BULK AT MOST 1048576: true; the input reads as it did. -/
def fnExactOrderByDueUptoRow : OpenClaim := { program := "ythaamopjdieecaa", sum := "fd29248dfb476b99b567a7aeddc5e275454c3bcf77acf293d4b2a52f9c4971b6", func := "loop.example/g00778/laws.FnExactOrderByDue", spec := "fnExactOrderByDue", unfollowed := true, recurses := true, apart := false, narrowed := true }
def FnExactOrderByDueUptoSaid : Prop := fnExactOrderByDueUptoRow.holds Try.pinned (OpenSpec.upto fnExactOrderByDueSpec)

/-- 'laws.FnExactGroupWishes', WHERE WHAT IT READS IS OF BULK AT MOST 1048576: true; the input reads as it did. -/
def fnExactGroupWishesUptoRow : OpenClaim := { program := "ythaamopjdieecaa", sum := "fd29248dfb476b99b567a7aeddc5e275454c3bcf77acf293d4b2a52f9c4971b6", func := "loop.example/g00778/laws.FnExactGroupWishes", spec := "fnExactGroupWishes", unfollowed := true, recurses := true, apart := false, narrowed := true }
def FnExactGroupWishesUptoSaid : Prop := fnExactGroupWishesUptoRow.holds Try.pinned (OpenSpec.upto fnExactGroupWishesSpec)

/-- 'laws.FnGroups', WHERE WHAT IT READS IS OF BULK AT MOST 1048576: true; the input reads as it did. -/
def fnGroupsUptoRow : OpenClaim := { program := "ythaamopjdieecaa", sum := "fd29248dfb476b99b567a7aeddc5e275454c3bcf77acf293d4b2a52f9c4971b6", func := "loop.example/g00778/laws.FnGroups", spec := "fnGroups", unfollowed := true, recurses := true, apart := false, narrowed := true }
def FnGroupsUptoSaid : Prop := fnGroupsUptoRow.holds Try.pinned (OpenSpec.upto fnGroupsSpec)

/-- 'laws.FnModels', WHERE WHAT IT READS IS OF BULK AT MOST 1048576: true; the input reads as it did. -/
def fnModelsUptoRow : OpenClaim := { program := "ythaamopjdieecaa", sum := "fd29248dfb476b99b567a7aeddc5e275454c3bcf77acf293d4b2a52f9c4971b6", func := "loop.example/g00778/laws.FnModels", spec := "fnModels", unfollowed := true, recurses := true, apart := false, narrowed := true }
def FnModelsUptoSaid : Prop := fnModelsUptoRow.holds Try.pinned (OpenSpec.upto fnModelsSpec)

end Rows
end Go.Proofs.Ythaamopjdieecaa
