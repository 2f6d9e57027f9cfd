/-
  DERIVED. GIVEN WITH THE SEED: THE CARDS: each row of YtkjdnpefjebmlaaGreatDoorRows.lean that lists a variable, with what it lists TIED to the program's text (the seventh form; the later family's looks); each row that meets fmt, with fmt's text TOLD by the authors' own Lean function (tested against real Go, not proved from fmt's source: count such statements apart). THE CARD IS WHAT COUNTS. Prove the row's statement (the work); the ties are given (YtkjdnpefjebmlaaGreatDoorTie.lean); close each card by the builder's one call (the guide's Derived/Test/ToyasCard.lean, 'card_holds'). Laid BY PROGRAM, IN A SANDBOX (cutbox-door.mjs). By AI agents, Wed Nov 11 2026. No macro, syntax, notation, axiom, sorry.
-/
import Derived.Test.YtkjdnpefjebmlaaGreatDoorRows
import GoSem.ClaimSeven
namespace Go.Proofs.YtkjdnpefjebmlaaGreatDoor
namespace Rows

/-- THE TIED CARD OF 'laws.FnExactReplaySame'. -/
def fnExactReplaySameCard : Claim7 := { stood := { row := fnExactReplaySameRow, standIns := [], harness := (true, "6398ec6cc1ea80a84995f950e885290e583c95f40244563c7a37d68783bbc706"), looks := false }, kinds := [], alts := [], laidByText := true, laidKinds := [.data, .data, .data], laidTests := true, laidLooks := .later }
def FnExactReplaySameCardSaid : Prop := Claim7.holds Tryz.pinned (.plain (OpenSpec.ofChange fnExactReplaySameSpec)) fnExactReplaySameCard

/-- THE TIED CARD OF 'laws.FnTraces'. -/
def fnTracesCard : Claim7 := { stood := { row := fnTracesRow, standIns := [], harness := (true, "6398ec6cc1ea80a84995f950e885290e583c95f40244563c7a37d68783bbc706"), looks := false }, kinds := [], alts := [], laidByText := true, laidKinds := [.data, .data, .data], laidTests := true, laidLooks := .later }
def FnTracesCardSaid : Prop := Claim7.holds Tryz.pinned (.plain (OpenSpec.ofChange fnTracesSpec)) fnTracesCard

/-- THE TIED CARD OF 'laws.FnReplays'. -/
def fnReplaysCard : Claim7 := { stood := { row := fnReplaysRow, standIns := [], harness := (true, "6398ec6cc1ea80a84995f950e885290e583c95f40244563c7a37d68783bbc706"), looks := false }, kinds := [], alts := [], laidByText := true, laidKinds := [.data, .data, .data], laidTests := true, laidLooks := .later }
def FnReplaysCardSaid : Prop := Claim7.holds Tryz.pinned (.plain (OpenSpec.ofChange fnReplaysSpec)) fnReplaysCard

/-- THE SECOND FORM's CARD OF 'laws.FnExactReplaySame'. -/
def fnExactReplaySameUptoCard : Claim7 := { stood := { row := fnExactReplaySameUptoRow, standIns := [], harness := (true, "6398ec6cc1ea80a84995f950e885290e583c95f40244563c7a37d68783bbc706"), looks := false }, kinds := [], alts := [], laidByText := true, laidKinds := [.data, .data, .data], laidTests := true, laidLooks := .later }
def FnExactReplaySameUptoCardSaid : Prop := Claim7.holds Tryz.pinned (.plain (OpenSpec.upto fnExactReplaySameSpec)) fnExactReplaySameUptoCard

/-- THE SECOND FORM's CARD OF 'laws.FnTraces'. -/
def fnTracesUptoCard : Claim7 := { stood := { row := fnTracesUptoRow, standIns := [], harness := (true, "6398ec6cc1ea80a84995f950e885290e583c95f40244563c7a37d68783bbc706"), looks := false }, kinds := [], alts := [], laidByText := true, laidKinds := [.data, .data, .data], laidTests := true, laidLooks := .later }
def FnTracesUptoCardSaid : Prop := Claim7.holds Tryz.pinned (.plain (OpenSpec.upto fnTracesSpec)) fnTracesUptoCard

/-- THE SECOND FORM's CARD OF 'laws.FnReplays'. -/
def fnReplaysUptoCard : Claim7 := { stood := { row := fnReplaysUptoRow, standIns := [], harness := (true, "6398ec6cc1ea80a84995f950e885290e583c95f40244563c7a37d68783bbc706"), looks := false }, kinds := [], alts := [], laidByText := true, laidKinds := [.data, .data, .data], laidTests := true, laidLooks := .later }
def FnReplaysUptoCardSaid : Prop := Claim7.holds Tryz.pinned (.plain (OpenSpec.upto fnReplaysSpec)) fnReplaysUptoCard
end Rows
end Go.Proofs.YtkjdnpefjebmlaaGreatDoor
