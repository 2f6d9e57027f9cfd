/-
  DERIVED. GIVEN WITH THE SEED: THE CARDS: each row of YtkjdnpefjebmlaaDoorRows.lean that lists a variable, with what it lists TIED to the program's text (the seventh form; the later family's looks); each row that meets fmt, with fmt's text TOLD by the authors' own Lean function (tested against real Go, not proved from fmt's source: count such statements apart). THE CARD IS WHAT COUNTS. Prove the row's statement (the work); the ties are given (YtkjdnpefjebmlaaDoorTie.lean); close each card by the builder's one call (the guide's Derived/Test/ToyasCard.lean, 'card_holds'). Laid BY PROGRAM, IN A SANDBOX (cutbox-door.mjs). By AI agents, Wed Nov 11 2026. No macro, syntax, notation, axiom, sorry.
-/
import Derived.Test.YtkjdnpefjebmlaaDoorRows
import GoSem.ClaimSeven
namespace Go.Proofs.YtkjdnpefjebmlaaDoor
namespace Rows

/-- THE TIED CARD OF 'laws.FnExactStepText'. -/
def fnExactStepTextCard : Claim7 := { stood := { row := fnExactStepTextRow, standIns := [], harness := (true, "5a71dc8405d71d17d5322807b120358076795286d050cd364b741bbc32a6c5ca"), looks := false }, kinds := [], alts := [], laidByText := true, laidKinds := [.data, .data, .data], laidTests := true, laidLooks := .later }
def FnExactStepTextCardSaid : Prop := Claim7.holds Tryd.pinned (.plain (OpenSpec.ofChange fnExactStepTextSpec)) fnExactStepTextCard

/-- THE SECOND FORM's CARD OF 'laws.FnExactStepText'. -/
def fnExactStepTextUptoCard : Claim7 := { stood := { row := fnExactStepTextUptoRow, standIns := [], harness := (true, "5a71dc8405d71d17d5322807b120358076795286d050cd364b741bbc32a6c5ca"), looks := false }, kinds := [], alts := [], laidByText := true, laidKinds := [.data, .data, .data], laidTests := true, laidLooks := .later }
def FnExactStepTextUptoCardSaid : Prop := Claim7.holds Tryd.pinned (.plain (OpenSpec.upto fnExactStepTextSpec)) fnExactStepTextUptoCard
end Rows
end Go.Proofs.YtkjdnpefjebmlaaDoor
