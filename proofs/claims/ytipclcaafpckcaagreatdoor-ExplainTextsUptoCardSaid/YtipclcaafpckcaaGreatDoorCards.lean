/-
  DERIVED. GIVEN WITH THE SEED: THE CARDS: each row of YtipclcaafpckcaaGreatDoorRows.lean that lists a variable, with what it lists TIED to the program's text (the seventh form; the later family's looks); each row that meets fmt, with fmt's text TOLD by the authors' own Lean function (tested against real Go, not proved from fmt's source: count such statements apart). THE CARD IS WHAT COUNTS. Prove the row's statement (the work); the ties are given (YtipclcaafpckcaaGreatDoorTie.lean); close each card by the builder's one call (the guide's Derived/Test/ToyasCard.lean, 'card_holds'). Laid BY PROGRAM, IN A SANDBOX (cutbox-door.mjs). By AI agents, Wed Nov 11 2026. No macro, syntax, notation, axiom, sorry.
-/
import Derived.Test.YtipclcaafpckcaaGreatDoorRows
import GoSem.ClaimSeven
namespace Go.Proofs.YtipclcaafpckcaaGreatDoor
namespace Rows

/-- THE TIED CARD OF 'fedchatlaw60.ExplainTexts'. -/
def explainTextsCard : Claim7 := { stood := { row := explainTextsRow, standIns := [], harness := (true, "2623185df0e3742630a47394958b76d133bbe396b5a46448133b2892622d68ce"), looks := true }, kinds := [], alts := [], laidByText := true, laidKinds := [.data, .pinned], laidTests := true, laidLooks := .later }
def ExplainTextsCardSaid : Prop := Claim7.holds Tryz.pinned (.plain (OpenSpec.ofChange explainTextsSpec)) explainTextsCard

/-- THE TIED CARD OF 'fedchatlaw60.ExplainParses'. -/
def explainParsesCard : Claim7 := { stood := { row := explainParsesRow, standIns := [], harness := (true, "2623185df0e3742630a47394958b76d133bbe396b5a46448133b2892622d68ce"), looks := true }, kinds := [], alts := [], laidByText := true, laidKinds := [.data, .pinned], laidTests := true, laidLooks := .later }
def ExplainParsesCardSaid : Prop := Claim7.holds Tryz.pinned (.plain (OpenSpec.ofChange explainParsesSpec)) explainParsesCard

/-- THE SECOND FORM's CARD OF 'fedchatlaw60.ExplainTexts'. -/
def explainTextsUptoCard : Claim7 := { stood := { row := explainTextsUptoRow, standIns := [], harness := (true, "2623185df0e3742630a47394958b76d133bbe396b5a46448133b2892622d68ce"), looks := true }, kinds := [], alts := [], laidByText := true, laidKinds := [.data, .pinned], laidTests := true, laidLooks := .later }
def ExplainTextsUptoCardSaid : Prop := Claim7.holds Tryz.pinned (.plain (OpenSpec.upto explainTextsSpec)) explainTextsUptoCard

/-- THE SECOND FORM's CARD OF 'fedchatlaw60.ExplainParses'. -/
def explainParsesUptoCard : Claim7 := { stood := { row := explainParsesUptoRow, standIns := [], harness := (true, "2623185df0e3742630a47394958b76d133bbe396b5a46448133b2892622d68ce"), looks := true }, kinds := [], alts := [], laidByText := true, laidKinds := [.data, .pinned], laidTests := true, laidLooks := .later }
def ExplainParsesUptoCardSaid : Prop := Claim7.holds Tryz.pinned (.plain (OpenSpec.upto explainParsesSpec)) explainParsesUptoCard
end Rows
end Go.Proofs.YtipclcaafpckcaaGreatDoor
