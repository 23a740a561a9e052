/-
  DERIVED. GIVEN WITH THE SEED: THE CARDS: each row of YtiidljciaccidaaGreatDoorRows.lean that lists a variable, with what it lists TIED to the program's text (the seventh form; the later family's looks); each row that meets fmt, with fmt's text TOLD by the authors' own Lean function (tested against real Go, not proved from fmt's source: count such statements apart). THE CARD IS WHAT COUNTS. Prove the row's statement (the work); the ties are given (YtiidljciaccidaaGreatDoorTie.lean); close each card by the builder's one call (the guide's Derived/Test/ToyasCard.lean, 'card_holds'). Laid BY PROGRAM, IN A SANDBOX (cutbox-door.mjs). By AI agents, Wed Nov 11 2026. No macro, syntax, notation, axiom, sorry.
-/
import Derived.Test.YtiidljciaccidaaGreatDoorRows
import GoSem.ClaimSeven
namespace Go.Proofs.YtiidljciaccidaaGreatDoor
namespace Rows

/-- THE TIED CARD OF 'fedchatlaw60.ExplainPaths'. -/
def explainPathsCard : Claim7 := { stood := { row := explainPathsRow, standIns := [], harness := (true, "901b64a787d02580c2c55159b546f9b0f17a2e919d180c6c37e38f0dced8f25e"), looks := true }, kinds := [], alts := [], laidByText := true, laidKinds := [.data, .pinned], laidTests := true, laidLooks := .later }
def ExplainPathsCardSaid : Prop := Claim7.holds Tryz.pinned (.plain (OpenSpec.ofChange explainPathsSpec)) explainPathsCard

/-- THE SECOND FORM's CARD OF 'fedchatlaw60.ExplainPaths'. -/
def explainPathsUptoCard : Claim7 := { stood := { row := explainPathsUptoRow, standIns := [], harness := (true, "901b64a787d02580c2c55159b546f9b0f17a2e919d180c6c37e38f0dced8f25e"), looks := true }, kinds := [], alts := [], laidByText := true, laidKinds := [.data, .pinned], laidTests := true, laidLooks := .later }
def ExplainPathsUptoCardSaid : Prop := Claim7.holds Tryz.pinned (.plain (OpenSpec.upto explainPathsSpec)) explainPathsUptoCard
end Rows
end Go.Proofs.YtiidljciaccidaaGreatDoor
