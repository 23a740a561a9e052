/-
  DERIVED. GIVEN WITH THE SEED: THE CARDS: each row of YtacjhbbieeliaaaGreatDoorRows.lean that lists a variable, with what it lists TIED to the program's text (the seventh form; the later family's looks); each row that meets fmt, with fmt's text TOLD by the authors' own Lean function (tested against real Go, not proved from fmt's source: count such statements apart). THE CARD IS WHAT COUNTS. Prove the row's statement (the work); the ties are given (YtacjhbbieeliaaaGreatDoorTie.lean); close each card by the builder's one call (the guide's Derived/Test/ToyasCard.lean, 'card_holds'). Laid BY PROGRAM, IN A SANDBOX (cutbox-door.mjs). By AI agents, Wed Nov 11 2026. No macro, syntax, notation, axiom, sorry.
-/
import Derived.Test.YtacjhbbieeliaaaGreatDoorRows
import GoSem.ClaimSeven
namespace Go.Proofs.YtacjhbbieeliaaaGreatDoor
namespace Rows

/-- THE TIED CARD OF 'fedchatlaw60.ExplainAllows'. -/
def explainAllowsCard : Claim7 := { stood := { row := explainAllowsRow, standIns := [], harness := (true, "1ccb00613660ee0af1f7496b490c62d3ac25632e9fd83dd3d33ca3f5842677a7"), looks := true }, kinds := [], alts := [], laidByText := true, laidKinds := [.data, .pinned], laidTests := true, laidLooks := .later }
def ExplainAllowsCardSaid : Prop := Claim7.holds Tryz.pinned (.plain (OpenSpec.ofChange explainAllowsSpec)) explainAllowsCard

/-- THE TIED CARD OF 'fedchatlaw60.ExplainRules'. -/
def explainRulesCard : Claim7 := { stood := { row := explainRulesRow, standIns := [], harness := (true, "1ccb00613660ee0af1f7496b490c62d3ac25632e9fd83dd3d33ca3f5842677a7"), looks := true }, kinds := [], alts := [], laidByText := true, laidKinds := [.data, .pinned], laidTests := true, laidLooks := .later }
def ExplainRulesCardSaid : Prop := Claim7.holds Tryz.pinned (.plain (OpenSpec.ofChange explainRulesSpec)) explainRulesCard

/-- THE SECOND FORM's CARD OF 'fedchatlaw60.ExplainAllows'. -/
def explainAllowsUptoCard : Claim7 := { stood := { row := explainAllowsUptoRow, standIns := [], harness := (true, "1ccb00613660ee0af1f7496b490c62d3ac25632e9fd83dd3d33ca3f5842677a7"), looks := true }, kinds := [], alts := [], laidByText := true, laidKinds := [.data, .pinned], laidTests := true, laidLooks := .later }
def ExplainAllowsUptoCardSaid : Prop := Claim7.holds Tryz.pinned (.plain (OpenSpec.upto explainAllowsSpec)) explainAllowsUptoCard

/-- THE SECOND FORM's CARD OF 'fedchatlaw60.ExplainRules'. -/
def explainRulesUptoCard : Claim7 := { stood := { row := explainRulesUptoRow, standIns := [], harness := (true, "1ccb00613660ee0af1f7496b490c62d3ac25632e9fd83dd3d33ca3f5842677a7"), looks := true }, kinds := [], alts := [], laidByText := true, laidKinds := [.data, .pinned], laidTests := true, laidLooks := .later }
def ExplainRulesUptoCardSaid : Prop := Claim7.holds Tryz.pinned (.plain (OpenSpec.upto explainRulesSpec)) explainRulesUptoCard
end Rows
end Go.Proofs.YtacjhbbieeliaaaGreatDoor
