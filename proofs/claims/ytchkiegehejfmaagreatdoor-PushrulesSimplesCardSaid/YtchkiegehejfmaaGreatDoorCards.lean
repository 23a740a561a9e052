/-
  DERIVED. GIVEN WITH THE SEED: THE CARDS: each row of YtchkiegehejfmaaGreatDoorRows.lean that lists a variable, with what it lists TIED to the program's text (the seventh form; the later family's looks); each row that meets fmt, with fmt's text TOLD by the authors' own Lean function (tested against real Go, not proved from fmt's source: count such statements apart). THE CARD IS WHAT COUNTS. Prove the row's statement (the work); the ties are given (YtchkiegehejfmaaGreatDoorTie.lean); close each card by the builder's one call (the guide's Derived/Test/ToyasCard.lean, 'card_holds'). Laid BY PROGRAM, IN A SANDBOX (cutbox-door.mjs). By AI agents, Wed Nov 11 2026. No macro, syntax, notation, axiom, sorry.
-/
import Derived.Test.YtchkiegehejfmaaGreatDoorRows
import GoSem.ClaimSeven
namespace Go.Proofs.YtchkiegehejfmaaGreatDoor
namespace Rows

/-- THE TIED CARD OF 'fedchatlaw59.PushrulesParses'. -/
def pushrulesParsesCard : Claim7 := { stood := { row := pushrulesParsesRow, standIns := [], harness := (true, "2b9afc7dce780d790be32c0ccd8956ca33a3922e53e74b01722d2f605cc7776b"), looks := true }, kinds := [], alts := [], laidByText := true, laidKinds := [.data, .pinned], laidTests := true, laidLooks := .later }
def PushrulesParsesCardSaid : Prop := Claim7.holds Tryz.pinned (.plain (OpenSpec.ofChange pushrulesParsesSpec)) pushrulesParsesCard

/-- THE TIED CARD OF 'fedchatlaw59.PushrulesPrints'. -/
def pushrulesPrintsCard : Claim7 := { stood := { row := pushrulesPrintsRow, standIns := [], harness := (true, "2b9afc7dce780d790be32c0ccd8956ca33a3922e53e74b01722d2f605cc7776b"), looks := true }, kinds := [], alts := [], laidByText := true, laidKinds := [.data, .pinned], laidTests := true, laidLooks := .later }
def PushrulesPrintsCardSaid : Prop := Claim7.holds Tryz.pinned (.plain (OpenSpec.ofChange pushrulesPrintsSpec)) pushrulesPrintsCard

/-- THE TIED CARD OF 'fedchatlaw59.PushrulesSimples'. -/
def pushrulesSimplesCard : Claim7 := { stood := { row := pushrulesSimplesRow, standIns := [], harness := (true, "2b9afc7dce780d790be32c0ccd8956ca33a3922e53e74b01722d2f605cc7776b"), looks := true }, kinds := [], alts := [], laidByText := true, laidKinds := [.data, .pinned], laidTests := true, laidLooks := .later }
def PushrulesSimplesCardSaid : Prop := Claim7.holds Tryz.pinned (.plain (OpenSpec.ofChange pushrulesSimplesSpec)) pushrulesSimplesCard

/-- THE TIED CARD OF 'fedchatlaw59.PushrulesChecks'. -/
def pushrulesChecksCard : Claim7 := { stood := { row := pushrulesChecksRow, standIns := [], harness := (true, "2b9afc7dce780d790be32c0ccd8956ca33a3922e53e74b01722d2f605cc7776b"), looks := true }, kinds := [], alts := [], laidByText := true, laidKinds := [.data, .pinned], laidTests := true, laidLooks := .later }
def PushrulesChecksCardSaid : Prop := Claim7.holds Tryz.pinned (.plain (OpenSpec.ofChange pushrulesChecksSpec)) pushrulesChecksCard

/-- THE SECOND FORM's CARD OF 'fedchatlaw59.PushrulesParses'. -/
def pushrulesParsesUptoCard : Claim7 := { stood := { row := pushrulesParsesUptoRow, standIns := [], harness := (true, "2b9afc7dce780d790be32c0ccd8956ca33a3922e53e74b01722d2f605cc7776b"), looks := true }, kinds := [], alts := [], laidByText := true, laidKinds := [.data, .pinned], laidTests := true, laidLooks := .later }
def PushrulesParsesUptoCardSaid : Prop := Claim7.holds Tryz.pinned (.plain (OpenSpec.upto pushrulesParsesSpec)) pushrulesParsesUptoCard

/-- THE SECOND FORM's CARD OF 'fedchatlaw59.PushrulesPrints'. -/
def pushrulesPrintsUptoCard : Claim7 := { stood := { row := pushrulesPrintsUptoRow, standIns := [], harness := (true, "2b9afc7dce780d790be32c0ccd8956ca33a3922e53e74b01722d2f605cc7776b"), looks := true }, kinds := [], alts := [], laidByText := true, laidKinds := [.data, .pinned], laidTests := true, laidLooks := .later }
def PushrulesPrintsUptoCardSaid : Prop := Claim7.holds Tryz.pinned (.plain (OpenSpec.upto pushrulesPrintsSpec)) pushrulesPrintsUptoCard

/-- THE SECOND FORM's CARD OF 'fedchatlaw59.PushrulesSimples'. -/
def pushrulesSimplesUptoCard : Claim7 := { stood := { row := pushrulesSimplesUptoRow, standIns := [], harness := (true, "2b9afc7dce780d790be32c0ccd8956ca33a3922e53e74b01722d2f605cc7776b"), looks := true }, kinds := [], alts := [], laidByText := true, laidKinds := [.data, .pinned], laidTests := true, laidLooks := .later }
def PushrulesSimplesUptoCardSaid : Prop := Claim7.holds Tryz.pinned (.plain (OpenSpec.upto pushrulesSimplesSpec)) pushrulesSimplesUptoCard

/-- THE SECOND FORM's CARD OF 'fedchatlaw59.PushrulesChecks'. -/
def pushrulesChecksUptoCard : Claim7 := { stood := { row := pushrulesChecksUptoRow, standIns := [], harness := (true, "2b9afc7dce780d790be32c0ccd8956ca33a3922e53e74b01722d2f605cc7776b"), looks := true }, kinds := [], alts := [], laidByText := true, laidKinds := [.data, .pinned], laidTests := true, laidLooks := .later }
def PushrulesChecksUptoCardSaid : Prop := Claim7.holds Tryz.pinned (.plain (OpenSpec.upto pushrulesChecksSpec)) pushrulesChecksUptoCard
end Rows
end Go.Proofs.YtchkiegehejfmaaGreatDoor
