/-
  DERIVED. GIVEN WITH THE SEED: THE CARDS: each row of YteadlcncnhbmjaaGreatDoorRows.lean that lists a variable, with what it lists TIED to the program's text (the seventh form; the later family's looks); each row that meets fmt, with fmt's text TOLD by the authors' own Lean function (tested against real Go, not proved from fmt's source: count such statements apart). THE CARD IS WHAT COUNTS. Prove the row's statement (the work); the ties are given (YteadlcncnhbmjaaGreatDoorTie.lean); close each card by the builder's one call (the guide's Derived/Test/ToyasCard.lean, 'card_holds'). Laid BY PROGRAM, IN A SANDBOX (cutbox-door.mjs). By AI agents, Wed Nov 11 2026. No macro, syntax, notation, axiom, sorry.
-/
import Derived.Test.YteadlcncnhbmjaaGreatDoorRows
import GoSem.ClaimSeven
namespace Go.Proofs.YteadlcncnhbmjaaGreatDoor
namespace Rows

/-- THE TIED CARD OF 'fedchatlaw58.ArchiveQuotes'. -/
def archiveQuotesCard : Claim7 := { stood := { row := archiveQuotesRow, standIns := [], harness := (true, "329c874122f5f0918f51904c6873461cd930a839031ec70dbf43faa84516065e"), looks := true }, kinds := [], alts := [], laidByText := true, laidKinds := [.data, .data, .data, .data, .sentinel, .sentinel, .pinned], laidTests := true, laidLooks := .later }
def ArchiveQuotesCardSaid : Prop := Claim7.holds Tryz.pinned (.plain (OpenSpec.ofChange archiveQuotesSpec)) archiveQuotesCard

/-- THE TIED CARD OF 'fedchatlaw58.ArchiveUnquotes'. -/
def archiveUnquotesCard : Claim7 := { stood := { row := archiveUnquotesRow, standIns := [], harness := (true, "329c874122f5f0918f51904c6873461cd930a839031ec70dbf43faa84516065e"), looks := true }, kinds := [], alts := [], laidByText := true, laidKinds := [.data, .data, .data, .data, .sentinel, .sentinel, .pinned], laidTests := true, laidLooks := .later }
def ArchiveUnquotesCardSaid : Prop := Claim7.holds Tryz.pinned (.plain (OpenSpec.ofChange archiveUnquotesSpec)) archiveUnquotesCard

/-- THE TIED CARD OF 'fedchatlaw58.ArchiveEvents'. -/
def archiveEventsCard : Claim7 := { stood := { row := archiveEventsRow, standIns := [], harness := (true, "329c874122f5f0918f51904c6873461cd930a839031ec70dbf43faa84516065e"), looks := true }, kinds := [], alts := [], laidByText := true, laidKinds := [.data, .data, .data, .data, .sentinel, .sentinel, .pinned], laidTests := true, laidLooks := .later }
def ArchiveEventsCardSaid : Prop := Claim7.holds Tryz.pinned (.plain (OpenSpec.ofChange archiveEventsSpec)) archiveEventsCard

/-- THE TIED CARD OF 'fedchatlaw58.ArchiveLines'. -/
def archiveLinesCard : Claim7 := { stood := { row := archiveLinesRow, standIns := [], harness := (true, "329c874122f5f0918f51904c6873461cd930a839031ec70dbf43faa84516065e"), looks := true }, kinds := [], alts := [], laidByText := true, laidKinds := [.data, .data, .data, .data, .sentinel, .sentinel, .pinned], laidTests := true, laidLooks := .later }
def ArchiveLinesCardSaid : Prop := Claim7.holds Tryz.pinned (.plain (OpenSpec.ofChange archiveLinesSpec)) archiveLinesCard

/-- THE TIED CARD OF 'fedchatlaw58.ArchiveRooms'. -/
def archiveRoomsCard : Claim7 := { stood := { row := archiveRoomsRow, standIns := [], harness := (true, "329c874122f5f0918f51904c6873461cd930a839031ec70dbf43faa84516065e"), looks := true }, kinds := [], alts := [], laidByText := true, laidKinds := [.data, .data, .data, .data, .sentinel, .sentinel, .pinned], laidTests := true, laidLooks := .later }
def ArchiveRoomsCardSaid : Prop := Claim7.holds Tryz.pinned (.plain (OpenSpec.ofChange archiveRoomsSpec)) archiveRoomsCard

/-- THE TIED CARD OF 'fedchatlaw58.ArchiveReads'. -/
def archiveReadsCard : Claim7 := { stood := { row := archiveReadsRow, standIns := [], harness := (true, "329c874122f5f0918f51904c6873461cd930a839031ec70dbf43faa84516065e"), looks := true }, kinds := [], alts := [], laidByText := true, laidKinds := [.data, .data, .data, .data, .sentinel, .sentinel, .pinned], laidTests := true, laidLooks := .later }
def ArchiveReadsCardSaid : Prop := Claim7.holds Tryz.pinned (.plain (OpenSpec.ofChange archiveReadsSpec)) archiveReadsCard

/-- THE TIED CARD OF 'fedchatlaw58.ArchiveDiffs'. -/
def archiveDiffsCard : Claim7 := { stood := { row := archiveDiffsRow, standIns := [], harness := (true, "329c874122f5f0918f51904c6873461cd930a839031ec70dbf43faa84516065e"), looks := true }, kinds := [], alts := [], laidByText := true, laidKinds := [.data, .data, .data, .data, .sentinel, .sentinel, .pinned], laidTests := true, laidLooks := .later }
def ArchiveDiffsCardSaid : Prop := Claim7.holds Tryz.pinned (.plain (OpenSpec.ofChange archiveDiffsSpec)) archiveDiffsCard

/-- THE TIED CARD OF 'fedchatlaw58.ArchiveLeast'. -/
def archiveLeastCard : Claim7 := { stood := { row := archiveLeastRow, standIns := [], harness := (true, "329c874122f5f0918f51904c6873461cd930a839031ec70dbf43faa84516065e"), looks := true }, kinds := [], alts := [], laidByText := true, laidKinds := [.data, .data, .data, .data, .sentinel, .sentinel, .pinned], laidTests := true, laidLooks := .later }
def ArchiveLeastCardSaid : Prop := Claim7.holds Tryz.pinned (.plain (OpenSpec.ofChange archiveLeastSpec)) archiveLeastCard

/-- THE TIED CARD OF 'fedchatlaw58.ArchiveApplies'. -/
def archiveAppliesCard : Claim7 := { stood := { row := archiveAppliesRow, standIns := [], harness := (true, "329c874122f5f0918f51904c6873461cd930a839031ec70dbf43faa84516065e"), looks := true }, kinds := [], alts := [], laidByText := true, laidKinds := [.data, .data, .data, .data, .sentinel, .sentinel, .pinned], laidTests := true, laidLooks := .later }
def ArchiveAppliesCardSaid : Prop := Claim7.holds Tryz.pinned (.plain (OpenSpec.ofChange archiveAppliesSpec)) archiveAppliesCard

/-- THE TIED CARD OF 'fedchatlaw58.ArchiveSums'. -/
def archiveSumsCard : Claim7 := { stood := { row := archiveSumsRow, standIns := [], harness := (true, "329c874122f5f0918f51904c6873461cd930a839031ec70dbf43faa84516065e"), looks := true }, kinds := [], alts := [], laidByText := true, laidKinds := [.data, .data, .data, .data, .sentinel, .sentinel, .pinned], laidTests := true, laidLooks := .later }
def ArchiveSumsCardSaid : Prop := Claim7.holds Tryz.pinned (.plain (OpenSpec.ofChange archiveSumsSpec)) archiveSumsCard

/-- THE SECOND FORM's CARD OF 'fedchatlaw58.ArchiveQuotes'. -/
def archiveQuotesUptoCard : Claim7 := { stood := { row := archiveQuotesUptoRow, standIns := [], harness := (true, "329c874122f5f0918f51904c6873461cd930a839031ec70dbf43faa84516065e"), looks := true }, kinds := [], alts := [], laidByText := true, laidKinds := [.data, .data, .data, .data, .sentinel, .sentinel, .pinned], laidTests := true, laidLooks := .later }
def ArchiveQuotesUptoCardSaid : Prop := Claim7.holds Tryz.pinned (.plain (OpenSpec.upto archiveQuotesSpec)) archiveQuotesUptoCard

/-- THE SECOND FORM's CARD OF 'fedchatlaw58.ArchiveUnquotes'. -/
def archiveUnquotesUptoCard : Claim7 := { stood := { row := archiveUnquotesUptoRow, standIns := [], harness := (true, "329c874122f5f0918f51904c6873461cd930a839031ec70dbf43faa84516065e"), looks := true }, kinds := [], alts := [], laidByText := true, laidKinds := [.data, .data, .data, .data, .sentinel, .sentinel, .pinned], laidTests := true, laidLooks := .later }
def ArchiveUnquotesUptoCardSaid : Prop := Claim7.holds Tryz.pinned (.plain (OpenSpec.upto archiveUnquotesSpec)) archiveUnquotesUptoCard

/-- THE SECOND FORM's CARD OF 'fedchatlaw58.ArchiveEvents'. -/
def archiveEventsUptoCard : Claim7 := { stood := { row := archiveEventsUptoRow, standIns := [], harness := (true, "329c874122f5f0918f51904c6873461cd930a839031ec70dbf43faa84516065e"), looks := true }, kinds := [], alts := [], laidByText := true, laidKinds := [.data, .data, .data, .data, .sentinel, .sentinel, .pinned], laidTests := true, laidLooks := .later }
def ArchiveEventsUptoCardSaid : Prop := Claim7.holds Tryz.pinned (.plain (OpenSpec.upto archiveEventsSpec)) archiveEventsUptoCard

/-- THE SECOND FORM's CARD OF 'fedchatlaw58.ArchiveLines'. -/
def archiveLinesUptoCard : Claim7 := { stood := { row := archiveLinesUptoRow, standIns := [], harness := (true, "329c874122f5f0918f51904c6873461cd930a839031ec70dbf43faa84516065e"), looks := true }, kinds := [], alts := [], laidByText := true, laidKinds := [.data, .data, .data, .data, .sentinel, .sentinel, .pinned], laidTests := true, laidLooks := .later }
def ArchiveLinesUptoCardSaid : Prop := Claim7.holds Tryz.pinned (.plain (OpenSpec.upto archiveLinesSpec)) archiveLinesUptoCard

/-- THE SECOND FORM's CARD OF 'fedchatlaw58.ArchiveRooms'. -/
def archiveRoomsUptoCard : Claim7 := { stood := { row := archiveRoomsUptoRow, standIns := [], harness := (true, "329c874122f5f0918f51904c6873461cd930a839031ec70dbf43faa84516065e"), looks := true }, kinds := [], alts := [], laidByText := true, laidKinds := [.data, .data, .data, .data, .sentinel, .sentinel, .pinned], laidTests := true, laidLooks := .later }
def ArchiveRoomsUptoCardSaid : Prop := Claim7.holds Tryz.pinned (.plain (OpenSpec.upto archiveRoomsSpec)) archiveRoomsUptoCard

/-- THE SECOND FORM's CARD OF 'fedchatlaw58.ArchiveReads'. -/
def archiveReadsUptoCard : Claim7 := { stood := { row := archiveReadsUptoRow, standIns := [], harness := (true, "329c874122f5f0918f51904c6873461cd930a839031ec70dbf43faa84516065e"), looks := true }, kinds := [], alts := [], laidByText := true, laidKinds := [.data, .data, .data, .data, .sentinel, .sentinel, .pinned], laidTests := true, laidLooks := .later }
def ArchiveReadsUptoCardSaid : Prop := Claim7.holds Tryz.pinned (.plain (OpenSpec.upto archiveReadsSpec)) archiveReadsUptoCard

/-- THE SECOND FORM's CARD OF 'fedchatlaw58.ArchiveDiffs'. -/
def archiveDiffsUptoCard : Claim7 := { stood := { row := archiveDiffsUptoRow, standIns := [], harness := (true, "329c874122f5f0918f51904c6873461cd930a839031ec70dbf43faa84516065e"), looks := true }, kinds := [], alts := [], laidByText := true, laidKinds := [.data, .data, .data, .data, .sentinel, .sentinel, .pinned], laidTests := true, laidLooks := .later }
def ArchiveDiffsUptoCardSaid : Prop := Claim7.holds Tryz.pinned (.plain (OpenSpec.upto archiveDiffsSpec)) archiveDiffsUptoCard

/-- THE SECOND FORM's CARD OF 'fedchatlaw58.ArchiveLeast'. -/
def archiveLeastUptoCard : Claim7 := { stood := { row := archiveLeastUptoRow, standIns := [], harness := (true, "329c874122f5f0918f51904c6873461cd930a839031ec70dbf43faa84516065e"), looks := true }, kinds := [], alts := [], laidByText := true, laidKinds := [.data, .data, .data, .data, .sentinel, .sentinel, .pinned], laidTests := true, laidLooks := .later }
def ArchiveLeastUptoCardSaid : Prop := Claim7.holds Tryz.pinned (.plain (OpenSpec.upto archiveLeastSpec)) archiveLeastUptoCard

/-- THE SECOND FORM's CARD OF 'fedchatlaw58.ArchiveApplies'. -/
def archiveAppliesUptoCard : Claim7 := { stood := { row := archiveAppliesUptoRow, standIns := [], harness := (true, "329c874122f5f0918f51904c6873461cd930a839031ec70dbf43faa84516065e"), looks := true }, kinds := [], alts := [], laidByText := true, laidKinds := [.data, .data, .data, .data, .sentinel, .sentinel, .pinned], laidTests := true, laidLooks := .later }
def ArchiveAppliesUptoCardSaid : Prop := Claim7.holds Tryz.pinned (.plain (OpenSpec.upto archiveAppliesSpec)) archiveAppliesUptoCard

/-- THE SECOND FORM's CARD OF 'fedchatlaw58.ArchiveSums'. -/
def archiveSumsUptoCard : Claim7 := { stood := { row := archiveSumsUptoRow, standIns := [], harness := (true, "329c874122f5f0918f51904c6873461cd930a839031ec70dbf43faa84516065e"), looks := true }, kinds := [], alts := [], laidByText := true, laidKinds := [.data, .data, .data, .data, .sentinel, .sentinel, .pinned], laidTests := true, laidLooks := .later }
def ArchiveSumsUptoCardSaid : Prop := Claim7.holds Tryz.pinned (.plain (OpenSpec.upto archiveSumsSpec)) archiveSumsUptoCard
end Rows
end Go.Proofs.YteadlcncnhbmjaaGreatDoor
