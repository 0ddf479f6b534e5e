/-
  DERIVED. GIVEN WITH THE SEED: THE CARDS: each row of YtadkpjgpefcphaaGreatDoorRows.lean that lists a variable, with what it lists TIED to the program's text (the seventh form; the later family's looks); each row that meets fmt, with fmt's text TOLD by the authors' own Lean function (tested against real Go, not proved from fmt's source: count such statements apart). THE CARD IS WHAT COUNTS. Prove the row's statement (the work); the ties are given (YtadkpjgpefcphaaGreatDoorTie.lean); close each card by the builder's one call (the guide's Derived/Test/ToyasCard.lean, 'card_holds'). Laid BY PROGRAM, IN A SANDBOX (cutbox-door.mjs). By AI agents, Wed Nov 11 2026. No macro, syntax, notation, axiom, sorry.
-/
import Derived.Test.YtadkpjgpefcphaaGreatDoorRows
import GoSem.ClaimSeven
namespace Go.Proofs.YtadkpjgpefcphaaGreatDoor
namespace Rows

/-- THE TIED CARD OF 'laurellaw11.FileYears'. -/
def fileYearsCard : Claim7 := { stood := { row := fileYearsRow, standIns := [], harness := (true, "9b4774efc31ec41e6e97001c50fcf69cdd3d9b3eca25449df0efd72ef541f623"), looks := true }, kinds := [], alts := [], laidByText := true, laidKinds := [.data, .data, .data, .sentinel, .sentinel], laidTests := true, laidLooks := .later }
def FileYearsCardSaid : Prop := Claim7.holds Tryz.pinned (.plain (OpenSpec.ofChange fileYearsSpec)) fileYearsCard

/-- THE TIED CARD OF 'laurellaw11.FileParses'. -/
def fileParsesCard : Claim7 := { stood := { row := fileParsesRow, standIns := [], harness := (true, "9b4774efc31ec41e6e97001c50fcf69cdd3d9b3eca25449df0efd72ef541f623"), looks := true }, kinds := [], alts := [], laidByText := true, laidKinds := [.data, .data, .data, .sentinel, .sentinel], laidTests := true, laidLooks := .later }
def FileParsesCardSaid : Prop := Claim7.holds Tryz.pinned (.plain (OpenSpec.ofChange fileParsesSpec)) fileParsesCard

/-- THE TIED CARD OF 'laurellaw11.FileCopies'. -/
def fileCopiesCard : Claim7 := { stood := { row := fileCopiesRow, standIns := [], harness := (true, "9b4774efc31ec41e6e97001c50fcf69cdd3d9b3eca25449df0efd72ef541f623"), looks := true }, kinds := [], alts := [], laidByText := true, laidKinds := [.data, .data, .data, .sentinel, .sentinel], laidTests := true, laidLooks := .later }
def FileCopiesCardSaid : Prop := Claim7.holds Tryz.pinned (.plain (OpenSpec.ofChange fileCopiesSpec)) fileCopiesCard

/-- THE TIED CARD OF 'laurellaw11.FileJoined'. -/
def fileJoinedCard : Claim7 := { stood := { row := fileJoinedRow, standIns := [], harness := (true, "9b4774efc31ec41e6e97001c50fcf69cdd3d9b3eca25449df0efd72ef541f623"), looks := true }, kinds := [], alts := [], laidByText := true, laidKinds := [.data, .data, .data, .sentinel, .sentinel], laidTests := true, laidLooks := .later }
def FileJoinedCardSaid : Prop := Claim7.holds Tryz.pinned (.plain (OpenSpec.ofChange fileJoinedSpec)) fileJoinedCard

/-- THE TIED CARD OF 'laurellaw11.FileGrown'. -/
def fileGrownCard : Claim7 := { stood := { row := fileGrownRow, standIns := [], harness := (true, "9b4774efc31ec41e6e97001c50fcf69cdd3d9b3eca25449df0efd72ef541f623"), looks := true }, kinds := [], alts := [], laidByText := true, laidKinds := [.data, .data, .data, .sentinel, .sentinel], laidTests := true, laidLooks := .later }
def FileGrownCardSaid : Prop := Claim7.holds Tryz.pinned (.plain (OpenSpec.ofChange fileGrownSpec)) fileGrownCard

/-- THE TIED CARD OF 'laurellaw11.FileNodes'. -/
def fileNodesCard : Claim7 := { stood := { row := fileNodesRow, standIns := [], harness := (true, "9b4774efc31ec41e6e97001c50fcf69cdd3d9b3eca25449df0efd72ef541f623"), looks := true }, kinds := [], alts := [], laidByText := true, laidKinds := [.data, .data, .data, .sentinel, .sentinel], laidTests := true, laidLooks := .later }
def FileNodesCardSaid : Prop := Claim7.holds Tryz.pinned (.plain (OpenSpec.ofChange fileNodesSpec)) fileNodesCard

/-- THE TIED CARD OF 'laurellaw11.FilePut'. -/
def filePutCard : Claim7 := { stood := { row := filePutRow, standIns := [], harness := (true, "9b4774efc31ec41e6e97001c50fcf69cdd3d9b3eca25449df0efd72ef541f623"), looks := true }, kinds := [], alts := [], laidByText := true, laidKinds := [.data, .data, .data, .sentinel, .sentinel], laidTests := true, laidLooks := .later }
def FilePutCardSaid : Prop := Claim7.holds Tryz.pinned (.plain (OpenSpec.ofChange filePutSpec)) filePutCard

/-- THE TIED CARD OF 'laurellaw11.FileChanges'. -/
def fileChangesCard : Claim7 := { stood := { row := fileChangesRow, standIns := [], harness := (true, "9b4774efc31ec41e6e97001c50fcf69cdd3d9b3eca25449df0efd72ef541f623"), looks := true }, kinds := [], alts := [], laidByText := true, laidKinds := [.data, .data, .data, .sentinel, .sentinel], laidTests := true, laidLooks := .later }
def FileChangesCardSaid : Prop := Claim7.holds Tryz.pinned (.plain (OpenSpec.ofChange fileChangesSpec)) fileChangesCard

/-- THE TIED CARD OF 'laurellaw11.FileAfter'. -/
def fileAfterCard : Claim7 := { stood := { row := fileAfterRow, standIns := [], harness := (true, "9b4774efc31ec41e6e97001c50fcf69cdd3d9b3eca25449df0efd72ef541f623"), looks := true }, kinds := [], alts := [], laidByText := true, laidKinds := [.data, .data, .data, .sentinel, .sentinel], laidTests := true, laidLooks := .later }
def FileAfterCardSaid : Prop := Claim7.holds Tryz.pinned (.plain (OpenSpec.ofChange fileAfterSpec)) fileAfterCard

/-- THE TIED CARD OF 'laurellaw11.FileMade'. -/
def fileMadeCard : Claim7 := { stood := { row := fileMadeRow, standIns := [], harness := (true, "9b4774efc31ec41e6e97001c50fcf69cdd3d9b3eca25449df0efd72ef541f623"), looks := true }, kinds := [], alts := [], laidByText := true, laidKinds := [.data, .data, .data, .sentinel, .sentinel], laidTests := true, laidLooks := .later }
def FileMadeCardSaid : Prop := Claim7.holds Tryz.pinned (.plain (OpenSpec.ofChange fileMadeSpec)) fileMadeCard

/-- THE TIED CARD OF 'laurellaw11.FileTold'. -/
def fileToldCard : Claim7 := { stood := { row := fileToldRow, standIns := [], harness := (true, "9b4774efc31ec41e6e97001c50fcf69cdd3d9b3eca25449df0efd72ef541f623"), looks := true }, kinds := [], alts := [], laidByText := true, laidKinds := [.data, .data, .data, .sentinel, .sentinel], laidTests := true, laidLooks := .later }
def FileToldCardSaid : Prop := Claim7.holds Tryz.pinned (.plain (OpenSpec.ofChange fileToldSpec)) fileToldCard

/-- THE TIED CARD OF 'laurellaw11.FileComposed'. -/
def fileComposedCard : Claim7 := { stood := { row := fileComposedRow, standIns := [], harness := (true, "9b4774efc31ec41e6e97001c50fcf69cdd3d9b3eca25449df0efd72ef541f623"), looks := true }, kinds := [], alts := [], laidByText := true, laidKinds := [.data, .data, .data, .sentinel, .sentinel], laidTests := true, laidLooks := .later }
def FileComposedCardSaid : Prop := Claim7.holds Tryz.pinned (.plain (OpenSpec.ofChange fileComposedSpec)) fileComposedCard

/-- THE TIED CARD OF 'laurellaw11.FileSmall'. -/
def fileSmallCard : Claim7 := { stood := { row := fileSmallRow, standIns := [], harness := (true, "9b4774efc31ec41e6e97001c50fcf69cdd3d9b3eca25449df0efd72ef541f623"), looks := true }, kinds := [], alts := [], laidByText := true, laidKinds := [.data, .data, .data, .sentinel, .sentinel], laidTests := true, laidLooks := .later }
def FileSmallCardSaid : Prop := Claim7.holds Tryz.pinned (.plain (OpenSpec.ofChange fileSmallSpec)) fileSmallCard

/-- THE TIED CARD OF 'laurellaw11.FileTorn'. -/
def fileTornCard : Claim7 := { stood := { row := fileTornRow, standIns := [], harness := (true, "9b4774efc31ec41e6e97001c50fcf69cdd3d9b3eca25449df0efd72ef541f623"), looks := true }, kinds := [], alts := [], laidByText := true, laidKinds := [.data, .data, .data, .data, .sentinel, .sentinel, .pinned], laidTests := true, laidLooks := .later }
def FileTornCardSaid : Prop := Claim7.holds Tryz.pinned (.plain (OpenSpec.ofChange fileTornSpec)) fileTornCard

/-- THE SECOND FORM's CARD OF 'laurellaw11.FileYears'. -/
def fileYearsUptoCard : Claim7 := { stood := { row := fileYearsUptoRow, standIns := [], harness := (true, "9b4774efc31ec41e6e97001c50fcf69cdd3d9b3eca25449df0efd72ef541f623"), looks := true }, kinds := [], alts := [], laidByText := true, laidKinds := [.data, .data, .data, .sentinel, .sentinel], laidTests := true, laidLooks := .later }
def FileYearsUptoCardSaid : Prop := Claim7.holds Tryz.pinned (.plain (OpenSpec.upto fileYearsSpec)) fileYearsUptoCard

/-- THE SECOND FORM's CARD OF 'laurellaw11.FileParses'. -/
def fileParsesUptoCard : Claim7 := { stood := { row := fileParsesUptoRow, standIns := [], harness := (true, "9b4774efc31ec41e6e97001c50fcf69cdd3d9b3eca25449df0efd72ef541f623"), looks := true }, kinds := [], alts := [], laidByText := true, laidKinds := [.data, .data, .data, .sentinel, .sentinel], laidTests := true, laidLooks := .later }
def FileParsesUptoCardSaid : Prop := Claim7.holds Tryz.pinned (.plain (OpenSpec.upto fileParsesSpec)) fileParsesUptoCard

/-- THE SECOND FORM's CARD OF 'laurellaw11.FileCopies'. -/
def fileCopiesUptoCard : Claim7 := { stood := { row := fileCopiesUptoRow, standIns := [], harness := (true, "9b4774efc31ec41e6e97001c50fcf69cdd3d9b3eca25449df0efd72ef541f623"), looks := true }, kinds := [], alts := [], laidByText := true, laidKinds := [.data, .data, .data, .sentinel, .sentinel], laidTests := true, laidLooks := .later }
def FileCopiesUptoCardSaid : Prop := Claim7.holds Tryz.pinned (.plain (OpenSpec.upto fileCopiesSpec)) fileCopiesUptoCard

/-- THE SECOND FORM's CARD OF 'laurellaw11.FileJoined'. -/
def fileJoinedUptoCard : Claim7 := { stood := { row := fileJoinedUptoRow, standIns := [], harness := (true, "9b4774efc31ec41e6e97001c50fcf69cdd3d9b3eca25449df0efd72ef541f623"), looks := true }, kinds := [], alts := [], laidByText := true, laidKinds := [.data, .data, .data, .sentinel, .sentinel], laidTests := true, laidLooks := .later }
def FileJoinedUptoCardSaid : Prop := Claim7.holds Tryz.pinned (.plain (OpenSpec.upto fileJoinedSpec)) fileJoinedUptoCard

/-- THE SECOND FORM's CARD OF 'laurellaw11.FileGrown'. -/
def fileGrownUptoCard : Claim7 := { stood := { row := fileGrownUptoRow, standIns := [], harness := (true, "9b4774efc31ec41e6e97001c50fcf69cdd3d9b3eca25449df0efd72ef541f623"), looks := true }, kinds := [], alts := [], laidByText := true, laidKinds := [.data, .data, .data, .sentinel, .sentinel], laidTests := true, laidLooks := .later }
def FileGrownUptoCardSaid : Prop := Claim7.holds Tryz.pinned (.plain (OpenSpec.upto fileGrownSpec)) fileGrownUptoCard

/-- THE SECOND FORM's CARD OF 'laurellaw11.FileNodes'. -/
def fileNodesUptoCard : Claim7 := { stood := { row := fileNodesUptoRow, standIns := [], harness := (true, "9b4774efc31ec41e6e97001c50fcf69cdd3d9b3eca25449df0efd72ef541f623"), looks := true }, kinds := [], alts := [], laidByText := true, laidKinds := [.data, .data, .data, .sentinel, .sentinel], laidTests := true, laidLooks := .later }
def FileNodesUptoCardSaid : Prop := Claim7.holds Tryz.pinned (.plain (OpenSpec.upto fileNodesSpec)) fileNodesUptoCard

/-- THE SECOND FORM's CARD OF 'laurellaw11.FilePut'. -/
def filePutUptoCard : Claim7 := { stood := { row := filePutUptoRow, standIns := [], harness := (true, "9b4774efc31ec41e6e97001c50fcf69cdd3d9b3eca25449df0efd72ef541f623"), looks := true }, kinds := [], alts := [], laidByText := true, laidKinds := [.data, .data, .data, .sentinel, .sentinel], laidTests := true, laidLooks := .later }
def FilePutUptoCardSaid : Prop := Claim7.holds Tryz.pinned (.plain (OpenSpec.upto filePutSpec)) filePutUptoCard

/-- THE SECOND FORM's CARD OF 'laurellaw11.FileChanges'. -/
def fileChangesUptoCard : Claim7 := { stood := { row := fileChangesUptoRow, standIns := [], harness := (true, "9b4774efc31ec41e6e97001c50fcf69cdd3d9b3eca25449df0efd72ef541f623"), looks := true }, kinds := [], alts := [], laidByText := true, laidKinds := [.data, .data, .data, .sentinel, .sentinel], laidTests := true, laidLooks := .later }
def FileChangesUptoCardSaid : Prop := Claim7.holds Tryz.pinned (.plain (OpenSpec.upto fileChangesSpec)) fileChangesUptoCard

/-- THE SECOND FORM's CARD OF 'laurellaw11.FileAfter'. -/
def fileAfterUptoCard : Claim7 := { stood := { row := fileAfterUptoRow, standIns := [], harness := (true, "9b4774efc31ec41e6e97001c50fcf69cdd3d9b3eca25449df0efd72ef541f623"), looks := true }, kinds := [], alts := [], laidByText := true, laidKinds := [.data, .data, .data, .sentinel, .sentinel], laidTests := true, laidLooks := .later }
def FileAfterUptoCardSaid : Prop := Claim7.holds Tryz.pinned (.plain (OpenSpec.upto fileAfterSpec)) fileAfterUptoCard

/-- THE SECOND FORM's CARD OF 'laurellaw11.FileMade'. -/
def fileMadeUptoCard : Claim7 := { stood := { row := fileMadeUptoRow, standIns := [], harness := (true, "9b4774efc31ec41e6e97001c50fcf69cdd3d9b3eca25449df0efd72ef541f623"), looks := true }, kinds := [], alts := [], laidByText := true, laidKinds := [.data, .data, .data, .sentinel, .sentinel], laidTests := true, laidLooks := .later }
def FileMadeUptoCardSaid : Prop := Claim7.holds Tryz.pinned (.plain (OpenSpec.upto fileMadeSpec)) fileMadeUptoCard

/-- THE SECOND FORM's CARD OF 'laurellaw11.FileTold'. -/
def fileToldUptoCard : Claim7 := { stood := { row := fileToldUptoRow, standIns := [], harness := (true, "9b4774efc31ec41e6e97001c50fcf69cdd3d9b3eca25449df0efd72ef541f623"), looks := true }, kinds := [], alts := [], laidByText := true, laidKinds := [.data, .data, .data, .sentinel, .sentinel], laidTests := true, laidLooks := .later }
def FileToldUptoCardSaid : Prop := Claim7.holds Tryz.pinned (.plain (OpenSpec.upto fileToldSpec)) fileToldUptoCard

/-- THE SECOND FORM's CARD OF 'laurellaw11.FileComposed'. -/
def fileComposedUptoCard : Claim7 := { stood := { row := fileComposedUptoRow, standIns := [], harness := (true, "9b4774efc31ec41e6e97001c50fcf69cdd3d9b3eca25449df0efd72ef541f623"), looks := true }, kinds := [], alts := [], laidByText := true, laidKinds := [.data, .data, .data, .sentinel, .sentinel], laidTests := true, laidLooks := .later }
def FileComposedUptoCardSaid : Prop := Claim7.holds Tryz.pinned (.plain (OpenSpec.upto fileComposedSpec)) fileComposedUptoCard

/-- THE SECOND FORM's CARD OF 'laurellaw11.FileSmall'. -/
def fileSmallUptoCard : Claim7 := { stood := { row := fileSmallUptoRow, standIns := [], harness := (true, "9b4774efc31ec41e6e97001c50fcf69cdd3d9b3eca25449df0efd72ef541f623"), looks := true }, kinds := [], alts := [], laidByText := true, laidKinds := [.data, .data, .data, .sentinel, .sentinel], laidTests := true, laidLooks := .later }
def FileSmallUptoCardSaid : Prop := Claim7.holds Tryz.pinned (.plain (OpenSpec.upto fileSmallSpec)) fileSmallUptoCard

/-- THE SECOND FORM's CARD OF 'laurellaw11.FileTorn'. -/
def fileTornUptoCard : Claim7 := { stood := { row := fileTornUptoRow, standIns := [], harness := (true, "9b4774efc31ec41e6e97001c50fcf69cdd3d9b3eca25449df0efd72ef541f623"), looks := true }, kinds := [], alts := [], laidByText := true, laidKinds := [.data, .data, .data, .data, .sentinel, .sentinel, .pinned], laidTests := true, laidLooks := .later }
def FileTornUptoCardSaid : Prop := Claim7.holds Tryz.pinned (.plain (OpenSpec.upto fileTornSpec)) fileTornUptoCard
end Rows
end Go.Proofs.YtadkpjgpefcphaaGreatDoor
