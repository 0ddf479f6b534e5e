/-
  DERIVED. GIVEN WITH THE SEED: THE CARDS: each row of YtffjknkcogmnbaaGreatDoorRows.lean that lists a variable, with what it lists TIED to the program's text (the seventh form; the later family's looks); each row that meets fmt, with fmt's text TOLD by the authors' own Lean function (tested against real Go, not proved from fmt's source: count such statements apart). THE CARD IS WHAT COUNTS. Prove the row's statement (the work); the ties are given (YtffjknkcogmnbaaGreatDoorTie.lean); close each card by the builder's one call (the guide's Derived/Test/ToyasCard.lean, 'card_holds'). Laid BY PROGRAM, IN A SANDBOX (cutbox-door.mjs). By AI agents, Wed Nov 11 2026. No macro, syntax, notation, axiom, sorry.
-/
import Derived.Test.YtffjknkcogmnbaaGreatDoorRows
import GoSem.ClaimSeven
namespace Go.Proofs.YtffjknkcogmnbaaGreatDoor
namespace Rows

/-- THE TIED CARD OF 'laureltop.TopYear'. -/
def topYearCard : Claim7 := { stood := { row := topYearRow, standIns := [], harness := (true, "6ab2c273fbdfb48c19451e0a5722229e996d060ee184d3a94a0daa1d89dd25f4"), looks := true }, kinds := [], alts := [], laidByText := true, laidKinds := [.data, .data, .data, .sentinel, .sentinel], laidTests := true, laidLooks := .later }
def TopYearCardSaid : Prop := Claim7.holds Tryz.pinned (.plain (OpenSpec.ofChange topYearSpec)) topYearCard

/-- THE TIED CARD OF 'laurellaw11.FileScalps'. -/
def fileScalpsCard : Claim7 := { stood := { row := fileScalpsRow, standIns := [], harness := (true, "6ab2c273fbdfb48c19451e0a5722229e996d060ee184d3a94a0daa1d89dd25f4"), looks := true }, kinds := [], alts := [], laidByText := true, laidKinds := [.data, .data, .data, .sentinel, .sentinel], laidTests := true, laidLooks := .later }
def FileScalpsCardSaid : Prop := Claim7.holds Tryz.pinned (.plain (OpenSpec.ofChange fileScalpsSpec)) fileScalpsCard

/-- THE SECOND FORM's CARD OF 'laureltop.TopYear'. -/
def topYearUptoCard : Claim7 := { stood := { row := topYearUptoRow, standIns := [], harness := (true, "6ab2c273fbdfb48c19451e0a5722229e996d060ee184d3a94a0daa1d89dd25f4"), looks := true }, kinds := [], alts := [], laidByText := true, laidKinds := [.data, .data, .data, .sentinel, .sentinel], laidTests := true, laidLooks := .later }
def TopYearUptoCardSaid : Prop := Claim7.holds Tryz.pinned (.plain (OpenSpec.upto topYearSpec)) topYearUptoCard

/-- THE SECOND FORM's CARD OF 'laurellaw11.FileScalps'. -/
def fileScalpsUptoCard : Claim7 := { stood := { row := fileScalpsUptoRow, standIns := [], harness := (true, "6ab2c273fbdfb48c19451e0a5722229e996d060ee184d3a94a0daa1d89dd25f4"), looks := true }, kinds := [], alts := [], laidByText := true, laidKinds := [.data, .data, .data, .sentinel, .sentinel], laidTests := true, laidLooks := .later }
def FileScalpsUptoCardSaid : Prop := Claim7.holds Tryz.pinned (.plain (OpenSpec.upto fileScalpsSpec)) fileScalpsUptoCard
end Rows
end Go.Proofs.YtffjknkcogmnbaaGreatDoor
