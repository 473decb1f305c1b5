/-
  DERIVED. GIVEN WITH THE SEED: THE CARDS: each row of YtlhanfcgdfjhjaaGreatDoorRows.lean that lists a variable, with what it lists TIED to the program's text (the seventh form; the later family's looks); each row that meets fmt, with fmt's text TOLD by the authors' own Lean function (tested against real Go, not proved from fmt's source: count such statements apart). THE CARD IS WHAT COUNTS. Prove the row's statement (the work); the ties are given (YtlhanfcgdfjhjaaGreatDoorTie.lean); close each card by the builder's one call (the guide's Derived/Test/ToyasCard.lean, 'card_holds'). Laid BY PROGRAM, IN A SANDBOX (cutbox-door.mjs). By AI agents, Wed Nov 11 2026. No macro, syntax, notation, axiom, sorry.
-/
import Derived.Test.YtlhanfcgdfjhjaaGreatDoorRows
import GoSem.ClaimSeven
namespace Go.Proofs.YtlhanfcgdfjhjaaGreatDoor
namespace Rows

/-- THE TIED CARD OF 'mestalaw01.GrassTexts'. -/
def grassTextsCard : Claim7 := { stood := { row := grassTextsRow, standIns := [], harness := (true, "5d666c7c44cec2b0fd822916a791ef6d70807ad9b324b43de390656d1d49b836"), looks := true }, kinds := [], alts := [], goes := true, laidByText := true, laidKinds := [.data, .data, .data, .data, .handle, .pinned], laidTests := true, laidLooks := .later }
def GrassTextsCardSaid : Prop := Claim7.holds Tryz.pinned (.plain (OpenSpec.ofChange grassTextsSpec)) grassTextsCard

/-- THE TIED CARD OF 'mestalaw01.GrassWritten'. -/
def grassWrittenCard : Claim7 := { stood := { row := grassWrittenRow, standIns := [], harness := (true, "5d666c7c44cec2b0fd822916a791ef6d70807ad9b324b43de390656d1d49b836"), looks := true }, kinds := [], alts := [], goes := true, laidByText := true, laidKinds := [.data, .data, .data, .data, .handle, .pinned], laidTests := true, laidLooks := .later }
def GrassWrittenCardSaid : Prop := Claim7.holds Tryz.pinned (.plain (OpenSpec.ofChange grassWrittenSpec)) grassWrittenCard

/-- THE SECOND FORM's CARD OF 'mestalaw01.GrassTexts'. -/
def grassTextsUptoCard : Claim7 := { stood := { row := grassTextsUptoRow, standIns := [], harness := (true, "5d666c7c44cec2b0fd822916a791ef6d70807ad9b324b43de390656d1d49b836"), looks := true }, kinds := [], alts := [], goes := true, laidByText := true, laidKinds := [.data, .data, .data, .data, .handle, .pinned], laidTests := true, laidLooks := .later }
def GrassTextsUptoCardSaid : Prop := Claim7.holds Tryz.pinned (.plain (OpenSpec.upto grassTextsSpec)) grassTextsUptoCard

/-- THE SECOND FORM's CARD OF 'mestalaw01.GrassWritten'. -/
def grassWrittenUptoCard : Claim7 := { stood := { row := grassWrittenUptoRow, standIns := [], harness := (true, "5d666c7c44cec2b0fd822916a791ef6d70807ad9b324b43de390656d1d49b836"), looks := true }, kinds := [], alts := [], goes := true, laidByText := true, laidKinds := [.data, .data, .data, .data, .handle, .pinned], laidTests := true, laidLooks := .later }
def GrassWrittenUptoCardSaid : Prop := Claim7.holds Tryz.pinned (.plain (OpenSpec.upto grassWrittenSpec)) grassWrittenUptoCard
end Rows
end Go.Proofs.YtlhanfcgdfjhjaaGreatDoor
