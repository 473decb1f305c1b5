/-
  DERIVED. GIVEN WITH THE SEED: THE CARDS: each row of YtlladcglhjlbpaaGreatDoorRows.lean that lists a variable, with what it lists TIED to the program's text (the seventh form; the later family's looks); each row that meets fmt, with fmt's text TOLD by the authors' own Lean function (tested against real Go, not proved from fmt's source: count such statements apart). THE CARD IS WHAT COUNTS. Prove the row's statement (the work); the ties are given (YtlladcglhjlbpaaGreatDoorTie.lean); close each card by the builder's one call (the guide's Derived/Test/ToyasCard.lean, 'card_holds'). Laid BY PROGRAM, IN A SANDBOX (cutbox-door.mjs). By AI agents, Wed Nov 11 2026. No macro, syntax, notation, axiom, sorry.
-/
import Derived.Test.YtlladcglhjlbpaaGreatDoorRows
import GoSem.ClaimSeven
namespace Go.Proofs.YtlladcglhjlbpaaGreatDoor
namespace Rows

/-- THE TIED CARD OF 'mestalaw05.TallyTexts'. -/
def tallyTextsCard : Claim7 := { stood := { row := tallyTextsRow, standIns := [], harness := (true, "b70f4b02dab30b3e64671d912189c259e76e199408126a01a031428d8cc758a5"), looks := true }, kinds := [], alts := [], laidByText := true, laidKinds := [.data, .data, .data, .data, .handle, .pinned], laidTests := true, laidLooks := .later }
def TallyTextsCardSaid : Prop := Claim7.holds Tryz.pinned (.plain (OpenSpec.ofChange tallyTextsSpec)) tallyTextsCard

/-- THE TIED CARD OF 'mestalaw05.TallyWritten'. -/
def tallyWrittenCard : Claim7 := { stood := { row := tallyWrittenRow, standIns := [], harness := (true, "b70f4b02dab30b3e64671d912189c259e76e199408126a01a031428d8cc758a5"), looks := true }, kinds := [], alts := [], laidByText := true, laidKinds := [.data, .data, .data, .data, .handle, .pinned], laidTests := true, laidLooks := .later }
def TallyWrittenCardSaid : Prop := Claim7.holds Tryz.pinned (.plain (OpenSpec.ofChange tallyWrittenSpec)) tallyWrittenCard

/-- THE SECOND FORM's CARD OF 'mestalaw05.TallyTexts'. -/
def tallyTextsUptoCard : Claim7 := { stood := { row := tallyTextsUptoRow, standIns := [], harness := (true, "b70f4b02dab30b3e64671d912189c259e76e199408126a01a031428d8cc758a5"), looks := true }, kinds := [], alts := [], laidByText := true, laidKinds := [.data, .data, .data, .data, .handle, .pinned], laidTests := true, laidLooks := .later }
def TallyTextsUptoCardSaid : Prop := Claim7.holds Tryz.pinned (.plain (OpenSpec.upto tallyTextsSpec)) tallyTextsUptoCard

/-- THE SECOND FORM's CARD OF 'mestalaw05.TallyWritten'. -/
def tallyWrittenUptoCard : Claim7 := { stood := { row := tallyWrittenUptoRow, standIns := [], harness := (true, "b70f4b02dab30b3e64671d912189c259e76e199408126a01a031428d8cc758a5"), looks := true }, kinds := [], alts := [], laidByText := true, laidKinds := [.data, .data, .data, .data, .handle, .pinned], laidTests := true, laidLooks := .later }
def TallyWrittenUptoCardSaid : Prop := Claim7.holds Tryz.pinned (.plain (OpenSpec.upto tallyWrittenSpec)) tallyWrittenUptoCard
end Rows
end Go.Proofs.YtlladcglhjlbpaaGreatDoor
