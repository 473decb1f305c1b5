/-
  DERIVED. GIVEN WITH THE SEED: THE CARDS: each row of YtcmgjbflljmphaaGreatDoorRows.lean that lists a variable, with what it lists TIED to the program's text (the seventh form; the later family's looks); each row that meets fmt, with fmt's text TOLD by the authors' own Lean function (tested against real Go, not proved from fmt's source: count such statements apart). THE CARD IS WHAT COUNTS. Prove the row's statement (the work); the ties are given (YtcmgjbflljmphaaGreatDoorTie.lean); close each card by the builder's one call (the guide's Derived/Test/ToyasCard.lean, 'card_holds'). Laid BY PROGRAM, IN A SANDBOX (cutbox-door.mjs). By AI agents, Wed Nov 11 2026. No macro, syntax, notation, axiom, sorry.
-/
import Derived.Test.YtcmgjbflljmphaaGreatDoorRows
import GoSem.ClaimSeven
namespace Go.Proofs.YtcmgjbflljmphaaGreatDoor
namespace Rows

/-- THE TIED CARD OF 'mestalaw11.WellTexts'. -/
def wellTextsCard : Claim7 := { stood := { row := wellTextsRow, standIns := [], harness := (true, "d6519cc0e2a5fdeede642742a27fb2e43d3c4a0b28d97ac2a792e1e301911d29"), looks := true }, kinds := [], alts := [], goes := true, laidByText := true, laidKinds := [.data, .data, .data, .data, .pinned], laidTests := true, laidLooks := .later }
def WellTextsCardSaid : Prop := Claim7.holds Tryz.pinned (.plain (OpenSpec.ofChange wellTextsSpec)) wellTextsCard

/-- THE TIED CARD OF 'mestalaw11.WellWritten'. -/
def wellWrittenCard : Claim7 := { stood := { row := wellWrittenRow, standIns := [], harness := (true, "d6519cc0e2a5fdeede642742a27fb2e43d3c4a0b28d97ac2a792e1e301911d29"), looks := true }, kinds := [], alts := [], goes := true, laidByText := true, laidKinds := [.data, .data, .data, .data, .pinned], laidTests := true, laidLooks := .later }
def WellWrittenCardSaid : Prop := Claim7.holds Tryz.pinned (.plain (OpenSpec.ofChange wellWrittenSpec)) wellWrittenCard

/-- THE SECOND FORM's CARD OF 'mestalaw11.WellTexts'. -/
def wellTextsUptoCard : Claim7 := { stood := { row := wellTextsUptoRow, standIns := [], harness := (true, "d6519cc0e2a5fdeede642742a27fb2e43d3c4a0b28d97ac2a792e1e301911d29"), looks := true }, kinds := [], alts := [], goes := true, laidByText := true, laidKinds := [.data, .data, .data, .data, .pinned], laidTests := true, laidLooks := .later }
def WellTextsUptoCardSaid : Prop := Claim7.holds Tryz.pinned (.plain (OpenSpec.upto wellTextsSpec)) wellTextsUptoCard

/-- THE SECOND FORM's CARD OF 'mestalaw11.WellWritten'. -/
def wellWrittenUptoCard : Claim7 := { stood := { row := wellWrittenUptoRow, standIns := [], harness := (true, "d6519cc0e2a5fdeede642742a27fb2e43d3c4a0b28d97ac2a792e1e301911d29"), looks := true }, kinds := [], alts := [], goes := true, laidByText := true, laidKinds := [.data, .data, .data, .data, .pinned], laidTests := true, laidLooks := .later }
def WellWrittenUptoCardSaid : Prop := Claim7.holds Tryz.pinned (.plain (OpenSpec.upto wellWrittenSpec)) wellWrittenUptoCard
end Rows
end Go.Proofs.YtcmgjbflljmphaaGreatDoor
