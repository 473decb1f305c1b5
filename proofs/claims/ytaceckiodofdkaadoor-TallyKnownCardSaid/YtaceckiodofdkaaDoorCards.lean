/-
  DERIVED. GIVEN WITH THE SEED: THE CARDS: each row of YtaceckiodofdkaaDoorRows.lean that lists a variable, with what it lists TIED to the program's text (the seventh form; the later family's looks); each row that meets fmt, with fmt's text TOLD by the authors' own Lean function (tested against real Go, not proved from fmt's source: count such statements apart). THE CARD IS WHAT COUNTS. Prove the row's statement (the work); the ties are given (YtaceckiodofdkaaDoorTie.lean); close each card by the builder's one call (the guide's Derived/Test/ToyasCard.lean, 'card_holds'). Laid BY PROGRAM, IN A SANDBOX (cutbox-door.mjs). By AI agents, Wed Nov 11 2026. No macro, syntax, notation, axiom, sorry.
-/
import Derived.Test.YtaceckiodofdkaaDoorRows
import GoSem.ClaimSeven
namespace Go.Proofs.YtaceckiodofdkaaDoor
namespace Rows

/-- THE TIED CARD OF 'mestalaw05.TallyKnown'. -/
def tallyKnownCard : Claim7 := { stood := { row := tallyKnownRow, standIns := [], harness := (true, "0a98e159035514337b096983abe4e21fdfabd1a6a4498e7d253ecc553968ccff"), looks := false }, kinds := [], alts := [], goes := true, laidByText := true, laidKinds := [.data, .data, .data], laidTests := true, laidLooks := .later }
def TallyKnownCardSaid : Prop := Claim7.holds Tryd.pinned (.plain (OpenSpec.ofChange tallyKnownSpec)) tallyKnownCard

/-- THE SECOND FORM's CARD OF 'mestalaw05.TallyKnown'. -/
def tallyKnownUptoCard : Claim7 := { stood := { row := tallyKnownUptoRow, standIns := [], harness := (true, "0a98e159035514337b096983abe4e21fdfabd1a6a4498e7d253ecc553968ccff"), looks := false }, kinds := [], alts := [], goes := true, laidByText := true, laidKinds := [.data, .data, .data], laidTests := true, laidLooks := .later }
def TallyKnownUptoCardSaid : Prop := Claim7.holds Tryd.pinned (.plain (OpenSpec.upto tallyKnownSpec)) tallyKnownUptoCard
end Rows
end Go.Proofs.YtaceckiodofdkaaDoor
