/-
  DERIVED. GIVEN WITH THE SEED: THE CARDS: each row of YtmmlamfgbmnkgaaDoorRows.lean that lists a variable, with what it lists TIED to the program's text (the seventh form; the later family's looks); each row that meets fmt, with fmt's text TOLD by the authors' own Lean function (tested against real Go, not proved from fmt's source: count such statements apart). THE CARD IS WHAT COUNTS. Prove the row's statement (the work); the ties are given (YtmmlamfgbmnkgaaDoorTie.lean); close each card by the builder's one call (the guide's Derived/Test/ToyasCard.lean, 'card_holds'). Laid BY PROGRAM, IN A SANDBOX (cutbox-door.mjs). By AI agents, Wed Nov 11 2026. No macro, syntax, notation, axiom, sorry.
-/
import Derived.Test.YtmmlamfgbmnkgaaDoorRows
import GoSem.ClaimSeven
namespace Go.Proofs.YtmmlamfgbmnkgaaDoor
namespace Rows

/-- THE TIED CARD OF 'mestalaw11.WellKnown'. -/
def wellKnownCard : Claim7 := { stood := { row := wellKnownRow, standIns := [], harness := (true, "3a5997f214d0f25ddd81f960ffd5b67349c8c729c2176674be1b05f803ab7485"), looks := false }, kinds := [], alts := [], goes := true, laidByText := true, laidKinds := [.data, .data, .data], laidTests := true, laidLooks := .later }
def WellKnownCardSaid : Prop := Claim7.holds Tryd.pinned (.plain (OpenSpec.ofChange wellKnownSpec)) wellKnownCard

/-- THE SECOND FORM's CARD OF 'mestalaw11.WellKnown'. -/
def wellKnownUptoCard : Claim7 := { stood := { row := wellKnownUptoRow, standIns := [], harness := (true, "3a5997f214d0f25ddd81f960ffd5b67349c8c729c2176674be1b05f803ab7485"), looks := false }, kinds := [], alts := [], goes := true, laidByText := true, laidKinds := [.data, .data, .data], laidTests := true, laidLooks := .later }
def WellKnownUptoCardSaid : Prop := Claim7.holds Tryd.pinned (.plain (OpenSpec.upto wellKnownSpec)) wellKnownUptoCard
end Rows
end Go.Proofs.YtmmlamfgbmnkgaaDoor
