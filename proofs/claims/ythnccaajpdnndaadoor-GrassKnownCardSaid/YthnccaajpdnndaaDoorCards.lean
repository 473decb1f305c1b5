/-
  DERIVED. GIVEN WITH THE SEED: THE CARDS: each row of YthnccaajpdnndaaDoorRows.lean that lists a variable, with what it lists TIED to the program's text (the seventh form; the later family's looks); each row that meets fmt, with fmt's text TOLD by the authors' own Lean function (tested against real Go, not proved from fmt's source: count such statements apart). THE CARD IS WHAT COUNTS. Prove the row's statement (the work); the ties are given (YthnccaajpdnndaaDoorTie.lean); close each card by the builder's one call (the guide's Derived/Test/ToyasCard.lean, 'card_holds'). Laid BY PROGRAM, IN A SANDBOX (cutbox-door.mjs). By AI agents, Wed Nov 11 2026. No macro, syntax, notation, axiom, sorry.
-/
import Derived.Test.YthnccaajpdnndaaDoorRows
import GoSem.ClaimSeven
namespace Go.Proofs.YthnccaajpdnndaaDoor
namespace Rows

/-- THE TIED CARD OF 'mestalaw01.GrassKnown'. -/
def grassKnownCard : Claim7 := { stood := { row := grassKnownRow, standIns := [], harness := (true, "fa9d002bc0de62087845359b142af9146b4e90de53c0829c57153ab81412ec82"), looks := false }, kinds := [], alts := [], goes := true, laidByText := true, laidKinds := [.data, .data, .data], laidTests := true, laidLooks := .later }
def GrassKnownCardSaid : Prop := Claim7.holds Tryd.pinned (.plain (OpenSpec.ofChange grassKnownSpec)) grassKnownCard

/-- THE SECOND FORM's CARD OF 'mestalaw01.GrassKnown'. -/
def grassKnownUptoCard : Claim7 := { stood := { row := grassKnownUptoRow, standIns := [], harness := (true, "fa9d002bc0de62087845359b142af9146b4e90de53c0829c57153ab81412ec82"), looks := false }, kinds := [], alts := [], goes := true, laidByText := true, laidKinds := [.data, .data, .data], laidTests := true, laidLooks := .later }
def GrassKnownUptoCardSaid : Prop := Claim7.holds Tryd.pinned (.plain (OpenSpec.upto grassKnownSpec)) grassKnownUptoCard
end Rows
end Go.Proofs.YthnccaajpdnndaaDoor
