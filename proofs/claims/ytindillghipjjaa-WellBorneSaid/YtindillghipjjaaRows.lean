/-
  No cell of these rows narrows 'for every input' (looked for: loops, veiled, ifaces, maps, wideKeys, modest, calm, conditions, laid).
  DERIVED. THE GIVEN ROWS OF THIS SEAT. 15 by the template 'for every input the law returns true; each argument reads behind the call as it read before'; 0 by the template 'total and deterministic' (their statements: YtindillghipjjaaTotals.lean).
  GIVEN WITH THE SEED: the statements are not yours to turn. If you find one false, say at which input.
  Laid BY PROGRAM, IN A SANDBOX (cutbox-rows.mjs): the forced cells as the released guide's own fill.sh prints them over the translation 095a065f26be0792… (all of the seat's roots in one cut). By AI agents, Wed Nov 11 2026. No macro, syntax, notation, axiom, sorry.
-/
import Derived.Test.YtindillghipjjaaChecked
import GoSem.Claim
import GoSem.ClaimJoined
import GoSem.ClaimMapViews
import Derived.JoinedTies
import Derived.KernelRfl
namespace Go.Proofs.Ytindillghipjjaa
/- THE CELL 'sum', in the pinned program and in every row, IS THE sha256 OF THE DUMP (.gsa) THAT YtindillghipjjaaProg.lean LOADS. Nothing in Lean hashes anything: it is a label: what it is worth is what the hold of that sum in a sandbox is worth. -/
noncomputable def Try.pinned : Pinned := { name := "ytindillghipjjaa", sum := "095a065f26be0792d0b292996c74d825be6d572163c942bf4c3a3071dbc9cbf9", checked := Try.checked }
namespace Rows
def none {H : Type} : Left H := { results := [], args := [] }

/-- 'mestalaw11.WellServes': WHATEVER THE INPUT: true; the input reads as it did. -/
def wellServesSpec : ChangeSpec := { name := "wellServes", fn := fun _ => fun
  | [d1, d2, d3] => { results := [.lit (.bool true)], args := [d1, d2, d3] }
  | _ => none }
def wellServesRow : OpenClaim := { program := "ytindillghipjjaa", sum := "095a065f26be0792d0b292996c74d825be6d572163c942bf4c3a3071dbc9cbf9", func := "mesta/mestalaw11.WellServes", spec := "wellServes", unfollowed := true, recurses := true, plainKeys := false, leaving := true, apart := false }
def WellServesSaid : Prop := wellServesRow.holds Try.pinned (OpenSpec.ofChange wellServesSpec)

/-- ITS FALSE NEIGHBOUR: 'it returns false'. Refute it at one input. -/
def wellServesWrong : ChangeSpec := { name := "wellServes", fn := fun _ => fun
  | [d1, d2, d3] => { results := [.lit (.bool false)], args := [d1, d2, d3] }
  | _ => none }
def WellServesWrongFalsely : Prop := wellServesRow.holds Try.pinned (OpenSpec.ofChange wellServesWrong)

/-- 'mestalaw11.WellBears': WHATEVER THE INPUT: true; the input reads as it did. -/
def wellBearsSpec : ChangeSpec := { name := "wellBears", fn := fun _ => fun
  | [d1, d2, d3, d4, d5, d6] => { results := [.lit (.bool true)], args := [d1, d2, d3, d4, d5, d6] }
  | _ => none }
def wellBearsRow : OpenClaim := { program := "ytindillghipjjaa", sum := "095a065f26be0792d0b292996c74d825be6d572163c942bf4c3a3071dbc9cbf9", func := "mesta/mestalaw11.WellBears", spec := "wellBears", unfollowed := true, recurses := true, plainKeys := false, leaving := true, apart := false }
def WellBearsSaid : Prop := wellBearsRow.holds Try.pinned (OpenSpec.ofChange wellBearsSpec)

/-- ITS FALSE NEIGHBOUR: 'it returns false'. Refute it at one input. -/
def wellBearsWrong : ChangeSpec := { name := "wellBears", fn := fun _ => fun
  | [d1, d2, d3, d4, d5, d6] => { results := [.lit (.bool false)], args := [d1, d2, d3, d4, d5, d6] }
  | _ => none }
def WellBearsWrongFalsely : Prop := wellBearsRow.holds Try.pinned (OpenSpec.ofChange wellBearsWrong)

/-- 'mestalaw11.WellMore': WHATEVER THE INPUT: true; the input reads as it did. -/
def wellMoreSpec : ChangeSpec := { name := "wellMore", fn := fun _ => fun
  | [d] => { results := [.lit (.bool true)], args := [d] }
  | _ => none }
def wellMoreRow : OpenClaim := { program := "ytindillghipjjaa", sum := "095a065f26be0792d0b292996c74d825be6d572163c942bf4c3a3071dbc9cbf9", func := "mesta/mestalaw11.WellMore", spec := "wellMore", unfollowed := true, recurses := true, plainKeys := false, leaving := true, apart := false }
def WellMoreSaid : Prop := wellMoreRow.holds Try.pinned (OpenSpec.ofChange wellMoreSpec)

/-- ITS FALSE NEIGHBOUR: 'it returns false'. Refute it at one input. -/
def wellMoreWrong : ChangeSpec := { name := "wellMore", fn := fun _ => fun
  | [d] => { results := [.lit (.bool false)], args := [d] }
  | _ => none }
def WellMoreWrongFalsely : Prop := wellMoreRow.holds Try.pinned (OpenSpec.ofChange wellMoreWrong)

/-- 'mestalaw11.WellServed': WHATEVER THE INPUT: true; the input reads as it did. -/
def wellServedSpec : ChangeSpec := { name := "wellServed", fn := fun _ => fun
  | [d] => { results := [.lit (.bool true)], args := [d] }
  | _ => none }
def wellServedRow : OpenClaim := { program := "ytindillghipjjaa", sum := "095a065f26be0792d0b292996c74d825be6d572163c942bf4c3a3071dbc9cbf9", func := "mesta/mestalaw11.WellServed", spec := "wellServed", unfollowed := true, recurses := true, plainKeys := false, leaving := true, apart := false }
def WellServedSaid : Prop := wellServedRow.holds Try.pinned (OpenSpec.ofChange wellServedSpec)

/-- ITS FALSE NEIGHBOUR: 'it returns false'. Refute it at one input. -/
def wellServedWrong : ChangeSpec := { name := "wellServed", fn := fun _ => fun
  | [d] => { results := [.lit (.bool false)], args := [d] }
  | _ => none }
def WellServedWrongFalsely : Prop := wellServedRow.holds Try.pinned (OpenSpec.ofChange wellServedWrong)

/-- 'mestalaw11.WellFirst': WHATEVER THE INPUT: true; the input reads as it did. -/
def wellFirstSpec : ChangeSpec := { name := "wellFirst", fn := fun _ => fun
  | [d] => { results := [.lit (.bool true)], args := [d] }
  | _ => none }
def wellFirstRow : OpenClaim := { program := "ytindillghipjjaa", sum := "095a065f26be0792d0b292996c74d825be6d572163c942bf4c3a3071dbc9cbf9", func := "mesta/mestalaw11.WellFirst", spec := "wellFirst", unfollowed := true, recurses := true, plainKeys := false, leaving := true, apart := false }
def WellFirstSaid : Prop := wellFirstRow.holds Try.pinned (OpenSpec.ofChange wellFirstSpec)

/-- ITS FALSE NEIGHBOUR: 'it returns false'. Refute it at one input. -/
def wellFirstWrong : ChangeSpec := { name := "wellFirst", fn := fun _ => fun
  | [d] => { results := [.lit (.bool false)], args := [d] }
  | _ => none }
def WellFirstWrongFalsely : Prop := wellFirstRow.holds Try.pinned (OpenSpec.ofChange wellFirstWrong)

/-- 'mestalaw11.WellHours': WHATEVER THE INPUT: true; the input reads as it did. -/
def wellHoursSpec : ChangeSpec := { name := "wellHours", fn := fun _ => fun
  | [d1, d2, d3, d4] => { results := [.lit (.bool true)], args := [d1, d2, d3, d4] }
  | _ => none }
def wellHoursRow : OpenClaim := { program := "ytindillghipjjaa", sum := "095a065f26be0792d0b292996c74d825be6d572163c942bf4c3a3071dbc9cbf9", func := "mesta/mestalaw11.WellHours", spec := "wellHours", unfollowed := true, recurses := true, plainKeys := false, leaving := true, apart := false }
def WellHoursSaid : Prop := wellHoursRow.holds Try.pinned (OpenSpec.ofChange wellHoursSpec)

/-- ITS FALSE NEIGHBOUR: 'it returns false'. Refute it at one input. -/
def wellHoursWrong : ChangeSpec := { name := "wellHours", fn := fun _ => fun
  | [d1, d2, d3, d4] => { results := [.lit (.bool false)], args := [d1, d2, d3, d4] }
  | _ => none }
def WellHoursWrongFalsely : Prop := wellHoursRow.holds Try.pinned (OpenSpec.ofChange wellHoursWrong)

/-- 'mestalaw11.WellHourly': WHATEVER THE INPUT: true; the input reads as it did. -/
def wellHourlySpec : ChangeSpec := { name := "wellHourly", fn := fun _ => fun
  | [d] => { results := [.lit (.bool true)], args := [d] }
  | _ => none }
def wellHourlyRow : OpenClaim := { program := "ytindillghipjjaa", sum := "095a065f26be0792d0b292996c74d825be6d572163c942bf4c3a3071dbc9cbf9", func := "mesta/mestalaw11.WellHourly", spec := "wellHourly", unfollowed := true, recurses := true, plainKeys := false, leaving := true, apart := false }
def WellHourlySaid : Prop := wellHourlyRow.holds Try.pinned (OpenSpec.ofChange wellHourlySpec)

/-- ITS FALSE NEIGHBOUR: 'it returns false'. Refute it at one input. -/
def wellHourlyWrong : ChangeSpec := { name := "wellHourly", fn := fun _ => fun
  | [d] => { results := [.lit (.bool false)], args := [d] }
  | _ => none }
def WellHourlyWrongFalsely : Prop := wellHourlyRow.holds Try.pinned (OpenSpec.ofChange wellHourlyWrong)

/-- 'mestalaw11.WellEver': WHATEVER THE INPUT: true; the input reads as it did. -/
def wellEverSpec : ChangeSpec := { name := "wellEver", fn := fun _ => fun
  | [d] => { results := [.lit (.bool true)], args := [d] }
  | _ => none }
def wellEverRow : OpenClaim := { program := "ytindillghipjjaa", sum := "095a065f26be0792d0b292996c74d825be6d572163c942bf4c3a3071dbc9cbf9", func := "mesta/mestalaw11.WellEver", spec := "wellEver", unfollowed := true, recurses := true, plainKeys := false, leaving := true, apart := false }
def WellEverSaid : Prop := wellEverRow.holds Try.pinned (OpenSpec.ofChange wellEverSpec)

/-- ITS FALSE NEIGHBOUR: 'it returns false'. Refute it at one input. -/
def wellEverWrong : ChangeSpec := { name := "wellEver", fn := fun _ => fun
  | [d] => { results := [.lit (.bool false)], args := [d] }
  | _ => none }
def WellEverWrongFalsely : Prop := wellEverRow.holds Try.pinned (OpenSpec.ofChange wellEverWrong)

/-- 'mestalaw11.WellFair': WHATEVER THE INPUT: true; the input reads as it did. -/
def wellFairSpec : ChangeSpec := { name := "wellFair", fn := fun _ => fun
  | [d] => { results := [.lit (.bool true)], args := [d] }
  | _ => none }
def wellFairRow : OpenClaim := { program := "ytindillghipjjaa", sum := "095a065f26be0792d0b292996c74d825be6d572163c942bf4c3a3071dbc9cbf9", func := "mesta/mestalaw11.WellFair", spec := "wellFair", unfollowed := true, recurses := true, plainKeys := false, leaving := true, apart := false }
def WellFairSaid : Prop := wellFairRow.holds Try.pinned (OpenSpec.ofChange wellFairSpec)

/-- ITS FALSE NEIGHBOUR: 'it returns false'. Refute it at one input. -/
def wellFairWrong : ChangeSpec := { name := "wellFair", fn := fun _ => fun
  | [d] => { results := [.lit (.bool false)], args := [d] }
  | _ => none }
def WellFairWrongFalsely : Prop := wellFairRow.holds Try.pinned (OpenSpec.ofChange wellFairWrong)

/-- 'mestalaw11.WellTurned': WHATEVER THE INPUT: true; the input reads as it did. -/
def wellTurnedSpec : ChangeSpec := { name := "wellTurned", fn := fun _ => fun
  | [d] => { results := [.lit (.bool true)], args := [d] }
  | _ => none }
def wellTurnedRow : OpenClaim := { program := "ytindillghipjjaa", sum := "095a065f26be0792d0b292996c74d825be6d572163c942bf4c3a3071dbc9cbf9", func := "mesta/mestalaw11.WellTurned", spec := "wellTurned", unfollowed := true, recurses := true, plainKeys := false, leaving := true, apart := false }
def WellTurnedSaid : Prop := wellTurnedRow.holds Try.pinned (OpenSpec.ofChange wellTurnedSpec)

/-- ITS FALSE NEIGHBOUR: 'it returns false'. Refute it at one input. -/
def wellTurnedWrong : ChangeSpec := { name := "wellTurned", fn := fun _ => fun
  | [d] => { results := [.lit (.bool false)], args := [d] }
  | _ => none }
def WellTurnedWrongFalsely : Prop := wellTurnedRow.holds Try.pinned (OpenSpec.ofChange wellTurnedWrong)

/-- 'mestalaw11.WellFinds': WHATEVER THE INPUT: true; the input reads as it did. -/
def wellFindsSpec : ChangeSpec := { name := "wellFinds", fn := fun _ => fun
  | [d1, d2] => { results := [.lit (.bool true)], args := [d1, d2] }
  | _ => none }
def wellFindsRow : OpenClaim := { program := "ytindillghipjjaa", sum := "095a065f26be0792d0b292996c74d825be6d572163c942bf4c3a3071dbc9cbf9", func := "mesta/mestalaw11.WellFinds", spec := "wellFinds", unfollowed := true, recurses := true, plainKeys := false, leaving := true, apart := false }
def WellFindsSaid : Prop := wellFindsRow.holds Try.pinned (OpenSpec.ofChange wellFindsSpec)

/-- ITS FALSE NEIGHBOUR: 'it returns false'. Refute it at one input. -/
def wellFindsWrong : ChangeSpec := { name := "wellFinds", fn := fun _ => fun
  | [d1, d2] => { results := [.lit (.bool false)], args := [d1, d2] }
  | _ => none }
def WellFindsWrongFalsely : Prop := wellFindsRow.holds Try.pinned (OpenSpec.ofChange wellFindsWrong)

/-- 'mestalaw11.WellEnough': WHATEVER THE INPUT: true; the input reads as it did. -/
def wellEnoughSpec : ChangeSpec := { name := "wellEnough", fn := fun _ => fun
  | [d] => { results := [.lit (.bool true)], args := [d] }
  | _ => none }
def wellEnoughRow : OpenClaim := { program := "ytindillghipjjaa", sum := "095a065f26be0792d0b292996c74d825be6d572163c942bf4c3a3071dbc9cbf9", func := "mesta/mestalaw11.WellEnough", spec := "wellEnough", unfollowed := true, recurses := true, plainKeys := false, leaving := true, apart := false }
def WellEnoughSaid : Prop := wellEnoughRow.holds Try.pinned (OpenSpec.ofChange wellEnoughSpec)

/-- ITS FALSE NEIGHBOUR: 'it returns false'. Refute it at one input. -/
def wellEnoughWrong : ChangeSpec := { name := "wellEnough", fn := fun _ => fun
  | [d] => { results := [.lit (.bool false)], args := [d] }
  | _ => none }
def WellEnoughWrongFalsely : Prop := wellEnoughRow.holds Try.pinned (OpenSpec.ofChange wellEnoughWrong)

/-- 'mestalaw11.WellTraded': WHATEVER THE INPUT: true; the input reads as it did. -/
def wellTradedSpec : ChangeSpec := { name := "wellTraded", fn := fun _ => fun
  | [d] => { results := [.lit (.bool true)], args := [d] }
  | _ => none }
def wellTradedRow : OpenClaim := { program := "ytindillghipjjaa", sum := "095a065f26be0792d0b292996c74d825be6d572163c942bf4c3a3071dbc9cbf9", func := "mesta/mestalaw11.WellTraded", spec := "wellTraded", unfollowed := true, recurses := true, plainKeys := false, leaving := true, apart := false }
def WellTradedSaid : Prop := wellTradedRow.holds Try.pinned (OpenSpec.ofChange wellTradedSpec)

/-- ITS FALSE NEIGHBOUR: 'it returns false'. Refute it at one input. -/
def wellTradedWrong : ChangeSpec := { name := "wellTraded", fn := fun _ => fun
  | [d] => { results := [.lit (.bool false)], args := [d] }
  | _ => none }
def WellTradedWrongFalsely : Prop := wellTradedRow.holds Try.pinned (OpenSpec.ofChange wellTradedWrong)

/-- 'mestalaw11.WellRotas': WHATEVER THE INPUT: true; the input reads as it did. -/
def wellRotasSpec : ChangeSpec := { name := "wellRotas", fn := fun _ => fun
  | [d1, d2, d3] => { results := [.lit (.bool true)], args := [d1, d2, d3] }
  | _ => none }
def wellRotasRow : OpenClaim := { program := "ytindillghipjjaa", sum := "095a065f26be0792d0b292996c74d825be6d572163c942bf4c3a3071dbc9cbf9", func := "mesta/mestalaw11.WellRotas", spec := "wellRotas", unfollowed := true, recurses := true, plainKeys := false, leaving := true, apart := false }
def WellRotasSaid : Prop := wellRotasRow.holds Try.pinned (OpenSpec.ofChange wellRotasSpec)

/-- ITS FALSE NEIGHBOUR: 'it returns false'. Refute it at one input. -/
def wellRotasWrong : ChangeSpec := { name := "wellRotas", fn := fun _ => fun
  | [d1, d2, d3] => { results := [.lit (.bool false)], args := [d1, d2, d3] }
  | _ => none }
def WellRotasWrongFalsely : Prop := wellRotasRow.holds Try.pinned (OpenSpec.ofChange wellRotasWrong)

/-- 'mestalaw11.WellBorne': WHATEVER THE INPUT: true; the input reads as it did. -/
def wellBorneSpec : ChangeSpec := { name := "wellBorne", fn := fun _ => fun
  | [d] => { results := [.lit (.bool true)], args := [d] }
  | _ => none }
def wellBorneRow : OpenClaim := { program := "ytindillghipjjaa", sum := "095a065f26be0792d0b292996c74d825be6d572163c942bf4c3a3071dbc9cbf9", func := "mesta/mestalaw11.WellBorne", spec := "wellBorne", unfollowed := true, recurses := true, plainKeys := false, leaving := true, apart := false }
def WellBorneSaid : Prop := wellBorneRow.holds Try.pinned (OpenSpec.ofChange wellBorneSpec)

/-- ITS FALSE NEIGHBOUR: 'it returns false'. Refute it at one input. -/
def wellBorneWrong : ChangeSpec := { name := "wellBorne", fn := fun _ => fun
  | [d] => { results := [.lit (.bool false)], args := [d] }
  | _ => none }
def WellBorneWrongFalsely : Prop := wellBorneRow.holds Try.pinned (OpenSpec.ofChange wellBorneWrong)

/- THE SECOND FORM. 'bulk': how many values and letters a reading holds, each counted each time it is reached (what is shared counts as often as it is met; a slice's spare places count too). A statement '..UptoSaid' is the law's where the arguments, and the package variables that the reading takes, are together of bulk at most 1048576: NARROWER than '..Said'. Prove '..Said' where nothing that the law and all that it calls make is longer than what came in: it says more and counts as full. Else prove '..UptoSaid'. A law counts once. -/
mutual
def uptoBulk {H : Type} : DataW H → Nat
  | .lit (.string bytes) => bytes.length + 1
  | .lit _ => 1
  | .nil => 1
  | .ptr d => uptoBulk d + 1
  | .slice elems spare => uptoBulkAll elems + uptoBulkAll spare + 1
  | .agg parts => uptoBulkAll parts + 1
  | .iface _ d => uptoBulk d + 1
  | .map entries => uptoBulkEntries entries + 1
  | .held _ => 1
def uptoBulkAll {H : Type} : List (DataW H) → Nat
  | [] => 0
  | d :: r => uptoBulk d + uptoBulkAll r
def uptoBulkEntries {H : Type} : List (Lit × DataW H) → Nat
  | [] => 0
  | x :: r => uptoBulkEntry x + uptoBulkEntries r
def uptoBulkEntry {H : Type} : Lit × DataW H → Nat
  | (.string bytes, d) => bytes.length + uptoBulk d + 1
  | (_, d) => uptoBulk d + 1
 end
def uptoSmall : (H : Type) → List (DataW H) → Bool := fun _ ds => decide (uptoBulkAll ds ≤ 1048576)
def OpenSpec.upto (s : _root_.Go.ChangeSpec) : _root_.Go.OpenSpec := { _root_.Go.OpenSpec.ofChange s with cond := some uptoSmall }

/-- 'mestalaw11.WellServes', WHERE WHAT IT READS IS OF BULK AT MOST 1048576: true; the input reads as it did. -/
def wellServesUptoRow : OpenClaim := { program := "ytindillghipjjaa", sum := "095a065f26be0792d0b292996c74d825be6d572163c942bf4c3a3071dbc9cbf9", func := "mesta/mestalaw11.WellServes", spec := "wellServes", unfollowed := true, recurses := true, plainKeys := false, leaving := true, apart := false, narrowed := true }
def WellServesUptoSaid : Prop := wellServesUptoRow.holds Try.pinned (OpenSpec.upto wellServesSpec)

/-- 'mestalaw11.WellBears', WHERE WHAT IT READS IS OF BULK AT MOST 1048576: true; the input reads as it did. -/
def wellBearsUptoRow : OpenClaim := { program := "ytindillghipjjaa", sum := "095a065f26be0792d0b292996c74d825be6d572163c942bf4c3a3071dbc9cbf9", func := "mesta/mestalaw11.WellBears", spec := "wellBears", unfollowed := true, recurses := true, plainKeys := false, leaving := true, apart := false, narrowed := true }
def WellBearsUptoSaid : Prop := wellBearsUptoRow.holds Try.pinned (OpenSpec.upto wellBearsSpec)

/-- 'mestalaw11.WellMore', WHERE WHAT IT READS IS OF BULK AT MOST 1048576: true; the input reads as it did. -/
def wellMoreUptoRow : OpenClaim := { program := "ytindillghipjjaa", sum := "095a065f26be0792d0b292996c74d825be6d572163c942bf4c3a3071dbc9cbf9", func := "mesta/mestalaw11.WellMore", spec := "wellMore", unfollowed := true, recurses := true, plainKeys := false, leaving := true, apart := false, narrowed := true }
def WellMoreUptoSaid : Prop := wellMoreUptoRow.holds Try.pinned (OpenSpec.upto wellMoreSpec)

/-- 'mestalaw11.WellServed', WHERE WHAT IT READS IS OF BULK AT MOST 1048576: true; the input reads as it did. -/
def wellServedUptoRow : OpenClaim := { program := "ytindillghipjjaa", sum := "095a065f26be0792d0b292996c74d825be6d572163c942bf4c3a3071dbc9cbf9", func := "mesta/mestalaw11.WellServed", spec := "wellServed", unfollowed := true, recurses := true, plainKeys := false, leaving := true, apart := false, narrowed := true }
def WellServedUptoSaid : Prop := wellServedUptoRow.holds Try.pinned (OpenSpec.upto wellServedSpec)

/-- 'mestalaw11.WellFirst', WHERE WHAT IT READS IS OF BULK AT MOST 1048576: true; the input reads as it did. -/
def wellFirstUptoRow : OpenClaim := { program := "ytindillghipjjaa", sum := "095a065f26be0792d0b292996c74d825be6d572163c942bf4c3a3071dbc9cbf9", func := "mesta/mestalaw11.WellFirst", spec := "wellFirst", unfollowed := true, recurses := true, plainKeys := false, leaving := true, apart := false, narrowed := true }
def WellFirstUptoSaid : Prop := wellFirstUptoRow.holds Try.pinned (OpenSpec.upto wellFirstSpec)

/-- 'mestalaw11.WellHours', WHERE WHAT IT READS IS OF BULK AT MOST 1048576: true; the input reads as it did. -/
def wellHoursUptoRow : OpenClaim := { program := "ytindillghipjjaa", sum := "095a065f26be0792d0b292996c74d825be6d572163c942bf4c3a3071dbc9cbf9", func := "mesta/mestalaw11.WellHours", spec := "wellHours", unfollowed := true, recurses := true, plainKeys := false, leaving := true, apart := false, narrowed := true }
def WellHoursUptoSaid : Prop := wellHoursUptoRow.holds Try.pinned (OpenSpec.upto wellHoursSpec)

/-- 'mestalaw11.WellHourly', WHERE WHAT IT READS IS OF BULK AT MOST 1048576: true; the input reads as it did. -/
def wellHourlyUptoRow : OpenClaim := { program := "ytindillghipjjaa", sum := "095a065f26be0792d0b292996c74d825be6d572163c942bf4c3a3071dbc9cbf9", func := "mesta/mestalaw11.WellHourly", spec := "wellHourly", unfollowed := true, recurses := true, plainKeys := false, leaving := true, apart := false, narrowed := true }
def WellHourlyUptoSaid : Prop := wellHourlyUptoRow.holds Try.pinned (OpenSpec.upto wellHourlySpec)

/-- 'mestalaw11.WellEver', WHERE WHAT IT READS IS OF BULK AT MOST 1048576: true; the input reads as it did. -/
def wellEverUptoRow : OpenClaim := { program := "ytindillghipjjaa", sum := "095a065f26be0792d0b292996c74d825be6d572163c942bf4c3a3071dbc9cbf9", func := "mesta/mestalaw11.WellEver", spec := "wellEver", unfollowed := true, recurses := true, plainKeys := false, leaving := true, apart := false, narrowed := true }
def WellEverUptoSaid : Prop := wellEverUptoRow.holds Try.pinned (OpenSpec.upto wellEverSpec)

/-- 'mestalaw11.WellFair', WHERE WHAT IT READS IS OF BULK AT MOST 1048576: true; the input reads as it did. -/
def wellFairUptoRow : OpenClaim := { program := "ytindillghipjjaa", sum := "095a065f26be0792d0b292996c74d825be6d572163c942bf4c3a3071dbc9cbf9", func := "mesta/mestalaw11.WellFair", spec := "wellFair", unfollowed := true, recurses := true, plainKeys := false, leaving := true, apart := false, narrowed := true }
def WellFairUptoSaid : Prop := wellFairUptoRow.holds Try.pinned (OpenSpec.upto wellFairSpec)

/-- 'mestalaw11.WellTurned', WHERE WHAT IT READS IS OF BULK AT MOST 1048576: true; the input reads as it did. -/
def wellTurnedUptoRow : OpenClaim := { program := "ytindillghipjjaa", sum := "095a065f26be0792d0b292996c74d825be6d572163c942bf4c3a3071dbc9cbf9", func := "mesta/mestalaw11.WellTurned", spec := "wellTurned", unfollowed := true, recurses := true, plainKeys := false, leaving := true, apart := false, narrowed := true }
def WellTurnedUptoSaid : Prop := wellTurnedUptoRow.holds Try.pinned (OpenSpec.upto wellTurnedSpec)

/-- 'mestalaw11.WellFinds', WHERE WHAT IT READS IS OF BULK AT MOST 1048576: true; the input reads as it did. -/
def wellFindsUptoRow : OpenClaim := { program := "ytindillghipjjaa", sum := "095a065f26be0792d0b292996c74d825be6d572163c942bf4c3a3071dbc9cbf9", func := "mesta/mestalaw11.WellFinds", spec := "wellFinds", unfollowed := true, recurses := true, plainKeys := false, leaving := true, apart := false, narrowed := true }
def WellFindsUptoSaid : Prop := wellFindsUptoRow.holds Try.pinned (OpenSpec.upto wellFindsSpec)

/-- 'mestalaw11.WellEnough', WHERE WHAT IT READS IS OF BULK AT MOST 1048576: true; the input reads as it did. -/
def wellEnoughUptoRow : OpenClaim := { program := "ytindillghipjjaa", sum := "095a065f26be0792d0b292996c74d825be6d572163c942bf4c3a3071dbc9cbf9", func := "mesta/mestalaw11.WellEnough", spec := "wellEnough", unfollowed := true, recurses := true, plainKeys := false, leaving := true, apart := false, narrowed := true }
def WellEnoughUptoSaid : Prop := wellEnoughUptoRow.holds Try.pinned (OpenSpec.upto wellEnoughSpec)

/-- 'mestalaw11.WellTraded', WHERE WHAT IT READS IS OF BULK AT MOST 1048576: true; the input reads as it did. -/
def wellTradedUptoRow : OpenClaim := { program := "ytindillghipjjaa", sum := "095a065f26be0792d0b292996c74d825be6d572163c942bf4c3a3071dbc9cbf9", func := "mesta/mestalaw11.WellTraded", spec := "wellTraded", unfollowed := true, recurses := true, plainKeys := false, leaving := true, apart := false, narrowed := true }
def WellTradedUptoSaid : Prop := wellTradedUptoRow.holds Try.pinned (OpenSpec.upto wellTradedSpec)

/-- 'mestalaw11.WellRotas', WHERE WHAT IT READS IS OF BULK AT MOST 1048576: true; the input reads as it did. -/
def wellRotasUptoRow : OpenClaim := { program := "ytindillghipjjaa", sum := "095a065f26be0792d0b292996c74d825be6d572163c942bf4c3a3071dbc9cbf9", func := "mesta/mestalaw11.WellRotas", spec := "wellRotas", unfollowed := true, recurses := true, plainKeys := false, leaving := true, apart := false, narrowed := true }
def WellRotasUptoSaid : Prop := wellRotasUptoRow.holds Try.pinned (OpenSpec.upto wellRotasSpec)

/-- 'mestalaw11.WellBorne', WHERE WHAT IT READS IS OF BULK AT MOST 1048576: true; the input reads as it did. -/
def wellBorneUptoRow : OpenClaim := { program := "ytindillghipjjaa", sum := "095a065f26be0792d0b292996c74d825be6d572163c942bf4c3a3071dbc9cbf9", func := "mesta/mestalaw11.WellBorne", spec := "wellBorne", unfollowed := true, recurses := true, plainKeys := false, leaving := true, apart := false, narrowed := true }
def WellBorneUptoSaid : Prop := wellBorneUptoRow.holds Try.pinned (OpenSpec.upto wellBorneSpec)

end Rows
end Go.Proofs.Ytindillghipjjaa
