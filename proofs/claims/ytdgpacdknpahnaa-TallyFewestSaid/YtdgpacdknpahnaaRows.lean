/-
  No cell of these rows narrows 'for every input' (looked for: loops, veiled, ifaces, maps, wideKeys, modest, calm, conditions, laid).
  DERIVED. THE GIVEN ROWS OF THIS SEAT. 15 by the template 'for every input the law returns true; each argument reads behind the call as it read before'; 0 by the template 'total and deterministic' (their statements: YtdgpacdknpahnaaTotals.lean).
  GIVEN WITH THE SEED: the statements are not yours to turn. If you find one false, say at which input.
  Laid BY PROGRAM, IN A SANDBOX (cutbox-rows.mjs): the forced cells as the released guide's own fill.sh prints them over the translation a8c2860e01f0a954… (all of the seat's roots in one cut). By AI agents, Wed Nov 11 2026. No macro, syntax, notation, axiom, sorry.
-/
import Derived.Test.YtdgpacdknpahnaaChecked
import GoSem.Claim
import GoSem.ClaimJoined
import GoSem.ClaimMapViews
import Derived.JoinedTies
import Derived.KernelRfl
namespace Go.Proofs.Ytdgpacdknpahnaa
/- THE CELL 'sum', in the pinned program and in every row, IS THE sha256 OF THE DUMP (.gsa) THAT YtdgpacdknpahnaaProg.lean LOADS. Nothing in Lean hashes anything: it is a label: what it is worth is what the hold of that sum in a sandbox is worth. -/
noncomputable def Try.pinned : Pinned := { name := "ytdgpacdknpahnaa", sum := "a8c2860e01f0a954e823e643559f3af4e4483bc9b8d0fb48ea2249c4b25033ce", checked := Try.checked }
namespace Rows
def none {H : Type} : Left H := { results := [], args := [] }

/-- 'mestalaw05.TallyShares': WHATEVER THE INPUT: true; the input reads as it did. -/
def tallySharesSpec : ChangeSpec := { name := "tallyShares", fn := fun _ => fun
  | [d1, d2, d3] => { results := [.lit (.bool true)], args := [d1, d2, d3] }
  | _ => none }
def tallySharesRow : OpenClaim := { program := "ytdgpacdknpahnaa", sum := "a8c2860e01f0a954e823e643559f3af4e4483bc9b8d0fb48ea2249c4b25033ce", func := "mesta/mestalaw05.TallyShares", spec := "tallyShares", unfollowed := true, recurses := true, plainKeys := false, leaving := true, apart := false }
def TallySharesSaid : Prop := tallySharesRow.holds Try.pinned (OpenSpec.ofChange tallySharesSpec)

/-- ITS FALSE NEIGHBOUR: 'it returns false'. Refute it at one input. -/
def tallySharesWrong : ChangeSpec := { name := "tallyShares", fn := fun _ => fun
  | [d1, d2, d3] => { results := [.lit (.bool false)], args := [d1, d2, d3] }
  | _ => none }
def TallySharesWrongFalsely : Prop := tallySharesRow.holds Try.pinned (OpenSpec.ofChange tallySharesWrong)

/-- 'mestalaw05.TallyAll': WHATEVER THE INPUT: true; the input reads as it did. -/
def tallyAllSpec : ChangeSpec := { name := "tallyAll", fn := fun _ => fun
  | [d] => { results := [.lit (.bool true)], args := [d] }
  | _ => none }
def tallyAllRow : OpenClaim := { program := "ytdgpacdknpahnaa", sum := "a8c2860e01f0a954e823e643559f3af4e4483bc9b8d0fb48ea2249c4b25033ce", func := "mesta/mestalaw05.TallyAll", spec := "tallyAll", unfollowed := true, recurses := true, plainKeys := false, leaving := true, apart := false }
def TallyAllSaid : Prop := tallyAllRow.holds Try.pinned (OpenSpec.ofChange tallyAllSpec)

/-- ITS FALSE NEIGHBOUR: 'it returns false'. Refute it at one input. -/
def tallyAllWrong : ChangeSpec := { name := "tallyAll", fn := fun _ => fun
  | [d] => { results := [.lit (.bool false)], args := [d] }
  | _ => none }
def TallyAllWrongFalsely : Prop := tallyAllRow.holds Try.pinned (OpenSpec.ofChange tallyAllWrong)

/-- 'mestalaw05.TallyClash': WHATEVER THE INPUT: true; the input reads as it did. -/
def tallyClashSpec : ChangeSpec := { name := "tallyClash", fn := fun _ => fun
  | [d] => { results := [.lit (.bool true)], args := [d] }
  | _ => none }
def tallyClashRow : OpenClaim := { program := "ytdgpacdknpahnaa", sum := "a8c2860e01f0a954e823e643559f3af4e4483bc9b8d0fb48ea2249c4b25033ce", func := "mesta/mestalaw05.TallyClash", spec := "tallyClash", unfollowed := true, recurses := true, plainKeys := false, leaving := true, apart := false }
def TallyClashSaid : Prop := tallyClashRow.holds Try.pinned (OpenSpec.ofChange tallyClashSpec)

/-- ITS FALSE NEIGHBOUR: 'it returns false'. Refute it at one input. -/
def tallyClashWrong : ChangeSpec := { name := "tallyClash", fn := fun _ => fun
  | [d] => { results := [.lit (.bool false)], args := [d] }
  | _ => none }
def TallyClashWrongFalsely : Prop := tallyClashRow.holds Try.pinned (OpenSpec.ofChange tallyClashWrong)

/-- 'mestalaw05.TallyLooser': WHATEVER THE INPUT: true; the input reads as it did. -/
def tallyLooserSpec : ChangeSpec := { name := "tallyLooser", fn := fun _ => fun
  | [d] => { results := [.lit (.bool true)], args := [d] }
  | _ => none }
def tallyLooserRow : OpenClaim := { program := "ytdgpacdknpahnaa", sum := "a8c2860e01f0a954e823e643559f3af4e4483bc9b8d0fb48ea2249c4b25033ce", func := "mesta/mestalaw05.TallyLooser", spec := "tallyLooser", unfollowed := true, recurses := true, plainKeys := false, leaving := true, apart := false }
def TallyLooserSaid : Prop := tallyLooserRow.holds Try.pinned (OpenSpec.ofChange tallyLooserSpec)

/-- ITS FALSE NEIGHBOUR: 'it returns false'. Refute it at one input. -/
def tallyLooserWrong : ChangeSpec := { name := "tallyLooser", fn := fun _ => fun
  | [d] => { results := [.lit (.bool false)], args := [d] }
  | _ => none }
def TallyLooserWrongFalsely : Prop := tallyLooserRow.holds Try.pinned (OpenSpec.ofChange tallyLooserWrong)

/-- 'mestalaw05.TallyShared': WHATEVER THE INPUT: true; the input reads as it did. -/
def tallySharedSpec : ChangeSpec := { name := "tallyShared", fn := fun _ => fun
  | [d] => { results := [.lit (.bool true)], args := [d] }
  | _ => none }
def tallySharedRow : OpenClaim := { program := "ytdgpacdknpahnaa", sum := "a8c2860e01f0a954e823e643559f3af4e4483bc9b8d0fb48ea2249c4b25033ce", func := "mesta/mestalaw05.TallyShared", spec := "tallyShared", unfollowed := true, recurses := true, plainKeys := false, leaving := true, apart := false }
def TallySharedSaid : Prop := tallySharedRow.holds Try.pinned (OpenSpec.ofChange tallySharedSpec)

/-- ITS FALSE NEIGHBOUR: 'it returns false'. Refute it at one input. -/
def tallySharedWrong : ChangeSpec := { name := "tallyShared", fn := fun _ => fun
  | [d] => { results := [.lit (.bool false)], args := [d] }
  | _ => none }
def TallySharedWrongFalsely : Prop := tallySharedRow.holds Try.pinned (OpenSpec.ofChange tallySharedWrong)

/-- 'mestalaw05.TallyPossible': WHATEVER THE INPUT: true; the input reads as it did. -/
def tallyPossibleSpec : ChangeSpec := { name := "tallyPossible", fn := fun _ => fun
  | [d] => { results := [.lit (.bool true)], args := [d] }
  | _ => none }
def tallyPossibleRow : OpenClaim := { program := "ytdgpacdknpahnaa", sum := "a8c2860e01f0a954e823e643559f3af4e4483bc9b8d0fb48ea2249c4b25033ce", func := "mesta/mestalaw05.TallyPossible", spec := "tallyPossible", unfollowed := true, recurses := true, plainKeys := false, leaving := true, apart := false }
def TallyPossibleSaid : Prop := tallyPossibleRow.holds Try.pinned (OpenSpec.ofChange tallyPossibleSpec)

/-- ITS FALSE NEIGHBOUR: 'it returns false'. Refute it at one input. -/
def tallyPossibleWrong : ChangeSpec := { name := "tallyPossible", fn := fun _ => fun
  | [d] => { results := [.lit (.bool false)], args := [d] }
  | _ => none }
def TallyPossibleWrongFalsely : Prop := tallyPossibleRow.holds Try.pinned (OpenSpec.ofChange tallyPossibleWrong)

/-- 'mestalaw05.TallyParts': WHATEVER THE INPUT: true; the input reads as it did. -/
def tallyPartsSpec : ChangeSpec := { name := "tallyParts", fn := fun _ => fun
  | [d] => { results := [.lit (.bool true)], args := [d] }
  | _ => none }
def tallyPartsRow : OpenClaim := { program := "ytdgpacdknpahnaa", sum := "a8c2860e01f0a954e823e643559f3af4e4483bc9b8d0fb48ea2249c4b25033ce", func := "mesta/mestalaw05.TallyParts", spec := "tallyParts", unfollowed := true, recurses := true, plainKeys := false, leaving := true, apart := false }
def TallyPartsSaid : Prop := tallyPartsRow.holds Try.pinned (OpenSpec.ofChange tallyPartsSpec)

/-- ITS FALSE NEIGHBOUR: 'it returns false'. Refute it at one input. -/
def tallyPartsWrong : ChangeSpec := { name := "tallyParts", fn := fun _ => fun
  | [d] => { results := [.lit (.bool false)], args := [d] }
  | _ => none }
def TallyPartsWrongFalsely : Prop := tallyPartsRow.holds Try.pinned (OpenSpec.ofChange tallyPartsWrong)

/-- 'mestalaw05.TallyMore': WHATEVER THE INPUT: true; the input reads as it did. -/
def tallyMoreSpec : ChangeSpec := { name := "tallyMore", fn := fun _ => fun
  | [d] => { results := [.lit (.bool true)], args := [d] }
  | _ => none }
def tallyMoreRow : OpenClaim := { program := "ytdgpacdknpahnaa", sum := "a8c2860e01f0a954e823e643559f3af4e4483bc9b8d0fb48ea2249c4b25033ce", func := "mesta/mestalaw05.TallyMore", spec := "tallyMore", unfollowed := true, recurses := true, plainKeys := false, leaving := true, apart := false }
def TallyMoreSaid : Prop := tallyMoreRow.holds Try.pinned (OpenSpec.ofChange tallyMoreSpec)

/-- ITS FALSE NEIGHBOUR: 'it returns false'. Refute it at one input. -/
def tallyMoreWrong : ChangeSpec := { name := "tallyMore", fn := fun _ => fun
  | [d] => { results := [.lit (.bool false)], args := [d] }
  | _ => none }
def TallyMoreWrongFalsely : Prop := tallyMoreRow.holds Try.pinned (OpenSpec.ofChange tallyMoreWrong)

/-- 'mestalaw05.TallyTruths': WHATEVER THE INPUT: true; the input reads as it did. -/
def tallyTruthsSpec : ChangeSpec := { name := "tallyTruths", fn := fun _ => fun
  | [d1, d2, d3, d4, d5] => { results := [.lit (.bool true)], args := [d1, d2, d3, d4, d5] }
  | _ => none }
def tallyTruthsRow : OpenClaim := { program := "ytdgpacdknpahnaa", sum := "a8c2860e01f0a954e823e643559f3af4e4483bc9b8d0fb48ea2249c4b25033ce", func := "mesta/mestalaw05.TallyTruths", spec := "tallyTruths", unfollowed := true, recurses := true, plainKeys := false, leaving := true, apart := false }
def TallyTruthsSaid : Prop := tallyTruthsRow.holds Try.pinned (OpenSpec.ofChange tallyTruthsSpec)

/-- ITS FALSE NEIGHBOUR: 'it returns false'. Refute it at one input. -/
def tallyTruthsWrong : ChangeSpec := { name := "tallyTruths", fn := fun _ => fun
  | [d1, d2, d3, d4, d5] => { results := [.lit (.bool false)], args := [d1, d2, d3, d4, d5] }
  | _ => none }
def TallyTruthsWrongFalsely : Prop := tallyTruthsRow.holds Try.pinned (OpenSpec.ofChange tallyTruthsWrong)

/-- 'mestalaw05.TallyTold': WHATEVER THE INPUT: true; the input reads as it did. -/
def tallyToldSpec : ChangeSpec := { name := "tallyTold", fn := fun _ => fun
  | [d] => { results := [.lit (.bool true)], args := [d] }
  | _ => none }
def tallyToldRow : OpenClaim := { program := "ytdgpacdknpahnaa", sum := "a8c2860e01f0a954e823e643559f3af4e4483bc9b8d0fb48ea2249c4b25033ce", func := "mesta/mestalaw05.TallyTold", spec := "tallyTold", unfollowed := true, recurses := true, plainKeys := false, leaving := true, apart := false }
def TallyToldSaid : Prop := tallyToldRow.holds Try.pinned (OpenSpec.ofChange tallyToldSpec)

/-- ITS FALSE NEIGHBOUR: 'it returns false'. Refute it at one input. -/
def tallyToldWrong : ChangeSpec := { name := "tallyTold", fn := fun _ => fun
  | [d] => { results := [.lit (.bool false)], args := [d] }
  | _ => none }
def TallyToldWrongFalsely : Prop := tallyToldRow.holds Try.pinned (OpenSpec.ofChange tallyToldWrong)

/-- 'mestalaw05.TallyReads': WHATEVER THE INPUT: true; the input reads as it did. -/
def tallyReadsSpec : ChangeSpec := { name := "tallyReads", fn := fun _ => fun
  | [d1, d2, d3] => { results := [.lit (.bool true)], args := [d1, d2, d3] }
  | _ => none }
def tallyReadsRow : OpenClaim := { program := "ytdgpacdknpahnaa", sum := "a8c2860e01f0a954e823e643559f3af4e4483bc9b8d0fb48ea2249c4b25033ce", func := "mesta/mestalaw05.TallyReads", spec := "tallyReads", unfollowed := true, recurses := true, plainKeys := false, leaving := true, apart := false }
def TallyReadsSaid : Prop := tallyReadsRow.holds Try.pinned (OpenSpec.ofChange tallyReadsSpec)

/-- ITS FALSE NEIGHBOUR: 'it returns false'. Refute it at one input. -/
def tallyReadsWrong : ChangeSpec := { name := "tallyReads", fn := fun _ => fun
  | [d1, d2, d3] => { results := [.lit (.bool false)], args := [d1, d2, d3] }
  | _ => none }
def TallyReadsWrongFalsely : Prop := tallyReadsRow.holds Try.pinned (OpenSpec.ofChange tallyReadsWrong)

/-- 'mestalaw05.TallyLosses': WHATEVER THE INPUT: true; the input reads as it did. -/
def tallyLossesSpec : ChangeSpec := { name := "tallyLosses", fn := fun _ => fun
  | [d1, d2, d3, d4, d5] => { results := [.lit (.bool true)], args := [d1, d2, d3, d4, d5] }
  | _ => none }
def tallyLossesRow : OpenClaim := { program := "ytdgpacdknpahnaa", sum := "a8c2860e01f0a954e823e643559f3af4e4483bc9b8d0fb48ea2249c4b25033ce", func := "mesta/mestalaw05.TallyLosses", spec := "tallyLosses", unfollowed := true, recurses := true, plainKeys := false, leaving := true, apart := false }
def TallyLossesSaid : Prop := tallyLossesRow.holds Try.pinned (OpenSpec.ofChange tallyLossesSpec)

/-- ITS FALSE NEIGHBOUR: 'it returns false'. Refute it at one input. -/
def tallyLossesWrong : ChangeSpec := { name := "tallyLosses", fn := fun _ => fun
  | [d1, d2, d3, d4, d5] => { results := [.lit (.bool false)], args := [d1, d2, d3, d4, d5] }
  | _ => none }
def TallyLossesWrongFalsely : Prop := tallyLossesRow.holds Try.pinned (OpenSpec.ofChange tallyLossesWrong)

/-- 'mestalaw05.TallyWrongs': WHATEVER THE INPUT: true; the input reads as it did. -/
def tallyWrongsSpec : ChangeSpec := { name := "tallyWrongs", fn := fun _ => fun
  | [d1, d2, d3] => { results := [.lit (.bool true)], args := [d1, d2, d3] }
  | _ => none }
def tallyWrongsRow : OpenClaim := { program := "ytdgpacdknpahnaa", sum := "a8c2860e01f0a954e823e643559f3af4e4483bc9b8d0fb48ea2249c4b25033ce", func := "mesta/mestalaw05.TallyWrongs", spec := "tallyWrongs", unfollowed := true, recurses := true, plainKeys := false, leaving := true, apart := false }
def TallyWrongsSaid : Prop := tallyWrongsRow.holds Try.pinned (OpenSpec.ofChange tallyWrongsSpec)

/-- ITS FALSE NEIGHBOUR: 'it returns false'. Refute it at one input. -/
def tallyWrongsWrong : ChangeSpec := { name := "tallyWrongs", fn := fun _ => fun
  | [d1, d2, d3] => { results := [.lit (.bool false)], args := [d1, d2, d3] }
  | _ => none }
def TallyWrongsWrongFalsely : Prop := tallyWrongsRow.holds Try.pinned (OpenSpec.ofChange tallyWrongsWrong)

/-- 'mestalaw05.TallyRight': WHATEVER THE INPUT: true; the input reads as it did. -/
def tallyRightSpec : ChangeSpec := { name := "tallyRight", fn := fun _ => fun
  | [d] => { results := [.lit (.bool true)], args := [d] }
  | _ => none }
def tallyRightRow : OpenClaim := { program := "ytdgpacdknpahnaa", sum := "a8c2860e01f0a954e823e643559f3af4e4483bc9b8d0fb48ea2249c4b25033ce", func := "mesta/mestalaw05.TallyRight", spec := "tallyRight", unfollowed := true, recurses := true, plainKeys := false, leaving := true, apart := false }
def TallyRightSaid : Prop := tallyRightRow.holds Try.pinned (OpenSpec.ofChange tallyRightSpec)

/-- ITS FALSE NEIGHBOUR: 'it returns false'. Refute it at one input. -/
def tallyRightWrong : ChangeSpec := { name := "tallyRight", fn := fun _ => fun
  | [d] => { results := [.lit (.bool false)], args := [d] }
  | _ => none }
def TallyRightWrongFalsely : Prop := tallyRightRow.holds Try.pinned (OpenSpec.ofChange tallyRightWrong)

/-- 'mestalaw05.TallyFewest': WHATEVER THE INPUT: true; the input reads as it did. -/
def tallyFewestSpec : ChangeSpec := { name := "tallyFewest", fn := fun _ => fun
  | [d] => { results := [.lit (.bool true)], args := [d] }
  | _ => none }
def tallyFewestRow : OpenClaim := { program := "ytdgpacdknpahnaa", sum := "a8c2860e01f0a954e823e643559f3af4e4483bc9b8d0fb48ea2249c4b25033ce", func := "mesta/mestalaw05.TallyFewest", spec := "tallyFewest", unfollowed := true, recurses := true, plainKeys := false, leaving := true, apart := false }
def TallyFewestSaid : Prop := tallyFewestRow.holds Try.pinned (OpenSpec.ofChange tallyFewestSpec)

/-- ITS FALSE NEIGHBOUR: 'it returns false'. Refute it at one input. -/
def tallyFewestWrong : ChangeSpec := { name := "tallyFewest", fn := fun _ => fun
  | [d] => { results := [.lit (.bool false)], args := [d] }
  | _ => none }
def TallyFewestWrongFalsely : Prop := tallyFewestRow.holds Try.pinned (OpenSpec.ofChange tallyFewestWrong)

/- THE SECOND FORM. 'bulk': how many values and letters a reading holds, each counted each time it is reached (what is shared counts as often as it is met; a slice's spare places count too). A statement '..UptoSaid' is the law's where the arguments, and the package variables that the reading takes, are together of bulk at most 1048576: NARROWER than '..Said'. Prove '..Said' where nothing that the law and all that it calls make is longer than what came in: it says more and counts as full. Else prove '..UptoSaid'. A law counts once. -/
mutual
def uptoBulk {H : Type} : DataW H → Nat
  | .lit (.string bytes) => bytes.length + 1
  | .lit _ => 1
  | .nil => 1
  | .ptr d => uptoBulk d + 1
  | .slice elems spare => uptoBulkAll elems + uptoBulkAll spare + 1
  | .agg parts => uptoBulkAll parts + 1
  | .iface _ d => uptoBulk d + 1
  | .map entries => uptoBulkEntries entries + 1
  | .held _ => 1
def uptoBulkAll {H : Type} : List (DataW H) → Nat
  | [] => 0
  | d :: r => uptoBulk d + uptoBulkAll r
def uptoBulkEntries {H : Type} : List (Lit × DataW H) → Nat
  | [] => 0
  | x :: r => uptoBulkEntry x + uptoBulkEntries r
def uptoBulkEntry {H : Type} : Lit × DataW H → Nat
  | (.string bytes, d) => bytes.length + uptoBulk d + 1
  | (_, d) => uptoBulk d + 1
 end
def uptoSmall : (H : Type) → List (DataW H) → Bool := fun _ ds => decide (uptoBulkAll ds ≤ 1048576)
def OpenSpec.upto (s : _root_.Go.ChangeSpec) : _root_.Go.OpenSpec := { _root_.Go.OpenSpec.ofChange s with cond := some uptoSmall }

/-- 'mestalaw05.TallyShares', WHERE WHAT IT READS IS OF BULK AT MOST 1048576: true; the input reads as it did. -/
def tallySharesUptoRow : OpenClaim := { program := "ytdgpacdknpahnaa", sum := "a8c2860e01f0a954e823e643559f3af4e4483bc9b8d0fb48ea2249c4b25033ce", func := "mesta/mestalaw05.TallyShares", spec := "tallyShares", unfollowed := true, recurses := true, plainKeys := false, leaving := true, apart := false, narrowed := true }
def TallySharesUptoSaid : Prop := tallySharesUptoRow.holds Try.pinned (OpenSpec.upto tallySharesSpec)

/-- 'mestalaw05.TallyAll', WHERE WHAT IT READS IS OF BULK AT MOST 1048576: true; the input reads as it did. -/
def tallyAllUptoRow : OpenClaim := { program := "ytdgpacdknpahnaa", sum := "a8c2860e01f0a954e823e643559f3af4e4483bc9b8d0fb48ea2249c4b25033ce", func := "mesta/mestalaw05.TallyAll", spec := "tallyAll", unfollowed := true, recurses := true, plainKeys := false, leaving := true, apart := false, narrowed := true }
def TallyAllUptoSaid : Prop := tallyAllUptoRow.holds Try.pinned (OpenSpec.upto tallyAllSpec)

/-- 'mestalaw05.TallyClash', WHERE WHAT IT READS IS OF BULK AT MOST 1048576: true; the input reads as it did. -/
def tallyClashUptoRow : OpenClaim := { program := "ytdgpacdknpahnaa", sum := "a8c2860e01f0a954e823e643559f3af4e4483bc9b8d0fb48ea2249c4b25033ce", func := "mesta/mestalaw05.TallyClash", spec := "tallyClash", unfollowed := true, recurses := true, plainKeys := false, leaving := true, apart := false, narrowed := true }
def TallyClashUptoSaid : Prop := tallyClashUptoRow.holds Try.pinned (OpenSpec.upto tallyClashSpec)

/-- 'mestalaw05.TallyLooser', WHERE WHAT IT READS IS OF BULK AT MOST 1048576: true; the input reads as it did. -/
def tallyLooserUptoRow : OpenClaim := { program := "ytdgpacdknpahnaa", sum := "a8c2860e01f0a954e823e643559f3af4e4483bc9b8d0fb48ea2249c4b25033ce", func := "mesta/mestalaw05.TallyLooser", spec := "tallyLooser", unfollowed := true, recurses := true, plainKeys := false, leaving := true, apart := false, narrowed := true }
def TallyLooserUptoSaid : Prop := tallyLooserUptoRow.holds Try.pinned (OpenSpec.upto tallyLooserSpec)

/-- 'mestalaw05.TallyShared', WHERE WHAT IT READS IS OF BULK AT MOST 1048576: true; the input reads as it did. -/
def tallySharedUptoRow : OpenClaim := { program := "ytdgpacdknpahnaa", sum := "a8c2860e01f0a954e823e643559f3af4e4483bc9b8d0fb48ea2249c4b25033ce", func := "mesta/mestalaw05.TallyShared", spec := "tallyShared", unfollowed := true, recurses := true, plainKeys := false, leaving := true, apart := false, narrowed := true }
def TallySharedUptoSaid : Prop := tallySharedUptoRow.holds Try.pinned (OpenSpec.upto tallySharedSpec)

/-- 'mestalaw05.TallyPossible', WHERE WHAT IT READS IS OF BULK AT MOST 1048576: true; the input reads as it did. -/
def tallyPossibleUptoRow : OpenClaim := { program := "ytdgpacdknpahnaa", sum := "a8c2860e01f0a954e823e643559f3af4e4483bc9b8d0fb48ea2249c4b25033ce", func := "mesta/mestalaw05.TallyPossible", spec := "tallyPossible", unfollowed := true, recurses := true, plainKeys := false, leaving := true, apart := false, narrowed := true }
def TallyPossibleUptoSaid : Prop := tallyPossibleUptoRow.holds Try.pinned (OpenSpec.upto tallyPossibleSpec)

/-- 'mestalaw05.TallyParts', WHERE WHAT IT READS IS OF BULK AT MOST 1048576: true; the input reads as it did. -/
def tallyPartsUptoRow : OpenClaim := { program := "ytdgpacdknpahnaa", sum := "a8c2860e01f0a954e823e643559f3af4e4483bc9b8d0fb48ea2249c4b25033ce", func := "mesta/mestalaw05.TallyParts", spec := "tallyParts", unfollowed := true, recurses := true, plainKeys := false, leaving := true, apart := false, narrowed := true }
def TallyPartsUptoSaid : Prop := tallyPartsUptoRow.holds Try.pinned (OpenSpec.upto tallyPartsSpec)

/-- 'mestalaw05.TallyMore', WHERE WHAT IT READS IS OF BULK AT MOST 1048576: true; the input reads as it did. -/
def tallyMoreUptoRow : OpenClaim := { program := "ytdgpacdknpahnaa", sum := "a8c2860e01f0a954e823e643559f3af4e4483bc9b8d0fb48ea2249c4b25033ce", func := "mesta/mestalaw05.TallyMore", spec := "tallyMore", unfollowed := true, recurses := true, plainKeys := false, leaving := true, apart := false, narrowed := true }
def TallyMoreUptoSaid : Prop := tallyMoreUptoRow.holds Try.pinned (OpenSpec.upto tallyMoreSpec)

/-- 'mestalaw05.TallyTruths', WHERE WHAT IT READS IS OF BULK AT MOST 1048576: true; the input reads as it did. -/
def tallyTruthsUptoRow : OpenClaim := { program := "ytdgpacdknpahnaa", sum := "a8c2860e01f0a954e823e643559f3af4e4483bc9b8d0fb48ea2249c4b25033ce", func := "mesta/mestalaw05.TallyTruths", spec := "tallyTruths", unfollowed := true, recurses := true, plainKeys := false, leaving := true, apart := false, narrowed := true }
def TallyTruthsUptoSaid : Prop := tallyTruthsUptoRow.holds Try.pinned (OpenSpec.upto tallyTruthsSpec)

/-- 'mestalaw05.TallyTold', WHERE WHAT IT READS IS OF BULK AT MOST 1048576: true; the input reads as it did. -/
def tallyToldUptoRow : OpenClaim := { program := "ytdgpacdknpahnaa", sum := "a8c2860e01f0a954e823e643559f3af4e4483bc9b8d0fb48ea2249c4b25033ce", func := "mesta/mestalaw05.TallyTold", spec := "tallyTold", unfollowed := true, recurses := true, plainKeys := false, leaving := true, apart := false, narrowed := true }
def TallyToldUptoSaid : Prop := tallyToldUptoRow.holds Try.pinned (OpenSpec.upto tallyToldSpec)

/-- 'mestalaw05.TallyReads', WHERE WHAT IT READS IS OF BULK AT MOST 1048576: true; the input reads as it did. -/
def tallyReadsUptoRow : OpenClaim := { program := "ytdgpacdknpahnaa", sum := "a8c2860e01f0a954e823e643559f3af4e4483bc9b8d0fb48ea2249c4b25033ce", func := "mesta/mestalaw05.TallyReads", spec := "tallyReads", unfollowed := true, recurses := true, plainKeys := false, leaving := true, apart := false, narrowed := true }
def TallyReadsUptoSaid : Prop := tallyReadsUptoRow.holds Try.pinned (OpenSpec.upto tallyReadsSpec)

/-- 'mestalaw05.TallyLosses', WHERE WHAT IT READS IS OF BULK AT MOST 1048576: true; the input reads as it did. -/
def tallyLossesUptoRow : OpenClaim := { program := "ytdgpacdknpahnaa", sum := "a8c2860e01f0a954e823e643559f3af4e4483bc9b8d0fb48ea2249c4b25033ce", func := "mesta/mestalaw05.TallyLosses", spec := "tallyLosses", unfollowed := true, recurses := true, plainKeys := false, leaving := true, apart := false, narrowed := true }
def TallyLossesUptoSaid : Prop := tallyLossesUptoRow.holds Try.pinned (OpenSpec.upto tallyLossesSpec)

/-- 'mestalaw05.TallyWrongs', WHERE WHAT IT READS IS OF BULK AT MOST 1048576: true; the input reads as it did. -/
def tallyWrongsUptoRow : OpenClaim := { program := "ytdgpacdknpahnaa", sum := "a8c2860e01f0a954e823e643559f3af4e4483bc9b8d0fb48ea2249c4b25033ce", func := "mesta/mestalaw05.TallyWrongs", spec := "tallyWrongs", unfollowed := true, recurses := true, plainKeys := false, leaving := true, apart := false, narrowed := true }
def TallyWrongsUptoSaid : Prop := tallyWrongsUptoRow.holds Try.pinned (OpenSpec.upto tallyWrongsSpec)

/-- 'mestalaw05.TallyRight', WHERE WHAT IT READS IS OF BULK AT MOST 1048576: true; the input reads as it did. -/
def tallyRightUptoRow : OpenClaim := { program := "ytdgpacdknpahnaa", sum := "a8c2860e01f0a954e823e643559f3af4e4483bc9b8d0fb48ea2249c4b25033ce", func := "mesta/mestalaw05.TallyRight", spec := "tallyRight", unfollowed := true, recurses := true, plainKeys := false, leaving := true, apart := false, narrowed := true }
def TallyRightUptoSaid : Prop := tallyRightUptoRow.holds Try.pinned (OpenSpec.upto tallyRightSpec)

/-- 'mestalaw05.TallyFewest', WHERE WHAT IT READS IS OF BULK AT MOST 1048576: true; the input reads as it did. -/
def tallyFewestUptoRow : OpenClaim := { program := "ytdgpacdknpahnaa", sum := "a8c2860e01f0a954e823e643559f3af4e4483bc9b8d0fb48ea2249c4b25033ce", func := "mesta/mestalaw05.TallyFewest", spec := "tallyFewest", unfollowed := true, recurses := true, plainKeys := false, leaving := true, apart := false, narrowed := true }
def TallyFewestUptoSaid : Prop := tallyFewestUptoRow.holds Try.pinned (OpenSpec.upto tallyFewestSpec)

end Rows
end Go.Proofs.Ytdgpacdknpahnaa
