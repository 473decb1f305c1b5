/-
  No cell of these rows narrows 'for every input' (looked for: loops, veiled, ifaces, maps, wideKeys, modest, calm, conditions, laid).
  DERIVED. THE GIVEN ROWS OF THIS SEAT. 18 by the template 'for every input the law returns true; each argument reads behind the call as it read before'; 0 by the template 'total and deterministic' (their statements: YthnccaajpdnndaaTotals.lean).
  GIVEN WITH THE SEED: the statements are not yours to turn. If you find one false, say at which input.
  Laid BY PROGRAM, IN A SANDBOX (cutbox-rows.mjs): the forced cells as the released guide's own fill.sh prints them over the translation f43554dbf2aaf0b8… (all of the seat's roots in one cut). By AI agents, Wed Nov 11 2026. No macro, syntax, notation, axiom, sorry.
-/
import Derived.Test.YthnccaajpdnndaaChecked
import GoSem.Claim
import GoSem.ClaimJoined
import GoSem.ClaimMapViews
import Derived.JoinedTies
import Derived.KernelRfl
namespace Go.Proofs.Ythnccaajpdnndaa
/- THE CELL 'sum', in the pinned program and in every row, IS THE sha256 OF THE DUMP (.gsa) THAT YthnccaajpdnndaaProg.lean LOADS. Nothing in Lean hashes anything: it is a label: what it is worth is what the hold of that sum in a sandbox is worth. -/
noncomputable def Try.pinned : Pinned := { name := "ythnccaajpdnndaa", sum := "f43554dbf2aaf0b80b37ccfca1b8a9a08f5b99563730397a5792b51667d5377b", checked := Try.checked }
namespace Rows
def none {H : Type} : Left H := { results := [], args := [] }

/-- 'mestalaw01.GrassTurn': WHATEVER THE INPUT: true; the input reads as it did. -/
def grassTurnSpec : ChangeSpec := { name := "grassTurn", fn := fun _ => fun
  | [d1, d2, d3, d4] => { results := [.lit (.bool true)], args := [d1, d2, d3, d4] }
  | _ => none }
def grassTurnRow : OpenClaim := { program := "ythnccaajpdnndaa", sum := "f43554dbf2aaf0b80b37ccfca1b8a9a08f5b99563730397a5792b51667d5377b", func := "mesta/mestalaw01.GrassTurn", spec := "grassTurn", inPlace := ["(*sync.WaitGroup).Add", "internal/race.ReleaseMerge", "internal/race.Disable", "internal/race.Enable", "internal/synctest.IsInBubble", "internal/synctest.Associate[sync.WaitGroup]", "sync.fatal", "sync/atomic.OrUint64", "sync/atomic.AddUint64", "internal/race.Read", "sync/atomic.LoadUint64", "sync/atomic.StoreUint64", "internal/synctest.Disassociate[sync.WaitGroup]", "sync.runtime_Semrelease", "(*sync.WaitGroup).Done", "(*sync.WaitGroup).Wait", "internal/race.Acquire", "internal/synctest.IsAssociated[sync.WaitGroup]", "sync/atomic.CompareAndSwapUint64", "internal/race.Write", "sync.runtime_SemacquireWaitGroup"], unfollowed := true, recurses := true, plainKeys := false, leaving := true, apart := false }
def GrassTurnSaid : Prop := grassTurnRow.holds Try.pinned (OpenSpec.ofChange grassTurnSpec)

/-- ITS FALSE NEIGHBOUR: 'it returns false'. Refute it at one input. -/
def grassTurnWrong : ChangeSpec := { name := "grassTurn", fn := fun _ => fun
  | [d1, d2, d3, d4] => { results := [.lit (.bool false)], args := [d1, d2, d3, d4] }
  | _ => none }
def GrassTurnWrongFalsely : Prop := grassTurnRow.holds Try.pinned (OpenSpec.ofChange grassTurnWrong)

/-- 'mestalaw01.GrassBetter': WHATEVER THE INPUT: true; the input reads as it did. -/
def grassBetterSpec : ChangeSpec := { name := "grassBetter", fn := fun _ => fun
  | [d] => { results := [.lit (.bool true)], args := [d] }
  | _ => none }
def grassBetterRow : OpenClaim := { program := "ythnccaajpdnndaa", sum := "f43554dbf2aaf0b80b37ccfca1b8a9a08f5b99563730397a5792b51667d5377b", func := "mesta/mestalaw01.GrassBetter", spec := "grassBetter", inPlace := ["(*sync.WaitGroup).Add", "internal/race.ReleaseMerge", "internal/race.Disable", "internal/race.Enable", "internal/synctest.IsInBubble", "internal/synctest.Associate[sync.WaitGroup]", "sync.fatal", "sync/atomic.OrUint64", "sync/atomic.AddUint64", "internal/race.Read", "sync/atomic.LoadUint64", "sync/atomic.StoreUint64", "internal/synctest.Disassociate[sync.WaitGroup]", "sync.runtime_Semrelease", "(*sync.WaitGroup).Done", "(*sync.WaitGroup).Wait", "internal/race.Acquire", "internal/synctest.IsAssociated[sync.WaitGroup]", "sync/atomic.CompareAndSwapUint64", "internal/race.Write", "sync.runtime_SemacquireWaitGroup"], unfollowed := true, recurses := true, plainKeys := false, leaving := true, apart := false }
def GrassBetterSaid : Prop := grassBetterRow.holds Try.pinned (OpenSpec.ofChange grassBetterSpec)

/-- ITS FALSE NEIGHBOUR: 'it returns false'. Refute it at one input. -/
def grassBetterWrong : ChangeSpec := { name := "grassBetter", fn := fun _ => fun
  | [d] => { results := [.lit (.bool false)], args := [d] }
  | _ => none }
def GrassBetterWrongFalsely : Prop := grassBetterRow.holds Try.pinned (OpenSpec.ofChange grassBetterWrong)

/-- 'mestalaw01.GrassRested': WHATEVER THE INPUT: true; the input reads as it did. -/
def grassRestedSpec : ChangeSpec := { name := "grassRested", fn := fun _ => fun
  | [d] => { results := [.lit (.bool true)], args := [d] }
  | _ => none }
def grassRestedRow : OpenClaim := { program := "ythnccaajpdnndaa", sum := "f43554dbf2aaf0b80b37ccfca1b8a9a08f5b99563730397a5792b51667d5377b", func := "mesta/mestalaw01.GrassRested", spec := "grassRested", inPlace := ["(*sync.WaitGroup).Add", "internal/race.ReleaseMerge", "internal/race.Disable", "internal/race.Enable", "internal/synctest.IsInBubble", "internal/synctest.Associate[sync.WaitGroup]", "sync.fatal", "sync/atomic.OrUint64", "sync/atomic.AddUint64", "internal/race.Read", "sync/atomic.LoadUint64", "sync/atomic.StoreUint64", "internal/synctest.Disassociate[sync.WaitGroup]", "sync.runtime_Semrelease", "(*sync.WaitGroup).Done", "(*sync.WaitGroup).Wait", "internal/race.Acquire", "internal/synctest.IsAssociated[sync.WaitGroup]", "sync/atomic.CompareAndSwapUint64", "internal/race.Write", "sync.runtime_SemacquireWaitGroup"], unfollowed := true, recurses := true, plainKeys := false, leaving := true, apart := false }
def GrassRestedSaid : Prop := grassRestedRow.holds Try.pinned (OpenSpec.ofChange grassRestedSpec)

/-- ITS FALSE NEIGHBOUR: 'it returns false'. Refute it at one input. -/
def grassRestedWrong : ChangeSpec := { name := "grassRested", fn := fun _ => fun
  | [d] => { results := [.lit (.bool false)], args := [d] }
  | _ => none }
def GrassRestedWrongFalsely : Prop := grassRestedRow.holds Try.pinned (OpenSpec.ofChange grassRestedWrong)

/-- 'mestalaw01.GrassRains': WHATEVER THE INPUT: true; the input reads as it did. -/
def grassRainsSpec : ChangeSpec := { name := "grassRains", fn := fun _ => fun
  | [d1, d2, d3] => { results := [.lit (.bool true)], args := [d1, d2, d3] }
  | _ => none }
def grassRainsRow : OpenClaim := { program := "ythnccaajpdnndaa", sum := "f43554dbf2aaf0b80b37ccfca1b8a9a08f5b99563730397a5792b51667d5377b", func := "mesta/mestalaw01.GrassRains", spec := "grassRains", inPlace := ["(*sync.WaitGroup).Add", "internal/race.ReleaseMerge", "internal/race.Disable", "internal/race.Enable", "internal/synctest.IsInBubble", "internal/synctest.Associate[sync.WaitGroup]", "sync.fatal", "sync/atomic.OrUint64", "sync/atomic.AddUint64", "internal/race.Read", "sync/atomic.LoadUint64", "sync/atomic.StoreUint64", "internal/synctest.Disassociate[sync.WaitGroup]", "sync.runtime_Semrelease", "(*sync.WaitGroup).Done", "(*sync.WaitGroup).Wait", "internal/race.Acquire", "internal/synctest.IsAssociated[sync.WaitGroup]", "sync/atomic.CompareAndSwapUint64", "internal/race.Write", "sync.runtime_SemacquireWaitGroup"], unfollowed := true, recurses := true, plainKeys := false, leaving := true, apart := false }
def GrassRainsSaid : Prop := grassRainsRow.holds Try.pinned (OpenSpec.ofChange grassRainsSpec)

/-- ITS FALSE NEIGHBOUR: 'it returns false'. Refute it at one input. -/
def grassRainsWrong : ChangeSpec := { name := "grassRains", fn := fun _ => fun
  | [d1, d2, d3] => { results := [.lit (.bool false)], args := [d1, d2, d3] }
  | _ => none }
def GrassRainsWrongFalsely : Prop := grassRainsRow.holds Try.pinned (OpenSpec.ofChange grassRainsWrong)

/-- 'mestalaw01.GrassAll': WHATEVER THE INPUT: true; the input reads as it did. -/
def grassAllSpec : ChangeSpec := { name := "grassAll", fn := fun _ => fun
  | [d] => { results := [.lit (.bool true)], args := [d] }
  | _ => none }
def grassAllRow : OpenClaim := { program := "ythnccaajpdnndaa", sum := "f43554dbf2aaf0b80b37ccfca1b8a9a08f5b99563730397a5792b51667d5377b", func := "mesta/mestalaw01.GrassAll", spec := "grassAll", inPlace := ["(*sync.WaitGroup).Add", "internal/race.ReleaseMerge", "internal/race.Disable", "internal/race.Enable", "internal/synctest.IsInBubble", "internal/synctest.Associate[sync.WaitGroup]", "sync.fatal", "sync/atomic.OrUint64", "sync/atomic.AddUint64", "internal/race.Read", "sync/atomic.LoadUint64", "sync/atomic.StoreUint64", "internal/synctest.Disassociate[sync.WaitGroup]", "sync.runtime_Semrelease", "(*sync.WaitGroup).Done", "(*sync.WaitGroup).Wait", "internal/race.Acquire", "internal/synctest.IsAssociated[sync.WaitGroup]", "sync/atomic.CompareAndSwapUint64", "internal/race.Write", "sync.runtime_SemacquireWaitGroup"], unfollowed := true, recurses := true, plainKeys := false, leaving := true, apart := false }
def GrassAllSaid : Prop := grassAllRow.holds Try.pinned (OpenSpec.ofChange grassAllSpec)

/-- ITS FALSE NEIGHBOUR: 'it returns false'. Refute it at one input. -/
def grassAllWrong : ChangeSpec := { name := "grassAll", fn := fun _ => fun
  | [d] => { results := [.lit (.bool false)], args := [d] }
  | _ => none }
def GrassAllWrongFalsely : Prop := grassAllRow.holds Try.pinned (OpenSpec.ofChange grassAllWrong)

/-- 'mestalaw01.GrassBetween': WHATEVER THE INPUT: true; the input reads as it did. -/
def grassBetweenSpec : ChangeSpec := { name := "grassBetween", fn := fun _ => fun
  | [d] => { results := [.lit (.bool true)], args := [d] }
  | _ => none }
def grassBetweenRow : OpenClaim := { program := "ythnccaajpdnndaa", sum := "f43554dbf2aaf0b80b37ccfca1b8a9a08f5b99563730397a5792b51667d5377b", func := "mesta/mestalaw01.GrassBetween", spec := "grassBetween", inPlace := ["(*sync.WaitGroup).Add", "internal/race.ReleaseMerge", "internal/race.Disable", "internal/race.Enable", "internal/synctest.IsInBubble", "internal/synctest.Associate[sync.WaitGroup]", "sync.fatal", "sync/atomic.OrUint64", "sync/atomic.AddUint64", "internal/race.Read", "sync/atomic.LoadUint64", "sync/atomic.StoreUint64", "internal/synctest.Disassociate[sync.WaitGroup]", "sync.runtime_Semrelease", "(*sync.WaitGroup).Done", "(*sync.WaitGroup).Wait", "internal/race.Acquire", "internal/synctest.IsAssociated[sync.WaitGroup]", "sync/atomic.CompareAndSwapUint64", "internal/race.Write", "sync.runtime_SemacquireWaitGroup"], unfollowed := true, recurses := true, plainKeys := false, leaving := true, apart := false }
def GrassBetweenSaid : Prop := grassBetweenRow.holds Try.pinned (OpenSpec.ofChange grassBetweenSpec)

/-- ITS FALSE NEIGHBOUR: 'it returns false'. Refute it at one input. -/
def grassBetweenWrong : ChangeSpec := { name := "grassBetween", fn := fun _ => fun
  | [d] => { results := [.lit (.bool false)], args := [d] }
  | _ => none }
def GrassBetweenWrongFalsely : Prop := grassBetweenRow.holds Try.pinned (OpenSpec.ofChange grassBetweenWrong)

/-- 'mestalaw01.GrassWetter': WHATEVER THE INPUT: true; the input reads as it did. -/
def grassWetterSpec : ChangeSpec := { name := "grassWetter", fn := fun _ => fun
  | [d] => { results := [.lit (.bool true)], args := [d] }
  | _ => none }
def grassWetterRow : OpenClaim := { program := "ythnccaajpdnndaa", sum := "f43554dbf2aaf0b80b37ccfca1b8a9a08f5b99563730397a5792b51667d5377b", func := "mesta/mestalaw01.GrassWetter", spec := "grassWetter", inPlace := ["(*sync.WaitGroup).Add", "internal/race.ReleaseMerge", "internal/race.Disable", "internal/race.Enable", "internal/synctest.IsInBubble", "internal/synctest.Associate[sync.WaitGroup]", "sync.fatal", "sync/atomic.OrUint64", "sync/atomic.AddUint64", "internal/race.Read", "sync/atomic.LoadUint64", "sync/atomic.StoreUint64", "internal/synctest.Disassociate[sync.WaitGroup]", "sync.runtime_Semrelease", "(*sync.WaitGroup).Done", "(*sync.WaitGroup).Wait", "internal/race.Acquire", "internal/synctest.IsAssociated[sync.WaitGroup]", "sync/atomic.CompareAndSwapUint64", "internal/race.Write", "sync.runtime_SemacquireWaitGroup"], unfollowed := true, recurses := true, plainKeys := false, leaving := true, apart := false }
def GrassWetterSaid : Prop := grassWetterRow.holds Try.pinned (OpenSpec.ofChange grassWetterSpec)

/-- ITS FALSE NEIGHBOUR: 'it returns false'. Refute it at one input. -/
def grassWetterWrong : ChangeSpec := { name := "grassWetter", fn := fun _ => fun
  | [d] => { results := [.lit (.bool false)], args := [d] }
  | _ => none }
def GrassWetterWrongFalsely : Prop := grassWetterRow.holds Try.pinned (OpenSpec.ofChange grassWetterWrong)

/-- 'mestalaw01.GrassHeads': WHATEVER THE INPUT: true; the input reads as it did. -/
def grassHeadsSpec : ChangeSpec := { name := "grassHeads", fn := fun _ => fun
  | [d1, d2, d3, d4, d5, d6] => { results := [.lit (.bool true)], args := [d1, d2, d3, d4, d5, d6] }
  | _ => none }
def grassHeadsRow : OpenClaim := { program := "ythnccaajpdnndaa", sum := "f43554dbf2aaf0b80b37ccfca1b8a9a08f5b99563730397a5792b51667d5377b", func := "mesta/mestalaw01.GrassHeads", spec := "grassHeads", inPlace := ["(*sync.WaitGroup).Add", "internal/race.ReleaseMerge", "internal/race.Disable", "internal/race.Enable", "internal/synctest.IsInBubble", "internal/synctest.Associate[sync.WaitGroup]", "sync.fatal", "sync/atomic.OrUint64", "sync/atomic.AddUint64", "internal/race.Read", "sync/atomic.LoadUint64", "sync/atomic.StoreUint64", "internal/synctest.Disassociate[sync.WaitGroup]", "sync.runtime_Semrelease", "(*sync.WaitGroup).Done", "(*sync.WaitGroup).Wait", "internal/race.Acquire", "internal/synctest.IsAssociated[sync.WaitGroup]", "sync/atomic.CompareAndSwapUint64", "internal/race.Write", "sync.runtime_SemacquireWaitGroup"], unfollowed := true, recurses := true, plainKeys := false, leaving := true, apart := false }
def GrassHeadsSaid : Prop := grassHeadsRow.holds Try.pinned (OpenSpec.ofChange grassHeadsSpec)

/-- ITS FALSE NEIGHBOUR: 'it returns false'. Refute it at one input. -/
def grassHeadsWrong : ChangeSpec := { name := "grassHeads", fn := fun _ => fun
  | [d1, d2, d3, d4, d5, d6] => { results := [.lit (.bool false)], args := [d1, d2, d3, d4, d5, d6] }
  | _ => none }
def GrassHeadsWrongFalsely : Prop := grassHeadsRow.holds Try.pinned (OpenSpec.ofChange grassHeadsWrong)

/-- 'mestalaw01.GrassAsks': WHATEVER THE INPUT: true; the input reads as it did. -/
def grassAsksSpec : ChangeSpec := { name := "grassAsks", fn := fun _ => fun
  | [d1, d2, d3, d4] => { results := [.lit (.bool true)], args := [d1, d2, d3, d4] }
  | _ => none }
def grassAsksRow : OpenClaim := { program := "ythnccaajpdnndaa", sum := "f43554dbf2aaf0b80b37ccfca1b8a9a08f5b99563730397a5792b51667d5377b", func := "mesta/mestalaw01.GrassAsks", spec := "grassAsks", inPlace := ["(*sync.WaitGroup).Add", "internal/race.ReleaseMerge", "internal/race.Disable", "internal/race.Enable", "internal/synctest.IsInBubble", "internal/synctest.Associate[sync.WaitGroup]", "sync.fatal", "sync/atomic.OrUint64", "sync/atomic.AddUint64", "internal/race.Read", "sync/atomic.LoadUint64", "sync/atomic.StoreUint64", "internal/synctest.Disassociate[sync.WaitGroup]", "sync.runtime_Semrelease", "(*sync.WaitGroup).Done", "(*sync.WaitGroup).Wait", "internal/race.Acquire", "internal/synctest.IsAssociated[sync.WaitGroup]", "sync/atomic.CompareAndSwapUint64", "internal/race.Write", "sync.runtime_SemacquireWaitGroup"], unfollowed := true, recurses := true, plainKeys := false, leaving := true, apart := false }
def GrassAsksSaid : Prop := grassAsksRow.holds Try.pinned (OpenSpec.ofChange grassAsksSpec)

/-- ITS FALSE NEIGHBOUR: 'it returns false'. Refute it at one input. -/
def grassAsksWrong : ChangeSpec := { name := "grassAsks", fn := fun _ => fun
  | [d1, d2, d3, d4] => { results := [.lit (.bool false)], args := [d1, d2, d3, d4] }
  | _ => none }
def GrassAsksWrongFalsely : Prop := grassAsksRow.holds Try.pinned (OpenSpec.ofChange grassAsksWrong)

/-- 'mestalaw01.GrassMost': WHATEVER THE INPUT: true; the input reads as it did. -/
def grassMostSpec : ChangeSpec := { name := "grassMost", fn := fun _ => fun
  | [d] => { results := [.lit (.bool true)], args := [d] }
  | _ => none }
def grassMostRow : OpenClaim := { program := "ythnccaajpdnndaa", sum := "f43554dbf2aaf0b80b37ccfca1b8a9a08f5b99563730397a5792b51667d5377b", func := "mesta/mestalaw01.GrassMost", spec := "grassMost", inPlace := ["(*sync.WaitGroup).Add", "internal/race.ReleaseMerge", "internal/race.Disable", "internal/race.Enable", "internal/synctest.IsInBubble", "internal/synctest.Associate[sync.WaitGroup]", "sync.fatal", "sync/atomic.OrUint64", "sync/atomic.AddUint64", "internal/race.Read", "sync/atomic.LoadUint64", "sync/atomic.StoreUint64", "internal/synctest.Disassociate[sync.WaitGroup]", "sync.runtime_Semrelease", "(*sync.WaitGroup).Done", "(*sync.WaitGroup).Wait", "internal/race.Acquire", "internal/synctest.IsAssociated[sync.WaitGroup]", "sync/atomic.CompareAndSwapUint64", "internal/race.Write", "sync.runtime_SemacquireWaitGroup"], unfollowed := true, recurses := true, plainKeys := false, leaving := true, apart := false }
def GrassMostSaid : Prop := grassMostRow.holds Try.pinned (OpenSpec.ofChange grassMostSpec)

/-- ITS FALSE NEIGHBOUR: 'it returns false'. Refute it at one input. -/
def grassMostWrong : ChangeSpec := { name := "grassMost", fn := fun _ => fun
  | [d] => { results := [.lit (.bool false)], args := [d] }
  | _ => none }
def GrassMostWrongFalsely : Prop := grassMostRow.holds Try.pinned (OpenSpec.ofChange grassMostWrong)

/-- 'mestalaw01.GrassTurned': WHATEVER THE INPUT: true; the input reads as it did. -/
def grassTurnedSpec : ChangeSpec := { name := "grassTurned", fn := fun _ => fun
  | [d] => { results := [.lit (.bool true)], args := [d] }
  | _ => none }
def grassTurnedRow : OpenClaim := { program := "ythnccaajpdnndaa", sum := "f43554dbf2aaf0b80b37ccfca1b8a9a08f5b99563730397a5792b51667d5377b", func := "mesta/mestalaw01.GrassTurned", spec := "grassTurned", inPlace := ["(*sync.WaitGroup).Add", "internal/race.ReleaseMerge", "internal/race.Disable", "internal/race.Enable", "internal/synctest.IsInBubble", "internal/synctest.Associate[sync.WaitGroup]", "sync.fatal", "sync/atomic.OrUint64", "sync/atomic.AddUint64", "internal/race.Read", "sync/atomic.LoadUint64", "sync/atomic.StoreUint64", "internal/synctest.Disassociate[sync.WaitGroup]", "sync.runtime_Semrelease", "(*sync.WaitGroup).Done", "(*sync.WaitGroup).Wait", "internal/race.Acquire", "internal/synctest.IsAssociated[sync.WaitGroup]", "sync/atomic.CompareAndSwapUint64", "internal/race.Write", "sync.runtime_SemacquireWaitGroup"], unfollowed := true, recurses := true, plainKeys := false, leaving := true, apart := false }
def GrassTurnedSaid : Prop := grassTurnedRow.holds Try.pinned (OpenSpec.ofChange grassTurnedSpec)

/-- ITS FALSE NEIGHBOUR: 'it returns false'. Refute it at one input. -/
def grassTurnedWrong : ChangeSpec := { name := "grassTurned", fn := fun _ => fun
  | [d] => { results := [.lit (.bool false)], args := [d] }
  | _ => none }
def GrassTurnedWrongFalsely : Prop := grassTurnedRow.holds Try.pinned (OpenSpec.ofChange grassTurnedWrong)

/-- 'mestalaw01.GrassDays': WHATEVER THE INPUT: true; the input reads as it did. -/
def grassDaysSpec : ChangeSpec := { name := "grassDays", fn := fun _ => fun
  | [d1, d2, d3, d4, d5, d6] => { results := [.lit (.bool true)], args := [d1, d2, d3, d4, d5, d6] }
  | _ => none }
def grassDaysRow : OpenClaim := { program := "ythnccaajpdnndaa", sum := "f43554dbf2aaf0b80b37ccfca1b8a9a08f5b99563730397a5792b51667d5377b", func := "mesta/mestalaw01.GrassDays", spec := "grassDays", inPlace := ["(*sync.WaitGroup).Add", "internal/race.ReleaseMerge", "internal/race.Disable", "internal/race.Enable", "internal/synctest.IsInBubble", "internal/synctest.Associate[sync.WaitGroup]", "sync.fatal", "sync/atomic.OrUint64", "sync/atomic.AddUint64", "internal/race.Read", "sync/atomic.LoadUint64", "sync/atomic.StoreUint64", "internal/synctest.Disassociate[sync.WaitGroup]", "sync.runtime_Semrelease", "(*sync.WaitGroup).Done", "(*sync.WaitGroup).Wait", "internal/race.Acquire", "internal/synctest.IsAssociated[sync.WaitGroup]", "sync/atomic.CompareAndSwapUint64", "internal/race.Write", "sync.runtime_SemacquireWaitGroup"], unfollowed := true, recurses := true, plainKeys := false, leaving := true, apart := false }
def GrassDaysSaid : Prop := grassDaysRow.holds Try.pinned (OpenSpec.ofChange grassDaysSpec)

/-- ITS FALSE NEIGHBOUR: 'it returns false'. Refute it at one input. -/
def grassDaysWrong : ChangeSpec := { name := "grassDays", fn := fun _ => fun
  | [d1, d2, d3, d4, d5, d6] => { results := [.lit (.bool false)], args := [d1, d2, d3, d4, d5, d6] }
  | _ => none }
def GrassDaysWrongFalsely : Prop := grassDaysRow.holds Try.pinned (OpenSpec.ofChange grassDaysWrong)

/-- 'mestalaw01.GrassByDay': WHATEVER THE INPUT: true; the input reads as it did. -/
def grassByDaySpec : ChangeSpec := { name := "grassByDay", fn := fun _ => fun
  | [d] => { results := [.lit (.bool true)], args := [d] }
  | _ => none }
def grassByDayRow : OpenClaim := { program := "ythnccaajpdnndaa", sum := "f43554dbf2aaf0b80b37ccfca1b8a9a08f5b99563730397a5792b51667d5377b", func := "mesta/mestalaw01.GrassByDay", spec := "grassByDay", inPlace := ["(*sync.WaitGroup).Add", "internal/race.ReleaseMerge", "internal/race.Disable", "internal/race.Enable", "internal/synctest.IsInBubble", "internal/synctest.Associate[sync.WaitGroup]", "sync.fatal", "sync/atomic.OrUint64", "sync/atomic.AddUint64", "internal/race.Read", "sync/atomic.LoadUint64", "sync/atomic.StoreUint64", "internal/synctest.Disassociate[sync.WaitGroup]", "sync.runtime_Semrelease", "(*sync.WaitGroup).Done", "(*sync.WaitGroup).Wait", "internal/race.Acquire", "internal/synctest.IsAssociated[sync.WaitGroup]", "sync/atomic.CompareAndSwapUint64", "internal/race.Write", "sync.runtime_SemacquireWaitGroup"], unfollowed := true, recurses := true, plainKeys := false, leaving := true, apart := false }
def GrassByDaySaid : Prop := grassByDayRow.holds Try.pinned (OpenSpec.ofChange grassByDaySpec)

/-- ITS FALSE NEIGHBOUR: 'it returns false'. Refute it at one input. -/
def grassByDayWrong : ChangeSpec := { name := "grassByDay", fn := fun _ => fun
  | [d] => { results := [.lit (.bool false)], args := [d] }
  | _ => none }
def GrassByDayWrongFalsely : Prop := grassByDayRow.holds Try.pinned (OpenSpec.ofChange grassByDayWrong)

/-- 'mestalaw01.GrassAgain': WHATEVER THE INPUT: true; the input reads as it did. -/
def grassAgainSpec : ChangeSpec := { name := "grassAgain", fn := fun _ => fun
  | [d] => { results := [.lit (.bool true)], args := [d] }
  | _ => none }
def grassAgainRow : OpenClaim := { program := "ythnccaajpdnndaa", sum := "f43554dbf2aaf0b80b37ccfca1b8a9a08f5b99563730397a5792b51667d5377b", func := "mesta/mestalaw01.GrassAgain", spec := "grassAgain", inPlace := ["(*sync.WaitGroup).Add", "internal/race.ReleaseMerge", "internal/race.Disable", "internal/race.Enable", "internal/synctest.IsInBubble", "internal/synctest.Associate[sync.WaitGroup]", "sync.fatal", "sync/atomic.OrUint64", "sync/atomic.AddUint64", "internal/race.Read", "sync/atomic.LoadUint64", "sync/atomic.StoreUint64", "internal/synctest.Disassociate[sync.WaitGroup]", "sync.runtime_Semrelease", "(*sync.WaitGroup).Done", "(*sync.WaitGroup).Wait", "internal/race.Acquire", "internal/synctest.IsAssociated[sync.WaitGroup]", "sync/atomic.CompareAndSwapUint64", "internal/race.Write", "sync.runtime_SemacquireWaitGroup"], unfollowed := true, recurses := true, plainKeys := false, leaving := true, apart := false }
def GrassAgainSaid : Prop := grassAgainRow.holds Try.pinned (OpenSpec.ofChange grassAgainSpec)

/-- ITS FALSE NEIGHBOUR: 'it returns false'. Refute it at one input. -/
def grassAgainWrong : ChangeSpec := { name := "grassAgain", fn := fun _ => fun
  | [d] => { results := [.lit (.bool false)], args := [d] }
  | _ => none }
def GrassAgainWrongFalsely : Prop := grassAgainRow.holds Try.pinned (OpenSpec.ofChange grassAgainWrong)

/-- 'mestalaw01.GrassWaits': WHATEVER THE INPUT: true; the input reads as it did. -/
def grassWaitsSpec : ChangeSpec := { name := "grassWaits", fn := fun _ => fun
  | [d1, d2, d3, d4, d5, d6, d7, d8] => { results := [.lit (.bool true)], args := [d1, d2, d3, d4, d5, d6, d7, d8] }
  | _ => none }
def grassWaitsRow : OpenClaim := { program := "ythnccaajpdnndaa", sum := "f43554dbf2aaf0b80b37ccfca1b8a9a08f5b99563730397a5792b51667d5377b", func := "mesta/mestalaw01.GrassWaits", spec := "grassWaits", inPlace := ["(*sync.WaitGroup).Add", "internal/race.ReleaseMerge", "internal/race.Disable", "internal/race.Enable", "internal/synctest.IsInBubble", "internal/synctest.Associate[sync.WaitGroup]", "sync.fatal", "sync/atomic.OrUint64", "sync/atomic.AddUint64", "internal/race.Read", "sync/atomic.LoadUint64", "sync/atomic.StoreUint64", "internal/synctest.Disassociate[sync.WaitGroup]", "sync.runtime_Semrelease", "(*sync.WaitGroup).Done", "(*sync.WaitGroup).Wait", "internal/race.Acquire", "internal/synctest.IsAssociated[sync.WaitGroup]", "sync/atomic.CompareAndSwapUint64", "internal/race.Write", "sync.runtime_SemacquireWaitGroup"], unfollowed := true, recurses := true, plainKeys := false, leaving := true, apart := false }
def GrassWaitsSaid : Prop := grassWaitsRow.holds Try.pinned (OpenSpec.ofChange grassWaitsSpec)

/-- ITS FALSE NEIGHBOUR: 'it returns false'. Refute it at one input. -/
def grassWaitsWrong : ChangeSpec := { name := "grassWaits", fn := fun _ => fun
  | [d1, d2, d3, d4, d5, d6, d7, d8] => { results := [.lit (.bool false)], args := [d1, d2, d3, d4, d5, d6, d7, d8] }
  | _ => none }
def GrassWaitsWrongFalsely : Prop := grassWaitsRow.holds Try.pinned (OpenSpec.ofChange grassWaitsWrong)

/-- 'mestalaw01.GrassLong': WHATEVER THE INPUT: true; the input reads as it did. -/
def grassLongSpec : ChangeSpec := { name := "grassLong", fn := fun _ => fun
  | [d] => { results := [.lit (.bool true)], args := [d] }
  | _ => none }
def grassLongRow : OpenClaim := { program := "ythnccaajpdnndaa", sum := "f43554dbf2aaf0b80b37ccfca1b8a9a08f5b99563730397a5792b51667d5377b", func := "mesta/mestalaw01.GrassLong", spec := "grassLong", inPlace := ["(*sync.WaitGroup).Add", "internal/race.ReleaseMerge", "internal/race.Disable", "internal/race.Enable", "internal/synctest.IsInBubble", "internal/synctest.Associate[sync.WaitGroup]", "sync.fatal", "sync/atomic.OrUint64", "sync/atomic.AddUint64", "internal/race.Read", "sync/atomic.LoadUint64", "sync/atomic.StoreUint64", "internal/synctest.Disassociate[sync.WaitGroup]", "sync.runtime_Semrelease", "(*sync.WaitGroup).Done", "(*sync.WaitGroup).Wait", "internal/race.Acquire", "internal/synctest.IsAssociated[sync.WaitGroup]", "sync/atomic.CompareAndSwapUint64", "internal/race.Write", "sync.runtime_SemacquireWaitGroup"], unfollowed := true, recurses := true, plainKeys := false, leaving := true, apart := false }
def GrassLongSaid : Prop := grassLongRow.holds Try.pinned (OpenSpec.ofChange grassLongSpec)

/-- ITS FALSE NEIGHBOUR: 'it returns false'. Refute it at one input. -/
def grassLongWrong : ChangeSpec := { name := "grassLong", fn := fun _ => fun
  | [d] => { results := [.lit (.bool false)], args := [d] }
  | _ => none }
def GrassLongWrongFalsely : Prop := grassLongRow.holds Try.pinned (OpenSpec.ofChange grassLongWrong)

/-- 'mestalaw01.GrassReady': WHATEVER THE INPUT: true; the input reads as it did. -/
def grassReadySpec : ChangeSpec := { name := "grassReady", fn := fun _ => fun
  | [d] => { results := [.lit (.bool true)], args := [d] }
  | _ => none }
def grassReadyRow : OpenClaim := { program := "ythnccaajpdnndaa", sum := "f43554dbf2aaf0b80b37ccfca1b8a9a08f5b99563730397a5792b51667d5377b", func := "mesta/mestalaw01.GrassReady", spec := "grassReady", inPlace := ["(*sync.WaitGroup).Add", "internal/race.ReleaseMerge", "internal/race.Disable", "internal/race.Enable", "internal/synctest.IsInBubble", "internal/synctest.Associate[sync.WaitGroup]", "sync.fatal", "sync/atomic.OrUint64", "sync/atomic.AddUint64", "internal/race.Read", "sync/atomic.LoadUint64", "sync/atomic.StoreUint64", "internal/synctest.Disassociate[sync.WaitGroup]", "sync.runtime_Semrelease", "(*sync.WaitGroup).Done", "(*sync.WaitGroup).Wait", "internal/race.Acquire", "internal/synctest.IsAssociated[sync.WaitGroup]", "sync/atomic.CompareAndSwapUint64", "internal/race.Write", "sync.runtime_SemacquireWaitGroup"], unfollowed := true, recurses := true, plainKeys := false, leaving := true, apart := false }
def GrassReadySaid : Prop := grassReadyRow.holds Try.pinned (OpenSpec.ofChange grassReadySpec)

/-- ITS FALSE NEIGHBOUR: 'it returns false'. Refute it at one input. -/
def grassReadyWrong : ChangeSpec := { name := "grassReady", fn := fun _ => fun
  | [d] => { results := [.lit (.bool false)], args := [d] }
  | _ => none }
def GrassReadyWrongFalsely : Prop := grassReadyRow.holds Try.pinned (OpenSpec.ofChange grassReadyWrong)

/-- 'mestalaw01.GrassHungry': WHATEVER THE INPUT: true; the input reads as it did. -/
def grassHungrySpec : ChangeSpec := { name := "grassHungry", fn := fun _ => fun
  | [d] => { results := [.lit (.bool true)], args := [d] }
  | _ => none }
def grassHungryRow : OpenClaim := { program := "ythnccaajpdnndaa", sum := "f43554dbf2aaf0b80b37ccfca1b8a9a08f5b99563730397a5792b51667d5377b", func := "mesta/mestalaw01.GrassHungry", spec := "grassHungry", inPlace := ["(*sync.WaitGroup).Add", "internal/race.ReleaseMerge", "internal/race.Disable", "internal/race.Enable", "internal/synctest.IsInBubble", "internal/synctest.Associate[sync.WaitGroup]", "sync.fatal", "sync/atomic.OrUint64", "sync/atomic.AddUint64", "internal/race.Read", "sync/atomic.LoadUint64", "sync/atomic.StoreUint64", "internal/synctest.Disassociate[sync.WaitGroup]", "sync.runtime_Semrelease", "(*sync.WaitGroup).Done", "(*sync.WaitGroup).Wait", "internal/race.Acquire", "internal/synctest.IsAssociated[sync.WaitGroup]", "sync/atomic.CompareAndSwapUint64", "internal/race.Write", "sync.runtime_SemacquireWaitGroup"], unfollowed := true, recurses := true, plainKeys := false, leaving := true, apart := false }
def GrassHungrySaid : Prop := grassHungryRow.holds Try.pinned (OpenSpec.ofChange grassHungrySpec)

/-- ITS FALSE NEIGHBOUR: 'it returns false'. Refute it at one input. -/
def grassHungryWrong : ChangeSpec := { name := "grassHungry", fn := fun _ => fun
  | [d] => { results := [.lit (.bool false)], args := [d] }
  | _ => none }
def GrassHungryWrongFalsely : Prop := grassHungryRow.holds Try.pinned (OpenSpec.ofChange grassHungryWrong)

/- THE SECOND FORM. 'bulk': how many values and letters a reading holds, each counted each time it is reached (what is shared counts as often as it is met; a slice's spare places count too). A statement '..UptoSaid' is the law's where the arguments, and the package variables that the reading takes, are together of bulk at most 1048576: NARROWER than '..Said'. Prove '..Said' where nothing that the law and all that it calls make is longer than what came in: it says more and counts as full. Else prove '..UptoSaid'. A law counts once. -/
mutual
def uptoBulk {H : Type} : DataW H → Nat
  | .lit (.string bytes) => bytes.length + 1
  | .lit _ => 1
  | .nil => 1
  | .ptr d => uptoBulk d + 1
  | .slice elems spare => uptoBulkAll elems + uptoBulkAll spare + 1
  | .agg parts => uptoBulkAll parts + 1
  | .iface _ d => uptoBulk d + 1
  | .map entries => uptoBulkEntries entries + 1
  | .held _ => 1
def uptoBulkAll {H : Type} : List (DataW H) → Nat
  | [] => 0
  | d :: r => uptoBulk d + uptoBulkAll r
def uptoBulkEntries {H : Type} : List (Lit × DataW H) → Nat
  | [] => 0
  | x :: r => uptoBulkEntry x + uptoBulkEntries r
def uptoBulkEntry {H : Type} : Lit × DataW H → Nat
  | (.string bytes, d) => bytes.length + uptoBulk d + 1
  | (_, d) => uptoBulk d + 1
 end
def uptoSmall : (H : Type) → List (DataW H) → Bool := fun _ ds => decide (uptoBulkAll ds ≤ 1048576)
def OpenSpec.upto (s : _root_.Go.ChangeSpec) : _root_.Go.OpenSpec := { _root_.Go.OpenSpec.ofChange s with cond := some uptoSmall }

/-- 'mestalaw01.GrassTurn', WHERE WHAT IT READS IS OF BULK AT MOST 1048576: true; the input reads as it did. -/
def grassTurnUptoRow : OpenClaim := { program := "ythnccaajpdnndaa", sum := "f43554dbf2aaf0b80b37ccfca1b8a9a08f5b99563730397a5792b51667d5377b", func := "mesta/mestalaw01.GrassTurn", spec := "grassTurn", inPlace := ["(*sync.WaitGroup).Add", "internal/race.ReleaseMerge", "internal/race.Disable", "internal/race.Enable", "internal/synctest.IsInBubble", "internal/synctest.Associate[sync.WaitGroup]", "sync.fatal", "sync/atomic.OrUint64", "sync/atomic.AddUint64", "internal/race.Read", "sync/atomic.LoadUint64", "sync/atomic.StoreUint64", "internal/synctest.Disassociate[sync.WaitGroup]", "sync.runtime_Semrelease", "(*sync.WaitGroup).Done", "(*sync.WaitGroup).Wait", "internal/race.Acquire", "internal/synctest.IsAssociated[sync.WaitGroup]", "sync/atomic.CompareAndSwapUint64", "internal/race.Write", "sync.runtime_SemacquireWaitGroup"], unfollowed := true, recurses := true, plainKeys := false, leaving := true, apart := false, narrowed := true }
def GrassTurnUptoSaid : Prop := grassTurnUptoRow.holds Try.pinned (OpenSpec.upto grassTurnSpec)

/-- 'mestalaw01.GrassBetter', WHERE WHAT IT READS IS OF BULK AT MOST 1048576: true; the input reads as it did. -/
def grassBetterUptoRow : OpenClaim := { program := "ythnccaajpdnndaa", sum := "f43554dbf2aaf0b80b37ccfca1b8a9a08f5b99563730397a5792b51667d5377b", func := "mesta/mestalaw01.GrassBetter", spec := "grassBetter", inPlace := ["(*sync.WaitGroup).Add", "internal/race.ReleaseMerge", "internal/race.Disable", "internal/race.Enable", "internal/synctest.IsInBubble", "internal/synctest.Associate[sync.WaitGroup]", "sync.fatal", "sync/atomic.OrUint64", "sync/atomic.AddUint64", "internal/race.Read", "sync/atomic.LoadUint64", "sync/atomic.StoreUint64", "internal/synctest.Disassociate[sync.WaitGroup]", "sync.runtime_Semrelease", "(*sync.WaitGroup).Done", "(*sync.WaitGroup).Wait", "internal/race.Acquire", "internal/synctest.IsAssociated[sync.WaitGroup]", "sync/atomic.CompareAndSwapUint64", "internal/race.Write", "sync.runtime_SemacquireWaitGroup"], unfollowed := true, recurses := true, plainKeys := false, leaving := true, apart := false, narrowed := true }
def GrassBetterUptoSaid : Prop := grassBetterUptoRow.holds Try.pinned (OpenSpec.upto grassBetterSpec)

/-- 'mestalaw01.GrassRested', WHERE WHAT IT READS IS OF BULK AT MOST 1048576: true; the input reads as it did. -/
def grassRestedUptoRow : OpenClaim := { program := "ythnccaajpdnndaa", sum := "f43554dbf2aaf0b80b37ccfca1b8a9a08f5b99563730397a5792b51667d5377b", func := "mesta/mestalaw01.GrassRested", spec := "grassRested", inPlace := ["(*sync.WaitGroup).Add", "internal/race.ReleaseMerge", "internal/race.Disable", "internal/race.Enable", "internal/synctest.IsInBubble", "internal/synctest.Associate[sync.WaitGroup]", "sync.fatal", "sync/atomic.OrUint64", "sync/atomic.AddUint64", "internal/race.Read", "sync/atomic.LoadUint64", "sync/atomic.StoreUint64", "internal/synctest.Disassociate[sync.WaitGroup]", "sync.runtime_Semrelease", "(*sync.WaitGroup).Done", "(*sync.WaitGroup).Wait", "internal/race.Acquire", "internal/synctest.IsAssociated[sync.WaitGroup]", "sync/atomic.CompareAndSwapUint64", "internal/race.Write", "sync.runtime_SemacquireWaitGroup"], unfollowed := true, recurses := true, plainKeys := false, leaving := true, apart := false, narrowed := true }
def GrassRestedUptoSaid : Prop := grassRestedUptoRow.holds Try.pinned (OpenSpec.upto grassRestedSpec)

/-- 'mestalaw01.GrassRains', WHERE WHAT IT READS IS OF BULK AT MOST 1048576: true; the input reads as it did. -/
def grassRainsUptoRow : OpenClaim := { program := "ythnccaajpdnndaa", sum := "f43554dbf2aaf0b80b37ccfca1b8a9a08f5b99563730397a5792b51667d5377b", func := "mesta/mestalaw01.GrassRains", spec := "grassRains", inPlace := ["(*sync.WaitGroup).Add", "internal/race.ReleaseMerge", "internal/race.Disable", "internal/race.Enable", "internal/synctest.IsInBubble", "internal/synctest.Associate[sync.WaitGroup]", "sync.fatal", "sync/atomic.OrUint64", "sync/atomic.AddUint64", "internal/race.Read", "sync/atomic.LoadUint64", "sync/atomic.StoreUint64", "internal/synctest.Disassociate[sync.WaitGroup]", "sync.runtime_Semrelease", "(*sync.WaitGroup).Done", "(*sync.WaitGroup).Wait", "internal/race.Acquire", "internal/synctest.IsAssociated[sync.WaitGroup]", "sync/atomic.CompareAndSwapUint64", "internal/race.Write", "sync.runtime_SemacquireWaitGroup"], unfollowed := true, recurses := true, plainKeys := false, leaving := true, apart := false, narrowed := true }
def GrassRainsUptoSaid : Prop := grassRainsUptoRow.holds Try.pinned (OpenSpec.upto grassRainsSpec)

/-- 'mestalaw01.GrassAll', WHERE WHAT IT READS IS OF BULK AT MOST 1048576: true; the input reads as it did. -/
def grassAllUptoRow : OpenClaim := { program := "ythnccaajpdnndaa", sum := "f43554dbf2aaf0b80b37ccfca1b8a9a08f5b99563730397a5792b51667d5377b", func := "mesta/mestalaw01.GrassAll", spec := "grassAll", inPlace := ["(*sync.WaitGroup).Add", "internal/race.ReleaseMerge", "internal/race.Disable", "internal/race.Enable", "internal/synctest.IsInBubble", "internal/synctest.Associate[sync.WaitGroup]", "sync.fatal", "sync/atomic.OrUint64", "sync/atomic.AddUint64", "internal/race.Read", "sync/atomic.LoadUint64", "sync/atomic.StoreUint64", "internal/synctest.Disassociate[sync.WaitGroup]", "sync.runtime_Semrelease", "(*sync.WaitGroup).Done", "(*sync.WaitGroup).Wait", "internal/race.Acquire", "internal/synctest.IsAssociated[sync.WaitGroup]", "sync/atomic.CompareAndSwapUint64", "internal/race.Write", "sync.runtime_SemacquireWaitGroup"], unfollowed := true, recurses := true, plainKeys := false, leaving := true, apart := false, narrowed := true }
def GrassAllUptoSaid : Prop := grassAllUptoRow.holds Try.pinned (OpenSpec.upto grassAllSpec)

/-- 'mestalaw01.GrassBetween', WHERE WHAT IT READS IS OF BULK AT MOST 1048576: true; the input reads as it did. -/
def grassBetweenUptoRow : OpenClaim := { program := "ythnccaajpdnndaa", sum := "f43554dbf2aaf0b80b37ccfca1b8a9a08f5b99563730397a5792b51667d5377b", func := "mesta/mestalaw01.GrassBetween", spec := "grassBetween", inPlace := ["(*sync.WaitGroup).Add", "internal/race.ReleaseMerge", "internal/race.Disable", "internal/race.Enable", "internal/synctest.IsInBubble", "internal/synctest.Associate[sync.WaitGroup]", "sync.fatal", "sync/atomic.OrUint64", "sync/atomic.AddUint64", "internal/race.Read", "sync/atomic.LoadUint64", "sync/atomic.StoreUint64", "internal/synctest.Disassociate[sync.WaitGroup]", "sync.runtime_Semrelease", "(*sync.WaitGroup).Done", "(*sync.WaitGroup).Wait", "internal/race.Acquire", "internal/synctest.IsAssociated[sync.WaitGroup]", "sync/atomic.CompareAndSwapUint64", "internal/race.Write", "sync.runtime_SemacquireWaitGroup"], unfollowed := true, recurses := true, plainKeys := false, leaving := true, apart := false, narrowed := true }
def GrassBetweenUptoSaid : Prop := grassBetweenUptoRow.holds Try.pinned (OpenSpec.upto grassBetweenSpec)

/-- 'mestalaw01.GrassWetter', WHERE WHAT IT READS IS OF BULK AT MOST 1048576: true; the input reads as it did. -/
def grassWetterUptoRow : OpenClaim := { program := "ythnccaajpdnndaa", sum := "f43554dbf2aaf0b80b37ccfca1b8a9a08f5b99563730397a5792b51667d5377b", func := "mesta/mestalaw01.GrassWetter", spec := "grassWetter", inPlace := ["(*sync.WaitGroup).Add", "internal/race.ReleaseMerge", "internal/race.Disable", "internal/race.Enable", "internal/synctest.IsInBubble", "internal/synctest.Associate[sync.WaitGroup]", "sync.fatal", "sync/atomic.OrUint64", "sync/atomic.AddUint64", "internal/race.Read", "sync/atomic.LoadUint64", "sync/atomic.StoreUint64", "internal/synctest.Disassociate[sync.WaitGroup]", "sync.runtime_Semrelease", "(*sync.WaitGroup).Done", "(*sync.WaitGroup).Wait", "internal/race.Acquire", "internal/synctest.IsAssociated[sync.WaitGroup]", "sync/atomic.CompareAndSwapUint64", "internal/race.Write", "sync.runtime_SemacquireWaitGroup"], unfollowed := true, recurses := true, plainKeys := false, leaving := true, apart := false, narrowed := true }
def GrassWetterUptoSaid : Prop := grassWetterUptoRow.holds Try.pinned (OpenSpec.upto grassWetterSpec)

/-- 'mestalaw01.GrassHeads', WHERE WHAT IT READS IS OF BULK AT MOST 1048576: true; the input reads as it did. -/
def grassHeadsUptoRow : OpenClaim := { program := "ythnccaajpdnndaa", sum := "f43554dbf2aaf0b80b37ccfca1b8a9a08f5b99563730397a5792b51667d5377b", func := "mesta/mestalaw01.GrassHeads", spec := "grassHeads", inPlace := ["(*sync.WaitGroup).Add", "internal/race.ReleaseMerge", "internal/race.Disable", "internal/race.Enable", "internal/synctest.IsInBubble", "internal/synctest.Associate[sync.WaitGroup]", "sync.fatal", "sync/atomic.OrUint64", "sync/atomic.AddUint64", "internal/race.Read", "sync/atomic.LoadUint64", "sync/atomic.StoreUint64", "internal/synctest.Disassociate[sync.WaitGroup]", "sync.runtime_Semrelease", "(*sync.WaitGroup).Done", "(*sync.WaitGroup).Wait", "internal/race.Acquire", "internal/synctest.IsAssociated[sync.WaitGroup]", "sync/atomic.CompareAndSwapUint64", "internal/race.Write", "sync.runtime_SemacquireWaitGroup"], unfollowed := true, recurses := true, plainKeys := false, leaving := true, apart := false, narrowed := true }
def GrassHeadsUptoSaid : Prop := grassHeadsUptoRow.holds Try.pinned (OpenSpec.upto grassHeadsSpec)

/-- 'mestalaw01.GrassAsks', WHERE WHAT IT READS IS OF BULK AT MOST 1048576: true; the input reads as it did. -/
def grassAsksUptoRow : OpenClaim := { program := "ythnccaajpdnndaa", sum := "f43554dbf2aaf0b80b37ccfca1b8a9a08f5b99563730397a5792b51667d5377b", func := "mesta/mestalaw01.GrassAsks", spec := "grassAsks", inPlace := ["(*sync.WaitGroup).Add", "internal/race.ReleaseMerge", "internal/race.Disable", "internal/race.Enable", "internal/synctest.IsInBubble", "internal/synctest.Associate[sync.WaitGroup]", "sync.fatal", "sync/atomic.OrUint64", "sync/atomic.AddUint64", "internal/race.Read", "sync/atomic.LoadUint64", "sync/atomic.StoreUint64", "internal/synctest.Disassociate[sync.WaitGroup]", "sync.runtime_Semrelease", "(*sync.WaitGroup).Done", "(*sync.WaitGroup).Wait", "internal/race.Acquire", "internal/synctest.IsAssociated[sync.WaitGroup]", "sync/atomic.CompareAndSwapUint64", "internal/race.Write", "sync.runtime_SemacquireWaitGroup"], unfollowed := true, recurses := true, plainKeys := false, leaving := true, apart := false, narrowed := true }
def GrassAsksUptoSaid : Prop := grassAsksUptoRow.holds Try.pinned (OpenSpec.upto grassAsksSpec)

/-- 'mestalaw01.GrassMost', WHERE WHAT IT READS IS OF BULK AT MOST 1048576: true; the input reads as it did. -/
def grassMostUptoRow : OpenClaim := { program := "ythnccaajpdnndaa", sum := "f43554dbf2aaf0b80b37ccfca1b8a9a08f5b99563730397a5792b51667d5377b", func := "mesta/mestalaw01.GrassMost", spec := "grassMost", inPlace := ["(*sync.WaitGroup).Add", "internal/race.ReleaseMerge", "internal/race.Disable", "internal/race.Enable", "internal/synctest.IsInBubble", "internal/synctest.Associate[sync.WaitGroup]", "sync.fatal", "sync/atomic.OrUint64", "sync/atomic.AddUint64", "internal/race.Read", "sync/atomic.LoadUint64", "sync/atomic.StoreUint64", "internal/synctest.Disassociate[sync.WaitGroup]", "sync.runtime_Semrelease", "(*sync.WaitGroup).Done", "(*sync.WaitGroup).Wait", "internal/race.Acquire", "internal/synctest.IsAssociated[sync.WaitGroup]", "sync/atomic.CompareAndSwapUint64", "internal/race.Write", "sync.runtime_SemacquireWaitGroup"], unfollowed := true, recurses := true, plainKeys := false, leaving := true, apart := false, narrowed := true }
def GrassMostUptoSaid : Prop := grassMostUptoRow.holds Try.pinned (OpenSpec.upto grassMostSpec)

/-- 'mestalaw01.GrassTurned', WHERE WHAT IT READS IS OF BULK AT MOST 1048576: true; the input reads as it did. -/
def grassTurnedUptoRow : OpenClaim := { program := "ythnccaajpdnndaa", sum := "f43554dbf2aaf0b80b37ccfca1b8a9a08f5b99563730397a5792b51667d5377b", func := "mesta/mestalaw01.GrassTurned", spec := "grassTurned", inPlace := ["(*sync.WaitGroup).Add", "internal/race.ReleaseMerge", "internal/race.Disable", "internal/race.Enable", "internal/synctest.IsInBubble", "internal/synctest.Associate[sync.WaitGroup]", "sync.fatal", "sync/atomic.OrUint64", "sync/atomic.AddUint64", "internal/race.Read", "sync/atomic.LoadUint64", "sync/atomic.StoreUint64", "internal/synctest.Disassociate[sync.WaitGroup]", "sync.runtime_Semrelease", "(*sync.WaitGroup).Done", "(*sync.WaitGroup).Wait", "internal/race.Acquire", "internal/synctest.IsAssociated[sync.WaitGroup]", "sync/atomic.CompareAndSwapUint64", "internal/race.Write", "sync.runtime_SemacquireWaitGroup"], unfollowed := true, recurses := true, plainKeys := false, leaving := true, apart := false, narrowed := true }
def GrassTurnedUptoSaid : Prop := grassTurnedUptoRow.holds Try.pinned (OpenSpec.upto grassTurnedSpec)

/-- 'mestalaw01.GrassDays', WHERE WHAT IT READS IS OF BULK AT MOST 1048576: true; the input reads as it did. -/
def grassDaysUptoRow : OpenClaim := { program := "ythnccaajpdnndaa", sum := "f43554dbf2aaf0b80b37ccfca1b8a9a08f5b99563730397a5792b51667d5377b", func := "mesta/mestalaw01.GrassDays", spec := "grassDays", inPlace := ["(*sync.WaitGroup).Add", "internal/race.ReleaseMerge", "internal/race.Disable", "internal/race.Enable", "internal/synctest.IsInBubble", "internal/synctest.Associate[sync.WaitGroup]", "sync.fatal", "sync/atomic.OrUint64", "sync/atomic.AddUint64", "internal/race.Read", "sync/atomic.LoadUint64", "sync/atomic.StoreUint64", "internal/synctest.Disassociate[sync.WaitGroup]", "sync.runtime_Semrelease", "(*sync.WaitGroup).Done", "(*sync.WaitGroup).Wait", "internal/race.Acquire", "internal/synctest.IsAssociated[sync.WaitGroup]", "sync/atomic.CompareAndSwapUint64", "internal/race.Write", "sync.runtime_SemacquireWaitGroup"], unfollowed := true, recurses := true, plainKeys := false, leaving := true, apart := false, narrowed := true }
def GrassDaysUptoSaid : Prop := grassDaysUptoRow.holds Try.pinned (OpenSpec.upto grassDaysSpec)

/-- 'mestalaw01.GrassByDay', WHERE WHAT IT READS IS OF BULK AT MOST 1048576: true; the input reads as it did. -/
def grassByDayUptoRow : OpenClaim := { program := "ythnccaajpdnndaa", sum := "f43554dbf2aaf0b80b37ccfca1b8a9a08f5b99563730397a5792b51667d5377b", func := "mesta/mestalaw01.GrassByDay", spec := "grassByDay", inPlace := ["(*sync.WaitGroup).Add", "internal/race.ReleaseMerge", "internal/race.Disable", "internal/race.Enable", "internal/synctest.IsInBubble", "internal/synctest.Associate[sync.WaitGroup]", "sync.fatal", "sync/atomic.OrUint64", "sync/atomic.AddUint64", "internal/race.Read", "sync/atomic.LoadUint64", "sync/atomic.StoreUint64", "internal/synctest.Disassociate[sync.WaitGroup]", "sync.runtime_Semrelease", "(*sync.WaitGroup).Done", "(*sync.WaitGroup).Wait", "internal/race.Acquire", "internal/synctest.IsAssociated[sync.WaitGroup]", "sync/atomic.CompareAndSwapUint64", "internal/race.Write", "sync.runtime_SemacquireWaitGroup"], unfollowed := true, recurses := true, plainKeys := false, leaving := true, apart := false, narrowed := true }
def GrassByDayUptoSaid : Prop := grassByDayUptoRow.holds Try.pinned (OpenSpec.upto grassByDaySpec)

/-- 'mestalaw01.GrassAgain', WHERE WHAT IT READS IS OF BULK AT MOST 1048576: true; the input reads as it did. -/
def grassAgainUptoRow : OpenClaim := { program := "ythnccaajpdnndaa", sum := "f43554dbf2aaf0b80b37ccfca1b8a9a08f5b99563730397a5792b51667d5377b", func := "mesta/mestalaw01.GrassAgain", spec := "grassAgain", inPlace := ["(*sync.WaitGroup).Add", "internal/race.ReleaseMerge", "internal/race.Disable", "internal/race.Enable", "internal/synctest.IsInBubble", "internal/synctest.Associate[sync.WaitGroup]", "sync.fatal", "sync/atomic.OrUint64", "sync/atomic.AddUint64", "internal/race.Read", "sync/atomic.LoadUint64", "sync/atomic.StoreUint64", "internal/synctest.Disassociate[sync.WaitGroup]", "sync.runtime_Semrelease", "(*sync.WaitGroup).Done", "(*sync.WaitGroup).Wait", "internal/race.Acquire", "internal/synctest.IsAssociated[sync.WaitGroup]", "sync/atomic.CompareAndSwapUint64", "internal/race.Write", "sync.runtime_SemacquireWaitGroup"], unfollowed := true, recurses := true, plainKeys := false, leaving := true, apart := false, narrowed := true }
def GrassAgainUptoSaid : Prop := grassAgainUptoRow.holds Try.pinned (OpenSpec.upto grassAgainSpec)

/-- 'mestalaw01.GrassWaits', WHERE WHAT IT READS IS OF BULK AT MOST 1048576: true; the input reads as it did. -/
def grassWaitsUptoRow : OpenClaim := { program := "ythnccaajpdnndaa", sum := "f43554dbf2aaf0b80b37ccfca1b8a9a08f5b99563730397a5792b51667d5377b", func := "mesta/mestalaw01.GrassWaits", spec := "grassWaits", inPlace := ["(*sync.WaitGroup).Add", "internal/race.ReleaseMerge", "internal/race.Disable", "internal/race.Enable", "internal/synctest.IsInBubble", "internal/synctest.Associate[sync.WaitGroup]", "sync.fatal", "sync/atomic.OrUint64", "sync/atomic.AddUint64", "internal/race.Read", "sync/atomic.LoadUint64", "sync/atomic.StoreUint64", "internal/synctest.Disassociate[sync.WaitGroup]", "sync.runtime_Semrelease", "(*sync.WaitGroup).Done", "(*sync.WaitGroup).Wait", "internal/race.Acquire", "internal/synctest.IsAssociated[sync.WaitGroup]", "sync/atomic.CompareAndSwapUint64", "internal/race.Write", "sync.runtime_SemacquireWaitGroup"], unfollowed := true, recurses := true, plainKeys := false, leaving := true, apart := false, narrowed := true }
def GrassWaitsUptoSaid : Prop := grassWaitsUptoRow.holds Try.pinned (OpenSpec.upto grassWaitsSpec)

/-- 'mestalaw01.GrassLong', WHERE WHAT IT READS IS OF BULK AT MOST 1048576: true; the input reads as it did. -/
def grassLongUptoRow : OpenClaim := { program := "ythnccaajpdnndaa", sum := "f43554dbf2aaf0b80b37ccfca1b8a9a08f5b99563730397a5792b51667d5377b", func := "mesta/mestalaw01.GrassLong", spec := "grassLong", inPlace := ["(*sync.WaitGroup).Add", "internal/race.ReleaseMerge", "internal/race.Disable", "internal/race.Enable", "internal/synctest.IsInBubble", "internal/synctest.Associate[sync.WaitGroup]", "sync.fatal", "sync/atomic.OrUint64", "sync/atomic.AddUint64", "internal/race.Read", "sync/atomic.LoadUint64", "sync/atomic.StoreUint64", "internal/synctest.Disassociate[sync.WaitGroup]", "sync.runtime_Semrelease", "(*sync.WaitGroup).Done", "(*sync.WaitGroup).Wait", "internal/race.Acquire", "internal/synctest.IsAssociated[sync.WaitGroup]", "sync/atomic.CompareAndSwapUint64", "internal/race.Write", "sync.runtime_SemacquireWaitGroup"], unfollowed := true, recurses := true, plainKeys := false, leaving := true, apart := false, narrowed := true }
def GrassLongUptoSaid : Prop := grassLongUptoRow.holds Try.pinned (OpenSpec.upto grassLongSpec)

/-- 'mestalaw01.GrassReady', WHERE WHAT IT READS IS OF BULK AT MOST 1048576: true; the input reads as it did. -/
def grassReadyUptoRow : OpenClaim := { program := "ythnccaajpdnndaa", sum := "f43554dbf2aaf0b80b37ccfca1b8a9a08f5b99563730397a5792b51667d5377b", func := "mesta/mestalaw01.GrassReady", spec := "grassReady", inPlace := ["(*sync.WaitGroup).Add", "internal/race.ReleaseMerge", "internal/race.Disable", "internal/race.Enable", "internal/synctest.IsInBubble", "internal/synctest.Associate[sync.WaitGroup]", "sync.fatal", "sync/atomic.OrUint64", "sync/atomic.AddUint64", "internal/race.Read", "sync/atomic.LoadUint64", "sync/atomic.StoreUint64", "internal/synctest.Disassociate[sync.WaitGroup]", "sync.runtime_Semrelease", "(*sync.WaitGroup).Done", "(*sync.WaitGroup).Wait", "internal/race.Acquire", "internal/synctest.IsAssociated[sync.WaitGroup]", "sync/atomic.CompareAndSwapUint64", "internal/race.Write", "sync.runtime_SemacquireWaitGroup"], unfollowed := true, recurses := true, plainKeys := false, leaving := true, apart := false, narrowed := true }
def GrassReadyUptoSaid : Prop := grassReadyUptoRow.holds Try.pinned (OpenSpec.upto grassReadySpec)

/-- 'mestalaw01.GrassHungry', WHERE WHAT IT READS IS OF BULK AT MOST 1048576: true; the input reads as it did. -/
def grassHungryUptoRow : OpenClaim := { program := "ythnccaajpdnndaa", sum := "f43554dbf2aaf0b80b37ccfca1b8a9a08f5b99563730397a5792b51667d5377b", func := "mesta/mestalaw01.GrassHungry", spec := "grassHungry", inPlace := ["(*sync.WaitGroup).Add", "internal/race.ReleaseMerge", "internal/race.Disable", "internal/race.Enable", "internal/synctest.IsInBubble", "internal/synctest.Associate[sync.WaitGroup]", "sync.fatal", "sync/atomic.OrUint64", "sync/atomic.AddUint64", "internal/race.Read", "sync/atomic.LoadUint64", "sync/atomic.StoreUint64", "internal/synctest.Disassociate[sync.WaitGroup]", "sync.runtime_Semrelease", "(*sync.WaitGroup).Done", "(*sync.WaitGroup).Wait", "internal/race.Acquire", "internal/synctest.IsAssociated[sync.WaitGroup]", "sync/atomic.CompareAndSwapUint64", "internal/race.Write", "sync.runtime_SemacquireWaitGroup"], unfollowed := true, recurses := true, plainKeys := false, leaving := true, apart := false, narrowed := true }
def GrassHungryUptoSaid : Prop := grassHungryUptoRow.holds Try.pinned (OpenSpec.upto grassHungrySpec)

end Rows
end Go.Proofs.Ythnccaajpdnndaa
