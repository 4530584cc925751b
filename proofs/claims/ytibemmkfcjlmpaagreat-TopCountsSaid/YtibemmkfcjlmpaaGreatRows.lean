/-
  No cell of these rows narrows 'for every input' (looked for: loops, veiled, ifaces, maps, wideKeys, modest, calm, conditions, laid).
  DERIVED. THE GIVEN ROWS OF THIS SEAT. 20 by the template 'for every input the law returns true; each argument reads behind the call as it read before'; 0 by the template 'total and deterministic' (their statements: YtibemmkfcjlmpaaGreatTotals.lean).
  GIVEN WITH THE SEED: the statements are not yours to turn. If you find one false, say at which input.
  Laid BY PROGRAM, IN A SANDBOX (cutbox-rows.mjs): the forced cells as the released guide's own fill.sh prints them over the translation 5733d3ca43f9b00c… (all of the seat's roots in one cut). By AI agents, Wed Nov 11 2026. No macro, syntax, notation, axiom, sorry.
-/
import Derived.Test.YtibemmkfcjlmpaaGreatChecked
import GoSem.Claim
import GoSem.ClaimJoined
import GoSem.ClaimMapViews
import Derived.JoinedTies
import Derived.KernelRfl
namespace Go.Proofs.YtibemmkfcjlmpaaGreat
/- THE CELL 'sum', in the pinned program and in every row, IS THE sha256 OF THE DUMP (.gsa) THAT YtibemmkfcjlmpaaGreatProg.lean LOADS. Nothing in Lean hashes anything: it is a label: what it is worth is what the hold of that sum in a sandbox is worth. -/
noncomputable def Tryz.pinned : Pinned := { name := "ytibemmkfcjlmpaagreat", sum := "5733d3ca43f9b00ccaf81e19333b1bf90f186e4f7cadc5b095341faf0093aae3", checked := Tryz.checked }
namespace Rows
def none {H : Type} : Left H := { results := [], args := [] }

/-- 'ushertop.TopBound': WHATEVER THE INPUT: true; the input reads as it did. -/
def topBoundSpec : ChangeSpec := { name := "topBound", fn := fun _ => fun
  | [d1, d2] => { results := [.lit (.bool true)], args := [d1, d2] }
  | _ => none }
def topBoundRow : OpenClaim := { program := "ytibemmkfcjlmpaagreat", sum := "5733d3ca43f9b00ccaf81e19333b1bf90f186e4f7cadc5b095341faf0093aae3", func := "usher/ushertop.TopBound", spec := "topBound", inPlace := ["slices.overlaps[usher/api.Timer]", "slices.overlaps[usher/api.Flow]", "slices.overlaps[usher/api.Life]"], unfollowed := true, recurses := true, plainKeys := false, apart := false }
def TopBoundSaid : Prop := topBoundRow.holds Tryz.pinned (OpenSpec.ofChange topBoundSpec)

/-- ITS FALSE NEIGHBOUR: 'it returns false'. Refute it at one input. -/
def topBoundWrong : ChangeSpec := { name := "topBound", fn := fun _ => fun
  | [d1, d2] => { results := [.lit (.bool false)], args := [d1, d2] }
  | _ => none }
def TopBoundWrongFalsely : Prop := topBoundRow.holds Tryz.pinned (OpenSpec.ofChange topBoundWrong)

/-- 'ushertop.TopNever': WHATEVER THE INPUT: true; the input reads as it did. -/
def topNeverSpec : ChangeSpec := { name := "topNever", fn := fun _ => fun
  | [d1, d2] => { results := [.lit (.bool true)], args := [d1, d2] }
  | _ => none }
def topNeverRow : OpenClaim := { program := "ytibemmkfcjlmpaagreat", sum := "5733d3ca43f9b00ccaf81e19333b1bf90f186e4f7cadc5b095341faf0093aae3", func := "usher/ushertop.TopNever", spec := "topNever", inPlace := ["slices.overlaps[usher/api.Timer]", "slices.overlaps[usher/api.Flow]", "slices.overlaps[usher/api.Life]"], unfollowed := true, recurses := true, plainKeys := false, apart := false }
def TopNeverSaid : Prop := topNeverRow.holds Tryz.pinned (OpenSpec.ofChange topNeverSpec)

/-- ITS FALSE NEIGHBOUR: 'it returns false'. Refute it at one input. -/
def topNeverWrong : ChangeSpec := { name := "topNever", fn := fun _ => fun
  | [d1, d2] => { results := [.lit (.bool false)], args := [d1, d2] }
  | _ => none }
def TopNeverWrongFalsely : Prop := topNeverRow.holds Tryz.pinned (OpenSpec.ofChange topNeverWrong)

/-- 'ushertop.TopHandles': WHATEVER THE INPUT: true; the input reads as it did. -/
def topHandlesSpec : ChangeSpec := { name := "topHandles", fn := fun _ => fun
  | [d1, d2] => { results := [.lit (.bool true)], args := [d1, d2] }
  | _ => none }
def topHandlesRow : OpenClaim := { program := "ytibemmkfcjlmpaagreat", sum := "5733d3ca43f9b00ccaf81e19333b1bf90f186e4f7cadc5b095341faf0093aae3", func := "usher/ushertop.TopHandles", spec := "topHandles", inPlace := ["slices.overlaps[usher/api.Timer]", "slices.overlaps[usher/api.Flow]", "slices.overlaps[usher/api.Life]"], unfollowed := true, recurses := true, plainKeys := false, apart := false }
def TopHandlesSaid : Prop := topHandlesRow.holds Tryz.pinned (OpenSpec.ofChange topHandlesSpec)

/-- ITS FALSE NEIGHBOUR: 'it returns false'. Refute it at one input. -/
def topHandlesWrong : ChangeSpec := { name := "topHandles", fn := fun _ => fun
  | [d1, d2] => { results := [.lit (.bool false)], args := [d1, d2] }
  | _ => none }
def TopHandlesWrongFalsely : Prop := topHandlesRow.holds Tryz.pinned (OpenSpec.ofChange topHandlesWrong)

/-- 'usherkeep.CoreIdle': WHATEVER THE INPUT: true; the input reads as it did. -/
def coreIdleSpec : ChangeSpec := { name := "coreIdle", fn := fun _ => fun
  | [d1, d2, d3] => { results := [.lit (.bool true)], args := [d1, d2, d3] }
  | _ => none }
def coreIdleRow : OpenClaim := { program := "ytibemmkfcjlmpaagreat", sum := "5733d3ca43f9b00ccaf81e19333b1bf90f186e4f7cadc5b095341faf0093aae3", func := "usher/usherkeep.CoreIdle", spec := "coreIdle", inPlace := ["slices.overlaps[usher/api.Timer]", "slices.overlaps[usher/api.Flow]", "slices.overlaps[usher/api.Life]"], unfollowed := true, recurses := true, plainKeys := false, apart := false }
def CoreIdleSaid : Prop := coreIdleRow.holds Tryz.pinned (OpenSpec.ofChange coreIdleSpec)

/-- ITS FALSE NEIGHBOUR: 'it returns false'. Refute it at one input. -/
def coreIdleWrong : ChangeSpec := { name := "coreIdle", fn := fun _ => fun
  | [d1, d2, d3] => { results := [.lit (.bool false)], args := [d1, d2, d3] }
  | _ => none }
def CoreIdleWrongFalsely : Prop := coreIdleRow.holds Tryz.pinned (OpenSpec.ofChange coreIdleWrong)

/-- 'usherkeep.CoreFirst': WHATEVER THE INPUT: true; the input reads as it did. -/
def coreFirstSpec : ChangeSpec := { name := "coreFirst", fn := fun _ => fun
  | [d1, d2, d3, d4] => { results := [.lit (.bool true)], args := [d1, d2, d3, d4] }
  | _ => none }
def coreFirstRow : OpenClaim := { program := "ytibemmkfcjlmpaagreat", sum := "5733d3ca43f9b00ccaf81e19333b1bf90f186e4f7cadc5b095341faf0093aae3", func := "usher/usherkeep.CoreFirst", spec := "coreFirst", inPlace := ["slices.overlaps[usher/api.Timer]", "slices.overlaps[usher/api.Flow]", "slices.overlaps[usher/api.Life]"], unfollowed := true, recurses := true, plainKeys := false, apart := false }
def CoreFirstSaid : Prop := coreFirstRow.holds Tryz.pinned (OpenSpec.ofChange coreFirstSpec)

/-- ITS FALSE NEIGHBOUR: 'it returns false'. Refute it at one input. -/
def coreFirstWrong : ChangeSpec := { name := "coreFirst", fn := fun _ => fun
  | [d1, d2, d3, d4] => { results := [.lit (.bool false)], args := [d1, d2, d3, d4] }
  | _ => none }
def CoreFirstWrongFalsely : Prop := coreFirstRow.holds Tryz.pinned (OpenSpec.ofChange coreFirstWrong)

/-- 'ushertop.TopDraining': WHATEVER THE INPUT: true; the input reads as it did. -/
def topDrainingSpec : ChangeSpec := { name := "topDraining", fn := fun _ => fun
  | [d1, d2] => { results := [.lit (.bool true)], args := [d1, d2] }
  | _ => none }
def topDrainingRow : OpenClaim := { program := "ytibemmkfcjlmpaagreat", sum := "5733d3ca43f9b00ccaf81e19333b1bf90f186e4f7cadc5b095341faf0093aae3", func := "usher/ushertop.TopDraining", spec := "topDraining", inPlace := ["slices.overlaps[usher/api.Timer]", "slices.overlaps[usher/api.Flow]", "slices.overlaps[usher/api.Life]"], unfollowed := true, recurses := true, plainKeys := false, apart := false }
def TopDrainingSaid : Prop := topDrainingRow.holds Tryz.pinned (OpenSpec.ofChange topDrainingSpec)

/-- ITS FALSE NEIGHBOUR: 'it returns false'. Refute it at one input. -/
def topDrainingWrong : ChangeSpec := { name := "topDraining", fn := fun _ => fun
  | [d1, d2] => { results := [.lit (.bool false)], args := [d1, d2] }
  | _ => none }
def TopDrainingWrongFalsely : Prop := topDrainingRow.holds Tryz.pinned (OpenSpec.ofChange topDrainingWrong)

/-- 'ushertop.TopAsked': WHATEVER THE INPUT: true; the input reads as it did. -/
def topAskedSpec : ChangeSpec := { name := "topAsked", fn := fun _ => fun
  | [d1, d2] => { results := [.lit (.bool true)], args := [d1, d2] }
  | _ => none }
def topAskedRow : OpenClaim := { program := "ytibemmkfcjlmpaagreat", sum := "5733d3ca43f9b00ccaf81e19333b1bf90f186e4f7cadc5b095341faf0093aae3", func := "usher/ushertop.TopAsked", spec := "topAsked", inPlace := ["slices.overlaps[usher/api.Timer]", "slices.overlaps[usher/api.Flow]", "slices.overlaps[usher/api.Life]"], unfollowed := true, recurses := true, plainKeys := false, apart := false }
def TopAskedSaid : Prop := topAskedRow.holds Tryz.pinned (OpenSpec.ofChange topAskedSpec)

/-- ITS FALSE NEIGHBOUR: 'it returns false'. Refute it at one input. -/
def topAskedWrong : ChangeSpec := { name := "topAsked", fn := fun _ => fun
  | [d1, d2] => { results := [.lit (.bool false)], args := [d1, d2] }
  | _ => none }
def TopAskedWrongFalsely : Prop := topAskedRow.holds Tryz.pinned (OpenSpec.ofChange topAskedWrong)

/-- 'ushertop.TopStale': WHATEVER THE INPUT: true; the input reads as it did. -/
def topStaleSpec : ChangeSpec := { name := "topStale", fn := fun _ => fun
  | [d1, d2] => { results := [.lit (.bool true)], args := [d1, d2] }
  | _ => none }
def topStaleRow : OpenClaim := { program := "ytibemmkfcjlmpaagreat", sum := "5733d3ca43f9b00ccaf81e19333b1bf90f186e4f7cadc5b095341faf0093aae3", func := "usher/ushertop.TopStale", spec := "topStale", inPlace := ["slices.overlaps[usher/api.Timer]", "slices.overlaps[usher/api.Flow]", "slices.overlaps[usher/api.Life]"], unfollowed := true, recurses := true, plainKeys := false, apart := false }
def TopStaleSaid : Prop := topStaleRow.holds Tryz.pinned (OpenSpec.ofChange topStaleSpec)

/-- ITS FALSE NEIGHBOUR: 'it returns false'. Refute it at one input. -/
def topStaleWrong : ChangeSpec := { name := "topStale", fn := fun _ => fun
  | [d1, d2] => { results := [.lit (.bool false)], args := [d1, d2] }
  | _ => none }
def TopStaleWrongFalsely : Prop := topStaleRow.holds Tryz.pinned (OpenSpec.ofChange topStaleWrong)

/-- 'ushertop.TopDue': WHATEVER THE INPUT: true; the input reads as it did. -/
def topDueSpec : ChangeSpec := { name := "topDue", fn := fun _ => fun
  | [d1, d2] => { results := [.lit (.bool true)], args := [d1, d2] }
  | _ => none }
def topDueRow : OpenClaim := { program := "ytibemmkfcjlmpaagreat", sum := "5733d3ca43f9b00ccaf81e19333b1bf90f186e4f7cadc5b095341faf0093aae3", func := "usher/ushertop.TopDue", spec := "topDue", inPlace := ["slices.overlaps[usher/api.Timer]", "slices.overlaps[usher/api.Flow]", "slices.overlaps[usher/api.Life]"], unfollowed := true, recurses := true, plainKeys := false, apart := false }
def TopDueSaid : Prop := topDueRow.holds Tryz.pinned (OpenSpec.ofChange topDueSpec)

/-- ITS FALSE NEIGHBOUR: 'it returns false'. Refute it at one input. -/
def topDueWrong : ChangeSpec := { name := "topDue", fn := fun _ => fun
  | [d1, d2] => { results := [.lit (.bool false)], args := [d1, d2] }
  | _ => none }
def TopDueWrongFalsely : Prop := topDueRow.holds Tryz.pinned (OpenSpec.ofChange topDueWrong)

/-- 'ushertop.TopHealthy': WHATEVER THE INPUT: true; the input reads as it did. -/
def topHealthySpec : ChangeSpec := { name := "topHealthy", fn := fun _ => fun
  | [d1, d2] => { results := [.lit (.bool true)], args := [d1, d2] }
  | _ => none }
def topHealthyRow : OpenClaim := { program := "ytibemmkfcjlmpaagreat", sum := "5733d3ca43f9b00ccaf81e19333b1bf90f186e4f7cadc5b095341faf0093aae3", func := "usher/ushertop.TopHealthy", spec := "topHealthy", inPlace := ["slices.overlaps[usher/api.Timer]", "slices.overlaps[usher/api.Flow]", "slices.overlaps[usher/api.Life]"], unfollowed := true, recurses := true, plainKeys := false, apart := false }
def TopHealthySaid : Prop := topHealthyRow.holds Tryz.pinned (OpenSpec.ofChange topHealthySpec)

/-- ITS FALSE NEIGHBOUR: 'it returns false'. Refute it at one input. -/
def topHealthyWrong : ChangeSpec := { name := "topHealthy", fn := fun _ => fun
  | [d1, d2] => { results := [.lit (.bool false)], args := [d1, d2] }
  | _ => none }
def TopHealthyWrongFalsely : Prop := topHealthyRow.holds Tryz.pinned (OpenSpec.ofChange topHealthyWrong)

/-- 'ushertop.TopRest': WHATEVER THE INPUT: true; the input reads as it did. -/
def topRestSpec : ChangeSpec := { name := "topRest", fn := fun _ => fun
  | [d1, d2] => { results := [.lit (.bool true)], args := [d1, d2] }
  | _ => none }
def topRestRow : OpenClaim := { program := "ytibemmkfcjlmpaagreat", sum := "5733d3ca43f9b00ccaf81e19333b1bf90f186e4f7cadc5b095341faf0093aae3", func := "usher/ushertop.TopRest", spec := "topRest", inPlace := ["slices.overlaps[usher/api.Timer]", "slices.overlaps[usher/api.Flow]", "slices.overlaps[usher/api.Life]"], unfollowed := true, recurses := true, plainKeys := false, apart := false }
def TopRestSaid : Prop := topRestRow.holds Tryz.pinned (OpenSpec.ofChange topRestSpec)

/-- ITS FALSE NEIGHBOUR: 'it returns false'. Refute it at one input. -/
def topRestWrong : ChangeSpec := { name := "topRest", fn := fun _ => fun
  | [d1, d2] => { results := [.lit (.bool false)], args := [d1, d2] }
  | _ => none }
def TopRestWrongFalsely : Prop := topRestRow.holds Tryz.pinned (OpenSpec.ofChange topRestWrong)

/-- 'ushertop.TopLone': WHATEVER THE INPUT: true; the input reads as it did. -/
def topLoneSpec : ChangeSpec := { name := "topLone", fn := fun _ => fun
  | [d1, d2] => { results := [.lit (.bool true)], args := [d1, d2] }
  | _ => none }
def topLoneRow : OpenClaim := { program := "ytibemmkfcjlmpaagreat", sum := "5733d3ca43f9b00ccaf81e19333b1bf90f186e4f7cadc5b095341faf0093aae3", func := "usher/ushertop.TopLone", spec := "topLone", inPlace := ["slices.overlaps[usher/api.Timer]", "slices.overlaps[usher/api.Flow]", "slices.overlaps[usher/api.Life]"], unfollowed := true, recurses := true, plainKeys := false, apart := false }
def TopLoneSaid : Prop := topLoneRow.holds Tryz.pinned (OpenSpec.ofChange topLoneSpec)

/-- ITS FALSE NEIGHBOUR: 'it returns false'. Refute it at one input. -/
def topLoneWrong : ChangeSpec := { name := "topLone", fn := fun _ => fun
  | [d1, d2] => { results := [.lit (.bool false)], args := [d1, d2] }
  | _ => none }
def TopLoneWrongFalsely : Prop := topLoneRow.holds Tryz.pinned (OpenSpec.ofChange topLoneWrong)

/-- 'ushertop.TopSlots': WHATEVER THE INPUT: true; the input reads as it did. -/
def topSlotsSpec : ChangeSpec := { name := "topSlots", fn := fun _ => fun
  | [d1, d2] => { results := [.lit (.bool true)], args := [d1, d2] }
  | _ => none }
def topSlotsRow : OpenClaim := { program := "ytibemmkfcjlmpaagreat", sum := "5733d3ca43f9b00ccaf81e19333b1bf90f186e4f7cadc5b095341faf0093aae3", func := "usher/ushertop.TopSlots", spec := "topSlots", inPlace := ["slices.overlaps[usher/api.Timer]", "slices.overlaps[usher/api.Flow]", "slices.overlaps[usher/api.Life]"], unfollowed := true, recurses := true, plainKeys := false, apart := false }
def TopSlotsSaid : Prop := topSlotsRow.holds Tryz.pinned (OpenSpec.ofChange topSlotsSpec)

/-- ITS FALSE NEIGHBOUR: 'it returns false'. Refute it at one input. -/
def topSlotsWrong : ChangeSpec := { name := "topSlots", fn := fun _ => fun
  | [d1, d2] => { results := [.lit (.bool false)], args := [d1, d2] }
  | _ => none }
def TopSlotsWrongFalsely : Prop := topSlotsRow.holds Tryz.pinned (OpenSpec.ofChange topSlotsWrong)

/-- 'ushertop.TopOutputs': WHATEVER THE INPUT: true; the input reads as it did. -/
def topOutputsSpec : ChangeSpec := { name := "topOutputs", fn := fun _ => fun
  | [d1, d2] => { results := [.lit (.bool true)], args := [d1, d2] }
  | _ => none }
def topOutputsRow : OpenClaim := { program := "ytibemmkfcjlmpaagreat", sum := "5733d3ca43f9b00ccaf81e19333b1bf90f186e4f7cadc5b095341faf0093aae3", func := "usher/ushertop.TopOutputs", spec := "topOutputs", inPlace := ["slices.overlaps[usher/api.Timer]", "slices.overlaps[usher/api.Flow]", "slices.overlaps[usher/api.Life]"], unfollowed := true, recurses := true, plainKeys := false, apart := false }
def TopOutputsSaid : Prop := topOutputsRow.holds Tryz.pinned (OpenSpec.ofChange topOutputsSpec)

/-- ITS FALSE NEIGHBOUR: 'it returns false'. Refute it at one input. -/
def topOutputsWrong : ChangeSpec := { name := "topOutputs", fn := fun _ => fun
  | [d1, d2] => { results := [.lit (.bool false)], args := [d1, d2] }
  | _ => none }
def TopOutputsWrongFalsely : Prop := topOutputsRow.holds Tryz.pinned (OpenSpec.ofChange topOutputsWrong)

/-- 'ushertop.TopTokens': WHATEVER THE INPUT: true; the input reads as it did. -/
def topTokensSpec : ChangeSpec := { name := "topTokens", fn := fun _ => fun
  | [d1, d2] => { results := [.lit (.bool true)], args := [d1, d2] }
  | _ => none }
def topTokensRow : OpenClaim := { program := "ytibemmkfcjlmpaagreat", sum := "5733d3ca43f9b00ccaf81e19333b1bf90f186e4f7cadc5b095341faf0093aae3", func := "usher/ushertop.TopTokens", spec := "topTokens", inPlace := ["slices.overlaps[usher/api.Timer]", "slices.overlaps[usher/api.Flow]", "slices.overlaps[usher/api.Life]"], unfollowed := true, recurses := true, plainKeys := false, apart := false }
def TopTokensSaid : Prop := topTokensRow.holds Tryz.pinned (OpenSpec.ofChange topTokensSpec)

/-- ITS FALSE NEIGHBOUR: 'it returns false'. Refute it at one input. -/
def topTokensWrong : ChangeSpec := { name := "topTokens", fn := fun _ => fun
  | [d1, d2] => { results := [.lit (.bool false)], args := [d1, d2] }
  | _ => none }
def TopTokensWrongFalsely : Prop := topTokensRow.holds Tryz.pinned (OpenSpec.ofChange topTokensWrong)

/-- 'ushertop.TopIdle': WHATEVER THE INPUT: true; the input reads as it did. -/
def topIdleSpec : ChangeSpec := { name := "topIdle", fn := fun _ => fun
  | [d1, d2] => { results := [.lit (.bool true)], args := [d1, d2] }
  | _ => none }
def topIdleRow : OpenClaim := { program := "ytibemmkfcjlmpaagreat", sum := "5733d3ca43f9b00ccaf81e19333b1bf90f186e4f7cadc5b095341faf0093aae3", func := "usher/ushertop.TopIdle", spec := "topIdle", inPlace := ["slices.overlaps[usher/api.Timer]", "slices.overlaps[usher/api.Flow]", "slices.overlaps[usher/api.Life]"], unfollowed := true, recurses := true, plainKeys := false, apart := false }
def TopIdleSaid : Prop := topIdleRow.holds Tryz.pinned (OpenSpec.ofChange topIdleSpec)

/-- ITS FALSE NEIGHBOUR: 'it returns false'. Refute it at one input. -/
def topIdleWrong : ChangeSpec := { name := "topIdle", fn := fun _ => fun
  | [d1, d2] => { results := [.lit (.bool false)], args := [d1, d2] }
  | _ => none }
def TopIdleWrongFalsely : Prop := topIdleRow.holds Tryz.pinned (OpenSpec.ofChange topIdleWrong)

/-- 'ushertop.TopEnds': WHATEVER THE INPUT: true; the input reads as it did. -/
def topEndsSpec : ChangeSpec := { name := "topEnds", fn := fun _ => fun
  | [d1, d2] => { results := [.lit (.bool true)], args := [d1, d2] }
  | _ => none }
def topEndsRow : OpenClaim := { program := "ytibemmkfcjlmpaagreat", sum := "5733d3ca43f9b00ccaf81e19333b1bf90f186e4f7cadc5b095341faf0093aae3", func := "usher/ushertop.TopEnds", spec := "topEnds", inPlace := ["slices.overlaps[usher/api.Timer]", "slices.overlaps[usher/api.Flow]", "slices.overlaps[usher/api.Life]"], unfollowed := true, recurses := true, plainKeys := false, apart := false }
def TopEndsSaid : Prop := topEndsRow.holds Tryz.pinned (OpenSpec.ofChange topEndsSpec)

/-- ITS FALSE NEIGHBOUR: 'it returns false'. Refute it at one input. -/
def topEndsWrong : ChangeSpec := { name := "topEnds", fn := fun _ => fun
  | [d1, d2] => { results := [.lit (.bool false)], args := [d1, d2] }
  | _ => none }
def TopEndsWrongFalsely : Prop := topEndsRow.holds Tryz.pinned (OpenSpec.ofChange topEndsWrong)

/-- 'ushertop.TopEach': WHATEVER THE INPUT: true; the input reads as it did. -/
def topEachSpec : ChangeSpec := { name := "topEach", fn := fun _ => fun
  | [d1, d2] => { results := [.lit (.bool true)], args := [d1, d2] }
  | _ => none }
def topEachRow : OpenClaim := { program := "ytibemmkfcjlmpaagreat", sum := "5733d3ca43f9b00ccaf81e19333b1bf90f186e4f7cadc5b095341faf0093aae3", func := "usher/ushertop.TopEach", spec := "topEach", inPlace := ["slices.overlaps[usher/api.Timer]", "slices.overlaps[usher/api.Flow]", "slices.overlaps[usher/api.Life]"], unfollowed := true, recurses := true, plainKeys := false, apart := false }
def TopEachSaid : Prop := topEachRow.holds Tryz.pinned (OpenSpec.ofChange topEachSpec)

/-- ITS FALSE NEIGHBOUR: 'it returns false'. Refute it at one input. -/
def topEachWrong : ChangeSpec := { name := "topEach", fn := fun _ => fun
  | [d1, d2] => { results := [.lit (.bool false)], args := [d1, d2] }
  | _ => none }
def TopEachWrongFalsely : Prop := topEachRow.holds Tryz.pinned (OpenSpec.ofChange topEachWrong)

/-- 'ushertop.TopServed': WHATEVER THE INPUT: true; the input reads as it did. -/
def topServedSpec : ChangeSpec := { name := "topServed", fn := fun _ => fun
  | [d1, d2] => { results := [.lit (.bool true)], args := [d1, d2] }
  | _ => none }
def topServedRow : OpenClaim := { program := "ytibemmkfcjlmpaagreat", sum := "5733d3ca43f9b00ccaf81e19333b1bf90f186e4f7cadc5b095341faf0093aae3", func := "usher/ushertop.TopServed", spec := "topServed", inPlace := ["slices.overlaps[usher/api.Timer]", "slices.overlaps[usher/api.Flow]", "slices.overlaps[usher/api.Life]"], unfollowed := true, recurses := true, plainKeys := false, apart := false }
def TopServedSaid : Prop := topServedRow.holds Tryz.pinned (OpenSpec.ofChange topServedSpec)

/-- ITS FALSE NEIGHBOUR: 'it returns false'. Refute it at one input. -/
def topServedWrong : ChangeSpec := { name := "topServed", fn := fun _ => fun
  | [d1, d2] => { results := [.lit (.bool false)], args := [d1, d2] }
  | _ => none }
def TopServedWrongFalsely : Prop := topServedRow.holds Tryz.pinned (OpenSpec.ofChange topServedWrong)

/-- 'ushertop.TopCounts': WHATEVER THE INPUT: true; the input reads as it did. -/
def topCountsSpec : ChangeSpec := { name := "topCounts", fn := fun _ => fun
  | [d1, d2] => { results := [.lit (.bool true)], args := [d1, d2] }
  | _ => none }
def topCountsRow : OpenClaim := { program := "ytibemmkfcjlmpaagreat", sum := "5733d3ca43f9b00ccaf81e19333b1bf90f186e4f7cadc5b095341faf0093aae3", func := "usher/ushertop.TopCounts", spec := "topCounts", inPlace := ["slices.overlaps[usher/api.Timer]", "slices.overlaps[usher/api.Flow]", "slices.overlaps[usher/api.Life]"], unfollowed := true, recurses := true, plainKeys := false, apart := false }
def TopCountsSaid : Prop := topCountsRow.holds Tryz.pinned (OpenSpec.ofChange topCountsSpec)

/-- ITS FALSE NEIGHBOUR: 'it returns false'. Refute it at one input. -/
def topCountsWrong : ChangeSpec := { name := "topCounts", fn := fun _ => fun
  | [d1, d2] => { results := [.lit (.bool false)], args := [d1, d2] }
  | _ => none }
def TopCountsWrongFalsely : Prop := topCountsRow.holds Tryz.pinned (OpenSpec.ofChange topCountsWrong)

/- THE SECOND FORM. 'bulk': how many values and letters a reading holds, each counted each time it is reached (what is shared counts as often as it is met; a slice's spare places count too). A statement '..UptoSaid' is the law's where the arguments, and the package variables that the reading takes, are together of bulk at most 1048576: NARROWER than '..Said'. Prove '..Said' where nothing that the law and all that it calls make is longer than what came in: it says more and counts as full. Else prove '..UptoSaid'. A law counts once. -/
mutual
def uptoBulk {H : Type} : DataW H → Nat
  | .lit (.string bytes) => bytes.length + 1
  | .lit _ => 1
  | .nil => 1
  | .ptr d => uptoBulk d + 1
  | .slice elems spare => uptoBulkAll elems + uptoBulkAll spare + 1
  | .agg parts => uptoBulkAll parts + 1
  | .iface _ d => uptoBulk d + 1
  | .map entries => uptoBulkEntries entries + 1
  | .held _ => 1
def uptoBulkAll {H : Type} : List (DataW H) → Nat
  | [] => 0
  | d :: r => uptoBulk d + uptoBulkAll r
def uptoBulkEntries {H : Type} : List (Lit × DataW H) → Nat
  | [] => 0
  | x :: r => uptoBulkEntry x + uptoBulkEntries r
def uptoBulkEntry {H : Type} : Lit × DataW H → Nat
  | (.string bytes, d) => bytes.length + uptoBulk d + 1
  | (_, d) => uptoBulk d + 1
 end
def uptoSmall : (H : Type) → List (DataW H) → Bool := fun _ ds => decide (uptoBulkAll ds ≤ 1048576)
def OpenSpec.upto (s : _root_.Go.ChangeSpec) : _root_.Go.OpenSpec := { _root_.Go.OpenSpec.ofChange s with cond := some uptoSmall }

/-- 'ushertop.TopBound', WHERE WHAT IT READS IS OF BULK AT MOST 1048576: true; the input reads as it did. -/
def topBoundUptoRow : OpenClaim := { program := "ytibemmkfcjlmpaagreat", sum := "5733d3ca43f9b00ccaf81e19333b1bf90f186e4f7cadc5b095341faf0093aae3", func := "usher/ushertop.TopBound", spec := "topBound", inPlace := ["slices.overlaps[usher/api.Timer]", "slices.overlaps[usher/api.Flow]", "slices.overlaps[usher/api.Life]"], unfollowed := true, recurses := true, plainKeys := false, apart := false, narrowed := true }
def TopBoundUptoSaid : Prop := topBoundUptoRow.holds Tryz.pinned (OpenSpec.upto topBoundSpec)

/-- 'ushertop.TopNever', WHERE WHAT IT READS IS OF BULK AT MOST 1048576: true; the input reads as it did. -/
def topNeverUptoRow : OpenClaim := { program := "ytibemmkfcjlmpaagreat", sum := "5733d3ca43f9b00ccaf81e19333b1bf90f186e4f7cadc5b095341faf0093aae3", func := "usher/ushertop.TopNever", spec := "topNever", inPlace := ["slices.overlaps[usher/api.Timer]", "slices.overlaps[usher/api.Flow]", "slices.overlaps[usher/api.Life]"], unfollowed := true, recurses := true, plainKeys := false, apart := false, narrowed := true }
def TopNeverUptoSaid : Prop := topNeverUptoRow.holds Tryz.pinned (OpenSpec.upto topNeverSpec)

/-- 'ushertop.TopHandles', WHERE WHAT IT READS IS OF BULK AT MOST 1048576: true; the input reads as it did. -/
def topHandlesUptoRow : OpenClaim := { program := "ytibemmkfcjlmpaagreat", sum := "5733d3ca43f9b00ccaf81e19333b1bf90f186e4f7cadc5b095341faf0093aae3", func := "usher/ushertop.TopHandles", spec := "topHandles", inPlace := ["slices.overlaps[usher/api.Timer]", "slices.overlaps[usher/api.Flow]", "slices.overlaps[usher/api.Life]"], unfollowed := true, recurses := true, plainKeys := false, apart := false, narrowed := true }
def TopHandlesUptoSaid : Prop := topHandlesUptoRow.holds Tryz.pinned (OpenSpec.upto topHandlesSpec)

/-- 'usherkeep.CoreIdle', WHERE WHAT IT READS IS OF BULK AT MOST 1048576: true; the input reads as it did. -/
def coreIdleUptoRow : OpenClaim := { program := "ytibemmkfcjlmpaagreat", sum := "5733d3ca43f9b00ccaf81e19333b1bf90f186e4f7cadc5b095341faf0093aae3", func := "usher/usherkeep.CoreIdle", spec := "coreIdle", inPlace := ["slices.overlaps[usher/api.Timer]", "slices.overlaps[usher/api.Flow]", "slices.overlaps[usher/api.Life]"], unfollowed := true, recurses := true, plainKeys := false, apart := false, narrowed := true }
def CoreIdleUptoSaid : Prop := coreIdleUptoRow.holds Tryz.pinned (OpenSpec.upto coreIdleSpec)

/-- 'usherkeep.CoreFirst', WHERE WHAT IT READS IS OF BULK AT MOST 1048576: true; the input reads as it did. -/
def coreFirstUptoRow : OpenClaim := { program := "ytibemmkfcjlmpaagreat", sum := "5733d3ca43f9b00ccaf81e19333b1bf90f186e4f7cadc5b095341faf0093aae3", func := "usher/usherkeep.CoreFirst", spec := "coreFirst", inPlace := ["slices.overlaps[usher/api.Timer]", "slices.overlaps[usher/api.Flow]", "slices.overlaps[usher/api.Life]"], unfollowed := true, recurses := true, plainKeys := false, apart := false, narrowed := true }
def CoreFirstUptoSaid : Prop := coreFirstUptoRow.holds Tryz.pinned (OpenSpec.upto coreFirstSpec)

/-- 'ushertop.TopDraining', WHERE WHAT IT READS IS OF BULK AT MOST 1048576: true; the input reads as it did. -/
def topDrainingUptoRow : OpenClaim := { program := "ytibemmkfcjlmpaagreat", sum := "5733d3ca43f9b00ccaf81e19333b1bf90f186e4f7cadc5b095341faf0093aae3", func := "usher/ushertop.TopDraining", spec := "topDraining", inPlace := ["slices.overlaps[usher/api.Timer]", "slices.overlaps[usher/api.Flow]", "slices.overlaps[usher/api.Life]"], unfollowed := true, recurses := true, plainKeys := false, apart := false, narrowed := true }
def TopDrainingUptoSaid : Prop := topDrainingUptoRow.holds Tryz.pinned (OpenSpec.upto topDrainingSpec)

/-- 'ushertop.TopAsked', WHERE WHAT IT READS IS OF BULK AT MOST 1048576: true; the input reads as it did. -/
def topAskedUptoRow : OpenClaim := { program := "ytibemmkfcjlmpaagreat", sum := "5733d3ca43f9b00ccaf81e19333b1bf90f186e4f7cadc5b095341faf0093aae3", func := "usher/ushertop.TopAsked", spec := "topAsked", inPlace := ["slices.overlaps[usher/api.Timer]", "slices.overlaps[usher/api.Flow]", "slices.overlaps[usher/api.Life]"], unfollowed := true, recurses := true, plainKeys := false, apart := false, narrowed := true }
def TopAskedUptoSaid : Prop := topAskedUptoRow.holds Tryz.pinned (OpenSpec.upto topAskedSpec)

/-- 'ushertop.TopStale', WHERE WHAT IT READS IS OF BULK AT MOST 1048576: true; the input reads as it did. -/
def topStaleUptoRow : OpenClaim := { program := "ytibemmkfcjlmpaagreat", sum := "5733d3ca43f9b00ccaf81e19333b1bf90f186e4f7cadc5b095341faf0093aae3", func := "usher/ushertop.TopStale", spec := "topStale", inPlace := ["slices.overlaps[usher/api.Timer]", "slices.overlaps[usher/api.Flow]", "slices.overlaps[usher/api.Life]"], unfollowed := true, recurses := true, plainKeys := false, apart := false, narrowed := true }
def TopStaleUptoSaid : Prop := topStaleUptoRow.holds Tryz.pinned (OpenSpec.upto topStaleSpec)

/-- 'ushertop.TopDue', WHERE WHAT IT READS IS OF BULK AT MOST 1048576: true; the input reads as it did. -/
def topDueUptoRow : OpenClaim := { program := "ytibemmkfcjlmpaagreat", sum := "5733d3ca43f9b00ccaf81e19333b1bf90f186e4f7cadc5b095341faf0093aae3", func := "usher/ushertop.TopDue", spec := "topDue", inPlace := ["slices.overlaps[usher/api.Timer]", "slices.overlaps[usher/api.Flow]", "slices.overlaps[usher/api.Life]"], unfollowed := true, recurses := true, plainKeys := false, apart := false, narrowed := true }
def TopDueUptoSaid : Prop := topDueUptoRow.holds Tryz.pinned (OpenSpec.upto topDueSpec)

/-- 'ushertop.TopHealthy', WHERE WHAT IT READS IS OF BULK AT MOST 1048576: true; the input reads as it did. -/
def topHealthyUptoRow : OpenClaim := { program := "ytibemmkfcjlmpaagreat", sum := "5733d3ca43f9b00ccaf81e19333b1bf90f186e4f7cadc5b095341faf0093aae3", func := "usher/ushertop.TopHealthy", spec := "topHealthy", inPlace := ["slices.overlaps[usher/api.Timer]", "slices.overlaps[usher/api.Flow]", "slices.overlaps[usher/api.Life]"], unfollowed := true, recurses := true, plainKeys := false, apart := false, narrowed := true }
def TopHealthyUptoSaid : Prop := topHealthyUptoRow.holds Tryz.pinned (OpenSpec.upto topHealthySpec)

/-- 'ushertop.TopRest', WHERE WHAT IT READS IS OF BULK AT MOST 1048576: true; the input reads as it did. -/
def topRestUptoRow : OpenClaim := { program := "ytibemmkfcjlmpaagreat", sum := "5733d3ca43f9b00ccaf81e19333b1bf90f186e4f7cadc5b095341faf0093aae3", func := "usher/ushertop.TopRest", spec := "topRest", inPlace := ["slices.overlaps[usher/api.Timer]", "slices.overlaps[usher/api.Flow]", "slices.overlaps[usher/api.Life]"], unfollowed := true, recurses := true, plainKeys := false, apart := false, narrowed := true }
def TopRestUptoSaid : Prop := topRestUptoRow.holds Tryz.pinned (OpenSpec.upto topRestSpec)

/-- 'ushertop.TopLone', WHERE WHAT IT READS IS OF BULK AT MOST 1048576: true; the input reads as it did. -/
def topLoneUptoRow : OpenClaim := { program := "ytibemmkfcjlmpaagreat", sum := "5733d3ca43f9b00ccaf81e19333b1bf90f186e4f7cadc5b095341faf0093aae3", func := "usher/ushertop.TopLone", spec := "topLone", inPlace := ["slices.overlaps[usher/api.Timer]", "slices.overlaps[usher/api.Flow]", "slices.overlaps[usher/api.Life]"], unfollowed := true, recurses := true, plainKeys := false, apart := false, narrowed := true }
def TopLoneUptoSaid : Prop := topLoneUptoRow.holds Tryz.pinned (OpenSpec.upto topLoneSpec)

/-- 'ushertop.TopSlots', WHERE WHAT IT READS IS OF BULK AT MOST 1048576: true; the input reads as it did. -/
def topSlotsUptoRow : OpenClaim := { program := "ytibemmkfcjlmpaagreat", sum := "5733d3ca43f9b00ccaf81e19333b1bf90f186e4f7cadc5b095341faf0093aae3", func := "usher/ushertop.TopSlots", spec := "topSlots", inPlace := ["slices.overlaps[usher/api.Timer]", "slices.overlaps[usher/api.Flow]", "slices.overlaps[usher/api.Life]"], unfollowed := true, recurses := true, plainKeys := false, apart := false, narrowed := true }
def TopSlotsUptoSaid : Prop := topSlotsUptoRow.holds Tryz.pinned (OpenSpec.upto topSlotsSpec)

/-- 'ushertop.TopOutputs', WHERE WHAT IT READS IS OF BULK AT MOST 1048576: true; the input reads as it did. -/
def topOutputsUptoRow : OpenClaim := { program := "ytibemmkfcjlmpaagreat", sum := "5733d3ca43f9b00ccaf81e19333b1bf90f186e4f7cadc5b095341faf0093aae3", func := "usher/ushertop.TopOutputs", spec := "topOutputs", inPlace := ["slices.overlaps[usher/api.Timer]", "slices.overlaps[usher/api.Flow]", "slices.overlaps[usher/api.Life]"], unfollowed := true, recurses := true, plainKeys := false, apart := false, narrowed := true }
def TopOutputsUptoSaid : Prop := topOutputsUptoRow.holds Tryz.pinned (OpenSpec.upto topOutputsSpec)

/-- 'ushertop.TopTokens', WHERE WHAT IT READS IS OF BULK AT MOST 1048576: true; the input reads as it did. -/
def topTokensUptoRow : OpenClaim := { program := "ytibemmkfcjlmpaagreat", sum := "5733d3ca43f9b00ccaf81e19333b1bf90f186e4f7cadc5b095341faf0093aae3", func := "usher/ushertop.TopTokens", spec := "topTokens", inPlace := ["slices.overlaps[usher/api.Timer]", "slices.overlaps[usher/api.Flow]", "slices.overlaps[usher/api.Life]"], unfollowed := true, recurses := true, plainKeys := false, apart := false, narrowed := true }
def TopTokensUptoSaid : Prop := topTokensUptoRow.holds Tryz.pinned (OpenSpec.upto topTokensSpec)

/-- 'ushertop.TopIdle', WHERE WHAT IT READS IS OF BULK AT MOST 1048576: true; the input reads as it did. -/
def topIdleUptoRow : OpenClaim := { program := "ytibemmkfcjlmpaagreat", sum := "5733d3ca43f9b00ccaf81e19333b1bf90f186e4f7cadc5b095341faf0093aae3", func := "usher/ushertop.TopIdle", spec := "topIdle", inPlace := ["slices.overlaps[usher/api.Timer]", "slices.overlaps[usher/api.Flow]", "slices.overlaps[usher/api.Life]"], unfollowed := true, recurses := true, plainKeys := false, apart := false, narrowed := true }
def TopIdleUptoSaid : Prop := topIdleUptoRow.holds Tryz.pinned (OpenSpec.upto topIdleSpec)

/-- 'ushertop.TopEnds', WHERE WHAT IT READS IS OF BULK AT MOST 1048576: true; the input reads as it did. -/
def topEndsUptoRow : OpenClaim := { program := "ytibemmkfcjlmpaagreat", sum := "5733d3ca43f9b00ccaf81e19333b1bf90f186e4f7cadc5b095341faf0093aae3", func := "usher/ushertop.TopEnds", spec := "topEnds", inPlace := ["slices.overlaps[usher/api.Timer]", "slices.overlaps[usher/api.Flow]", "slices.overlaps[usher/api.Life]"], unfollowed := true, recurses := true, plainKeys := false, apart := false, narrowed := true }
def TopEndsUptoSaid : Prop := topEndsUptoRow.holds Tryz.pinned (OpenSpec.upto topEndsSpec)

/-- 'ushertop.TopEach', WHERE WHAT IT READS IS OF BULK AT MOST 1048576: true; the input reads as it did. -/
def topEachUptoRow : OpenClaim := { program := "ytibemmkfcjlmpaagreat", sum := "5733d3ca43f9b00ccaf81e19333b1bf90f186e4f7cadc5b095341faf0093aae3", func := "usher/ushertop.TopEach", spec := "topEach", inPlace := ["slices.overlaps[usher/api.Timer]", "slices.overlaps[usher/api.Flow]", "slices.overlaps[usher/api.Life]"], unfollowed := true, recurses := true, plainKeys := false, apart := false, narrowed := true }
def TopEachUptoSaid : Prop := topEachUptoRow.holds Tryz.pinned (OpenSpec.upto topEachSpec)

/-- 'ushertop.TopServed', WHERE WHAT IT READS IS OF BULK AT MOST 1048576: true; the input reads as it did. -/
def topServedUptoRow : OpenClaim := { program := "ytibemmkfcjlmpaagreat", sum := "5733d3ca43f9b00ccaf81e19333b1bf90f186e4f7cadc5b095341faf0093aae3", func := "usher/ushertop.TopServed", spec := "topServed", inPlace := ["slices.overlaps[usher/api.Timer]", "slices.overlaps[usher/api.Flow]", "slices.overlaps[usher/api.Life]"], unfollowed := true, recurses := true, plainKeys := false, apart := false, narrowed := true }
def TopServedUptoSaid : Prop := topServedUptoRow.holds Tryz.pinned (OpenSpec.upto topServedSpec)

/-- 'ushertop.TopCounts', WHERE WHAT IT READS IS OF BULK AT MOST 1048576: true; the input reads as it did. -/
def topCountsUptoRow : OpenClaim := { program := "ytibemmkfcjlmpaagreat", sum := "5733d3ca43f9b00ccaf81e19333b1bf90f186e4f7cadc5b095341faf0093aae3", func := "usher/ushertop.TopCounts", spec := "topCounts", inPlace := ["slices.overlaps[usher/api.Timer]", "slices.overlaps[usher/api.Flow]", "slices.overlaps[usher/api.Life]"], unfollowed := true, recurses := true, plainKeys := false, apart := false, narrowed := true }
def TopCountsUptoSaid : Prop := topCountsUptoRow.holds Tryz.pinned (OpenSpec.upto topCountsSpec)

end Rows
end Go.Proofs.YtibemmkfcjlmpaaGreat
