/-
  No cell of these rows narrows 'for every input' (looked for: loops, veiled, ifaces, maps, wideKeys, modest, calm, conditions, laid).
  DERIVED. THE GIVEN ROWS OF THIS SEAT. 20 by the template 'for every input the law returns true; each argument reads behind the call as it read before'; 0 by the template 'total and deterministic' (their statements: YtfkeddefajkobaaTotals.lean).
  GIVEN WITH THE SEED: the statements are not yours to turn. If you find one false, say at which input.
  Laid BY PROGRAM, IN A SANDBOX (cutbox-rows.mjs): the forced cells as the released guide's own fill.sh prints them over the translation 57bf67dc794c62e8… (all of the seat's roots in one cut). By AI agents, Wed Nov 11 2026. No macro, syntax, notation, axiom, sorry.
-/
import Derived.Test.YtfkeddefajkobaaChecked
import GoSem.Claim
import GoSem.ClaimJoined
import GoSem.ClaimMapViews
import Derived.JoinedTies
import Derived.KernelRfl
namespace Go.Proofs.Ytfkeddefajkobaa
/- THE CELL 'sum', in the pinned program and in every row, IS THE sha256 OF THE DUMP (.gsa) THAT YtfkeddefajkobaaProg.lean LOADS. Nothing in Lean hashes anything: it is a label: what it is worth is what the hold of that sum in a sandbox is worth. -/
noncomputable def Try.pinned : Pinned := { name := "ytfkeddefajkobaa", sum := "57bf67dc794c62e881e3dc7ea4084777388a844d35db65210aea53e963c58997", checked := Try.checked }
namespace Rows
def none {H : Type} : Left H := { results := [], args := [] }

/-- 'usherkeep.TallyBy': WHATEVER THE INPUT: true; the input reads as it did. -/
def tallyBySpec : ChangeSpec := { name := "tallyBy", fn := fun _ => fun
  | [d] => { results := [.lit (.bool true)], args := [d] }
  | _ => none }
def tallyByRow : OpenClaim := { program := "ytfkeddefajkobaa", sum := "57bf67dc794c62e881e3dc7ea4084777388a844d35db65210aea53e963c58997", func := "usher/usherkeep.TallyBy", spec := "tallyBy", plainKeys := false, apart := false }
def TallyBySaid : Prop := tallyByRow.holds Try.pinned (OpenSpec.ofChange tallyBySpec)

/-- ITS FALSE NEIGHBOUR: 'it returns false'. Refute it at one input. -/
def tallyByWrong : ChangeSpec := { name := "tallyBy", fn := fun _ => fun
  | [d] => { results := [.lit (.bool false)], args := [d] }
  | _ => none }
def TallyByWrongFalsely : Prop := tallyByRow.holds Try.pinned (OpenSpec.ofChange tallyByWrong)

/-- 'usherkeep.TallyLive': WHATEVER THE INPUT: true; the input reads as it did. -/
def tallyLiveSpec : ChangeSpec := { name := "tallyLive", fn := fun _ => fun
  | [d1, d2, d3] => { results := [.lit (.bool true)], args := [d1, d2, d3] }
  | _ => none }
def tallyLiveRow : OpenClaim := { program := "ytfkeddefajkobaa", sum := "57bf67dc794c62e881e3dc7ea4084777388a844d35db65210aea53e963c58997", func := "usher/usherkeep.TallyLive", spec := "tallyLive", plainKeys := false, apart := false }
def TallyLiveSaid : Prop := tallyLiveRow.holds Try.pinned (OpenSpec.ofChange tallyLiveSpec)

/-- ITS FALSE NEIGHBOUR: 'it returns false'. Refute it at one input. -/
def tallyLiveWrong : ChangeSpec := { name := "tallyLive", fn := fun _ => fun
  | [d1, d2, d3] => { results := [.lit (.bool false)], args := [d1, d2, d3] }
  | _ => none }
def TallyLiveWrongFalsely : Prop := tallyLiveRow.holds Try.pinned (OpenSpec.ofChange tallyLiveWrong)

/-- 'usherkeep.CoreBegin': WHATEVER THE INPUT: true; the input reads as it did. -/
def coreBeginSpec : ChangeSpec := { name := "coreBegin", fn := fun _ => fun
  | [d] => { results := [.lit (.bool true)], args := [d] }
  | _ => none }
def coreBeginRow : OpenClaim := { program := "ytfkeddefajkobaa", sum := "57bf67dc794c62e881e3dc7ea4084777388a844d35db65210aea53e963c58997", func := "usher/usherkeep.CoreBegin", spec := "coreBegin", plainKeys := false, apart := false }
def CoreBeginSaid : Prop := coreBeginRow.holds Try.pinned (OpenSpec.ofChange coreBeginSpec)

/-- ITS FALSE NEIGHBOUR: 'it returns false'. Refute it at one input. -/
def coreBeginWrong : ChangeSpec := { name := "coreBegin", fn := fun _ => fun
  | [d] => { results := [.lit (.bool false)], args := [d] }
  | _ => none }
def CoreBeginWrongFalsely : Prop := coreBeginRow.holds Try.pinned (OpenSpec.ofChange coreBeginWrong)

/-- 'usherkeep.WireFixed': WHATEVER THE INPUT: true; the input reads as it did. -/
def wireFixedSpec : ChangeSpec := { name := "wireFixed", fn := fun _ => fun
  | [d] => { results := [.lit (.bool true)], args := [d] }
  | _ => none }
def wireFixedRow : OpenClaim := { program := "ytfkeddefajkobaa", sum := "57bf67dc794c62e881e3dc7ea4084777388a844d35db65210aea53e963c58997", func := "usher/usherkeep.WireFixed", spec := "wireFixed", plainKeys := false, apart := false }
def WireFixedSaid : Prop := wireFixedRow.holds Try.pinned (OpenSpec.ofChange wireFixedSpec)

/-- ITS FALSE NEIGHBOUR: 'it returns false'. Refute it at one input. -/
def wireFixedWrong : ChangeSpec := { name := "wireFixed", fn := fun _ => fun
  | [d] => { results := [.lit (.bool false)], args := [d] }
  | _ => none }
def WireFixedWrongFalsely : Prop := wireFixedRow.holds Try.pinned (OpenSpec.ofChange wireFixedWrong)

/-- 'usherkeep.LifeFull': WHATEVER THE INPUT: true; the input reads as it did. -/
def lifeFullSpec : ChangeSpec := { name := "lifeFull", fn := fun _ => fun
  | [d1, d2, d3] => { results := [.lit (.bool true)], args := [d1, d2, d3] }
  | _ => none }
def lifeFullRow : OpenClaim := { program := "ytfkeddefajkobaa", sum := "57bf67dc794c62e881e3dc7ea4084777388a844d35db65210aea53e963c58997", func := "usher/usherkeep.LifeFull", spec := "lifeFull", inPlace := ["slices.overlaps[usher/api.Life]"], unfollowed := true, recurses := true, plainKeys := false, apart := false }
def LifeFullSaid : Prop := lifeFullRow.holds Try.pinned (OpenSpec.ofChange lifeFullSpec)

/-- ITS FALSE NEIGHBOUR: 'it returns false'. Refute it at one input. -/
def lifeFullWrong : ChangeSpec := { name := "lifeFull", fn := fun _ => fun
  | [d1, d2, d3] => { results := [.lit (.bool false)], args := [d1, d2, d3] }
  | _ => none }
def LifeFullWrongFalsely : Prop := lifeFullRow.holds Try.pinned (OpenSpec.ofChange lifeFullWrong)

/-- 'usherkeep.LifeAgain': WHATEVER THE INPUT: true; the input reads as it did. -/
def lifeAgainSpec : ChangeSpec := { name := "lifeAgain", fn := fun _ => fun
  | [d1, d2, d3, d4, d5] => { results := [.lit (.bool true)], args := [d1, d2, d3, d4, d5] }
  | _ => none }
def lifeAgainRow : OpenClaim := { program := "ytfkeddefajkobaa", sum := "57bf67dc794c62e881e3dc7ea4084777388a844d35db65210aea53e963c58997", func := "usher/usherkeep.LifeAgain", spec := "lifeAgain", inPlace := ["slices.overlaps[usher/api.Life]"], unfollowed := true, recurses := true, plainKeys := false, apart := false }
def LifeAgainSaid : Prop := lifeAgainRow.holds Try.pinned (OpenSpec.ofChange lifeAgainSpec)

/-- ITS FALSE NEIGHBOUR: 'it returns false'. Refute it at one input. -/
def lifeAgainWrong : ChangeSpec := { name := "lifeAgain", fn := fun _ => fun
  | [d1, d2, d3, d4, d5] => { results := [.lit (.bool false)], args := [d1, d2, d3, d4, d5] }
  | _ => none }
def LifeAgainWrongFalsely : Prop := lifeAgainRow.holds Try.pinned (OpenSpec.ofChange lifeAgainWrong)

/-- 'usherkeep.LifeWoken': WHATEVER THE INPUT: true; the input reads as it did. -/
def lifeWokenSpec : ChangeSpec := { name := "lifeWoken", fn := fun _ => fun
  | [d1, d2] => { results := [.lit (.bool true)], args := [d1, d2] }
  | _ => none }
def lifeWokenRow : OpenClaim := { program := "ytfkeddefajkobaa", sum := "57bf67dc794c62e881e3dc7ea4084777388a844d35db65210aea53e963c58997", func := "usher/usherkeep.LifeWoken", spec := "lifeWoken", inPlace := ["slices.overlaps[usher/api.Life]"], unfollowed := true, recurses := true, plainKeys := false, apart := false }
def LifeWokenSaid : Prop := lifeWokenRow.holds Try.pinned (OpenSpec.ofChange lifeWokenSpec)

/-- ITS FALSE NEIGHBOUR: 'it returns false'. Refute it at one input. -/
def lifeWokenWrong : ChangeSpec := { name := "lifeWoken", fn := fun _ => fun
  | [d1, d2] => { results := [.lit (.bool false)], args := [d1, d2] }
  | _ => none }
def LifeWokenWrongFalsely : Prop := lifeWokenRow.holds Try.pinned (OpenSpec.ofChange lifeWokenWrong)

/-- 'usherkeep.LifeOthers': WHATEVER THE INPUT: true; the input reads as it did. -/
def lifeOthersSpec : ChangeSpec := { name := "lifeOthers", fn := fun _ => fun
  | [d1, d2, d3] => { results := [.lit (.bool true)], args := [d1, d2, d3] }
  | _ => none }
def lifeOthersRow : OpenClaim := { program := "ytfkeddefajkobaa", sum := "57bf67dc794c62e881e3dc7ea4084777388a844d35db65210aea53e963c58997", func := "usher/usherkeep.LifeOthers", spec := "lifeOthers", inPlace := ["slices.overlaps[usher/api.Life]"], unfollowed := true, recurses := true, plainKeys := false, apart := false }
def LifeOthersSaid : Prop := lifeOthersRow.holds Try.pinned (OpenSpec.ofChange lifeOthersSpec)

/-- ITS FALSE NEIGHBOUR: 'it returns false'. Refute it at one input. -/
def lifeOthersWrong : ChangeSpec := { name := "lifeOthers", fn := fun _ => fun
  | [d1, d2, d3] => { results := [.lit (.bool false)], args := [d1, d2, d3] }
  | _ => none }
def LifeOthersWrongFalsely : Prop := lifeOthersRow.holds Try.pinned (OpenSpec.ofChange lifeOthersWrong)

/-- 'usherkeep.LifeOrder': WHATEVER THE INPUT: true; the input reads as it did. -/
def lifeOrderSpec : ChangeSpec := { name := "lifeOrder", fn := fun _ => fun
  | [d] => { results := [.lit (.bool true)], args := [d] }
  | _ => none }
def lifeOrderRow : OpenClaim := { program := "ytfkeddefajkobaa", sum := "57bf67dc794c62e881e3dc7ea4084777388a844d35db65210aea53e963c58997", func := "usher/usherkeep.LifeOrder", spec := "lifeOrder", inPlace := ["slices.overlaps[usher/api.Life]"], unfollowed := true, recurses := true, plainKeys := false, apart := false }
def LifeOrderSaid : Prop := lifeOrderRow.holds Try.pinned (OpenSpec.ofChange lifeOrderSpec)

/-- ITS FALSE NEIGHBOUR: 'it returns false'. Refute it at one input. -/
def lifeOrderWrong : ChangeSpec := { name := "lifeOrder", fn := fun _ => fun
  | [d] => { results := [.lit (.bool false)], args := [d] }
  | _ => none }
def LifeOrderWrongFalsely : Prop := lifeOrderRow.holds Try.pinned (OpenSpec.ofChange lifeOrderWrong)

/-- 'usherkeep.WheelCancel': WHATEVER THE INPUT: true; the input reads as it did. -/
def wheelCancelSpec : ChangeSpec := { name := "wheelCancel", fn := fun _ => fun
  | [d1, d2, d3, d4] => { results := [.lit (.bool true)], args := [d1, d2, d3, d4] }
  | _ => none }
def wheelCancelRow : OpenClaim := { program := "ytfkeddefajkobaa", sum := "57bf67dc794c62e881e3dc7ea4084777388a844d35db65210aea53e963c58997", func := "usher/usherkeep.WheelCancel", spec := "wheelCancel", inPlace := ["slices.overlaps[usher/api.Timer]"], unfollowed := true, recurses := true, plainKeys := false, apart := false }
def WheelCancelSaid : Prop := wheelCancelRow.holds Try.pinned (OpenSpec.ofChange wheelCancelSpec)

/-- ITS FALSE NEIGHBOUR: 'it returns false'. Refute it at one input. -/
def wheelCancelWrong : ChangeSpec := { name := "wheelCancel", fn := fun _ => fun
  | [d1, d2, d3, d4] => { results := [.lit (.bool false)], args := [d1, d2, d3, d4] }
  | _ => none }
def WheelCancelWrongFalsely : Prop := wheelCancelRow.holds Try.pinned (OpenSpec.ofChange wheelCancelWrong)

/-- 'usherkeep.LifeCycle': WHATEVER THE INPUT: true; the input reads as it did. -/
def lifeCycleSpec : ChangeSpec := { name := "lifeCycle", fn := fun _ => fun
  | [d1, d2, d3, d4] => { results := [.lit (.bool true)], args := [d1, d2, d3, d4] }
  | _ => none }
def lifeCycleRow : OpenClaim := { program := "ytfkeddefajkobaa", sum := "57bf67dc794c62e881e3dc7ea4084777388a844d35db65210aea53e963c58997", func := "usher/usherkeep.LifeCycle", spec := "lifeCycle", inPlace := ["slices.overlaps[usher/api.Life]"], unfollowed := true, recurses := true, plainKeys := false, apart := false }
def LifeCycleSaid : Prop := lifeCycleRow.holds Try.pinned (OpenSpec.ofChange lifeCycleSpec)

/-- ITS FALSE NEIGHBOUR: 'it returns false'. Refute it at one input. -/
def lifeCycleWrong : ChangeSpec := { name := "lifeCycle", fn := fun _ => fun
  | [d1, d2, d3, d4] => { results := [.lit (.bool false)], args := [d1, d2, d3, d4] }
  | _ => none }
def LifeCycleWrongFalsely : Prop := lifeCycleRow.holds Try.pinned (OpenSpec.ofChange lifeCycleWrong)

/-- 'usherkeep.WheelFires': WHATEVER THE INPUT: true; the input reads as it did. -/
def wheelFiresSpec : ChangeSpec := { name := "wheelFires", fn := fun _ => fun
  | [d1, d2, d3] => { results := [.lit (.bool true)], args := [d1, d2, d3] }
  | _ => none }
def wheelFiresRow : OpenClaim := { program := "ytfkeddefajkobaa", sum := "57bf67dc794c62e881e3dc7ea4084777388a844d35db65210aea53e963c58997", func := "usher/usherkeep.WheelFires", spec := "wheelFires", inPlace := ["slices.overlaps[usher/api.Timer]"], unfollowed := true, recurses := true, plainKeys := false, apart := false }
def WheelFiresSaid : Prop := wheelFiresRow.holds Try.pinned (OpenSpec.ofChange wheelFiresSpec)

/-- ITS FALSE NEIGHBOUR: 'it returns false'. Refute it at one input. -/
def wheelFiresWrong : ChangeSpec := { name := "wheelFires", fn := fun _ => fun
  | [d1, d2, d3] => { results := [.lit (.bool false)], args := [d1, d2, d3] }
  | _ => none }
def WheelFiresWrongFalsely : Prop := wheelFiresRow.holds Try.pinned (OpenSpec.ofChange wheelFiresWrong)

/-- 'usherkeep.WheelTurns': WHATEVER THE INPUT: true; the input reads as it did. -/
def wheelTurnsSpec : ChangeSpec := { name := "wheelTurns", fn := fun _ => fun
  | [d1, d2, d3, d4] => { results := [.lit (.bool true)], args := [d1, d2, d3, d4] }
  | _ => none }
def wheelTurnsRow : OpenClaim := { program := "ytfkeddefajkobaa", sum := "57bf67dc794c62e881e3dc7ea4084777388a844d35db65210aea53e963c58997", func := "usher/usherkeep.WheelTurns", spec := "wheelTurns", inPlace := ["slices.overlaps[usher/api.Timer]"], unfollowed := true, recurses := true, plainKeys := false, apart := false }
def WheelTurnsSaid : Prop := wheelTurnsRow.holds Try.pinned (OpenSpec.ofChange wheelTurnsSpec)

/-- ITS FALSE NEIGHBOUR: 'it returns false'. Refute it at one input. -/
def wheelTurnsWrong : ChangeSpec := { name := "wheelTurns", fn := fun _ => fun
  | [d1, d2, d3, d4] => { results := [.lit (.bool false)], args := [d1, d2, d3, d4] }
  | _ => none }
def WheelTurnsWrongFalsely : Prop := wheelTurnsRow.holds Try.pinned (OpenSpec.ofChange wheelTurnsWrong)

/-- 'usherkeep.WheelHolds': WHATEVER THE INPUT: true; the input reads as it did. -/
def wheelHoldsSpec : ChangeSpec := { name := "wheelHolds", fn := fun _ => fun
  | [d1, d2, d3] => { results := [.lit (.bool true)], args := [d1, d2, d3] }
  | _ => none }
def wheelHoldsRow : OpenClaim := { program := "ytfkeddefajkobaa", sum := "57bf67dc794c62e881e3dc7ea4084777388a844d35db65210aea53e963c58997", func := "usher/usherkeep.WheelHolds", spec := "wheelHolds", inPlace := ["slices.overlaps[usher/api.Timer]"], unfollowed := true, recurses := true, plainKeys := false, apart := false }
def WheelHoldsSaid : Prop := wheelHoldsRow.holds Try.pinned (OpenSpec.ofChange wheelHoldsSpec)

/-- ITS FALSE NEIGHBOUR: 'it returns false'. Refute it at one input. -/
def wheelHoldsWrong : ChangeSpec := { name := "wheelHolds", fn := fun _ => fun
  | [d1, d2, d3] => { results := [.lit (.bool false)], args := [d1, d2, d3] }
  | _ => none }
def WheelHoldsWrongFalsely : Prop := wheelHoldsRow.holds Try.pinned (OpenSpec.ofChange wheelHoldsWrong)

/-- 'usherkeep.RingTurns': WHATEVER THE INPUT: true; the input reads as it did. -/
def ringTurnsSpec : ChangeSpec := { name := "ringTurns", fn := fun _ => fun
  | [d] => { results := [.lit (.bool true)], args := [d] }
  | _ => none }
def ringTurnsRow : OpenClaim := { program := "ytfkeddefajkobaa", sum := "57bf67dc794c62e881e3dc7ea4084777388a844d35db65210aea53e963c58997", func := "usher/usherkeep.RingTurns", spec := "ringTurns", unfollowed := true, recurses := true, plainKeys := false, apart := false }
def RingTurnsSaid : Prop := ringTurnsRow.holds Try.pinned (OpenSpec.ofChange ringTurnsSpec)

/-- ITS FALSE NEIGHBOUR: 'it returns false'. Refute it at one input. -/
def ringTurnsWrong : ChangeSpec := { name := "ringTurns", fn := fun _ => fun
  | [d] => { results := [.lit (.bool false)], args := [d] }
  | _ => none }
def RingTurnsWrongFalsely : Prop := ringTurnsRow.holds Try.pinned (OpenSpec.ofChange ringTurnsWrong)

/-- 'usherkeep.RingPart': WHATEVER THE INPUT: true; the input reads as it did. -/
def ringPartSpec : ChangeSpec := { name := "ringPart", fn := fun _ => fun
  | [d] => { results := [.lit (.bool true)], args := [d] }
  | _ => none }
def ringPartRow : OpenClaim := { program := "ytfkeddefajkobaa", sum := "57bf67dc794c62e881e3dc7ea4084777388a844d35db65210aea53e963c58997", func := "usher/usherkeep.RingPart", spec := "ringPart", unfollowed := true, recurses := true, plainKeys := false, apart := false }
def RingPartSaid : Prop := ringPartRow.holds Try.pinned (OpenSpec.ofChange ringPartSpec)

/-- ITS FALSE NEIGHBOUR: 'it returns false'. Refute it at one input. -/
def ringPartWrong : ChangeSpec := { name := "ringPart", fn := fun _ => fun
  | [d] => { results := [.lit (.bool false)], args := [d] }
  | _ => none }
def RingPartWrongFalsely : Prop := ringPartRow.holds Try.pinned (OpenSpec.ofChange ringPartWrong)

/-- 'usherkeep.RingBack': WHATEVER THE INPUT: true; the input reads as it did. -/
def ringBackSpec : ChangeSpec := { name := "ringBack", fn := fun _ => fun
  | [d1, d2, d3] => { results := [.lit (.bool true)], args := [d1, d2, d3] }
  | _ => none }
def ringBackRow : OpenClaim := { program := "ytfkeddefajkobaa", sum := "57bf67dc794c62e881e3dc7ea4084777388a844d35db65210aea53e963c58997", func := "usher/usherkeep.RingBack", spec := "ringBack", unfollowed := true, recurses := true, plainKeys := false, apart := false }
def RingBackSaid : Prop := ringBackRow.holds Try.pinned (OpenSpec.ofChange ringBackSpec)

/-- ITS FALSE NEIGHBOUR: 'it returns false'. Refute it at one input. -/
def ringBackWrong : ChangeSpec := { name := "ringBack", fn := fun _ => fun
  | [d1, d2, d3] => { results := [.lit (.bool false)], args := [d1, d2, d3] }
  | _ => none }
def RingBackWrongFalsely : Prop := ringBackRow.holds Try.pinned (OpenSpec.ofChange ringBackWrong)

/-- 'usherkeep.RingAll': WHATEVER THE INPUT: true; the input reads as it did. -/
def ringAllSpec : ChangeSpec := { name := "ringAll", fn := fun _ => fun
  | [d1, d2] => { results := [.lit (.bool true)], args := [d1, d2] }
  | _ => none }
def ringAllRow : OpenClaim := { program := "ytfkeddefajkobaa", sum := "57bf67dc794c62e881e3dc7ea4084777388a844d35db65210aea53e963c58997", func := "usher/usherkeep.RingAll", spec := "ringAll", unfollowed := true, recurses := true, plainKeys := false, apart := false }
def RingAllSaid : Prop := ringAllRow.holds Try.pinned (OpenSpec.ofChange ringAllSpec)

/-- ITS FALSE NEIGHBOUR: 'it returns false'. Refute it at one input. -/
def ringAllWrong : ChangeSpec := { name := "ringAll", fn := fun _ => fun
  | [d1, d2] => { results := [.lit (.bool false)], args := [d1, d2] }
  | _ => none }
def RingAllWrongFalsely : Prop := ringAllRow.holds Try.pinned (OpenSpec.ofChange ringAllWrong)

/-- 'usherkeep.RingFirst': WHATEVER THE INPUT: true; the input reads as it did. -/
def ringFirstSpec : ChangeSpec := { name := "ringFirst", fn := fun _ => fun
  | [d1, d2] => { results := [.lit (.bool true)], args := [d1, d2] }
  | _ => none }
def ringFirstRow : OpenClaim := { program := "ytfkeddefajkobaa", sum := "57bf67dc794c62e881e3dc7ea4084777388a844d35db65210aea53e963c58997", func := "usher/usherkeep.RingFirst", spec := "ringFirst", unfollowed := true, recurses := true, plainKeys := false, apart := false }
def RingFirstSaid : Prop := ringFirstRow.holds Try.pinned (OpenSpec.ofChange ringFirstSpec)

/-- ITS FALSE NEIGHBOUR: 'it returns false'. Refute it at one input. -/
def ringFirstWrong : ChangeSpec := { name := "ringFirst", fn := fun _ => fun
  | [d1, d2] => { results := [.lit (.bool false)], args := [d1, d2] }
  | _ => none }
def RingFirstWrongFalsely : Prop := ringFirstRow.holds Try.pinned (OpenSpec.ofChange ringFirstWrong)

/-- 'usherkeep.RingSteady': WHATEVER THE INPUT: true; the input reads as it did. -/
def ringSteadySpec : ChangeSpec := { name := "ringSteady", fn := fun _ => fun
  | [d1, d2, d3] => { results := [.lit (.bool true)], args := [d1, d2, d3] }
  | _ => none }
def ringSteadyRow : OpenClaim := { program := "ytfkeddefajkobaa", sum := "57bf67dc794c62e881e3dc7ea4084777388a844d35db65210aea53e963c58997", func := "usher/usherkeep.RingSteady", spec := "ringSteady", unfollowed := true, recurses := true, plainKeys := false, apart := false }
def RingSteadySaid : Prop := ringSteadyRow.holds Try.pinned (OpenSpec.ofChange ringSteadySpec)

/-- ITS FALSE NEIGHBOUR: 'it returns false'. Refute it at one input. -/
def ringSteadyWrong : ChangeSpec := { name := "ringSteady", fn := fun _ => fun
  | [d1, d2, d3] => { results := [.lit (.bool false)], args := [d1, d2, d3] }
  | _ => none }
def RingSteadyWrongFalsely : Prop := ringSteadyRow.holds Try.pinned (OpenSpec.ofChange ringSteadyWrong)

/- THE SECOND FORM. 'bulk': how many values and letters a reading holds, each counted each time it is reached (what is shared counts as often as it is met; a slice's spare places count too). A statement '..UptoSaid' is the law's where the arguments, and the package variables that the reading takes, are together of bulk at most 1048576: NARROWER than '..Said'. Prove '..Said' where nothing that the law and all that it calls make is longer than what came in: it says more and counts as full. Else prove '..UptoSaid'. A law counts once. -/
mutual
def uptoBulk {H : Type} : DataW H → Nat
  | .lit (.string bytes) => bytes.length + 1
  | .lit _ => 1
  | .nil => 1
  | .ptr d => uptoBulk d + 1
  | .slice elems spare => uptoBulkAll elems + uptoBulkAll spare + 1
  | .agg parts => uptoBulkAll parts + 1
  | .iface _ d => uptoBulk d + 1
  | .map entries => uptoBulkEntries entries + 1
  | .held _ => 1
def uptoBulkAll {H : Type} : List (DataW H) → Nat
  | [] => 0
  | d :: r => uptoBulk d + uptoBulkAll r
def uptoBulkEntries {H : Type} : List (Lit × DataW H) → Nat
  | [] => 0
  | x :: r => uptoBulkEntry x + uptoBulkEntries r
def uptoBulkEntry {H : Type} : Lit × DataW H → Nat
  | (.string bytes, d) => bytes.length + uptoBulk d + 1
  | (_, d) => uptoBulk d + 1
 end
def uptoSmall : (H : Type) → List (DataW H) → Bool := fun _ ds => decide (uptoBulkAll ds ≤ 1048576)
def OpenSpec.upto (s : _root_.Go.ChangeSpec) : _root_.Go.OpenSpec := { _root_.Go.OpenSpec.ofChange s with cond := some uptoSmall }

/-- 'usherkeep.TallyBy', WHERE WHAT IT READS IS OF BULK AT MOST 1048576: true; the input reads as it did. -/
def tallyByUptoRow : OpenClaim := { program := "ytfkeddefajkobaa", sum := "57bf67dc794c62e881e3dc7ea4084777388a844d35db65210aea53e963c58997", func := "usher/usherkeep.TallyBy", spec := "tallyBy", plainKeys := false, apart := false, narrowed := true }
def TallyByUptoSaid : Prop := tallyByUptoRow.holds Try.pinned (OpenSpec.upto tallyBySpec)

/-- 'usherkeep.TallyLive', WHERE WHAT IT READS IS OF BULK AT MOST 1048576: true; the input reads as it did. -/
def tallyLiveUptoRow : OpenClaim := { program := "ytfkeddefajkobaa", sum := "57bf67dc794c62e881e3dc7ea4084777388a844d35db65210aea53e963c58997", func := "usher/usherkeep.TallyLive", spec := "tallyLive", plainKeys := false, apart := false, narrowed := true }
def TallyLiveUptoSaid : Prop := tallyLiveUptoRow.holds Try.pinned (OpenSpec.upto tallyLiveSpec)

/-- 'usherkeep.CoreBegin', WHERE WHAT IT READS IS OF BULK AT MOST 1048576: true; the input reads as it did. -/
def coreBeginUptoRow : OpenClaim := { program := "ytfkeddefajkobaa", sum := "57bf67dc794c62e881e3dc7ea4084777388a844d35db65210aea53e963c58997", func := "usher/usherkeep.CoreBegin", spec := "coreBegin", plainKeys := false, apart := false, narrowed := true }
def CoreBeginUptoSaid : Prop := coreBeginUptoRow.holds Try.pinned (OpenSpec.upto coreBeginSpec)

/-- 'usherkeep.WireFixed', WHERE WHAT IT READS IS OF BULK AT MOST 1048576: true; the input reads as it did. -/
def wireFixedUptoRow : OpenClaim := { program := "ytfkeddefajkobaa", sum := "57bf67dc794c62e881e3dc7ea4084777388a844d35db65210aea53e963c58997", func := "usher/usherkeep.WireFixed", spec := "wireFixed", plainKeys := false, apart := false, narrowed := true }
def WireFixedUptoSaid : Prop := wireFixedUptoRow.holds Try.pinned (OpenSpec.upto wireFixedSpec)

/-- 'usherkeep.LifeFull', WHERE WHAT IT READS IS OF BULK AT MOST 1048576: true; the input reads as it did. -/
def lifeFullUptoRow : OpenClaim := { program := "ytfkeddefajkobaa", sum := "57bf67dc794c62e881e3dc7ea4084777388a844d35db65210aea53e963c58997", func := "usher/usherkeep.LifeFull", spec := "lifeFull", inPlace := ["slices.overlaps[usher/api.Life]"], unfollowed := true, recurses := true, plainKeys := false, apart := false, narrowed := true }
def LifeFullUptoSaid : Prop := lifeFullUptoRow.holds Try.pinned (OpenSpec.upto lifeFullSpec)

/-- 'usherkeep.LifeAgain', WHERE WHAT IT READS IS OF BULK AT MOST 1048576: true; the input reads as it did. -/
def lifeAgainUptoRow : OpenClaim := { program := "ytfkeddefajkobaa", sum := "57bf67dc794c62e881e3dc7ea4084777388a844d35db65210aea53e963c58997", func := "usher/usherkeep.LifeAgain", spec := "lifeAgain", inPlace := ["slices.overlaps[usher/api.Life]"], unfollowed := true, recurses := true, plainKeys := false, apart := false, narrowed := true }
def LifeAgainUptoSaid : Prop := lifeAgainUptoRow.holds Try.pinned (OpenSpec.upto lifeAgainSpec)

/-- 'usherkeep.LifeWoken', WHERE WHAT IT READS IS OF BULK AT MOST 1048576: true; the input reads as it did. -/
def lifeWokenUptoRow : OpenClaim := { program := "ytfkeddefajkobaa", sum := "57bf67dc794c62e881e3dc7ea4084777388a844d35db65210aea53e963c58997", func := "usher/usherkeep.LifeWoken", spec := "lifeWoken", inPlace := ["slices.overlaps[usher/api.Life]"], unfollowed := true, recurses := true, plainKeys := false, apart := false, narrowed := true }
def LifeWokenUptoSaid : Prop := lifeWokenUptoRow.holds Try.pinned (OpenSpec.upto lifeWokenSpec)

/-- 'usherkeep.LifeOthers', WHERE WHAT IT READS IS OF BULK AT MOST 1048576: true; the input reads as it did. -/
def lifeOthersUptoRow : OpenClaim := { program := "ytfkeddefajkobaa", sum := "57bf67dc794c62e881e3dc7ea4084777388a844d35db65210aea53e963c58997", func := "usher/usherkeep.LifeOthers", spec := "lifeOthers", inPlace := ["slices.overlaps[usher/api.Life]"], unfollowed := true, recurses := true, plainKeys := false, apart := false, narrowed := true }
def LifeOthersUptoSaid : Prop := lifeOthersUptoRow.holds Try.pinned (OpenSpec.upto lifeOthersSpec)

/-- 'usherkeep.LifeOrder', WHERE WHAT IT READS IS OF BULK AT MOST 1048576: true; the input reads as it did. -/
def lifeOrderUptoRow : OpenClaim := { program := "ytfkeddefajkobaa", sum := "57bf67dc794c62e881e3dc7ea4084777388a844d35db65210aea53e963c58997", func := "usher/usherkeep.LifeOrder", spec := "lifeOrder", inPlace := ["slices.overlaps[usher/api.Life]"], unfollowed := true, recurses := true, plainKeys := false, apart := false, narrowed := true }
def LifeOrderUptoSaid : Prop := lifeOrderUptoRow.holds Try.pinned (OpenSpec.upto lifeOrderSpec)

/-- 'usherkeep.WheelCancel', WHERE WHAT IT READS IS OF BULK AT MOST 1048576: true; the input reads as it did. -/
def wheelCancelUptoRow : OpenClaim := { program := "ytfkeddefajkobaa", sum := "57bf67dc794c62e881e3dc7ea4084777388a844d35db65210aea53e963c58997", func := "usher/usherkeep.WheelCancel", spec := "wheelCancel", inPlace := ["slices.overlaps[usher/api.Timer]"], unfollowed := true, recurses := true, plainKeys := false, apart := false, narrowed := true }
def WheelCancelUptoSaid : Prop := wheelCancelUptoRow.holds Try.pinned (OpenSpec.upto wheelCancelSpec)

/-- 'usherkeep.LifeCycle', WHERE WHAT IT READS IS OF BULK AT MOST 1048576: true; the input reads as it did. -/
def lifeCycleUptoRow : OpenClaim := { program := "ytfkeddefajkobaa", sum := "57bf67dc794c62e881e3dc7ea4084777388a844d35db65210aea53e963c58997", func := "usher/usherkeep.LifeCycle", spec := "lifeCycle", inPlace := ["slices.overlaps[usher/api.Life]"], unfollowed := true, recurses := true, plainKeys := false, apart := false, narrowed := true }
def LifeCycleUptoSaid : Prop := lifeCycleUptoRow.holds Try.pinned (OpenSpec.upto lifeCycleSpec)

/-- 'usherkeep.WheelFires', WHERE WHAT IT READS IS OF BULK AT MOST 1048576: true; the input reads as it did. -/
def wheelFiresUptoRow : OpenClaim := { program := "ytfkeddefajkobaa", sum := "57bf67dc794c62e881e3dc7ea4084777388a844d35db65210aea53e963c58997", func := "usher/usherkeep.WheelFires", spec := "wheelFires", inPlace := ["slices.overlaps[usher/api.Timer]"], unfollowed := true, recurses := true, plainKeys := false, apart := false, narrowed := true }
def WheelFiresUptoSaid : Prop := wheelFiresUptoRow.holds Try.pinned (OpenSpec.upto wheelFiresSpec)

/-- 'usherkeep.WheelTurns', WHERE WHAT IT READS IS OF BULK AT MOST 1048576: true; the input reads as it did. -/
def wheelTurnsUptoRow : OpenClaim := { program := "ytfkeddefajkobaa", sum := "57bf67dc794c62e881e3dc7ea4084777388a844d35db65210aea53e963c58997", func := "usher/usherkeep.WheelTurns", spec := "wheelTurns", inPlace := ["slices.overlaps[usher/api.Timer]"], unfollowed := true, recurses := true, plainKeys := false, apart := false, narrowed := true }
def WheelTurnsUptoSaid : Prop := wheelTurnsUptoRow.holds Try.pinned (OpenSpec.upto wheelTurnsSpec)

/-- 'usherkeep.WheelHolds', WHERE WHAT IT READS IS OF BULK AT MOST 1048576: true; the input reads as it did. -/
def wheelHoldsUptoRow : OpenClaim := { program := "ytfkeddefajkobaa", sum := "57bf67dc794c62e881e3dc7ea4084777388a844d35db65210aea53e963c58997", func := "usher/usherkeep.WheelHolds", spec := "wheelHolds", inPlace := ["slices.overlaps[usher/api.Timer]"], unfollowed := true, recurses := true, plainKeys := false, apart := false, narrowed := true }
def WheelHoldsUptoSaid : Prop := wheelHoldsUptoRow.holds Try.pinned (OpenSpec.upto wheelHoldsSpec)

/-- 'usherkeep.RingTurns', WHERE WHAT IT READS IS OF BULK AT MOST 1048576: true; the input reads as it did. -/
def ringTurnsUptoRow : OpenClaim := { program := "ytfkeddefajkobaa", sum := "57bf67dc794c62e881e3dc7ea4084777388a844d35db65210aea53e963c58997", func := "usher/usherkeep.RingTurns", spec := "ringTurns", unfollowed := true, recurses := true, plainKeys := false, apart := false, narrowed := true }
def RingTurnsUptoSaid : Prop := ringTurnsUptoRow.holds Try.pinned (OpenSpec.upto ringTurnsSpec)

/-- 'usherkeep.RingPart', WHERE WHAT IT READS IS OF BULK AT MOST 1048576: true; the input reads as it did. -/
def ringPartUptoRow : OpenClaim := { program := "ytfkeddefajkobaa", sum := "57bf67dc794c62e881e3dc7ea4084777388a844d35db65210aea53e963c58997", func := "usher/usherkeep.RingPart", spec := "ringPart", unfollowed := true, recurses := true, plainKeys := false, apart := false, narrowed := true }
def RingPartUptoSaid : Prop := ringPartUptoRow.holds Try.pinned (OpenSpec.upto ringPartSpec)

/-- 'usherkeep.RingBack', WHERE WHAT IT READS IS OF BULK AT MOST 1048576: true; the input reads as it did. -/
def ringBackUptoRow : OpenClaim := { program := "ytfkeddefajkobaa", sum := "57bf67dc794c62e881e3dc7ea4084777388a844d35db65210aea53e963c58997", func := "usher/usherkeep.RingBack", spec := "ringBack", unfollowed := true, recurses := true, plainKeys := false, apart := false, narrowed := true }
def RingBackUptoSaid : Prop := ringBackUptoRow.holds Try.pinned (OpenSpec.upto ringBackSpec)

/-- 'usherkeep.RingAll', WHERE WHAT IT READS IS OF BULK AT MOST 1048576: true; the input reads as it did. -/
def ringAllUptoRow : OpenClaim := { program := "ytfkeddefajkobaa", sum := "57bf67dc794c62e881e3dc7ea4084777388a844d35db65210aea53e963c58997", func := "usher/usherkeep.RingAll", spec := "ringAll", unfollowed := true, recurses := true, plainKeys := false, apart := false, narrowed := true }
def RingAllUptoSaid : Prop := ringAllUptoRow.holds Try.pinned (OpenSpec.upto ringAllSpec)

/-- 'usherkeep.RingFirst', WHERE WHAT IT READS IS OF BULK AT MOST 1048576: true; the input reads as it did. -/
def ringFirstUptoRow : OpenClaim := { program := "ytfkeddefajkobaa", sum := "57bf67dc794c62e881e3dc7ea4084777388a844d35db65210aea53e963c58997", func := "usher/usherkeep.RingFirst", spec := "ringFirst", unfollowed := true, recurses := true, plainKeys := false, apart := false, narrowed := true }
def RingFirstUptoSaid : Prop := ringFirstUptoRow.holds Try.pinned (OpenSpec.upto ringFirstSpec)

/-- 'usherkeep.RingSteady', WHERE WHAT IT READS IS OF BULK AT MOST 1048576: true; the input reads as it did. -/
def ringSteadyUptoRow : OpenClaim := { program := "ytfkeddefajkobaa", sum := "57bf67dc794c62e881e3dc7ea4084777388a844d35db65210aea53e963c58997", func := "usher/usherkeep.RingSteady", spec := "ringSteady", unfollowed := true, recurses := true, plainKeys := false, apart := false, narrowed := true }
def RingSteadyUptoSaid : Prop := ringSteadyUptoRow.holds Try.pinned (OpenSpec.upto ringSteadySpec)

end Rows
end Go.Proofs.Ytfkeddefajkobaa
