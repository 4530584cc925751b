/-
  No cell of these rows narrows 'for every input' (looked for: loops, veiled, ifaces, maps, wideKeys, modest, calm, conditions, laid).
  DERIVED. THE GIVEN ROWS OF THIS SEAT. 14 by the template 'for every input the law returns true; each argument reads behind the call as it read before'; 0 by the template 'total and deterministic' (their statements: YtgjngknkokgpjaaTotals.lean).
  GIVEN WITH THE SEED: the statements are not yours to turn. If you find one false, say at which input.
  Laid BY PROGRAM, IN A SANDBOX (cutbox-rows.mjs): the forced cells as the released guide's own fill.sh prints them over the translation 7acce4ffdbdc4b95… (all of the seat's roots in one cut). By AI agents, Wed Nov 11 2026. No macro, syntax, notation, axiom, sorry.
-/
import Derived.Test.YtgjngknkokgpjaaChecked
import GoSem.Claim
import GoSem.ClaimJoined
import GoSem.ClaimMapViews
import Derived.JoinedTies
import Derived.KernelRfl
namespace Go.Proofs.Ytgjngknkokgpjaa
/- THE CELL 'sum', in the pinned program and in every row, IS THE sha256 OF THE DUMP (.gsa) THAT YtgjngknkokgpjaaProg.lean LOADS. Nothing in Lean hashes anything: it is a label: what it is worth is what the hold of that sum in a sandbox is worth. -/
noncomputable def Try.pinned : Pinned := { name := "ytgjngknkokgpjaa", sum := "7acce4ffdbdc4b951182249be45e38f7a0ff8a4a62b8e83711f8e7206a384002", checked := Try.checked }
namespace Rows
def none {H : Type} : Left H := { results := [], args := [] }

/-- 'usherkeep.TallyBy': WHATEVER THE INPUT: true; the input reads as it did. -/
def tallyBySpec : ChangeSpec := { name := "tallyBy", fn := fun _ => fun
  | [d] => { results := [.lit (.bool true)], args := [d] }
  | _ => none }
def tallyByRow : OpenClaim := { program := "ytgjngknkokgpjaa", sum := "7acce4ffdbdc4b951182249be45e38f7a0ff8a4a62b8e83711f8e7206a384002", func := "usher/usherkeep.TallyBy", spec := "tallyBy", plainKeys := false, apart := false }
def TallyBySaid : Prop := tallyByRow.holds Try.pinned (OpenSpec.ofChange tallyBySpec)

/-- ITS FALSE NEIGHBOUR: 'it returns false'. Refute it at one input. -/
def tallyByWrong : ChangeSpec := { name := "tallyBy", fn := fun _ => fun
  | [d] => { results := [.lit (.bool false)], args := [d] }
  | _ => none }
def TallyByWrongFalsely : Prop := tallyByRow.holds Try.pinned (OpenSpec.ofChange tallyByWrong)

/-- 'usherkeep.TallyLive': WHATEVER THE INPUT: true; the input reads as it did. -/
def tallyLiveSpec : ChangeSpec := { name := "tallyLive", fn := fun _ => fun
  | [d1, d2, d3] => { results := [.lit (.bool true)], args := [d1, d2, d3] }
  | _ => none }
def tallyLiveRow : OpenClaim := { program := "ytgjngknkokgpjaa", sum := "7acce4ffdbdc4b951182249be45e38f7a0ff8a4a62b8e83711f8e7206a384002", func := "usher/usherkeep.TallyLive", spec := "tallyLive", plainKeys := false, apart := false }
def TallyLiveSaid : Prop := tallyLiveRow.holds Try.pinned (OpenSpec.ofChange tallyLiveSpec)

/-- ITS FALSE NEIGHBOUR: 'it returns false'. Refute it at one input. -/
def tallyLiveWrong : ChangeSpec := { name := "tallyLive", fn := fun _ => fun
  | [d1, d2, d3] => { results := [.lit (.bool false)], args := [d1, d2, d3] }
  | _ => none }
def TallyLiveWrongFalsely : Prop := tallyLiveRow.holds Try.pinned (OpenSpec.ofChange tallyLiveWrong)

/-- 'usherkeep.WireLess': WHATEVER THE INPUT: true; the input reads as it did. -/
def wireLessSpec : ChangeSpec := { name := "wireLess", fn := fun _ => fun
  | [d1, d2] => { results := [.lit (.bool true)], args := [d1, d2] }
  | _ => none }
def wireLessRow : OpenClaim := { program := "ytgjngknkokgpjaa", sum := "7acce4ffdbdc4b951182249be45e38f7a0ff8a4a62b8e83711f8e7206a384002", func := "usher/usherkeep.WireLess", spec := "wireLess", plainKeys := false, apart := false }
def WireLessSaid : Prop := wireLessRow.holds Try.pinned (OpenSpec.ofChange wireLessSpec)

/-- ITS FALSE NEIGHBOUR: 'it returns false'. Refute it at one input. -/
def wireLessWrong : ChangeSpec := { name := "wireLess", fn := fun _ => fun
  | [d1, d2] => { results := [.lit (.bool false)], args := [d1, d2] }
  | _ => none }
def WireLessWrongFalsely : Prop := wireLessRow.holds Try.pinned (OpenSpec.ofChange wireLessWrong)

/-- 'usherkeep.CoreBegin': WHATEVER THE INPUT: true; the input reads as it did. -/
def coreBeginSpec : ChangeSpec := { name := "coreBegin", fn := fun _ => fun
  | [d] => { results := [.lit (.bool true)], args := [d] }
  | _ => none }
def coreBeginRow : OpenClaim := { program := "ytgjngknkokgpjaa", sum := "7acce4ffdbdc4b951182249be45e38f7a0ff8a4a62b8e83711f8e7206a384002", func := "usher/usherkeep.CoreBegin", spec := "coreBegin", plainKeys := false, apart := false }
def CoreBeginSaid : Prop := coreBeginRow.holds Try.pinned (OpenSpec.ofChange coreBeginSpec)

/-- ITS FALSE NEIGHBOUR: 'it returns false'. Refute it at one input. -/
def coreBeginWrong : ChangeSpec := { name := "coreBegin", fn := fun _ => fun
  | [d] => { results := [.lit (.bool false)], args := [d] }
  | _ => none }
def CoreBeginWrongFalsely : Prop := coreBeginRow.holds Try.pinned (OpenSpec.ofChange coreBeginWrong)

/-- 'usherkeep.PickFits': WHATEVER THE INPUT: true; the input reads as it did. -/
def pickFitsSpec : ChangeSpec := { name := "pickFits", fn := fun _ => fun
  | [d1, d2, d3, d4, d5, d6] => { results := [.lit (.bool true)], args := [d1, d2, d3, d4, d5, d6] }
  | _ => none }
def pickFitsRow : OpenClaim := { program := "ytgjngknkokgpjaa", sum := "7acce4ffdbdc4b951182249be45e38f7a0ff8a4a62b8e83711f8e7206a384002", func := "usher/usherkeep.PickFits", spec := "pickFits", unfollowed := true, recurses := true, plainKeys := false, apart := false }
def PickFitsSaid : Prop := pickFitsRow.holds Try.pinned (OpenSpec.ofChange pickFitsSpec)

/-- ITS FALSE NEIGHBOUR: 'it returns false'. Refute it at one input. -/
def pickFitsWrong : ChangeSpec := { name := "pickFits", fn := fun _ => fun
  | [d1, d2, d3, d4, d5, d6] => { results := [.lit (.bool false)], args := [d1, d2, d3, d4, d5, d6] }
  | _ => none }
def PickFitsWrongFalsely : Prop := pickFitsRow.holds Try.pinned (OpenSpec.ofChange pickFitsWrong)

/-- 'usherkeep.PickFirst': WHATEVER THE INPUT: true; the input reads as it did. -/
def pickFirstSpec : ChangeSpec := { name := "pickFirst", fn := fun _ => fun
  | [d1, d2, d3] => { results := [.lit (.bool true)], args := [d1, d2, d3] }
  | _ => none }
def pickFirstRow : OpenClaim := { program := "ytgjngknkokgpjaa", sum := "7acce4ffdbdc4b951182249be45e38f7a0ff8a4a62b8e83711f8e7206a384002", func := "usher/usherkeep.PickFirst", spec := "pickFirst", unfollowed := true, recurses := true, plainKeys := false, apart := false }
def PickFirstSaid : Prop := pickFirstRow.holds Try.pinned (OpenSpec.ofChange pickFirstSpec)

/-- ITS FALSE NEIGHBOUR: 'it returns false'. Refute it at one input. -/
def pickFirstWrong : ChangeSpec := { name := "pickFirst", fn := fun _ => fun
  | [d1, d2, d3] => { results := [.lit (.bool false)], args := [d1, d2, d3] }
  | _ => none }
def PickFirstWrongFalsely : Prop := pickFirstRow.holds Try.pinned (OpenSpec.ofChange pickFirstWrong)

/-- 'usherkeep.PickLeast': WHATEVER THE INPUT: true; the input reads as it did. -/
def pickLeastSpec : ChangeSpec := { name := "pickLeast", fn := fun _ => fun
  | [d1, d2, d3] => { results := [.lit (.bool true)], args := [d1, d2, d3] }
  | _ => none }
def pickLeastRow : OpenClaim := { program := "ytgjngknkokgpjaa", sum := "7acce4ffdbdc4b951182249be45e38f7a0ff8a4a62b8e83711f8e7206a384002", func := "usher/usherkeep.PickLeast", spec := "pickLeast", unfollowed := true, recurses := true, plainKeys := false, apart := false }
def PickLeastSaid : Prop := pickLeastRow.holds Try.pinned (OpenSpec.ofChange pickLeastSpec)

/-- ITS FALSE NEIGHBOUR: 'it returns false'. Refute it at one input. -/
def pickLeastWrong : ChangeSpec := { name := "pickLeast", fn := fun _ => fun
  | [d1, d2, d3] => { results := [.lit (.bool false)], args := [d1, d2, d3] }
  | _ => none }
def PickLeastWrongFalsely : Prop := pickLeastRow.holds Try.pinned (OpenSpec.ofChange pickLeastWrong)

/-- 'usherkeep.PickSteady': WHATEVER THE INPUT: true; the input reads as it did. -/
def pickSteadySpec : ChangeSpec := { name := "pickSteady", fn := fun _ => fun
  | [d1, d2, d3, d4] => { results := [.lit (.bool true)], args := [d1, d2, d3, d4] }
  | _ => none }
def pickSteadyRow : OpenClaim := { program := "ytgjngknkokgpjaa", sum := "7acce4ffdbdc4b951182249be45e38f7a0ff8a4a62b8e83711f8e7206a384002", func := "usher/usherkeep.PickSteady", spec := "pickSteady", unfollowed := true, recurses := true, plainKeys := false, apart := false }
def PickSteadySaid : Prop := pickSteadyRow.holds Try.pinned (OpenSpec.ofChange pickSteadySpec)

/-- ITS FALSE NEIGHBOUR: 'it returns false'. Refute it at one input. -/
def pickSteadyWrong : ChangeSpec := { name := "pickSteady", fn := fun _ => fun
  | [d1, d2, d3, d4] => { results := [.lit (.bool false)], args := [d1, d2, d3, d4] }
  | _ => none }
def PickSteadyWrongFalsely : Prop := pickSteadyRow.holds Try.pinned (OpenSpec.ofChange pickSteadyWrong)

/-- 'usherkeep.PickLone': WHATEVER THE INPUT: true; the input reads as it did. -/
def pickLoneSpec : ChangeSpec := { name := "pickLone", fn := fun _ => fun
  | [d1, d2, d3, d4, d5] => { results := [.lit (.bool true)], args := [d1, d2, d3, d4, d5] }
  | _ => none }
def pickLoneRow : OpenClaim := { program := "ytgjngknkokgpjaa", sum := "7acce4ffdbdc4b951182249be45e38f7a0ff8a4a62b8e83711f8e7206a384002", func := "usher/usherkeep.PickLone", spec := "pickLone", unfollowed := true, recurses := true, plainKeys := false, apart := false }
def PickLoneSaid : Prop := pickLoneRow.holds Try.pinned (OpenSpec.ofChange pickLoneSpec)

/-- ITS FALSE NEIGHBOUR: 'it returns false'. Refute it at one input. -/
def pickLoneWrong : ChangeSpec := { name := "pickLone", fn := fun _ => fun
  | [d1, d2, d3, d4, d5] => { results := [.lit (.bool false)], args := [d1, d2, d3, d4, d5] }
  | _ => none }
def PickLoneWrongFalsely : Prop := pickLoneRow.holds Try.pinned (OpenSpec.ofChange pickLoneWrong)

/-- 'usherkeep.PickTries': WHATEVER THE INPUT: true; the input reads as it did. -/
def pickTriesSpec : ChangeSpec := { name := "pickTries", fn := fun _ => fun
  | [d1, d2, d3] => { results := [.lit (.bool true)], args := [d1, d2, d3] }
  | _ => none }
def pickTriesRow : OpenClaim := { program := "ytgjngknkokgpjaa", sum := "7acce4ffdbdc4b951182249be45e38f7a0ff8a4a62b8e83711f8e7206a384002", func := "usher/usherkeep.PickTries", spec := "pickTries", unfollowed := true, recurses := true, plainKeys := false, apart := false }
def PickTriesSaid : Prop := pickTriesRow.holds Try.pinned (OpenSpec.ofChange pickTriesSpec)

/-- ITS FALSE NEIGHBOUR: 'it returns false'. Refute it at one input. -/
def pickTriesWrong : ChangeSpec := { name := "pickTries", fn := fun _ => fun
  | [d1, d2, d3] => { results := [.lit (.bool false)], args := [d1, d2, d3] }
  | _ => none }
def PickTriesWrongFalsely : Prop := pickTriesRow.holds Try.pinned (OpenSpec.ofChange pickTriesWrong)

/-- 'usherkeep.WireBack': WHATEVER THE INPUT: true; the input reads as it did. -/
def wireBackSpec : ChangeSpec := { name := "wireBack", fn := fun _ => fun
  | [d] => { results := [.lit (.bool true)], args := [d] }
  | _ => none }
def wireBackRow : OpenClaim := { program := "ytgjngknkokgpjaa", sum := "7acce4ffdbdc4b951182249be45e38f7a0ff8a4a62b8e83711f8e7206a384002", func := "usher/usherkeep.WireBack", spec := "wireBack", plainKeys := false, apart := false }
def WireBackSaid : Prop := wireBackRow.holds Try.pinned (OpenSpec.ofChange wireBackSpec)

/-- ITS FALSE NEIGHBOUR: 'it returns false'. Refute it at one input. -/
def wireBackWrong : ChangeSpec := { name := "wireBack", fn := fun _ => fun
  | [d] => { results := [.lit (.bool false)], args := [d] }
  | _ => none }
def WireBackWrongFalsely : Prop := wireBackRow.holds Try.pinned (OpenSpec.ofChange wireBackWrong)

/-- 'usherkeep.WireFixed': WHATEVER THE INPUT: true; the input reads as it did. -/
def wireFixedSpec : ChangeSpec := { name := "wireFixed", fn := fun _ => fun
  | [d] => { results := [.lit (.bool true)], args := [d] }
  | _ => none }
def wireFixedRow : OpenClaim := { program := "ytgjngknkokgpjaa", sum := "7acce4ffdbdc4b951182249be45e38f7a0ff8a4a62b8e83711f8e7206a384002", func := "usher/usherkeep.WireFixed", spec := "wireFixed", plainKeys := false, apart := false }
def WireFixedSaid : Prop := wireFixedRow.holds Try.pinned (OpenSpec.ofChange wireFixedSpec)

/-- ITS FALSE NEIGHBOUR: 'it returns false'. Refute it at one input. -/
def wireFixedWrong : ChangeSpec := { name := "wireFixed", fn := fun _ => fun
  | [d] => { results := [.lit (.bool false)], args := [d] }
  | _ => none }
def WireFixedWrongFalsely : Prop := wireFixedRow.holds Try.pinned (OpenSpec.ofChange wireFixedWrong)

/-- 'usherkeep.WireTorn': WHATEVER THE INPUT: true; the input reads as it did. -/
def wireTornSpec : ChangeSpec := { name := "wireTorn", fn := fun _ => fun
  | [d1, d2, d3] => { results := [.lit (.bool true)], args := [d1, d2, d3] }
  | _ => none }
def wireTornRow : OpenClaim := { program := "ytgjngknkokgpjaa", sum := "7acce4ffdbdc4b951182249be45e38f7a0ff8a4a62b8e83711f8e7206a384002", func := "usher/usherkeep.WireTorn", spec := "wireTorn", plainKeys := false, apart := false }
def WireTornSaid : Prop := wireTornRow.holds Try.pinned (OpenSpec.ofChange wireTornSpec)

/-- ITS FALSE NEIGHBOUR: 'it returns false'. Refute it at one input. -/
def wireTornWrong : ChangeSpec := { name := "wireTorn", fn := fun _ => fun
  | [d1, d2, d3] => { results := [.lit (.bool false)], args := [d1, d2, d3] }
  | _ => none }
def WireTornWrongFalsely : Prop := wireTornRow.holds Try.pinned (OpenSpec.ofChange wireTornWrong)

/-- 'usherkeep.WireKind': WHATEVER THE INPUT: true; the input reads as it did. -/
def wireKindSpec : ChangeSpec := { name := "wireKind", fn := fun _ => fun
  | [d1, d2] => { results := [.lit (.bool true)], args := [d1, d2] }
  | _ => none }
def wireKindRow : OpenClaim := { program := "ytgjngknkokgpjaa", sum := "7acce4ffdbdc4b951182249be45e38f7a0ff8a4a62b8e83711f8e7206a384002", func := "usher/usherkeep.WireKind", spec := "wireKind", plainKeys := false, apart := false }
def WireKindSaid : Prop := wireKindRow.holds Try.pinned (OpenSpec.ofChange wireKindSpec)

/-- ITS FALSE NEIGHBOUR: 'it returns false'. Refute it at one input. -/
def wireKindWrong : ChangeSpec := { name := "wireKind", fn := fun _ => fun
  | [d1, d2] => { results := [.lit (.bool false)], args := [d1, d2] }
  | _ => none }
def WireKindWrongFalsely : Prop := wireKindRow.holds Try.pinned (OpenSpec.ofChange wireKindWrong)

/- THE SECOND FORM. 'bulk': how many values and letters a reading holds, each counted each time it is reached (what is shared counts as often as it is met; a slice's spare places count too). A statement '..UptoSaid' is the law's where the arguments, and the package variables that the reading takes, are together of bulk at most 1048576: NARROWER than '..Said'. Prove '..Said' where nothing that the law and all that it calls make is longer than what came in: it says more and counts as full. Else prove '..UptoSaid'. A law counts once. -/
mutual
def uptoBulk {H : Type} : DataW H → Nat
  | .lit (.string bytes) => bytes.length + 1
  | .lit _ => 1
  | .nil => 1
  | .ptr d => uptoBulk d + 1
  | .slice elems spare => uptoBulkAll elems + uptoBulkAll spare + 1
  | .agg parts => uptoBulkAll parts + 1
  | .iface _ d => uptoBulk d + 1
  | .map entries => uptoBulkEntries entries + 1
  | .held _ => 1
def uptoBulkAll {H : Type} : List (DataW H) → Nat
  | [] => 0
  | d :: r => uptoBulk d + uptoBulkAll r
def uptoBulkEntries {H : Type} : List (Lit × DataW H) → Nat
  | [] => 0
  | x :: r => uptoBulkEntry x + uptoBulkEntries r
def uptoBulkEntry {H : Type} : Lit × DataW H → Nat
  | (.string bytes, d) => bytes.length + uptoBulk d + 1
  | (_, d) => uptoBulk d + 1
 end
def uptoSmall : (H : Type) → List (DataW H) → Bool := fun _ ds => decide (uptoBulkAll ds ≤ 1048576)
def OpenSpec.upto (s : _root_.Go.ChangeSpec) : _root_.Go.OpenSpec := { _root_.Go.OpenSpec.ofChange s with cond := some uptoSmall }

/-- 'usherkeep.TallyBy', WHERE WHAT IT READS IS OF BULK AT MOST 1048576: true; the input reads as it did. -/
def tallyByUptoRow : OpenClaim := { program := "ytgjngknkokgpjaa", sum := "7acce4ffdbdc4b951182249be45e38f7a0ff8a4a62b8e83711f8e7206a384002", func := "usher/usherkeep.TallyBy", spec := "tallyBy", plainKeys := false, apart := false, narrowed := true }
def TallyByUptoSaid : Prop := tallyByUptoRow.holds Try.pinned (OpenSpec.upto tallyBySpec)

/-- 'usherkeep.TallyLive', WHERE WHAT IT READS IS OF BULK AT MOST 1048576: true; the input reads as it did. -/
def tallyLiveUptoRow : OpenClaim := { program := "ytgjngknkokgpjaa", sum := "7acce4ffdbdc4b951182249be45e38f7a0ff8a4a62b8e83711f8e7206a384002", func := "usher/usherkeep.TallyLive", spec := "tallyLive", plainKeys := false, apart := false, narrowed := true }
def TallyLiveUptoSaid : Prop := tallyLiveUptoRow.holds Try.pinned (OpenSpec.upto tallyLiveSpec)

/-- 'usherkeep.WireLess', WHERE WHAT IT READS IS OF BULK AT MOST 1048576: true; the input reads as it did. -/
def wireLessUptoRow : OpenClaim := { program := "ytgjngknkokgpjaa", sum := "7acce4ffdbdc4b951182249be45e38f7a0ff8a4a62b8e83711f8e7206a384002", func := "usher/usherkeep.WireLess", spec := "wireLess", plainKeys := false, apart := false, narrowed := true }
def WireLessUptoSaid : Prop := wireLessUptoRow.holds Try.pinned (OpenSpec.upto wireLessSpec)

/-- 'usherkeep.CoreBegin', WHERE WHAT IT READS IS OF BULK AT MOST 1048576: true; the input reads as it did. -/
def coreBeginUptoRow : OpenClaim := { program := "ytgjngknkokgpjaa", sum := "7acce4ffdbdc4b951182249be45e38f7a0ff8a4a62b8e83711f8e7206a384002", func := "usher/usherkeep.CoreBegin", spec := "coreBegin", plainKeys := false, apart := false, narrowed := true }
def CoreBeginUptoSaid : Prop := coreBeginUptoRow.holds Try.pinned (OpenSpec.upto coreBeginSpec)

/-- 'usherkeep.PickFits', WHERE WHAT IT READS IS OF BULK AT MOST 1048576: true; the input reads as it did. -/
def pickFitsUptoRow : OpenClaim := { program := "ytgjngknkokgpjaa", sum := "7acce4ffdbdc4b951182249be45e38f7a0ff8a4a62b8e83711f8e7206a384002", func := "usher/usherkeep.PickFits", spec := "pickFits", unfollowed := true, recurses := true, plainKeys := false, apart := false, narrowed := true }
def PickFitsUptoSaid : Prop := pickFitsUptoRow.holds Try.pinned (OpenSpec.upto pickFitsSpec)

/-- 'usherkeep.PickFirst', WHERE WHAT IT READS IS OF BULK AT MOST 1048576: true; the input reads as it did. -/
def pickFirstUptoRow : OpenClaim := { program := "ytgjngknkokgpjaa", sum := "7acce4ffdbdc4b951182249be45e38f7a0ff8a4a62b8e83711f8e7206a384002", func := "usher/usherkeep.PickFirst", spec := "pickFirst", unfollowed := true, recurses := true, plainKeys := false, apart := false, narrowed := true }
def PickFirstUptoSaid : Prop := pickFirstUptoRow.holds Try.pinned (OpenSpec.upto pickFirstSpec)

/-- 'usherkeep.PickLeast', WHERE WHAT IT READS IS OF BULK AT MOST 1048576: true; the input reads as it did. -/
def pickLeastUptoRow : OpenClaim := { program := "ytgjngknkokgpjaa", sum := "7acce4ffdbdc4b951182249be45e38f7a0ff8a4a62b8e83711f8e7206a384002", func := "usher/usherkeep.PickLeast", spec := "pickLeast", unfollowed := true, recurses := true, plainKeys := false, apart := false, narrowed := true }
def PickLeastUptoSaid : Prop := pickLeastUptoRow.holds Try.pinned (OpenSpec.upto pickLeastSpec)

/-- 'usherkeep.PickSteady', WHERE WHAT IT READS IS OF BULK AT MOST 1048576: true; the input reads as it did. -/
def pickSteadyUptoRow : OpenClaim := { program := "ytgjngknkokgpjaa", sum := "7acce4ffdbdc4b951182249be45e38f7a0ff8a4a62b8e83711f8e7206a384002", func := "usher/usherkeep.PickSteady", spec := "pickSteady", unfollowed := true, recurses := true, plainKeys := false, apart := false, narrowed := true }
def PickSteadyUptoSaid : Prop := pickSteadyUptoRow.holds Try.pinned (OpenSpec.upto pickSteadySpec)

/-- 'usherkeep.PickLone', WHERE WHAT IT READS IS OF BULK AT MOST 1048576: true; the input reads as it did. -/
def pickLoneUptoRow : OpenClaim := { program := "ytgjngknkokgpjaa", sum := "7acce4ffdbdc4b951182249be45e38f7a0ff8a4a62b8e83711f8e7206a384002", func := "usher/usherkeep.PickLone", spec := "pickLone", unfollowed := true, recurses := true, plainKeys := false, apart := false, narrowed := true }
def PickLoneUptoSaid : Prop := pickLoneUptoRow.holds Try.pinned (OpenSpec.upto pickLoneSpec)

/-- 'usherkeep.PickTries', WHERE WHAT IT READS IS OF BULK AT MOST 1048576: true; the input reads as it did. -/
def pickTriesUptoRow : OpenClaim := { program := "ytgjngknkokgpjaa", sum := "7acce4ffdbdc4b951182249be45e38f7a0ff8a4a62b8e83711f8e7206a384002", func := "usher/usherkeep.PickTries", spec := "pickTries", unfollowed := true, recurses := true, plainKeys := false, apart := false, narrowed := true }
def PickTriesUptoSaid : Prop := pickTriesUptoRow.holds Try.pinned (OpenSpec.upto pickTriesSpec)

/-- 'usherkeep.WireBack', WHERE WHAT IT READS IS OF BULK AT MOST 1048576: true; the input reads as it did. -/
def wireBackUptoRow : OpenClaim := { program := "ytgjngknkokgpjaa", sum := "7acce4ffdbdc4b951182249be45e38f7a0ff8a4a62b8e83711f8e7206a384002", func := "usher/usherkeep.WireBack", spec := "wireBack", plainKeys := false, apart := false, narrowed := true }
def WireBackUptoSaid : Prop := wireBackUptoRow.holds Try.pinned (OpenSpec.upto wireBackSpec)

/-- 'usherkeep.WireFixed', WHERE WHAT IT READS IS OF BULK AT MOST 1048576: true; the input reads as it did. -/
def wireFixedUptoRow : OpenClaim := { program := "ytgjngknkokgpjaa", sum := "7acce4ffdbdc4b951182249be45e38f7a0ff8a4a62b8e83711f8e7206a384002", func := "usher/usherkeep.WireFixed", spec := "wireFixed", plainKeys := false, apart := false, narrowed := true }
def WireFixedUptoSaid : Prop := wireFixedUptoRow.holds Try.pinned (OpenSpec.upto wireFixedSpec)

/-- 'usherkeep.WireTorn', WHERE WHAT IT READS IS OF BULK AT MOST 1048576: true; the input reads as it did. -/
def wireTornUptoRow : OpenClaim := { program := "ytgjngknkokgpjaa", sum := "7acce4ffdbdc4b951182249be45e38f7a0ff8a4a62b8e83711f8e7206a384002", func := "usher/usherkeep.WireTorn", spec := "wireTorn", plainKeys := false, apart := false, narrowed := true }
def WireTornUptoSaid : Prop := wireTornUptoRow.holds Try.pinned (OpenSpec.upto wireTornSpec)

/-- 'usherkeep.WireKind', WHERE WHAT IT READS IS OF BULK AT MOST 1048576: true; the input reads as it did. -/
def wireKindUptoRow : OpenClaim := { program := "ytgjngknkokgpjaa", sum := "7acce4ffdbdc4b951182249be45e38f7a0ff8a4a62b8e83711f8e7206a384002", func := "usher/usherkeep.WireKind", spec := "wireKind", plainKeys := false, apart := false, narrowed := true }
def WireKindUptoSaid : Prop := wireKindUptoRow.holds Try.pinned (OpenSpec.upto wireKindSpec)

end Rows
end Go.Proofs.Ytgjngknkokgpjaa
