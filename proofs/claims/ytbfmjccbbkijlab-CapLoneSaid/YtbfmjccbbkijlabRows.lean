/-
  No cell of these rows narrows 'for every input' (looked for: loops, veiled, ifaces, maps, wideKeys, modest, calm, conditions, laid).
  DERIVED. THE GIVEN ROWS OF THIS SEAT. 8 by the template 'for every input the law returns true; each argument reads behind the call as it read before'; 0 by the template 'total and deterministic' (their statements: YtbfmjccbbkijlabTotals.lean).
  GIVEN WITH THE SEED: the statements are not yours to turn. If you find one false, say at which input.
  Laid BY PROGRAM, IN A SANDBOX (cutbox-rows.mjs): the forced cells as the released guide's own fill.sh prints them over the translation 7a650818e1b93d5d… (all of the seat's roots in one cut). By AI agents, Wed Nov 11 2026. No macro, syntax, notation, axiom, sorry.
-/
import Derived.Test.YtbfmjccbbkijlabChecked
import GoSem.Claim
import GoSem.ClaimJoined
import GoSem.ClaimMapViews
import Derived.JoinedTies
import Derived.KernelRfl
namespace Go.Proofs.Ytbfmjccbbkijlab
/- THE CELL 'sum', in the pinned program and in every row, IS THE sha256 OF THE DUMP (.gsa) THAT YtbfmjccbbkijlabProg.lean LOADS. Nothing in Lean hashes anything: it is a label: what it is worth is what the hold of that sum in a sandbox is worth. -/
noncomputable def Try.pinned : Pinned := { name := "ytbfmjccbbkijlab", sum := "7a650818e1b93d5d9ef896a03f813f983fb871341cab508d4a116145e3e78dda", checked := Try.checked }
namespace Rows
def none {H : Type} : Left H := { results := [], args := [] }

/-- 'usherkeep.BucketBound': WHATEVER THE INPUT: true; the input reads as it did. -/
def bucketBoundSpec : ChangeSpec := { name := "bucketBound", fn := fun _ => fun
  | [d1, d2, d3, d4] => { results := [.lit (.bool true)], args := [d1, d2, d3, d4] }
  | _ => none }
def bucketBoundRow : OpenClaim := { program := "ytbfmjccbbkijlab", sum := "7a650818e1b93d5d9ef896a03f813f983fb871341cab508d4a116145e3e78dda", func := "usher/usherkeep.BucketBound", spec := "bucketBound", plainKeys := false, apart := false }
def BucketBoundSaid : Prop := bucketBoundRow.holds Try.pinned (OpenSpec.ofChange bucketBoundSpec)

/-- ITS FALSE NEIGHBOUR: 'it returns false'. Refute it at one input. -/
def bucketBoundWrong : ChangeSpec := { name := "bucketBound", fn := fun _ => fun
  | [d1, d2, d3, d4] => { results := [.lit (.bool false)], args := [d1, d2, d3, d4] }
  | _ => none }
def BucketBoundWrongFalsely : Prop := bucketBoundRow.holds Try.pinned (OpenSpec.ofChange bucketBoundWrong)

/-- 'usherkeep.BucketSteady': WHATEVER THE INPUT: true; the input reads as it did. -/
def bucketSteadySpec : ChangeSpec := { name := "bucketSteady", fn := fun _ => fun
  | [d1, d2, d3, d4] => { results := [.lit (.bool true)], args := [d1, d2, d3, d4] }
  | _ => none }
def bucketSteadyRow : OpenClaim := { program := "ytbfmjccbbkijlab", sum := "7a650818e1b93d5d9ef896a03f813f983fb871341cab508d4a116145e3e78dda", func := "usher/usherkeep.BucketSteady", spec := "bucketSteady", plainKeys := false, apart := false }
def BucketSteadySaid : Prop := bucketSteadyRow.holds Try.pinned (OpenSpec.ofChange bucketSteadySpec)

/-- ITS FALSE NEIGHBOUR: 'it returns false'. Refute it at one input. -/
def bucketSteadyWrong : ChangeSpec := { name := "bucketSteady", fn := fun _ => fun
  | [d1, d2, d3, d4] => { results := [.lit (.bool false)], args := [d1, d2, d3, d4] }
  | _ => none }
def BucketSteadyWrongFalsely : Prop := bucketSteadyRow.holds Try.pinned (OpenSpec.ofChange bucketSteadyWrong)

/-- 'usherkeep.TallyBy': WHATEVER THE INPUT: true; the input reads as it did. -/
def tallyBySpec : ChangeSpec := { name := "tallyBy", fn := fun _ => fun
  | [d] => { results := [.lit (.bool true)], args := [d] }
  | _ => none }
def tallyByRow : OpenClaim := { program := "ytbfmjccbbkijlab", sum := "7a650818e1b93d5d9ef896a03f813f983fb871341cab508d4a116145e3e78dda", func := "usher/usherkeep.TallyBy", spec := "tallyBy", plainKeys := false, apart := false }
def TallyBySaid : Prop := tallyByRow.holds Try.pinned (OpenSpec.ofChange tallyBySpec)

/-- ITS FALSE NEIGHBOUR: 'it returns false'. Refute it at one input. -/
def tallyByWrong : ChangeSpec := { name := "tallyBy", fn := fun _ => fun
  | [d] => { results := [.lit (.bool false)], args := [d] }
  | _ => none }
def TallyByWrongFalsely : Prop := tallyByRow.holds Try.pinned (OpenSpec.ofChange tallyByWrong)

/-- 'usherkeep.CapsEnough': WHATEVER THE INPUT: true; the input reads as it did. -/
def capsEnoughSpec : ChangeSpec := { name := "capsEnough", fn := fun _ => fun
  | [d1, d2, d3, d4] => { results := [.lit (.bool true)], args := [d1, d2, d3, d4] }
  | _ => none }
def capsEnoughRow : OpenClaim := { program := "ytbfmjccbbkijlab", sum := "7a650818e1b93d5d9ef896a03f813f983fb871341cab508d4a116145e3e78dda", func := "usher/usherkeep.CapsEnough", spec := "capsEnough", plainKeys := false, apart := false }
def CapsEnoughSaid : Prop := capsEnoughRow.holds Try.pinned (OpenSpec.ofChange capsEnoughSpec)

/-- ITS FALSE NEIGHBOUR: 'it returns false'. Refute it at one input. -/
def capsEnoughWrong : ChangeSpec := { name := "capsEnough", fn := fun _ => fun
  | [d1, d2, d3, d4] => { results := [.lit (.bool false)], args := [d1, d2, d3, d4] }
  | _ => none }
def CapsEnoughWrongFalsely : Prop := capsEnoughRow.holds Try.pinned (OpenSpec.ofChange capsEnoughWrong)

/-- 'usherkeep.CapsScale': WHATEVER THE INPUT: true; the input reads as it did. -/
def capsScaleSpec : ChangeSpec := { name := "capsScale", fn := fun _ => fun
  | [d1, d2, d3, d4] => { results := [.lit (.bool true)], args := [d1, d2, d3, d4] }
  | _ => none }
def capsScaleRow : OpenClaim := { program := "ytbfmjccbbkijlab", sum := "7a650818e1b93d5d9ef896a03f813f983fb871341cab508d4a116145e3e78dda", func := "usher/usherkeep.CapsScale", spec := "capsScale", plainKeys := false, apart := false }
def CapsScaleSaid : Prop := capsScaleRow.holds Try.pinned (OpenSpec.ofChange capsScaleSpec)

/-- ITS FALSE NEIGHBOUR: 'it returns false'. Refute it at one input. -/
def capsScaleWrong : ChangeSpec := { name := "capsScale", fn := fun _ => fun
  | [d1, d2, d3, d4] => { results := [.lit (.bool false)], args := [d1, d2, d3, d4] }
  | _ => none }
def CapsScaleWrongFalsely : Prop := capsScaleRow.holds Try.pinned (OpenSpec.ofChange capsScaleWrong)

/-- 'usherkeep.CapLone': WHATEVER THE INPUT: true; the input reads as it did. -/
def capLoneSpec : ChangeSpec := { name := "capLone", fn := fun _ => fun
  | [d1, d2, d3, d4] => { results := [.lit (.bool true)], args := [d1, d2, d3, d4] }
  | _ => none }
def capLoneRow : OpenClaim := { program := "ytbfmjccbbkijlab", sum := "7a650818e1b93d5d9ef896a03f813f983fb871341cab508d4a116145e3e78dda", func := "usher/usherkeep.CapLone", spec := "capLone", plainKeys := false, apart := false }
def CapLoneSaid : Prop := capLoneRow.holds Try.pinned (OpenSpec.ofChange capLoneSpec)

/-- ITS FALSE NEIGHBOUR: 'it returns false'. Refute it at one input. -/
def capLoneWrong : ChangeSpec := { name := "capLone", fn := fun _ => fun
  | [d1, d2, d3, d4] => { results := [.lit (.bool false)], args := [d1, d2, d3, d4] }
  | _ => none }
def CapLoneWrongFalsely : Prop := capLoneRow.holds Try.pinned (OpenSpec.ofChange capLoneWrong)

/-- 'usherkeep.HealthWindow': WHATEVER THE INPUT: true; the input reads as it did. -/
def healthWindowSpec : ChangeSpec := { name := "healthWindow", fn := fun _ => fun
  | [d1, d2, d3, d4, d5] => { results := [.lit (.bool true)], args := [d1, d2, d3, d4, d5] }
  | _ => none }
def healthWindowRow : OpenClaim := { program := "ytbfmjccbbkijlab", sum := "7a650818e1b93d5d9ef896a03f813f983fb871341cab508d4a116145e3e78dda", func := "usher/usherkeep.HealthWindow", spec := "healthWindow", plainKeys := false, apart := false }
def HealthWindowSaid : Prop := healthWindowRow.holds Try.pinned (OpenSpec.ofChange healthWindowSpec)

/-- ITS FALSE NEIGHBOUR: 'it returns false'. Refute it at one input. -/
def healthWindowWrong : ChangeSpec := { name := "healthWindow", fn := fun _ => fun
  | [d1, d2, d3, d4, d5] => { results := [.lit (.bool false)], args := [d1, d2, d3, d4, d5] }
  | _ => none }
def HealthWindowWrongFalsely : Prop := healthWindowRow.holds Try.pinned (OpenSpec.ofChange healthWindowWrong)

/-- 'usherkeep.HealthCalm': WHATEVER THE INPUT: true; the input reads as it did. -/
def healthCalmSpec : ChangeSpec := { name := "healthCalm", fn := fun _ => fun
  | [d1, d2, d3] => { results := [.lit (.bool true)], args := [d1, d2, d3] }
  | _ => none }
def healthCalmRow : OpenClaim := { program := "ytbfmjccbbkijlab", sum := "7a650818e1b93d5d9ef896a03f813f983fb871341cab508d4a116145e3e78dda", func := "usher/usherkeep.HealthCalm", spec := "healthCalm", plainKeys := false, apart := false }
def HealthCalmSaid : Prop := healthCalmRow.holds Try.pinned (OpenSpec.ofChange healthCalmSpec)

/-- ITS FALSE NEIGHBOUR: 'it returns false'. Refute it at one input. -/
def healthCalmWrong : ChangeSpec := { name := "healthCalm", fn := fun _ => fun
  | [d1, d2, d3] => { results := [.lit (.bool false)], args := [d1, d2, d3] }
  | _ => none }
def HealthCalmWrongFalsely : Prop := healthCalmRow.holds Try.pinned (OpenSpec.ofChange healthCalmWrong)

/- THE SECOND FORM. 'bulk': how many values and letters a reading holds, each counted each time it is reached (what is shared counts as often as it is met; a slice's spare places count too). A statement '..UptoSaid' is the law's where the arguments, and the package variables that the reading takes, are together of bulk at most 1048576: NARROWER than '..Said'. Prove '..Said' where nothing that the law and all that it calls make is longer than what came in: it says more and counts as full. Else prove '..UptoSaid'. A law counts once. -/
mutual
def uptoBulk {H : Type} : DataW H → Nat
  | .lit (.string bytes) => bytes.length + 1
  | .lit _ => 1
  | .nil => 1
  | .ptr d => uptoBulk d + 1
  | .slice elems spare => uptoBulkAll elems + uptoBulkAll spare + 1
  | .agg parts => uptoBulkAll parts + 1
  | .iface _ d => uptoBulk d + 1
  | .map entries => uptoBulkEntries entries + 1
  | .held _ => 1
def uptoBulkAll {H : Type} : List (DataW H) → Nat
  | [] => 0
  | d :: r => uptoBulk d + uptoBulkAll r
def uptoBulkEntries {H : Type} : List (Lit × DataW H) → Nat
  | [] => 0
  | x :: r => uptoBulkEntry x + uptoBulkEntries r
def uptoBulkEntry {H : Type} : Lit × DataW H → Nat
  | (.string bytes, d) => bytes.length + uptoBulk d + 1
  | (_, d) => uptoBulk d + 1
 end
def uptoSmall : (H : Type) → List (DataW H) → Bool := fun _ ds => decide (uptoBulkAll ds ≤ 1048576)
def OpenSpec.upto (s : _root_.Go.ChangeSpec) : _root_.Go.OpenSpec := { _root_.Go.OpenSpec.ofChange s with cond := some uptoSmall }

/-- 'usherkeep.BucketBound', WHERE WHAT IT READS IS OF BULK AT MOST 1048576: true; the input reads as it did. -/
def bucketBoundUptoRow : OpenClaim := { program := "ytbfmjccbbkijlab", sum := "7a650818e1b93d5d9ef896a03f813f983fb871341cab508d4a116145e3e78dda", func := "usher/usherkeep.BucketBound", spec := "bucketBound", plainKeys := false, apart := false, narrowed := true }
def BucketBoundUptoSaid : Prop := bucketBoundUptoRow.holds Try.pinned (OpenSpec.upto bucketBoundSpec)

/-- 'usherkeep.BucketSteady', WHERE WHAT IT READS IS OF BULK AT MOST 1048576: true; the input reads as it did. -/
def bucketSteadyUptoRow : OpenClaim := { program := "ytbfmjccbbkijlab", sum := "7a650818e1b93d5d9ef896a03f813f983fb871341cab508d4a116145e3e78dda", func := "usher/usherkeep.BucketSteady", spec := "bucketSteady", plainKeys := false, apart := false, narrowed := true }
def BucketSteadyUptoSaid : Prop := bucketSteadyUptoRow.holds Try.pinned (OpenSpec.upto bucketSteadySpec)

/-- 'usherkeep.TallyBy', WHERE WHAT IT READS IS OF BULK AT MOST 1048576: true; the input reads as it did. -/
def tallyByUptoRow : OpenClaim := { program := "ytbfmjccbbkijlab", sum := "7a650818e1b93d5d9ef896a03f813f983fb871341cab508d4a116145e3e78dda", func := "usher/usherkeep.TallyBy", spec := "tallyBy", plainKeys := false, apart := false, narrowed := true }
def TallyByUptoSaid : Prop := tallyByUptoRow.holds Try.pinned (OpenSpec.upto tallyBySpec)

/-- 'usherkeep.CapsEnough', WHERE WHAT IT READS IS OF BULK AT MOST 1048576: true; the input reads as it did. -/
def capsEnoughUptoRow : OpenClaim := { program := "ytbfmjccbbkijlab", sum := "7a650818e1b93d5d9ef896a03f813f983fb871341cab508d4a116145e3e78dda", func := "usher/usherkeep.CapsEnough", spec := "capsEnough", plainKeys := false, apart := false, narrowed := true }
def CapsEnoughUptoSaid : Prop := capsEnoughUptoRow.holds Try.pinned (OpenSpec.upto capsEnoughSpec)

/-- 'usherkeep.CapsScale', WHERE WHAT IT READS IS OF BULK AT MOST 1048576: true; the input reads as it did. -/
def capsScaleUptoRow : OpenClaim := { program := "ytbfmjccbbkijlab", sum := "7a650818e1b93d5d9ef896a03f813f983fb871341cab508d4a116145e3e78dda", func := "usher/usherkeep.CapsScale", spec := "capsScale", plainKeys := false, apart := false, narrowed := true }
def CapsScaleUptoSaid : Prop := capsScaleUptoRow.holds Try.pinned (OpenSpec.upto capsScaleSpec)

/-- 'usherkeep.CapLone', WHERE WHAT IT READS IS OF BULK AT MOST 1048576: true; the input reads as it did. -/
def capLoneUptoRow : OpenClaim := { program := "ytbfmjccbbkijlab", sum := "7a650818e1b93d5d9ef896a03f813f983fb871341cab508d4a116145e3e78dda", func := "usher/usherkeep.CapLone", spec := "capLone", plainKeys := false, apart := false, narrowed := true }
def CapLoneUptoSaid : Prop := capLoneUptoRow.holds Try.pinned (OpenSpec.upto capLoneSpec)

/-- 'usherkeep.HealthWindow', WHERE WHAT IT READS IS OF BULK AT MOST 1048576: true; the input reads as it did. -/
def healthWindowUptoRow : OpenClaim := { program := "ytbfmjccbbkijlab", sum := "7a650818e1b93d5d9ef896a03f813f983fb871341cab508d4a116145e3e78dda", func := "usher/usherkeep.HealthWindow", spec := "healthWindow", plainKeys := false, apart := false, narrowed := true }
def HealthWindowUptoSaid : Prop := healthWindowUptoRow.holds Try.pinned (OpenSpec.upto healthWindowSpec)

/-- 'usherkeep.HealthCalm', WHERE WHAT IT READS IS OF BULK AT MOST 1048576: true; the input reads as it did. -/
def healthCalmUptoRow : OpenClaim := { program := "ytbfmjccbbkijlab", sum := "7a650818e1b93d5d9ef896a03f813f983fb871341cab508d4a116145e3e78dda", func := "usher/usherkeep.HealthCalm", spec := "healthCalm", plainKeys := false, apart := false, narrowed := true }
def HealthCalmUptoSaid : Prop := healthCalmUptoRow.holds Try.pinned (OpenSpec.upto healthCalmSpec)

end Rows
end Go.Proofs.Ytbfmjccbbkijlab
