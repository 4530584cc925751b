/-
  No cell of these rows narrows 'for every input' (looked for: loops, veiled, ifaces, maps, wideKeys, modest, calm, conditions, laid).
  DERIVED. THE GIVEN ROWS OF THIS SEAT. 12 by the template 'for every input the law returns true; each argument reads behind the call as it read before'; 0 by the template 'total and deterministic' (their statements: YtbfmjccbbkijlaaTotals.lean).
  GIVEN WITH THE SEED: the statements are not yours to turn. If you find one false, say at which input.
  Laid BY PROGRAM, IN A SANDBOX (cutbox-rows.mjs): the forced cells as the released guide's own fill.sh prints them over the translation 10709c069b1a9292… (all of the seat's roots in one cut). By AI agents, Wed Nov 11 2026. No macro, syntax, notation, axiom, sorry.
-/
import Derived.Test.YtbfmjccbbkijlaaChecked
import GoSem.Claim
import GoSem.ClaimJoined
import GoSem.ClaimMapViews
import Derived.JoinedTies
import Derived.KernelRfl
namespace Go.Proofs.Ytbfmjccbbkijlaa
/- THE CELL 'sum', in the pinned program and in every row, IS THE sha256 OF THE DUMP (.gsa) THAT YtbfmjccbbkijlaaProg.lean LOADS. Nothing in Lean hashes anything: it is a label: what it is worth is what the hold of that sum in a sandbox is worth. -/
noncomputable def Try.pinned : Pinned := { name := "ytbfmjccbbkijlaa", sum := "10709c069b1a92923ed0b521b600d7d4a0bf07f228cbfd43d86805e2a387f835", checked := Try.checked }
namespace Rows
def none {H : Type} : Left H := { results := [], args := [] }

/-- 'usherkeep.AllowedShare': WHATEVER THE INPUT: true; the input reads as it did. -/
def allowedShareSpec : ChangeSpec := { name := "allowedShare", fn := fun _ => fun
  | [d1, d2] => { results := [.lit (.bool true)], args := [d1, d2] }
  | _ => none }
def allowedShareRow : OpenClaim := { program := "ytbfmjccbbkijlaa", sum := "10709c069b1a92923ed0b521b600d7d4a0bf07f228cbfd43d86805e2a387f835", func := "usher/usherkeep.AllowedShare", spec := "allowedShare", apart := false }
def AllowedShareSaid : Prop := allowedShareRow.holds Try.pinned (OpenSpec.ofChange allowedShareSpec)

/-- ITS FALSE NEIGHBOUR: 'it returns false'. Refute it at one input. -/
def allowedShareWrong : ChangeSpec := { name := "allowedShare", fn := fun _ => fun
  | [d1, d2] => { results := [.lit (.bool false)], args := [d1, d2] }
  | _ => none }
def AllowedShareWrongFalsely : Prop := allowedShareRow.holds Try.pinned (OpenSpec.ofChange allowedShareWrong)

/-- 'usherkeep.CapRises': WHATEVER THE INPUT: true; the input reads as it did. -/
def capRisesSpec : ChangeSpec := { name := "capRises", fn := fun _ => fun
  | [d1, d2, d3, d4, d5] => { results := [.lit (.bool true)], args := [d1, d2, d3, d4, d5] }
  | _ => none }
def capRisesRow : OpenClaim := { program := "ytbfmjccbbkijlaa", sum := "10709c069b1a92923ed0b521b600d7d4a0bf07f228cbfd43d86805e2a387f835", func := "usher/usherkeep.CapRises", spec := "capRises", apart := false }
def CapRisesSaid : Prop := capRisesRow.holds Try.pinned (OpenSpec.ofChange capRisesSpec)

/-- ITS FALSE NEIGHBOUR: 'it returns false'. Refute it at one input. -/
def capRisesWrong : ChangeSpec := { name := "capRises", fn := fun _ => fun
  | [d1, d2, d3, d4, d5] => { results := [.lit (.bool false)], args := [d1, d2, d3, d4, d5] }
  | _ => none }
def CapRisesWrongFalsely : Prop := capRisesRow.holds Try.pinned (OpenSpec.ofChange capRisesWrong)

/-- 'usherkeep.RampShare': WHATEVER THE INPUT: true; the input reads as it did. -/
def rampShareSpec : ChangeSpec := { name := "rampShare", fn := fun _ => fun
  | [d1, d2, d3] => { results := [.lit (.bool true)], args := [d1, d2, d3] }
  | _ => none }
def rampShareRow : OpenClaim := { program := "ytbfmjccbbkijlaa", sum := "10709c069b1a92923ed0b521b600d7d4a0bf07f228cbfd43d86805e2a387f835", func := "usher/usherkeep.RampShare", spec := "rampShare", apart := false }
def RampShareSaid : Prop := rampShareRow.holds Try.pinned (OpenSpec.ofChange rampShareSpec)

/-- ITS FALSE NEIGHBOUR: 'it returns false'. Refute it at one input. -/
def rampShareWrong : ChangeSpec := { name := "rampShare", fn := fun _ => fun
  | [d1, d2, d3] => { results := [.lit (.bool false)], args := [d1, d2, d3] }
  | _ => none }
def RampShareWrongFalsely : Prop := rampShareRow.holds Try.pinned (OpenSpec.ofChange rampShareWrong)

/-- 'usherkeep.HashOne': WHATEVER THE INPUT: true; the input reads as it did. -/
def hashOneSpec : ChangeSpec := { name := "hashOne", fn := fun _ => fun
  | [d1, d2, d3] => { results := [.lit (.bool true)], args := [d1, d2, d3] }
  | _ => none }
def hashOneRow : OpenClaim := { program := "ytbfmjccbbkijlaa", sum := "10709c069b1a92923ed0b521b600d7d4a0bf07f228cbfd43d86805e2a387f835", func := "usher/usherkeep.HashOne", spec := "hashOne", apart := false }
def HashOneSaid : Prop := hashOneRow.holds Try.pinned (OpenSpec.ofChange hashOneSpec)

/-- ITS FALSE NEIGHBOUR: 'it returns false'. Refute it at one input. -/
def hashOneWrong : ChangeSpec := { name := "hashOne", fn := fun _ => fun
  | [d1, d2, d3] => { results := [.lit (.bool false)], args := [d1, d2, d3] }
  | _ => none }
def HashOneWrongFalsely : Prop := hashOneRow.holds Try.pinned (OpenSpec.ofChange hashOneWrong)

/-- 'usherkeep.HashSpot': WHATEVER THE INPUT: true; the input reads as it did. -/
def hashSpotSpec : ChangeSpec := { name := "hashSpot", fn := fun _ => fun
  | [d1, d2, d3, d4] => { results := [.lit (.bool true)], args := [d1, d2, d3, d4] }
  | _ => none }
def hashSpotRow : OpenClaim := { program := "ytbfmjccbbkijlaa", sum := "10709c069b1a92923ed0b521b600d7d4a0bf07f228cbfd43d86805e2a387f835", func := "usher/usherkeep.HashSpot", spec := "hashSpot", apart := false }
def HashSpotSaid : Prop := hashSpotRow.holds Try.pinned (OpenSpec.ofChange hashSpotSpec)

/-- ITS FALSE NEIGHBOUR: 'it returns false'. Refute it at one input. -/
def hashSpotWrong : ChangeSpec := { name := "hashSpot", fn := fun _ => fun
  | [d1, d2, d3, d4] => { results := [.lit (.bool false)], args := [d1, d2, d3, d4] }
  | _ => none }
def HashSpotWrongFalsely : Prop := hashSpotRow.holds Try.pinned (OpenSpec.ofChange hashSpotWrong)

/-- 'usherkeep.RampRises': WHATEVER THE INPUT: true; the input reads as it did. -/
def rampRisesSpec : ChangeSpec := { name := "rampRises", fn := fun _ => fun
  | [d1, d2, d3, d4] => { results := [.lit (.bool true)], args := [d1, d2, d3, d4] }
  | _ => none }
def rampRisesRow : OpenClaim := { program := "ytbfmjccbbkijlaa", sum := "10709c069b1a92923ed0b521b600d7d4a0bf07f228cbfd43d86805e2a387f835", func := "usher/usherkeep.RampRises", spec := "rampRises", apart := false }
def RampRisesSaid : Prop := rampRisesRow.holds Try.pinned (OpenSpec.ofChange rampRisesSpec)

/-- ITS FALSE NEIGHBOUR: 'it returns false'. Refute it at one input. -/
def rampRisesWrong : ChangeSpec := { name := "rampRises", fn := fun _ => fun
  | [d1, d2, d3, d4] => { results := [.lit (.bool false)], args := [d1, d2, d3, d4] }
  | _ => none }
def RampRisesWrongFalsely : Prop := rampRisesRow.holds Try.pinned (OpenSpec.ofChange rampRisesWrong)

/-- 'usherkeep.RampAtOnce': WHATEVER THE INPUT: true; the input reads as it did. -/
def rampAtOnceSpec : ChangeSpec := { name := "rampAtOnce", fn := fun _ => fun
  | [d1, d2] => { results := [.lit (.bool true)], args := [d1, d2] }
  | _ => none }
def rampAtOnceRow : OpenClaim := { program := "ytbfmjccbbkijlaa", sum := "10709c069b1a92923ed0b521b600d7d4a0bf07f228cbfd43d86805e2a387f835", func := "usher/usherkeep.RampAtOnce", spec := "rampAtOnce", apart := false }
def RampAtOnceSaid : Prop := rampAtOnceRow.holds Try.pinned (OpenSpec.ofChange rampAtOnceSpec)

/-- ITS FALSE NEIGHBOUR: 'it returns false'. Refute it at one input. -/
def rampAtOnceWrong : ChangeSpec := { name := "rampAtOnce", fn := fun _ => fun
  | [d1, d2] => { results := [.lit (.bool false)], args := [d1, d2] }
  | _ => none }
def RampAtOnceWrongFalsely : Prop := rampAtOnceRow.holds Try.pinned (OpenSpec.ofChange rampAtOnceWrong)

/-- 'usherkeep.TallyAdds': WHATEVER THE INPUT: true; the input reads as it did. -/
def tallyAddsSpec : ChangeSpec := { name := "tallyAdds", fn := fun _ => fun
  | [d1, d2] => { results := [.lit (.bool true)], args := [d1, d2] }
  | _ => none }
def tallyAddsRow : OpenClaim := { program := "ytbfmjccbbkijlaa", sum := "10709c069b1a92923ed0b521b600d7d4a0bf07f228cbfd43d86805e2a387f835", func := "usher/usherkeep.TallyAdds", spec := "tallyAdds", apart := false }
def TallyAddsSaid : Prop := tallyAddsRow.holds Try.pinned (OpenSpec.ofChange tallyAddsSpec)

/-- ITS FALSE NEIGHBOUR: 'it returns false'. Refute it at one input. -/
def tallyAddsWrong : ChangeSpec := { name := "tallyAdds", fn := fun _ => fun
  | [d1, d2] => { results := [.lit (.bool false)], args := [d1, d2] }
  | _ => none }
def TallyAddsWrongFalsely : Prop := tallyAddsRow.holds Try.pinned (OpenSpec.ofChange tallyAddsWrong)

/-- 'usherkeep.HashBounds': WHATEVER THE INPUT: true; the input reads as it did. -/
def hashBoundsSpec : ChangeSpec := { name := "hashBounds", fn := fun _ => fun
  | [d1, d2, d3] => { results := [.lit (.bool true)], args := [d1, d2, d3] }
  | _ => none }
def hashBoundsRow : OpenClaim := { program := "ytbfmjccbbkijlaa", sum := "10709c069b1a92923ed0b521b600d7d4a0bf07f228cbfd43d86805e2a387f835", func := "usher/usherkeep.HashBounds", spec := "hashBounds", apart := false }
def HashBoundsSaid : Prop := hashBoundsRow.holds Try.pinned (OpenSpec.ofChange hashBoundsSpec)

/-- ITS FALSE NEIGHBOUR: 'it returns false'. Refute it at one input. -/
def hashBoundsWrong : ChangeSpec := { name := "hashBounds", fn := fun _ => fun
  | [d1, d2, d3] => { results := [.lit (.bool false)], args := [d1, d2, d3] }
  | _ => none }
def HashBoundsWrongFalsely : Prop := hashBoundsRow.holds Try.pinned (OpenSpec.ofChange hashBoundsWrong)

/-- 'usherkeep.BucketBurst': WHATEVER THE INPUT: true; the input reads as it did. -/
def bucketBurstSpec : ChangeSpec := { name := "bucketBurst", fn := fun _ => fun
  | [d1, d2, d3] => { results := [.lit (.bool true)], args := [d1, d2, d3] }
  | _ => none }
def bucketBurstRow : OpenClaim := { program := "ytbfmjccbbkijlaa", sum := "10709c069b1a92923ed0b521b600d7d4a0bf07f228cbfd43d86805e2a387f835", func := "usher/usherkeep.BucketBurst", spec := "bucketBurst", apart := false }
def BucketBurstSaid : Prop := bucketBurstRow.holds Try.pinned (OpenSpec.ofChange bucketBurstSpec)

/-- ITS FALSE NEIGHBOUR: 'it returns false'. Refute it at one input. -/
def bucketBurstWrong : ChangeSpec := { name := "bucketBurst", fn := fun _ => fun
  | [d1, d2, d3] => { results := [.lit (.bool false)], args := [d1, d2, d3] }
  | _ => none }
def BucketBurstWrongFalsely : Prop := bucketBurstRow.holds Try.pinned (OpenSpec.ofChange bucketBurstWrong)

/-- 'usherkeep.BucketMore': WHATEVER THE INPUT: true; the input reads as it did. -/
def bucketMoreSpec : ChangeSpec := { name := "bucketMore", fn := fun _ => fun
  | [d1, d2, d3, d4, d5] => { results := [.lit (.bool true)], args := [d1, d2, d3, d4, d5] }
  | _ => none }
def bucketMoreRow : OpenClaim := { program := "ytbfmjccbbkijlaa", sum := "10709c069b1a92923ed0b521b600d7d4a0bf07f228cbfd43d86805e2a387f835", func := "usher/usherkeep.BucketMore", spec := "bucketMore", apart := false }
def BucketMoreSaid : Prop := bucketMoreRow.holds Try.pinned (OpenSpec.ofChange bucketMoreSpec)

/-- ITS FALSE NEIGHBOUR: 'it returns false'. Refute it at one input. -/
def bucketMoreWrong : ChangeSpec := { name := "bucketMore", fn := fun _ => fun
  | [d1, d2, d3, d4, d5] => { results := [.lit (.bool false)], args := [d1, d2, d3, d4, d5] }
  | _ => none }
def BucketMoreWrongFalsely : Prop := bucketMoreRow.holds Try.pinned (OpenSpec.ofChange bucketMoreWrong)

/-- 'usherkeep.TallyStory': WHATEVER THE INPUT: true; the input reads as it did. -/
def tallyStorySpec : ChangeSpec := { name := "tallyStory", fn := fun _ => fun
  | [d] => { results := [.lit (.bool true)], args := [d] }
  | _ => none }
def tallyStoryRow : OpenClaim := { program := "ytbfmjccbbkijlaa", sum := "10709c069b1a92923ed0b521b600d7d4a0bf07f228cbfd43d86805e2a387f835", func := "usher/usherkeep.TallyStory", spec := "tallyStory", apart := false }
def TallyStorySaid : Prop := tallyStoryRow.holds Try.pinned (OpenSpec.ofChange tallyStorySpec)

/-- ITS FALSE NEIGHBOUR: 'it returns false'. Refute it at one input. -/
def tallyStoryWrong : ChangeSpec := { name := "tallyStory", fn := fun _ => fun
  | [d] => { results := [.lit (.bool false)], args := [d] }
  | _ => none }
def TallyStoryWrongFalsely : Prop := tallyStoryRow.holds Try.pinned (OpenSpec.ofChange tallyStoryWrong)

/- THE SECOND FORM. 'bulk': how many values and letters a reading holds, each counted each time it is reached (what is shared counts as often as it is met; a slice's spare places count too). A statement '..UptoSaid' is the law's where the arguments, and the package variables that the reading takes, are together of bulk at most 1048576: NARROWER than '..Said'. Prove '..Said' where nothing that the law and all that it calls make is longer than what came in: it says more and counts as full. Else prove '..UptoSaid'. A law counts once. -/
mutual
def uptoBulk {H : Type} : DataW H → Nat
  | .lit (.string bytes) => bytes.length + 1
  | .lit _ => 1
  | .nil => 1
  | .ptr d => uptoBulk d + 1
  | .slice elems spare => uptoBulkAll elems + uptoBulkAll spare + 1
  | .agg parts => uptoBulkAll parts + 1
  | .iface _ d => uptoBulk d + 1
  | .map entries => uptoBulkEntries entries + 1
  | .held _ => 1
def uptoBulkAll {H : Type} : List (DataW H) → Nat
  | [] => 0
  | d :: r => uptoBulk d + uptoBulkAll r
def uptoBulkEntries {H : Type} : List (Lit × DataW H) → Nat
  | [] => 0
  | x :: r => uptoBulkEntry x + uptoBulkEntries r
def uptoBulkEntry {H : Type} : Lit × DataW H → Nat
  | (.string bytes, d) => bytes.length + uptoBulk d + 1
  | (_, d) => uptoBulk d + 1
 end
def uptoSmall : (H : Type) → List (DataW H) → Bool := fun _ ds => decide (uptoBulkAll ds ≤ 1048576)
def OpenSpec.upto (s : _root_.Go.ChangeSpec) : _root_.Go.OpenSpec := { _root_.Go.OpenSpec.ofChange s with cond := some uptoSmall }

/-- 'usherkeep.AllowedShare', WHERE WHAT IT READS IS OF BULK AT MOST 1048576: true; the input reads as it did. -/
def allowedShareUptoRow : OpenClaim := { program := "ytbfmjccbbkijlaa", sum := "10709c069b1a92923ed0b521b600d7d4a0bf07f228cbfd43d86805e2a387f835", func := "usher/usherkeep.AllowedShare", spec := "allowedShare", apart := false, narrowed := true }
def AllowedShareUptoSaid : Prop := allowedShareUptoRow.holds Try.pinned (OpenSpec.upto allowedShareSpec)

/-- 'usherkeep.CapRises', WHERE WHAT IT READS IS OF BULK AT MOST 1048576: true; the input reads as it did. -/
def capRisesUptoRow : OpenClaim := { program := "ytbfmjccbbkijlaa", sum := "10709c069b1a92923ed0b521b600d7d4a0bf07f228cbfd43d86805e2a387f835", func := "usher/usherkeep.CapRises", spec := "capRises", apart := false, narrowed := true }
def CapRisesUptoSaid : Prop := capRisesUptoRow.holds Try.pinned (OpenSpec.upto capRisesSpec)

/-- 'usherkeep.RampShare', WHERE WHAT IT READS IS OF BULK AT MOST 1048576: true; the input reads as it did. -/
def rampShareUptoRow : OpenClaim := { program := "ytbfmjccbbkijlaa", sum := "10709c069b1a92923ed0b521b600d7d4a0bf07f228cbfd43d86805e2a387f835", func := "usher/usherkeep.RampShare", spec := "rampShare", apart := false, narrowed := true }
def RampShareUptoSaid : Prop := rampShareUptoRow.holds Try.pinned (OpenSpec.upto rampShareSpec)

/-- 'usherkeep.HashOne', WHERE WHAT IT READS IS OF BULK AT MOST 1048576: true; the input reads as it did. -/
def hashOneUptoRow : OpenClaim := { program := "ytbfmjccbbkijlaa", sum := "10709c069b1a92923ed0b521b600d7d4a0bf07f228cbfd43d86805e2a387f835", func := "usher/usherkeep.HashOne", spec := "hashOne", apart := false, narrowed := true }
def HashOneUptoSaid : Prop := hashOneUptoRow.holds Try.pinned (OpenSpec.upto hashOneSpec)

/-- 'usherkeep.HashSpot', WHERE WHAT IT READS IS OF BULK AT MOST 1048576: true; the input reads as it did. -/
def hashSpotUptoRow : OpenClaim := { program := "ytbfmjccbbkijlaa", sum := "10709c069b1a92923ed0b521b600d7d4a0bf07f228cbfd43d86805e2a387f835", func := "usher/usherkeep.HashSpot", spec := "hashSpot", apart := false, narrowed := true }
def HashSpotUptoSaid : Prop := hashSpotUptoRow.holds Try.pinned (OpenSpec.upto hashSpotSpec)

/-- 'usherkeep.RampRises', WHERE WHAT IT READS IS OF BULK AT MOST 1048576: true; the input reads as it did. -/
def rampRisesUptoRow : OpenClaim := { program := "ytbfmjccbbkijlaa", sum := "10709c069b1a92923ed0b521b600d7d4a0bf07f228cbfd43d86805e2a387f835", func := "usher/usherkeep.RampRises", spec := "rampRises", apart := false, narrowed := true }
def RampRisesUptoSaid : Prop := rampRisesUptoRow.holds Try.pinned (OpenSpec.upto rampRisesSpec)

/-- 'usherkeep.RampAtOnce', WHERE WHAT IT READS IS OF BULK AT MOST 1048576: true; the input reads as it did. -/
def rampAtOnceUptoRow : OpenClaim := { program := "ytbfmjccbbkijlaa", sum := "10709c069b1a92923ed0b521b600d7d4a0bf07f228cbfd43d86805e2a387f835", func := "usher/usherkeep.RampAtOnce", spec := "rampAtOnce", apart := false, narrowed := true }
def RampAtOnceUptoSaid : Prop := rampAtOnceUptoRow.holds Try.pinned (OpenSpec.upto rampAtOnceSpec)

/-- 'usherkeep.TallyAdds', WHERE WHAT IT READS IS OF BULK AT MOST 1048576: true; the input reads as it did. -/
def tallyAddsUptoRow : OpenClaim := { program := "ytbfmjccbbkijlaa", sum := "10709c069b1a92923ed0b521b600d7d4a0bf07f228cbfd43d86805e2a387f835", func := "usher/usherkeep.TallyAdds", spec := "tallyAdds", apart := false, narrowed := true }
def TallyAddsUptoSaid : Prop := tallyAddsUptoRow.holds Try.pinned (OpenSpec.upto tallyAddsSpec)

/-- 'usherkeep.HashBounds', WHERE WHAT IT READS IS OF BULK AT MOST 1048576: true; the input reads as it did. -/
def hashBoundsUptoRow : OpenClaim := { program := "ytbfmjccbbkijlaa", sum := "10709c069b1a92923ed0b521b600d7d4a0bf07f228cbfd43d86805e2a387f835", func := "usher/usherkeep.HashBounds", spec := "hashBounds", apart := false, narrowed := true }
def HashBoundsUptoSaid : Prop := hashBoundsUptoRow.holds Try.pinned (OpenSpec.upto hashBoundsSpec)

/-- 'usherkeep.BucketBurst', WHERE WHAT IT READS IS OF BULK AT MOST 1048576: true; the input reads as it did. -/
def bucketBurstUptoRow : OpenClaim := { program := "ytbfmjccbbkijlaa", sum := "10709c069b1a92923ed0b521b600d7d4a0bf07f228cbfd43d86805e2a387f835", func := "usher/usherkeep.BucketBurst", spec := "bucketBurst", apart := false, narrowed := true }
def BucketBurstUptoSaid : Prop := bucketBurstUptoRow.holds Try.pinned (OpenSpec.upto bucketBurstSpec)

/-- 'usherkeep.BucketMore', WHERE WHAT IT READS IS OF BULK AT MOST 1048576: true; the input reads as it did. -/
def bucketMoreUptoRow : OpenClaim := { program := "ytbfmjccbbkijlaa", sum := "10709c069b1a92923ed0b521b600d7d4a0bf07f228cbfd43d86805e2a387f835", func := "usher/usherkeep.BucketMore", spec := "bucketMore", apart := false, narrowed := true }
def BucketMoreUptoSaid : Prop := bucketMoreUptoRow.holds Try.pinned (OpenSpec.upto bucketMoreSpec)

/-- 'usherkeep.TallyStory', WHERE WHAT IT READS IS OF BULK AT MOST 1048576: true; the input reads as it did. -/
def tallyStoryUptoRow : OpenClaim := { program := "ytbfmjccbbkijlaa", sum := "10709c069b1a92923ed0b521b600d7d4a0bf07f228cbfd43d86805e2a387f835", func := "usher/usherkeep.TallyStory", spec := "tallyStory", apart := false, narrowed := true }
def TallyStoryUptoSaid : Prop := tallyStoryUptoRow.holds Try.pinned (OpenSpec.upto tallyStorySpec)

end Rows
end Go.Proofs.Ytbfmjccbbkijlaa
