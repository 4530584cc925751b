/-
  No cell of these rows narrows 'for every input' (looked for: loops, veiled, ifaces, maps, wideKeys, modest, calm, conditions, laid).
  DERIVED. THE GIVEN ROWS OF THIS SEAT. 7 by the template 'for every input the law returns true; each argument reads behind the call as it read before'; 0 by the template 'total and deterministic' (their statements: YtajimebannjofaaTotals.lean).
  GIVEN WITH THE SEED: the statements are not yours to turn. If you find one false, say at which input.
  Laid BY PROGRAM, IN A SANDBOX (cutbox-rows.mjs): the forced cells as the released guide's own fill.sh prints them over the translation d8ff1668ce06b65f… (all of the seat's roots in one cut). By AI agents, Wed Nov 11 2026. No macro, syntax, notation, axiom, sorry.
-/
import Derived.Test.YtajimebannjofaaChecked
import GoSem.Claim
import GoSem.ClaimJoined
import GoSem.ClaimMapViews
import Derived.JoinedTies
import Derived.KernelRfl
namespace Go.Proofs.Ytajimebannjofaa
/- THE CELL 'sum', in the pinned program and in every row, IS THE sha256 OF THE DUMP (.gsa) THAT YtajimebannjofaaProg.lean LOADS. Nothing in Lean hashes anything: it is a label: what it is worth is what the hold of that sum in a sandbox is worth. -/
noncomputable def Try.pinned : Pinned := { name := "ytajimebannjofaa", sum := "d8ff1668ce06b65fc4eaf764274bae245b613f4493d7c26773d4c10f69db718c", checked := Try.checked }
namespace Rows
def none {H : Type} : Left H := { results := [], args := [] }

/-- 'usherkeep.WheelCancel': WHATEVER THE INPUT: true; the input reads as it did. -/
def wheelCancelSpec : ChangeSpec := { name := "wheelCancel", fn := fun _ => fun
  | [d1, d2, d3, d4] => { results := [.lit (.bool true)], args := [d1, d2, d3, d4] }
  | _ => none }
def wheelCancelRow : OpenClaim := { program := "ytajimebannjofaa", sum := "d8ff1668ce06b65fc4eaf764274bae245b613f4493d7c26773d4c10f69db718c", func := "usher/usherkeep.WheelCancel", spec := "wheelCancel", inPlace := ["slices.overlaps[usher/api.Timer]"], unfollowed := true, recurses := true, apart := false }
def WheelCancelSaid : Prop := wheelCancelRow.holds Try.pinned (OpenSpec.ofChange wheelCancelSpec)

/-- ITS FALSE NEIGHBOUR: 'it returns false'. Refute it at one input. -/
def wheelCancelWrong : ChangeSpec := { name := "wheelCancel", fn := fun _ => fun
  | [d1, d2, d3, d4] => { results := [.lit (.bool false)], args := [d1, d2, d3, d4] }
  | _ => none }
def WheelCancelWrongFalsely : Prop := wheelCancelRow.holds Try.pinned (OpenSpec.ofChange wheelCancelWrong)

/-- 'usherkeep.WheelFires': WHATEVER THE INPUT: true; the input reads as it did. -/
def wheelFiresSpec : ChangeSpec := { name := "wheelFires", fn := fun _ => fun
  | [d1, d2, d3] => { results := [.lit (.bool true)], args := [d1, d2, d3] }
  | _ => none }
def wheelFiresRow : OpenClaim := { program := "ytajimebannjofaa", sum := "d8ff1668ce06b65fc4eaf764274bae245b613f4493d7c26773d4c10f69db718c", func := "usher/usherkeep.WheelFires", spec := "wheelFires", inPlace := ["slices.overlaps[usher/api.Timer]"], unfollowed := true, recurses := true, apart := false }
def WheelFiresSaid : Prop := wheelFiresRow.holds Try.pinned (OpenSpec.ofChange wheelFiresSpec)

/-- ITS FALSE NEIGHBOUR: 'it returns false'. Refute it at one input. -/
def wheelFiresWrong : ChangeSpec := { name := "wheelFires", fn := fun _ => fun
  | [d1, d2, d3] => { results := [.lit (.bool false)], args := [d1, d2, d3] }
  | _ => none }
def WheelFiresWrongFalsely : Prop := wheelFiresRow.holds Try.pinned (OpenSpec.ofChange wheelFiresWrong)

/-- 'usherkeep.WheelTurns': WHATEVER THE INPUT: true; the input reads as it did. -/
def wheelTurnsSpec : ChangeSpec := { name := "wheelTurns", fn := fun _ => fun
  | [d1, d2, d3, d4] => { results := [.lit (.bool true)], args := [d1, d2, d3, d4] }
  | _ => none }
def wheelTurnsRow : OpenClaim := { program := "ytajimebannjofaa", sum := "d8ff1668ce06b65fc4eaf764274bae245b613f4493d7c26773d4c10f69db718c", func := "usher/usherkeep.WheelTurns", spec := "wheelTurns", inPlace := ["slices.overlaps[usher/api.Timer]"], unfollowed := true, recurses := true, apart := false }
def WheelTurnsSaid : Prop := wheelTurnsRow.holds Try.pinned (OpenSpec.ofChange wheelTurnsSpec)

/-- ITS FALSE NEIGHBOUR: 'it returns false'. Refute it at one input. -/
def wheelTurnsWrong : ChangeSpec := { name := "wheelTurns", fn := fun _ => fun
  | [d1, d2, d3, d4] => { results := [.lit (.bool false)], args := [d1, d2, d3, d4] }
  | _ => none }
def WheelTurnsWrongFalsely : Prop := wheelTurnsRow.holds Try.pinned (OpenSpec.ofChange wheelTurnsWrong)

/-- 'usherkeep.WheelHolds': WHATEVER THE INPUT: true; the input reads as it did. -/
def wheelHoldsSpec : ChangeSpec := { name := "wheelHolds", fn := fun _ => fun
  | [d1, d2, d3] => { results := [.lit (.bool true)], args := [d1, d2, d3] }
  | _ => none }
def wheelHoldsRow : OpenClaim := { program := "ytajimebannjofaa", sum := "d8ff1668ce06b65fc4eaf764274bae245b613f4493d7c26773d4c10f69db718c", func := "usher/usherkeep.WheelHolds", spec := "wheelHolds", inPlace := ["slices.overlaps[usher/api.Timer]"], unfollowed := true, recurses := true, apart := false }
def WheelHoldsSaid : Prop := wheelHoldsRow.holds Try.pinned (OpenSpec.ofChange wheelHoldsSpec)

/-- ITS FALSE NEIGHBOUR: 'it returns false'. Refute it at one input. -/
def wheelHoldsWrong : ChangeSpec := { name := "wheelHolds", fn := fun _ => fun
  | [d1, d2, d3] => { results := [.lit (.bool false)], args := [d1, d2, d3] }
  | _ => none }
def WheelHoldsWrongFalsely : Prop := wheelHoldsRow.holds Try.pinned (OpenSpec.ofChange wheelHoldsWrong)

/-- 'usherkeep.RingAll': WHATEVER THE INPUT: true; the input reads as it did. -/
def ringAllSpec : ChangeSpec := { name := "ringAll", fn := fun _ => fun
  | [d1, d2] => { results := [.lit (.bool true)], args := [d1, d2] }
  | _ => none }
def ringAllRow : OpenClaim := { program := "ytajimebannjofaa", sum := "d8ff1668ce06b65fc4eaf764274bae245b613f4493d7c26773d4c10f69db718c", func := "usher/usherkeep.RingAll", spec := "ringAll", unfollowed := true, recurses := true, apart := false }
def RingAllSaid : Prop := ringAllRow.holds Try.pinned (OpenSpec.ofChange ringAllSpec)

/-- ITS FALSE NEIGHBOUR: 'it returns false'. Refute it at one input. -/
def ringAllWrong : ChangeSpec := { name := "ringAll", fn := fun _ => fun
  | [d1, d2] => { results := [.lit (.bool false)], args := [d1, d2] }
  | _ => none }
def RingAllWrongFalsely : Prop := ringAllRow.holds Try.pinned (OpenSpec.ofChange ringAllWrong)

/-- 'usherkeep.RingFirst': WHATEVER THE INPUT: true; the input reads as it did. -/
def ringFirstSpec : ChangeSpec := { name := "ringFirst", fn := fun _ => fun
  | [d1, d2] => { results := [.lit (.bool true)], args := [d1, d2] }
  | _ => none }
def ringFirstRow : OpenClaim := { program := "ytajimebannjofaa", sum := "d8ff1668ce06b65fc4eaf764274bae245b613f4493d7c26773d4c10f69db718c", func := "usher/usherkeep.RingFirst", spec := "ringFirst", unfollowed := true, recurses := true, apart := false }
def RingFirstSaid : Prop := ringFirstRow.holds Try.pinned (OpenSpec.ofChange ringFirstSpec)

/-- ITS FALSE NEIGHBOUR: 'it returns false'. Refute it at one input. -/
def ringFirstWrong : ChangeSpec := { name := "ringFirst", fn := fun _ => fun
  | [d1, d2] => { results := [.lit (.bool false)], args := [d1, d2] }
  | _ => none }
def RingFirstWrongFalsely : Prop := ringFirstRow.holds Try.pinned (OpenSpec.ofChange ringFirstWrong)

/-- 'usherkeep.RingSteady': WHATEVER THE INPUT: true; the input reads as it did. -/
def ringSteadySpec : ChangeSpec := { name := "ringSteady", fn := fun _ => fun
  | [d1, d2, d3] => { results := [.lit (.bool true)], args := [d1, d2, d3] }
  | _ => none }
def ringSteadyRow : OpenClaim := { program := "ytajimebannjofaa", sum := "d8ff1668ce06b65fc4eaf764274bae245b613f4493d7c26773d4c10f69db718c", func := "usher/usherkeep.RingSteady", spec := "ringSteady", unfollowed := true, recurses := true, apart := false }
def RingSteadySaid : Prop := ringSteadyRow.holds Try.pinned (OpenSpec.ofChange ringSteadySpec)

/-- ITS FALSE NEIGHBOUR: 'it returns false'. Refute it at one input. -/
def ringSteadyWrong : ChangeSpec := { name := "ringSteady", fn := fun _ => fun
  | [d1, d2, d3] => { results := [.lit (.bool false)], args := [d1, d2, d3] }
  | _ => none }
def RingSteadyWrongFalsely : Prop := ringSteadyRow.holds Try.pinned (OpenSpec.ofChange ringSteadyWrong)

/- THE SECOND FORM. 'bulk': how many values and letters a reading holds, each counted each time it is reached (what is shared counts as often as it is met; a slice's spare places count too). A statement '..UptoSaid' is the law's where the arguments, and the package variables that the reading takes, are together of bulk at most 1048576: NARROWER than '..Said'. Prove '..Said' where nothing that the law and all that it calls make is longer than what came in: it says more and counts as full. Else prove '..UptoSaid'. A law counts once. -/
mutual
def uptoBulk {H : Type} : DataW H → Nat
  | .lit (.string bytes) => bytes.length + 1
  | .lit _ => 1
  | .nil => 1
  | .ptr d => uptoBulk d + 1
  | .slice elems spare => uptoBulkAll elems + uptoBulkAll spare + 1
  | .agg parts => uptoBulkAll parts + 1
  | .iface _ d => uptoBulk d + 1
  | .map entries => uptoBulkEntries entries + 1
  | .held _ => 1
def uptoBulkAll {H : Type} : List (DataW H) → Nat
  | [] => 0
  | d :: r => uptoBulk d + uptoBulkAll r
def uptoBulkEntries {H : Type} : List (Lit × DataW H) → Nat
  | [] => 0
  | x :: r => uptoBulkEntry x + uptoBulkEntries r
def uptoBulkEntry {H : Type} : Lit × DataW H → Nat
  | (.string bytes, d) => bytes.length + uptoBulk d + 1
  | (_, d) => uptoBulk d + 1
 end
def uptoSmall : (H : Type) → List (DataW H) → Bool := fun _ ds => decide (uptoBulkAll ds ≤ 1048576)
def OpenSpec.upto (s : _root_.Go.ChangeSpec) : _root_.Go.OpenSpec := { _root_.Go.OpenSpec.ofChange s with cond := some uptoSmall }

/-- 'usherkeep.WheelCancel', WHERE WHAT IT READS IS OF BULK AT MOST 1048576: true; the input reads as it did. -/
def wheelCancelUptoRow : OpenClaim := { program := "ytajimebannjofaa", sum := "d8ff1668ce06b65fc4eaf764274bae245b613f4493d7c26773d4c10f69db718c", func := "usher/usherkeep.WheelCancel", spec := "wheelCancel", inPlace := ["slices.overlaps[usher/api.Timer]"], unfollowed := true, recurses := true, apart := false, narrowed := true }
def WheelCancelUptoSaid : Prop := wheelCancelUptoRow.holds Try.pinned (OpenSpec.upto wheelCancelSpec)

/-- 'usherkeep.WheelFires', WHERE WHAT IT READS IS OF BULK AT MOST 1048576: true; the input reads as it did. -/
def wheelFiresUptoRow : OpenClaim := { program := "ytajimebannjofaa", sum := "d8ff1668ce06b65fc4eaf764274bae245b613f4493d7c26773d4c10f69db718c", func := "usher/usherkeep.WheelFires", spec := "wheelFires", inPlace := ["slices.overlaps[usher/api.Timer]"], unfollowed := true, recurses := true, apart := false, narrowed := true }
def WheelFiresUptoSaid : Prop := wheelFiresUptoRow.holds Try.pinned (OpenSpec.upto wheelFiresSpec)

/-- 'usherkeep.WheelTurns', WHERE WHAT IT READS IS OF BULK AT MOST 1048576: true; the input reads as it did. -/
def wheelTurnsUptoRow : OpenClaim := { program := "ytajimebannjofaa", sum := "d8ff1668ce06b65fc4eaf764274bae245b613f4493d7c26773d4c10f69db718c", func := "usher/usherkeep.WheelTurns", spec := "wheelTurns", inPlace := ["slices.overlaps[usher/api.Timer]"], unfollowed := true, recurses := true, apart := false, narrowed := true }
def WheelTurnsUptoSaid : Prop := wheelTurnsUptoRow.holds Try.pinned (OpenSpec.upto wheelTurnsSpec)

/-- 'usherkeep.WheelHolds', WHERE WHAT IT READS IS OF BULK AT MOST 1048576: true; the input reads as it did. -/
def wheelHoldsUptoRow : OpenClaim := { program := "ytajimebannjofaa", sum := "d8ff1668ce06b65fc4eaf764274bae245b613f4493d7c26773d4c10f69db718c", func := "usher/usherkeep.WheelHolds", spec := "wheelHolds", inPlace := ["slices.overlaps[usher/api.Timer]"], unfollowed := true, recurses := true, apart := false, narrowed := true }
def WheelHoldsUptoSaid : Prop := wheelHoldsUptoRow.holds Try.pinned (OpenSpec.upto wheelHoldsSpec)

/-- 'usherkeep.RingAll', WHERE WHAT IT READS IS OF BULK AT MOST 1048576: true; the input reads as it did. -/
def ringAllUptoRow : OpenClaim := { program := "ytajimebannjofaa", sum := "d8ff1668ce06b65fc4eaf764274bae245b613f4493d7c26773d4c10f69db718c", func := "usher/usherkeep.RingAll", spec := "ringAll", unfollowed := true, recurses := true, apart := false, narrowed := true }
def RingAllUptoSaid : Prop := ringAllUptoRow.holds Try.pinned (OpenSpec.upto ringAllSpec)

/-- 'usherkeep.RingFirst', WHERE WHAT IT READS IS OF BULK AT MOST 1048576: true; the input reads as it did. -/
def ringFirstUptoRow : OpenClaim := { program := "ytajimebannjofaa", sum := "d8ff1668ce06b65fc4eaf764274bae245b613f4493d7c26773d4c10f69db718c", func := "usher/usherkeep.RingFirst", spec := "ringFirst", unfollowed := true, recurses := true, apart := false, narrowed := true }
def RingFirstUptoSaid : Prop := ringFirstUptoRow.holds Try.pinned (OpenSpec.upto ringFirstSpec)

/-- 'usherkeep.RingSteady', WHERE WHAT IT READS IS OF BULK AT MOST 1048576: true; the input reads as it did. -/
def ringSteadyUptoRow : OpenClaim := { program := "ytajimebannjofaa", sum := "d8ff1668ce06b65fc4eaf764274bae245b613f4493d7c26773d4c10f69db718c", func := "usher/usherkeep.RingSteady", spec := "ringSteady", unfollowed := true, recurses := true, apart := false, narrowed := true }
def RingSteadyUptoSaid : Prop := ringSteadyUptoRow.holds Try.pinned (OpenSpec.upto ringSteadySpec)

end Rows
end Go.Proofs.Ytajimebannjofaa
