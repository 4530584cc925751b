/-
  No cell of these rows narrows 'for every input' (looked for: loops, veiled, ifaces, maps, wideKeys, modest, calm, conditions, laid).
  DERIVED. THE GIVEN ROWS OF THIS SEAT. 6 by the template 'for every input the law returns true; each argument reads behind the call as it read before'; 0 by the template 'total and deterministic' (their statements: YtmdhegbdffbfoaaTotals.lean).
  GIVEN WITH THE SEED: the statements are not yours to turn. If you find one false, say at which input.
  Laid BY PROGRAM, IN A SANDBOX (cutbox-rows.mjs): the forced cells as the released guide's own fill.sh prints them over the translation e62a67420ac50db7… (all of the seat's roots in one cut). By AI agents, Wed Nov 11 2026. No macro, syntax, notation, axiom, sorry.
-/
import Derived.Test.YtmdhegbdffbfoaaChecked
import GoSem.Claim
import GoSem.ClaimJoined
import GoSem.ClaimMapViews
import Derived.JoinedTies
import Derived.KernelRfl
namespace Go.Proofs.Ytmdhegbdffbfoaa
/- THE CELL 'sum', in the pinned program and in every row, IS THE sha256 OF THE DUMP (.gsa) THAT YtmdhegbdffbfoaaProg.lean LOADS. Nothing in Lean hashes anything: it is a label: what it is worth is what the hold of that sum in a sandbox is worth. -/
noncomputable def Try.pinned : Pinned := { name := "ytmdhegbdffbfoaa", sum := "e62a67420ac50db79e7ef2b2b8a4bfce45eb73aa395c341e8f2ca4024e1024fd", checked := Try.checked }
namespace Rows
def none {H : Type} : Left H := { results := [], args := [] }

/-- 'usherkeep.RingTurns': WHATEVER THE INPUT: true; the input reads as it did. -/
def ringTurnsSpec : ChangeSpec := { name := "ringTurns", fn := fun _ => fun
  | [d] => { results := [.lit (.bool true)], args := [d] }
  | _ => none }
def ringTurnsRow : OpenClaim := { program := "ytmdhegbdffbfoaa", sum := "e62a67420ac50db79e7ef2b2b8a4bfce45eb73aa395c341e8f2ca4024e1024fd", func := "usher/usherkeep.RingTurns", spec := "ringTurns", unfollowed := true, recurses := true, apart := false }
def RingTurnsSaid : Prop := ringTurnsRow.holds Try.pinned (OpenSpec.ofChange ringTurnsSpec)

/-- ITS FALSE NEIGHBOUR: 'it returns false'. Refute it at one input. -/
def ringTurnsWrong : ChangeSpec := { name := "ringTurns", fn := fun _ => fun
  | [d] => { results := [.lit (.bool false)], args := [d] }
  | _ => none }
def RingTurnsWrongFalsely : Prop := ringTurnsRow.holds Try.pinned (OpenSpec.ofChange ringTurnsWrong)

/-- 'usherkeep.RingPart': WHATEVER THE INPUT: true; the input reads as it did. -/
def ringPartSpec : ChangeSpec := { name := "ringPart", fn := fun _ => fun
  | [d] => { results := [.lit (.bool true)], args := [d] }
  | _ => none }
def ringPartRow : OpenClaim := { program := "ytmdhegbdffbfoaa", sum := "e62a67420ac50db79e7ef2b2b8a4bfce45eb73aa395c341e8f2ca4024e1024fd", func := "usher/usherkeep.RingPart", spec := "ringPart", unfollowed := true, recurses := true, apart := false }
def RingPartSaid : Prop := ringPartRow.holds Try.pinned (OpenSpec.ofChange ringPartSpec)

/-- ITS FALSE NEIGHBOUR: 'it returns false'. Refute it at one input. -/
def ringPartWrong : ChangeSpec := { name := "ringPart", fn := fun _ => fun
  | [d] => { results := [.lit (.bool false)], args := [d] }
  | _ => none }
def RingPartWrongFalsely : Prop := ringPartRow.holds Try.pinned (OpenSpec.ofChange ringPartWrong)

/-- 'usherkeep.RingBack': WHATEVER THE INPUT: true; the input reads as it did. -/
def ringBackSpec : ChangeSpec := { name := "ringBack", fn := fun _ => fun
  | [d1, d2, d3] => { results := [.lit (.bool true)], args := [d1, d2, d3] }
  | _ => none }
def ringBackRow : OpenClaim := { program := "ytmdhegbdffbfoaa", sum := "e62a67420ac50db79e7ef2b2b8a4bfce45eb73aa395c341e8f2ca4024e1024fd", func := "usher/usherkeep.RingBack", spec := "ringBack", unfollowed := true, recurses := true, apart := false }
def RingBackSaid : Prop := ringBackRow.holds Try.pinned (OpenSpec.ofChange ringBackSpec)

/-- ITS FALSE NEIGHBOUR: 'it returns false'. Refute it at one input. -/
def ringBackWrong : ChangeSpec := { name := "ringBack", fn := fun _ => fun
  | [d1, d2, d3] => { results := [.lit (.bool false)], args := [d1, d2, d3] }
  | _ => none }
def RingBackWrongFalsely : Prop := ringBackRow.holds Try.pinned (OpenSpec.ofChange ringBackWrong)

/-- 'usherkeep.RingAll': WHATEVER THE INPUT: true; the input reads as it did. -/
def ringAllSpec : ChangeSpec := { name := "ringAll", fn := fun _ => fun
  | [d1, d2] => { results := [.lit (.bool true)], args := [d1, d2] }
  | _ => none }
def ringAllRow : OpenClaim := { program := "ytmdhegbdffbfoaa", sum := "e62a67420ac50db79e7ef2b2b8a4bfce45eb73aa395c341e8f2ca4024e1024fd", func := "usher/usherkeep.RingAll", spec := "ringAll", unfollowed := true, recurses := true, apart := false }
def RingAllSaid : Prop := ringAllRow.holds Try.pinned (OpenSpec.ofChange ringAllSpec)

/-- ITS FALSE NEIGHBOUR: 'it returns false'. Refute it at one input. -/
def ringAllWrong : ChangeSpec := { name := "ringAll", fn := fun _ => fun
  | [d1, d2] => { results := [.lit (.bool false)], args := [d1, d2] }
  | _ => none }
def RingAllWrongFalsely : Prop := ringAllRow.holds Try.pinned (OpenSpec.ofChange ringAllWrong)

/-- 'usherkeep.RingFirst': WHATEVER THE INPUT: true; the input reads as it did. -/
def ringFirstSpec : ChangeSpec := { name := "ringFirst", fn := fun _ => fun
  | [d1, d2] => { results := [.lit (.bool true)], args := [d1, d2] }
  | _ => none }
def ringFirstRow : OpenClaim := { program := "ytmdhegbdffbfoaa", sum := "e62a67420ac50db79e7ef2b2b8a4bfce45eb73aa395c341e8f2ca4024e1024fd", func := "usher/usherkeep.RingFirst", spec := "ringFirst", unfollowed := true, recurses := true, apart := false }
def RingFirstSaid : Prop := ringFirstRow.holds Try.pinned (OpenSpec.ofChange ringFirstSpec)

/-- ITS FALSE NEIGHBOUR: 'it returns false'. Refute it at one input. -/
def ringFirstWrong : ChangeSpec := { name := "ringFirst", fn := fun _ => fun
  | [d1, d2] => { results := [.lit (.bool false)], args := [d1, d2] }
  | _ => none }
def RingFirstWrongFalsely : Prop := ringFirstRow.holds Try.pinned (OpenSpec.ofChange ringFirstWrong)

/-- 'usherkeep.RingSteady': WHATEVER THE INPUT: true; the input reads as it did. -/
def ringSteadySpec : ChangeSpec := { name := "ringSteady", fn := fun _ => fun
  | [d1, d2, d3] => { results := [.lit (.bool true)], args := [d1, d2, d3] }
  | _ => none }
def ringSteadyRow : OpenClaim := { program := "ytmdhegbdffbfoaa", sum := "e62a67420ac50db79e7ef2b2b8a4bfce45eb73aa395c341e8f2ca4024e1024fd", func := "usher/usherkeep.RingSteady", spec := "ringSteady", unfollowed := true, recurses := true, apart := false }
def RingSteadySaid : Prop := ringSteadyRow.holds Try.pinned (OpenSpec.ofChange ringSteadySpec)

/-- ITS FALSE NEIGHBOUR: 'it returns false'. Refute it at one input. -/
def ringSteadyWrong : ChangeSpec := { name := "ringSteady", fn := fun _ => fun
  | [d1, d2, d3] => { results := [.lit (.bool false)], args := [d1, d2, d3] }
  | _ => none }
def RingSteadyWrongFalsely : Prop := ringSteadyRow.holds Try.pinned (OpenSpec.ofChange ringSteadyWrong)

/- THE SECOND FORM. 'bulk': how many values and letters a reading holds, each counted each time it is reached (what is shared counts as often as it is met; a slice's spare places count too). A statement '..UptoSaid' is the law's where the arguments, and the package variables that the reading takes, are together of bulk at most 1048576: NARROWER than '..Said'. Prove '..Said' where nothing that the law and all that it calls make is longer than what came in: it says more and counts as full. Else prove '..UptoSaid'. A law counts once. -/
mutual
def uptoBulk {H : Type} : DataW H → Nat
  | .lit (.string bytes) => bytes.length + 1
  | .lit _ => 1
  | .nil => 1
  | .ptr d => uptoBulk d + 1
  | .slice elems spare => uptoBulkAll elems + uptoBulkAll spare + 1
  | .agg parts => uptoBulkAll parts + 1
  | .iface _ d => uptoBulk d + 1
  | .map entries => uptoBulkEntries entries + 1
  | .held _ => 1
def uptoBulkAll {H : Type} : List (DataW H) → Nat
  | [] => 0
  | d :: r => uptoBulk d + uptoBulkAll r
def uptoBulkEntries {H : Type} : List (Lit × DataW H) → Nat
  | [] => 0
  | x :: r => uptoBulkEntry x + uptoBulkEntries r
def uptoBulkEntry {H : Type} : Lit × DataW H → Nat
  | (.string bytes, d) => bytes.length + uptoBulk d + 1
  | (_, d) => uptoBulk d + 1
 end
def uptoSmall : (H : Type) → List (DataW H) → Bool := fun _ ds => decide (uptoBulkAll ds ≤ 1048576)
def OpenSpec.upto (s : _root_.Go.ChangeSpec) : _root_.Go.OpenSpec := { _root_.Go.OpenSpec.ofChange s with cond := some uptoSmall }

/-- 'usherkeep.RingTurns', WHERE WHAT IT READS IS OF BULK AT MOST 1048576: true; the input reads as it did. -/
def ringTurnsUptoRow : OpenClaim := { program := "ytmdhegbdffbfoaa", sum := "e62a67420ac50db79e7ef2b2b8a4bfce45eb73aa395c341e8f2ca4024e1024fd", func := "usher/usherkeep.RingTurns", spec := "ringTurns", unfollowed := true, recurses := true, apart := false, narrowed := true }
def RingTurnsUptoSaid : Prop := ringTurnsUptoRow.holds Try.pinned (OpenSpec.upto ringTurnsSpec)

/-- 'usherkeep.RingPart', WHERE WHAT IT READS IS OF BULK AT MOST 1048576: true; the input reads as it did. -/
def ringPartUptoRow : OpenClaim := { program := "ytmdhegbdffbfoaa", sum := "e62a67420ac50db79e7ef2b2b8a4bfce45eb73aa395c341e8f2ca4024e1024fd", func := "usher/usherkeep.RingPart", spec := "ringPart", unfollowed := true, recurses := true, apart := false, narrowed := true }
def RingPartUptoSaid : Prop := ringPartUptoRow.holds Try.pinned (OpenSpec.upto ringPartSpec)

/-- 'usherkeep.RingBack', WHERE WHAT IT READS IS OF BULK AT MOST 1048576: true; the input reads as it did. -/
def ringBackUptoRow : OpenClaim := { program := "ytmdhegbdffbfoaa", sum := "e62a67420ac50db79e7ef2b2b8a4bfce45eb73aa395c341e8f2ca4024e1024fd", func := "usher/usherkeep.RingBack", spec := "ringBack", unfollowed := true, recurses := true, apart := false, narrowed := true }
def RingBackUptoSaid : Prop := ringBackUptoRow.holds Try.pinned (OpenSpec.upto ringBackSpec)

/-- 'usherkeep.RingAll', WHERE WHAT IT READS IS OF BULK AT MOST 1048576: true; the input reads as it did. -/
def ringAllUptoRow : OpenClaim := { program := "ytmdhegbdffbfoaa", sum := "e62a67420ac50db79e7ef2b2b8a4bfce45eb73aa395c341e8f2ca4024e1024fd", func := "usher/usherkeep.RingAll", spec := "ringAll", unfollowed := true, recurses := true, apart := false, narrowed := true }
def RingAllUptoSaid : Prop := ringAllUptoRow.holds Try.pinned (OpenSpec.upto ringAllSpec)

/-- 'usherkeep.RingFirst', WHERE WHAT IT READS IS OF BULK AT MOST 1048576: true; the input reads as it did. -/
def ringFirstUptoRow : OpenClaim := { program := "ytmdhegbdffbfoaa", sum := "e62a67420ac50db79e7ef2b2b8a4bfce45eb73aa395c341e8f2ca4024e1024fd", func := "usher/usherkeep.RingFirst", spec := "ringFirst", unfollowed := true, recurses := true, apart := false, narrowed := true }
def RingFirstUptoSaid : Prop := ringFirstUptoRow.holds Try.pinned (OpenSpec.upto ringFirstSpec)

/-- 'usherkeep.RingSteady', WHERE WHAT IT READS IS OF BULK AT MOST 1048576: true; the input reads as it did. -/
def ringSteadyUptoRow : OpenClaim := { program := "ytmdhegbdffbfoaa", sum := "e62a67420ac50db79e7ef2b2b8a4bfce45eb73aa395c341e8f2ca4024e1024fd", func := "usher/usherkeep.RingSteady", spec := "ringSteady", unfollowed := true, recurses := true, apart := false, narrowed := true }
def RingSteadyUptoSaid : Prop := ringSteadyUptoRow.holds Try.pinned (OpenSpec.upto ringSteadySpec)

end Rows
end Go.Proofs.Ytmdhegbdffbfoaa
