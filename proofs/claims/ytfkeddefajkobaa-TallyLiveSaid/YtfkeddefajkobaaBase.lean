/- This text proves what the helper 'picked' of the statements computes, and some facts that all the other texts use. It has no condition of its own. -/
import Derived.Test.YtfkeddefajkobaaRows
import Derived.WalkKit
import Derived.ProofKit
import Derived.Handy
import Derived.WalkLawsBesides
import Derived.Lib.Hide
import Derived.Deep.RegionHeld3
import Derived.Deep.QuietTactic
import Derived.BigQuiet
import Derived.Deep.LoopGhost
import Derived.Outline
set_option linter.unusedSimpArgs false
set_option linter.unusedVariables false
namespace Go.Proofs.Ytfkeddefajkobaa
open Go.ChangeShapes Go.WideShapes Go.ChangeAt Go.RowKit

/-- what 'picked' computes -/
def pickedZ (n many : Int) : Int := (if n < 0 then -(n+1) else n) % many

theorem pickedZ_range (n many : Int) (h : 1 ≤ many) : 0 ≤ pickedZ n many ∧ pickedZ n many < many := by
  unfold pickedZ
  exact ⟨Int.emod_nonneg _ (by omega), Int.emod_lt_of_pos _ (by omega)⟩

theorem ret_int {k : IntKind} {a b : Int} (h : a = b) : Ending.returned (.int k a) = .returned (.int k b) := by rw [h]
theorem ret_bool {a b : Bool} (h : a = b) : Ending.returned (.bool a) = .returned (.bool b) := by rw [h]

theorem picked_any (n many : Int) (w : World) (hn : -9223372036854775808 ≤ n) (hn' : n ≤ 9223372036854775807) (hm : 1 ≤ many) (hm' : many ≤ 9223372036854775807) :
    Calls Try.prog 25 #[.int .i64 n, .int .i64 many] w fun e w' => e = .returned (.int .i64 (pickedZ n many)) ∧ w = w' := by
  by_cases h : n < 0
  · have e : pickedZ n many = -((n + 1).tmod many) := by
      unfold pickedZ; rw [if_pos h, ← Int.neg_tmod, Int.tmod_eq_emod_of_nonneg (by omega)]
    have E := Lib.hid e; clear e
    go_enter Try.func25, Try.ntmps25
    go_wp2
    go_ret
    exact ⟨ret_int E.out.symm, rfl⟩
  · have e : pickedZ n many = n % many := by
      unfold pickedZ; rw [if_neg h]
    have E := Lib.hid e; clear e
    go_enter Try.func25, Try.ntmps25
    go_wp2
    go_ret
    exact ⟨ret_int E.out.symm, rfl⟩

theorem bcell {W w1 : World} (hb : Below W.heap.size W w1) : (∀ b o, b < W.heap.size → w1.cell? ⟨b, o, none⟩ = W.cell? ⟨b, o, none⟩) ∧ (∀ b o, b < W.heap.size → w1.frozen? ⟨b, o, none⟩ = W.frozen? ⟨b, o, none⟩) :=
  ⟨fun b o h => hb.cell (p := ⟨b, o, none⟩) h, fun b o h => hb.frozen (p := ⟨b, o, none⟩) h⟩
end Go.Proofs.Ytfkeddefajkobaa
