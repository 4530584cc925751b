/- This text proves what the statements' helper 'budget' makes of three numbers. It has no condition of its own. -/
import Derived.Test.YtbfmjccbbkijlaaBucket
namespace Go.Proofs.Ytbfmjccbbkijlaa
open Go.ChangeShapes Go.WideShapes Go.ChangeAt Go.RowKit

theorem budget_any (a0 a1 a2 : Int) (w : World) (b0 : -9223372036854775808 ≤ a0 ∧ a0 ≤ 9223372036854775807) (b1 : -9223372036854775808 ≤ a1 ∧ a1 ≤ 9223372036854775807) (b2 : -9223372036854775808 ≤ a2 ∧ a2 ≤ 9223372036854775807) :
    Calls Try.prog 24 #[.int .i64 a0, .int .i64 a1, .int .i64 a2] w fun e w' => e = .returned (.agg #[.int .i64 (pickedZ a0 21), .int .i64 (1 + pickedZ a1 20), .int .i64 (pickedZ a2 21)]) ∧ Below w.heap.size w w' := by
  have hd := pickedZ_range a1 20 (by omega)
  go_enter Try.func24, Try.ntmps24
  go_wp2_with fail
  refine (picked_any a0 21 _ (by omega) (by omega) (by omega) (by omega)).mono ?_
  rintro e w_ ⟨rfl, rfl⟩
  go_wp2_with fail
  refine (picked_any a1 20 _ (by omega) (by omega) (by omega) (by omega)).mono ?_
  rintro e w_ ⟨rfl, rfl⟩
  go_wp2_with fail
  refine (picked_any a2 21 _ (by omega) (by omega) (by omega) (by omega)).mono ?_
  rintro e w_ ⟨rfl, rfl⟩
  go_wp2_with fail
  refine bodyPost_ret (v := .agg #[.int .i64 (pickedZ a0 21), .int .i64 (1 + pickedZ a1 20), .int .i64 (pickedZ a2 21)]) (by simp [results, Try.results24, go_sem, *]) rfl ?_
  exact ⟨rfl, by go_grown⟩

theorem budget_ok (a0 a1 a2 : Int) : BudOk (pickedZ a0 21) (1 + pickedZ a1 20) (pickedZ a2 21) := by
  have hn := pickedZ_range a0 21 (by omega)
  have hd := pickedZ_range a1 20 (by omega)
  have hb := pickedZ_range a2 21 (by omega)
  exact ⟨by omega, by omega, by omega, by omega, by omega, by omega⟩
end Go.Proofs.Ytbfmjccbbkijlaa
