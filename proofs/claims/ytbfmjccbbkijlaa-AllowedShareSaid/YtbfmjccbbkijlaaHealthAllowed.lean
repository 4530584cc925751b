/- This text proves what health.Allowed answers within its bounds, and the walk of the law AllowedShare: it returns true at every input. -/
import Derived.Test.YtbfmjccbbkijlaaBase
namespace Go.Proofs.Ytbfmjccbbkijlaa
open Go.ChangeShapes Go.WideShapes Go.ChangeAt Go.RowKit

theorem allowed_ok (out active percent : Int) (w : World) (h1 : 0 ≤ active) (h2 : active ≤ 12) (h3 : 0 ≤ out) (h4 : out ≤ active) (h5 : 0 ≤ percent) (h6 : percent ≤ 100) (h7 : 0 ≤ percent * active) (h8 : percent * active ≤ 1200) :
    Calls Try.prog 16 #[.int .i64 out, .int .i64 active, .int .i64 percent] w fun e w' => e = .returned (.tuple #[.bool (decide ((out + 1) * 100 ≤ percent * active)), .int .i64 0]) ∧ w = w' := by
  go_enter Try.func16, Try.ntmps16
  go_wp2
  go_ret2
  exact ⟨rfl, rfl⟩

theorem allowed_yes (out active percent : Int) (w : World) (h1 : 0 ≤ active) (h2 : active ≤ 12) (h3 : 0 ≤ out) (h4 : out ≤ active) (h5 : 0 ≤ percent) (h6 : percent ≤ 100) (h8 : percent * active ≤ 1200) (h9 : (out + 1) * 100 ≤ percent * active) :
    Calls Try.prog 16 #[.int .i64 out, .int .i64 active, .int .i64 percent] w fun e w' => e = .returned (.tuple #[.bool true, .int .i64 0]) ∧ w = w' :=
  (allowed_ok out active percent w h1 h2 h3 h4 h5 h6 (by omega) h8).mono fun _ _ ⟨he, hw⟩ => ⟨by rw [he, decide_eq_true h9], hw⟩

theorem allowed_no (out active percent : Int) (w : World) (h1 : 0 ≤ active) (h2 : active ≤ 12) (h3 : 0 ≤ out) (h4 : out ≤ active) (h5 : 0 ≤ percent) (h6 : percent ≤ 100) (h7 : 0 ≤ percent * active) (h8 : percent * active ≤ 1200) (h9 : percent * active < (out + 1) * 100) :
    Calls Try.prog 16 #[.int .i64 out, .int .i64 active, .int .i64 percent] w fun e w' => e = .returned (.tuple #[.bool false, .int .i64 0]) ∧ w = w' :=
  (allowed_ok out active percent w h1 h2 h3 h4 h5 h6 (by omega) h8).mono fun _ _ ⟨he, hw⟩ => ⟨by rw [he, decide_eq_false (by omega)], hw⟩

theorem AllowedShare_walk (a0 : Int) (a1 : Int) (w0 : (Lit.int .i64 a0).wf = true) (w1 : (Lit.int .i64 a1).wf = true) (w : World) :
    Calls Try.prog 3 #[.int .i64 a0, .int .i64 a1] w fun e w' => e = .returned (.bool true) ∧ Grown w w' := by
  have b0 := bounds_i64 w0
  have b1 := bounds_i64 w1
  have hn := pickedZ_range a0 13 (by omega)
  have hp := pickedZ_range a1 101 (by omega)
  go_enter Try.func3, Try.ntmps3
  go_wp2_with fail
  refine (picked_any a0 13 _ (by omega) (by omega) (by omega) (by omega)).mono ?_
  rintro e w' ⟨rfl, rfl⟩
  go_wp2_with fail
  refine (picked_any a1 101 _ (by omega) (by omega) (by omega) (by omega)).mono ?_
  rintro e w' ⟨rfl, rfl⟩
  generalize pickedZ a0 13 = n at *
  generalize pickedZ a1 101 = p at *
  obtain ⟨n0, n1⟩ := hn
  obtain ⟨p0, p1⟩ := hp
  have q0 : 0 ≤ p * n := Int.mul_nonneg p0 n0
  have q1 : p * n ≤ 1200 := by
    have := Int.mul_le_mul (show p ≤ 100 by omega) (show n ≤ 12 by omega) n0 (by omega)
    omega
  have qc : Hid (n * p = p * n) := Int.mul_comm n p
  have r0 : 0 ≤ n * p := by rw [qc.out]; exact q0
  have r1 : n * p ≤ 1200 := by rw [qc.out]; exact q1
  go_wp2_with fail
  go_loop [7, 8] (fun o i => ∃ k : Nat, (k : Int) ≤ n ∧ (k : Int) * 100 ≤ p * n ∧ o = .int .i64 k ∧ i = .int .i64 k) (fun _ i => (n - intOf i).toNat)
  case atStart => exact ⟨0, by omega, by omega, rfl, rfl⟩
  case round =>
    obtain ⟨k, k0, k1, rfl, rfl⟩ := hrel
    have k2 : (k : Int) * 100 ≤ n * p := by rw [qc.out]; exact k1
    by_cases hk : (k : Int) < n
    · by_cases hy : ((k : Int) + 1) * 100 ≤ p * n
      · go_wp2_with (go_at_call 16; refine (allowed_yes _ _ _ _ (by omega) (by omega) (by omega) (by omega) (by omega) (by omega) (by omega) (by omega)).mono ?_; rintro e w' ⟨rfl, rfl⟩)
        go_round
        case rel => exact ⟨k + 1, by omega, by omega, by go_num, by go_num⟩
        case measure => simp [intOf]; omega
      · have hz : n * p < ((k : Int) + 1) * 100 := by rw [qc.out]; omega
        have ht : decide (n * p < ((k : Int) + 1) * 100) = true := decide_eq_true hz
        go_wp2_with (go_at_call 16; refine (allowed_no _ _ _ _ (by omega) (by omega) (by omega) (by omega) (by omega) (by omega) (by omega) (by omega) (by omega)).mono ?_; rintro e w' ⟨rfl, rfl⟩)
        go_ret
        exact ⟨ret_bool (by simp), Grown.refl _⟩
    · obtain rfl : (k : Int) = n := by omega
      go_wp2
      go_ret
      exact ⟨ret_bool (by simp), Grown.refl _⟩
end Go.Proofs.Ytbfmjccbbkijlaa
