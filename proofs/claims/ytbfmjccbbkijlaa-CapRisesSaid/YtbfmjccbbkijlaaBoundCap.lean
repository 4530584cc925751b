/- This text proves what bound.Cap answers within its bounds, and the walk of the law CapRises. -/
import Derived.Test.YtbfmjccbbkijlaaBase
namespace Go.Proofs.Ytbfmjccbbkijlaa
open Go.ChangeShapes Go.WideShapes Go.ChangeAt Go.RowKit

def capZ (num den flows weight total : Int) : Int := (num * (flows + 1) * weight + den * total - 1) / (den * total)

theorem cap_up (num flows weight : Int) (h1 : 1 ≤ num) (h2 : num ≤ 20) (h3 : 0 ≤ flows) (h4 : flows ≤ 40) (h5 : 1 ≤ weight) (h6 : weight ≤ 96) :
    1 ≤ num * (flows + 1) ∧ num * (flows + 1) ≤ 820 ∧ 1 ≤ num * (flows + 1) * weight ∧ num * (flows + 1) * weight ≤ 78720 := by
  have a1 : 1 * 1 ≤ num * (flows + 1) := Int.mul_le_mul h1 (by omega) (by omega) (by omega)
  have a2 : num * (flows + 1) ≤ 20 * 41 := Int.mul_le_mul h2 (by omega) (by omega) (by omega)
  have a3 : 1 * 1 ≤ num * (flows + 1) * weight := Int.mul_le_mul (by omega) h5 (by omega) (by omega)
  have a4 : num * (flows + 1) * weight ≤ 820 * 96 := Int.mul_le_mul (by omega) (by omega) (by omega) (by omega)
  omega
theorem cap_down (den total : Int) (h1 : 1 ≤ den) (h2 : den ≤ 20) (h5 : 1 ≤ total) (h6 : total ≤ 96) : 1 ≤ den * total ∧ den * total ≤ 1920 := by
  have a1 : 1 * 1 ≤ den * total := Int.mul_le_mul h1 (by omega) (by omega) (by omega)
  have a2 : den * total ≤ 20 * 96 := Int.mul_le_mul h2 (by omega) (by omega) (by omega)
  omega

theorem cap_ok (num den flows weight total : Int) (w : World) (h1 : 1 ≤ den) (h2 : den ≤ num) (h3 : num ≤ 20) (h4 : 0 ≤ flows) (h5 : flows ≤ 40) (h6 : 1 ≤ weight) (h7 : weight ≤ total) (h8 : total ≤ 96) :
    Calls Try.prog 17 #[.int .i64 num, .int .i64 den, .int .i64 flows, .int .i64 weight, .int .i64 total] w fun e w' => e = .returned (.tuple #[.int .i64 (capZ num den flows weight total), .int .i64 0]) ∧ w = w' := by
  obtain ⟨u1, u2, u3, u4⟩ := cap_up num flows weight (by omega) h3 h4 h5 h6 (by omega)
  obtain ⟨d1, d2⟩ := cap_down den total h1 (by omega) (by omega) h8
  go_enter Try.func17, Try.ntmps17
  go_wp2
  go_ret2
  exact ⟨rfl, rfl⟩

/-- a quotient that is rounded up -/
theorem ceil_spec (u d : Int) (h : 1 ≤ d) : u ≤ (u + d - 1) / d * d ∧ ((u + d - 1) / d - 1) * d < u := by
  have g0 := Int.mul_ediv_add_emod (u + d - 1) d
  have g1 := Int.emod_lt_of_pos (u + d - 1) (show 0 < d by omega)
  have g2 := Int.emod_nonneg (u + d - 1) (show d ≠ 0 by omega)
  rw [Int.mul_comm] at g0
  rw [Int.sub_mul, Int.one_mul]
  omega
theorem capZ_spec (num den flows weight total : Int) (h : 1 ≤ den * total) : num * (flows + 1) * weight ≤ capZ num den flows weight total * den * total ∧ (capZ num den flows weight total - 1) * den * total < num * (flows + 1) * weight := by
  unfold capZ
  rw [Int.mul_assoc _ den total, Int.mul_assoc _ den total]
  exact ceil_spec _ _ h
theorem capZ_mono (num den flows weight flows' weight' total : Int) (h : 1 ≤ den * total) (hle : num * (flows + 1) * weight ≤ num * (flows' + 1) * weight') : capZ num den flows weight total ≤ capZ num den flows' weight' total := by
  unfold capZ
  exact Int.ediv_le_ediv (by omega) (by omega)
theorem capZ_pos (num den flows weight total : Int) (h : 1 ≤ den * total) (hu : 1 ≤ num * (flows + 1) * weight) : 1 ≤ capZ num den flows weight total := by
  unfold capZ
  rw [Int.le_ediv_iff_mul_le (by omega)]; omega
theorem capZ_le (num den flows weight total : Int) (h : 1 ≤ den * total) (hu : 1 ≤ num * (flows + 1) * weight) : capZ num den flows weight total ≤ num * (flows + 1) * weight := by
  have := capZ_spec num den flows weight total h
  have h2 := capZ_pos num den flows weight total h hu
  generalize capZ num den flows weight total = c at *
  rw [Int.mul_assoc (c - 1) den total] at this
  have h3 : (c - 1) * 1 ≤ (c - 1) * (den * total) := Int.mul_le_mul_of_nonneg_left h (by omega)
  omega

theorem CapRises_walk (a0 a1 a2 a3 a4 : Int) (w0 : (Lit.int .i64 a0).wf = true) (w1 : (Lit.int .i64 a1).wf = true) (w2 : (Lit.int .i64 a2).wf = true) (w3 : (Lit.int .i64 a3).wf = true) (w4 : (Lit.int .i64 a4).wf = true) (w : World) :
    Calls Try.prog 4 #[.int .i64 a0, .int .i64 a1, .int .i64 a2, .int .i64 a3, .int .i64 a4] w fun e w' => e = .returned (.bool true) ∧ Grown w w' := by
  have b0 := bounds_i64 w0
  have b1 := bounds_i64 w1
  have b2 := bounds_i64 w2
  have b3 := bounds_i64 w3
  have b4 := bounds_i64 w4
  have hd := pickedZ_range a1 20 (by omega)
  have hn := pickedZ_range a0 (20 - (1 + pickedZ a1 20) + 1) (by omega)
  have ht := pickedZ_range a4 95 (by omega)
  have hw := pickedZ_range a3 (2 + pickedZ a4 95 - 1) (by omega)
  have hf := pickedZ_range a2 40 (by omega)
  go_enter Try.func4, Try.ntmps4
  go_wp2_with fail
  refine (picked_any a1 20 _ (by omega) (by omega) (by omega) (by omega)).mono ?_
  rintro e w' ⟨rfl, rfl⟩
  go_wp2_with fail
  refine (picked_any a0 _ _ (by omega) (by omega) (by omega) (by omega)).mono ?_
  rintro e w' ⟨rfl, rfl⟩
  go_wp2_with fail
  refine (picked_any a4 _ _ (by omega) (by omega) (by omega) (by omega)).mono ?_
  rintro e w' ⟨rfl, rfl⟩
  go_wp2_with fail
  refine (picked_any a3 _ _ (by omega) (by omega) (by omega) (by omega)).mono ?_
  rintro e w' ⟨rfl, rfl⟩
  go_wp2_with fail
  refine (picked_any a2 _ _ (by omega) (by omega) (by omega) (by omega)).mono ?_
  rintro e w' ⟨rfl, rfl⟩
  generalize pickedZ a2 40 = f at *
  generalize pickedZ a3 (2 + pickedZ a4 95 - 1) = w0 at *
  generalize pickedZ a4 95 = t0 at *
  generalize pickedZ a0 (20 - (1 + pickedZ a1 20) + 1) = n0 at *
  generalize pickedZ a1 20 = d0 at *
  go_wp2_with fail
  refine (cap_ok _ _ _ _ _ _ (by omega) (by omega) (by omega) (by omega) (by omega) (by omega) (by omega) (by omega)).mono ?_
  rintro e w' ⟨rfl, rfl⟩
  go_wp2_with fail
  refine (cap_ok _ _ _ _ _ _ (by omega) (by omega) (by omega) (by omega) (by omega) (by omega) (by omega) (by omega)).mono ?_
  rintro e w' ⟨rfl, rfl⟩
  go_wp2_with fail
  refine (cap_ok _ _ _ _ _ _ (by omega) (by omega) (by omega) (by omega) (by omega) (by omega) (by omega) (by omega)).mono ?_
  rintro e w' ⟨rfl, rfl⟩
  obtain ⟨u1, u2, u3, u4⟩ := cap_up (1 + d0 + n0) f (1 + w0) (by omega) (by omega) (by omega) (by omega) (by omega) (by omega)
  obtain ⟨d1, d2⟩ := cap_down (1 + d0) (2 + t0) (by omega) (by omega) (by omega) (by omega)
  have q1 := capZ_spec (1 + d0 + n0) (1 + d0) f (1 + w0) (2 + t0) d1
  have q2 := capZ_mono (1 + d0 + n0) (1 + d0) f (1 + w0) (f + 1) (1 + w0) (2 + t0) d1 (Int.mul_le_mul_of_nonneg_right (Int.mul_le_mul_of_nonneg_left (by omega) (by omega)) (by omega))
  have q3 := capZ_mono (1 + d0 + n0) (1 + d0) f (1 + w0) f (1 + w0 + 1) (2 + t0) d1 (Int.mul_le_mul_of_nonneg_left (by omega) (by omega))
  have q4 := capZ_pos (1 + d0 + n0) (1 + d0) f (1 + w0) (2 + t0) d1 u3
  have q5 := capZ_le (1 + d0 + n0) (1 + d0) f (1 + w0) (2 + t0) d1 u3
  generalize capZ (1 + d0 + n0) (1 + d0) f (1 + w0) (2 + t0) = a at *
  generalize capZ (1 + d0 + n0) (1 + d0) (f + 1) (1 + w0) (2 + t0) = b at *
  generalize capZ (1 + d0 + n0) (1 + d0) f (1 + w0 + 1) (2 + t0) = c at *
  have k1 : 0 ≤ a * (1 + d0) := Int.mul_nonneg (by omega) (by omega)
  have k2 : a * (1 + d0) ≤ 78720 * 20 := Int.mul_le_mul (by omega) (by omega) (by omega) (by omega)
  have k3 : 0 ≤ (a - 1) * (1 + d0) := Int.mul_nonneg (by omega) (by omega)
  have k4 : (a - 1) * (1 + d0) ≤ 78720 * 20 := Int.mul_le_mul (by omega) (by omega) (by omega) (by omega)
  have k5 : a * (1 + d0) * (2 + t0) ≤ 78720 * 20 * 96 := Int.mul_le_mul (by omega) (by omega) (by omega) (by omega)
  have k6 : 0 ≤ (a - 1) * (1 + d0) * (2 + t0) := Int.mul_nonneg (by omega) (by omega)
  obtain ⟨q6, q7⟩ := q1
  go_wp2
  all_goals (go_ret; exact ⟨ret_bool (by simp; try omega), Grown.refl _⟩)
end Go.Proofs.Ytbfmjccbbkijlaa
