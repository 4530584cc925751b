/- This text proves what ramp.Weight and ramp.Full answer within their bounds, and the walks of the laws RampShare, RampRises, RampAtOnce. -/
import Derived.Test.YtbfmjccbbkijlaaBase
namespace Go.Proofs.Ytbfmjccbbkijlaa
open Go.ChangeShapes Go.WideShapes Go.ChangeAt Go.RowKit

def weightZ (weight since now warm : Int) : Int := if warm ≤ now - since then weight else max (weight * (now - since) / warm) 1

theorem rampWeight_ok (weight since now warm : Int) (w : World) (h1 : 1 ≤ weight) (h2 : weight ≤ 8) (h3 : 0 ≤ warm) (h4 : warm ≤ 500) (h5 : 0 ≤ since) (h6 : since ≤ now) (h7 : now ≤ 1099511627776) :
    Calls Try.prog 18 #[.int .i64 weight, .int .i64 since, .int .i64 now, .int .i64 warm] w fun e w' => e = .returned (.tuple #[.int .i64 (weightZ weight since now warm), .int .i64 0]) ∧ w = w' := by
  by_cases h : warm ≤ now - since
  · have E := Lib.hid (show weightZ weight since now warm = weight by unfold weightZ; rw [if_pos h])
    go_enter Try.func18, Try.ntmps18
    go_wp2
    go_ret2
    exact ⟨by rw [E.out]; rfl, rfl⟩
  · have m0 : 0 ≤ weight * (now - since) := Int.mul_nonneg (by omega) (by omega)
    have m1 : weight * (now - since) ≤ 4000 := by
      have := Int.mul_le_mul (show weight ≤ 8 by omega) (show now - since ≤ 500 by omega) (by omega) (by omega)
      omega
    by_cases g : weight * (now - since) / warm < 1
    · have E := Lib.hid (show weightZ weight since now warm = 1 by unfold weightZ; rw [if_neg h]; omega)
      go_enter Try.func18, Try.ntmps18
      go_wp2
      go_ret2
      exact ⟨by rw [E.out]; rfl, rfl⟩
    · have E := Lib.hid (show weightZ weight since now warm = weight * (now - since) / warm by unfold weightZ; rw [if_neg h]; omega)
      go_enter Try.func18, Try.ntmps18
      go_wp2
      go_ret2
      exact ⟨by rw [E.out]; rfl, rfl⟩

theorem rampFull_ok (since warm : Int) (w : World) (h3 : 0 ≤ warm) (h4 : warm ≤ 500) (h5 : 0 ≤ since) (h6 : since ≤ 1099511627776) :
    Calls Try.prog 21 #[.int .i64 since, .int .i64 warm] w fun e w' => e = .returned (.tuple #[.int .i64 (since + warm), .int .i64 0]) ∧ w = w' := by
  go_enter Try.func21, Try.ntmps21
  go_wp2
  go_ret2
  exact ⟨rfl, rfl⟩

theorem weightZ_bd (weight since now warm : Int) (h1 : 1 ≤ weight) (h3 : 0 ≤ warm) (h6 : since ≤ now) : 1 ≤ weightZ weight since now warm ∧ weightZ weight since now warm ≤ weight := by
  unfold weightZ
  split
  · omega
  · have : weight * (now - since) / warm ≤ weight := by
      have h : weight * (now - since) ≤ weight * warm := Int.mul_le_mul_of_nonneg_left (by omega) (by omega)
      have : weight * (now - since) / warm ≤ weight * warm / warm := Int.ediv_le_ediv (by omega) h
      rw [Int.mul_ediv_cancel _ (by omega)] at this
      exact this
    omega

theorem weightZ_mono (weight since now warm : Int) (h1 : 1 ≤ weight) (h3 : 0 ≤ warm) (h6 : since ≤ now) : weightZ weight since now warm ≤ weightZ weight since (now + 1) warm := by
  by_cases h : warm ≤ now + 1 - since
  · have := weightZ_bd weight since now warm h1 h3 h6
    have e : weightZ weight since (now + 1) warm = weight := by unfold weightZ; rw [if_pos h]
    omega
  · unfold weightZ
    rw [if_neg (by omega), if_neg (by omega)]
    have h : weight * (now - since) ≤ weight * (now + 1 - since) := Int.mul_le_mul_of_nonneg_left (by omega) (by omega)
    have : weight * (now - since) / warm ≤ weight * (now + 1 - since) / warm := Int.ediv_le_ediv (by omega) h
    omega

theorem RampShare_walk (a0 a1 a2 : Int) (w0 : (Lit.int .i64 a0).wf = true) (w1 : (Lit.int .i64 a1).wf = true) (w2 : (Lit.int .i64 a2).wf = true) (w : World) :
    Calls Try.prog 5 #[.int .i64 a0, .int .i64 a1, .int .i64 a2] w fun e w' => e = .returned (.bool true) ∧ Grown w w' := by
  have b0 := bounds_i64 w0
  have b1 := bounds_i64 w1
  have b2 := bounds_i64 w2
  have hp := pickedZ_range a0 8 (by omega)
  have hm := pickedZ_range a2 500 (by omega)
  have hn := pickedZ_range a1 (1 + pickedZ a2 500) (by omega)
  go_enter Try.func5, Try.ntmps5
  go_wp2_with fail
  refine (picked_any a0 8 _ (by omega) (by omega) (by omega) (by omega)).mono ?_
  rintro e w' ⟨rfl, rfl⟩
  go_wp2_with fail
  refine (picked_any a2 500 _ (by omega) (by omega) (by omega) (by omega)).mono ?_
  rintro e w' ⟨rfl, rfl⟩
  go_wp2_with fail
  refine (picked_any a1 _ _ (by omega) (by omega) (by omega) (by omega)).mono ?_
  rintro e w' ⟨rfl, rfl⟩
  generalize pickedZ a1 (1 + pickedZ a2 500) = n at *
  generalize pickedZ a2 500 = m at *
  generalize pickedZ a0 8 = p at *
  go_wp2_with fail
  refine (rampWeight_ok _ _ _ _ _ (by omega) (by omega) (by omega) (by omega) (by omega) (by omega) (by omega)).mono ?_
  rintro e w' ⟨rfl, rfl⟩
  have q := weightZ_bd (1 + p) 7 (7 + n) (1 + m) (by omega) (by omega) (by omega)
  have e1 : weightZ (1 + p) 7 (7 + n) (1 + m) = max ((1 + p) * n / (1 + m)) 1 := by
    unfold weightZ; rw [if_neg (by omega), show 7 + n - 7 = n by omega]
  have f0 : 0 ≤ (1 + p) * n := Int.mul_nonneg (by omega) (by omega)
  have f1 : (1 + p) * n ≤ 4000 := by
    have := Int.mul_le_mul (show 1 + p ≤ 8 by omega) (show n ≤ 500 by omega) (by omega) (by omega)
    omega
  have g0 := Int.mul_ediv_add_emod ((1 + p) * n) (1 + m)
  have g1 := Int.emod_lt_of_pos ((1 + p) * n) (show 0 < 1 + m by omega)
  have g2 := Int.emod_nonneg ((1 + p) * n) (show 1 + m ≠ 0 by omega)
  generalize weightZ (1 + p) 7 (7 + n) (1 + m) = a at *
  have k0 : 0 ≤ a * (1 + m) := Int.mul_nonneg (by omega) (by omega)
  have k1 : a * (1 + m) ≤ 4000 := by
    have := Int.mul_le_mul (show a ≤ 8 by omega) (show 1 + m ≤ 500 by omega) (by omega) (by omega)
    omega
  have k2 : (a + 1) * (1 + m) = a * (1 + m) + (1 + m) := by rw [Int.add_mul, Int.one_mul]
  have k3 : (1 + p) * n < (a + 1) * (1 + m) := by
    rcases Int.le_total ((1 + p) * n / (1 + m)) 1 with h | h
    · have : a = 1 := by omega
      subst this
      have : (1 + m) * ((1 + p) * n / (1 + m)) ≤ (1 + m) * 1 := Int.mul_le_mul_of_nonneg_left h (by omega)
      omega
    · have : a = (1 + p) * n / (1 + m) := by omega
      have h4 : a * (1 + m) = (1 + m) * ((1 + p) * n / (1 + m)) := by rw [this, Int.mul_comm]
      omega
  have k4 : a = 1 ∨ a * (1 + m) ≤ (1 + p) * n := by
    rcases Int.le_total ((1 + p) * n / (1 + m)) 1 with h | h
    · left; omega
    · right
      have : a = (1 + p) * n / (1 + m) := by omega
      have h4 : a * (1 + m) = (1 + m) * ((1 + p) * n / (1 + m)) := by rw [this, Int.mul_comm]
      omega
  have k5 : (a + 1) * (1 + m) ≤ 4500 := by omega
  have k6 : 0 ≤ (a + 1) * (1 + m) := by omega
  clear k2 e1 g0 g1 g2
  by_cases ha : a = 1
  · subst ha
    go_wp2
    go_ret
    exact ⟨ret_bool (by simp; omega), Grown.refl _⟩
  · have ha' : (a == 1) = false := by simp [ha]
    have hb : decide (a * (1 + m) ≤ (1 + p) * n) = true := by simp; omega
    clear k4 ha
    go_wp2
    go_ret
    exact ⟨ret_bool (by simp), Grown.refl _⟩

theorem RampRises_walk (a0 a1 a2 a3 : Int) (w0 : (Lit.int .i64 a0).wf = true) (w1 : (Lit.int .i64 a1).wf = true) (w2 : (Lit.int .i64 a2).wf = true) (w3 : (Lit.int .i64 a3).wf = true) (w : World) :
    Calls Try.prog 8 #[.int .i64 a0, .int .i64 a1, .int .i64 a2, .int .i64 a3] w fun e w' => e = .returned (.bool true) ∧ Grown w w' := by
  have b0 := bounds_i64 w0
  have b1 := bounds_i64 w1
  have b2 := bounds_i64 w2
  have b3 := bounds_i64 w3
  have hp := pickedZ_range a0 8 (by omega)
  have hs := pickedZ_range a1 1000000 (by omega)
  have hm := pickedZ_range a3 501 (by omega)
  have hn := pickedZ_range a2 600 (by omega)
  go_enter Try.func8, Try.ntmps8
  go_wp2_with fail
  refine (picked_any a0 8 _ (by omega) (by omega) (by omega) (by omega)).mono ?_
  rintro e w' ⟨rfl, rfl⟩
  go_wp2_with fail
  refine (picked_any a1 1000000 _ (by omega) (by omega) (by omega) (by omega)).mono ?_
  rintro e w' ⟨rfl, rfl⟩
  go_wp2_with fail
  refine (picked_any a3 501 _ (by omega) (by omega) (by omega) (by omega)).mono ?_
  rintro e w' ⟨rfl, rfl⟩
  go_wp2_with fail
  refine (picked_any a2 600 _ (by omega) (by omega) (by omega) (by omega)).mono ?_
  rintro e w' ⟨rfl, rfl⟩
  generalize pickedZ a0 8 = p at *
  generalize pickedZ a1 1000000 = s at *
  generalize pickedZ a3 501 = m at *
  generalize pickedZ a2 600 = n at *
  go_wp2_with fail
  refine (rampWeight_ok _ _ _ _ _ (by omega) (by omega) (by omega) (by omega) (by omega) (by omega) (by omega)).mono ?_
  rintro e w' ⟨rfl, rfl⟩
  have q1 := weightZ_bd (1 + p) s (s + n) m (by omega) (by omega) (by omega)
  have q2 := weightZ_bd (1 + p) s (s + n + 1) m (by omega) (by omega) (by omega)
  have q3 := weightZ_mono (1 + p) s (s + n) m (by omega) (by omega) (by omega)
  have q4 : m ≤ n → weightZ (1 + p) s (s + n) m = 1 + p := fun h => by unfold weightZ; rw [if_pos (by omega)]
  go_wp2_with fail
  refine (rampWeight_ok _ _ _ _ _ (by omega) (by omega) (by omega) (by omega) (by omega) (by omega) (by omega)).mono ?_
  rintro e w' ⟨rfl, rfl⟩
  go_wp2_with fail
  refine (rampFull_ok _ _ _ (by omega) (by omega) (by omega) (by omega)).mono ?_
  rintro e w' ⟨rfl, rfl⟩
  generalize weightZ (1 + p) s (s + n) m = a at *
  generalize weightZ (1 + p) s (s + n + 1) m = b at *
  by_cases h : m ≤ n
  · obtain rfl := q4 h
    clear q4
    go_wp2
    all_goals (go_ret; exact ⟨ret_bool (by simp), Grown.refl _⟩)
  · clear q4
    go_wp2
    all_goals (go_ret; exact ⟨ret_bool (by simp; try omega), Grown.refl _⟩)

theorem RampAtOnce_walk (a0 a1 : Int) (w0 : (Lit.int .i64 a0).wf = true) (w1 : (Lit.int .i64 a1).wf = true) (w : World) :
    Calls Try.prog 9 #[.int .i64 a0, .int .i64 a1] w fun e w' => e = .returned (.bool true) ∧ Grown w w' := by
  have b0 := bounds_i64 w0
  have b1 := bounds_i64 w1
  have hp := pickedZ_range a0 8 (by omega)
  have hs := pickedZ_range a1 1099511627776 (by omega)
  go_enter Try.func9, Try.ntmps9
  go_wp2_with fail
  refine (picked_any a0 8 _ (by omega) (by omega) (by omega) (by omega)).mono ?_
  rintro e w' ⟨rfl, rfl⟩
  go_wp2_with fail
  refine (picked_any a1 1099511627776 _ (by omega) (by omega) (by omega) (by omega)).mono ?_
  rintro e w' ⟨rfl, rfl⟩
  generalize pickedZ a0 8 = p at *
  generalize pickedZ a1 1099511627776 = s at *
  go_wp2_with fail
  refine (rampWeight_ok _ _ _ _ _ (by omega) (by omega) (by omega) (by omega) (by omega) (by omega) (by omega)).mono ?_
  rintro e w' ⟨rfl, rfl⟩
  rw [show weightZ (1 + p) s s 0 = 1 + p by unfold weightZ; rw [if_pos (by omega)]]
  go_wp2_with fail
  refine (rampFull_ok _ _ _ (by omega) (by omega) (by omega) (by omega)).mono ?_
  rintro e w' ⟨rfl, rfl⟩
  go_wp2_with fail
  refine (rampWeight_ok _ _ _ _ _ (by omega) (by omega) (by omega) (by omega) (by omega) (by omega) (by omega)).mono ?_
  rintro e w' ⟨rfl, rfl⟩
  rw [show weightZ (1 + p) s s 1 = 1 by unfold weightZ; rw [if_neg (by omega), Int.sub_self, Int.mul_zero]; rfl]
  go_wp2
  go_ret
  exact ⟨ret_bool (by simp), Grown.refl _⟩
end Go.Proofs.Ytbfmjccbbkijlaa
