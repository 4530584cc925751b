/- This text proves the walks of the laws BucketBurst and BucketMore. It has no condition of its own. -/
import Derived.Test.YtbfmjccbbkijlaaBudget
namespace Go.Proofs.Ytbfmjccbbkijlaa
open Go.ChangeShapes Go.WideShapes Go.ChangeAt Go.RowKit

theorem BucketBurst_walk (a0 a1 a2 : Int) (w0 : (Lit.int .i64 a0).wf = true) (w1 : (Lit.int .i64 a1).wf = true) (w2 : (Lit.int .i64 a2).wf = true) (w : World) :
    Calls Try.prog 12 #[.int .i64 a0, .int .i64 a1, .int .i64 a2] w fun e w' => e = .returned (.bool true) ∧ Below w.heap.size w w' := by
  have b0 := bounds_i64 w0
  have b1 := bounds_i64 w1
  have b2 := bounds_i64 w2
  clear w0 w1 w2
  go_enter Try.func12, Try.ntmps12
  go_wp2_with fail
  refine (budget_any a0 a1 a2 _ b0 b1 b2).mono ?_
  rintro e w1 ⟨rfl, hb_w1⟩
  have hB_w1 : Below w.heap.size w w1 := (show Below w.heap.size w _ by go_grown).trans (hb_w1.mono (by go_size))
  have hs_w1 := hB_w1.size
  obtain ⟨hc_w1, hf_w1⟩ := bcell hB_w1
  have H := budget_ok a0 a1 a2
  generalize pickedZ a0 21 = num at *
  generalize 1 + pickedZ a1 20 = den at *
  generalize pickedZ a2 21 = burst at *
  have HH := Lib.hid H
  obtain ⟨g1, g2⟩ := H.full
  have d0 := H.d0
  have d1 := H.d1
  have r0 := H.b0
  have r1 := H.b1
  clear H
  go_wp2_with fail
  refine (bucketFill_ok _ _ _ _ HH.out).mono ?_
  rintro e w2 ⟨rfl, hb_w2⟩
  have hB_w2 : Below w.heap.size w w2 := (show Below w.heap.size w _ by go_grown).trans (hb_w2.mono (by go_size))
  have hs_w2 := hB_w2.size
  have hz_w2_w1_0 : w1.heap.size < w2.heap.size := Nat.lt_of_lt_of_le (by go_size) hb_w2.size
  have Y1_w2 : Box w2 (w1.heap.size) #[.int .i64 num, .int .i64 den, .int .i64 burst] := Box.call (by repeat' (first | (with_reducible assumption) | (with_reducible refine Box.new_at _ _ (by first | rfl | (simp; done) | (simp; omega))) | (with_reducible refine Box.alloc ?_ _) | (with_reducible refine Box.drew ?_) | (with_reducible apply Box.set_at) | (with_reducible refine Box.far ?_ ?_ _) | rfl | omega | (simp; done) | (simp; omega))) hb_w2
  have Y1_w2_l := Y1_w2.lt
  have Y1_w2_c0 := Y1_w2.cell 0 _ rfl
  have Y1_w2_f0 := Y1_w2.frozen 0
  have Y1_w2_c1 := Y1_w2.cell 1 _ rfl
  have Y1_w2_f1 := Y1_w2.frozen 1
  have Y1_w2_c2 := Y1_w2.cell 2 _ rfl
  have Y1_w2_f2 := Y1_w2.frozen 2
  obtain ⟨hc_w2, hf_w2⟩ := bcell hB_w2
  clear hc_w1 hf_w1
  go_wp2_with fail
  go_loopw [10] (fun i wr => ∃ (k : Nat) (t : Int), (k : Int) ≤ burst ∧ i = .int .i64 k ∧ Below w.heap.size w wr ∧ Box wr w1.heap.size #[.int .i64 num, .int .i64 den, .int .i64 burst] ∧ Box wr w2.heap.size #[.int .i64 t] ∧ Hid (t = (burst - k) * den)) (fun i wr => (burst - intOf i).toNat)
  case atStart =>
    refine ⟨0, burst * den, by omega, rfl, by go_grown, ?_, ?_, by show _ = (burst - 0) * den; rw [Int.sub_zero]⟩
    · repeat' (first | (with_reducible assumption) | (with_reducible refine Box.new_at _ _ (by first | rfl | (simp; done) | (simp; omega))) | (with_reducible refine Box.alloc ?_ _) | (with_reducible refine Box.drew ?_) | (with_reducible apply Box.set_at) | (with_reducible refine Box.far ?_ ?_ _) | rfl | omega | (simp; done) | (simp; omega))
    · repeat' (first | (with_reducible assumption) | (with_reducible refine Box.new_at _ _ (by first | rfl | (simp; done) | (simp; omega))) | (with_reducible refine Box.alloc ?_ _) | (with_reducible refine Box.drew ?_) | (with_reducible apply Box.set_at) | (with_reducible refine Box.far ?_ ?_ _) | rfl | omega | (simp; done) | (simp; omega))
  case round =>
    obtain ⟨k, t, hk, rfl, hB, Y1_wr, Y2_wr, ht⟩ := hrel
    have hB0 := hB.size
    have Y1_wr_l := Y1_wr.lt
    have Y1_wr_c0 := Y1_wr.cell 0 _ rfl
    have Y1_wr_f0 := Y1_wr.frozen 0
    have Y1_wr_c1 := Y1_wr.cell 1 _ rfl
    have Y1_wr_f1 := Y1_wr.frozen 1
    have Y1_wr_c2 := Y1_wr.cell 2 _ rfl
    have Y1_wr_f2 := Y1_wr.frozen 2
    have Y2_wr_l := Y2_wr.lt
    have Y2_wr_c0 := Y2_wr.cell 0 _ rfl
    have Y2_wr_f0 := Y2_wr.frozen 0
    by_cases hlt : (k : Int) < burst
    · have e1 : Hid (t = (burst - (k + 1)) * den + den) := by
        show t = _
        rw [ht.out, show burst - (k : Int) = (burst - (k + 1)) + 1 by omega, Int.add_mul, Int.one_mul]
      have e2 : 0 ≤ (burst - (k + 1)) * den := Int.mul_nonneg (by omega) (by omega)
      have e3 : (burst - k) * den ≤ burst * den := Int.mul_le_mul_of_nonneg_right (by omega) (by omega)
      have e4 : den ≤ t := by have := e1.out; omega
      have e5 : t ≤ burst * den := by have := ht.out; omega
      go_wp2_with fail
      refine (bucketSpend_yes _ _ _ _ _ HH.out (by omega) (by omega)).mono ?_
      rintro e w3 ⟨rfl, hb_w3⟩
      have hB_w3 : Below w.heap.size w w3 := (show Below w.heap.size w _ by go_grown).trans (hb_w3.mono (by go_size))
      have hs_w3 := hB_w3.size
      have Y1_w3 : Box w3 (w1.heap.size) #[.int .i64 num, .int .i64 den, .int .i64 burst] := Box.call (by repeat' (first | (with_reducible assumption) | (with_reducible refine Box.new_at _ _ (by first | rfl | (simp; done) | (simp; omega))) | (with_reducible refine Box.alloc ?_ _) | (with_reducible refine Box.drew ?_) | (with_reducible apply Box.set_at) | (with_reducible refine Box.far ?_ ?_ _) | rfl | omega | (simp; done) | (simp; omega))) hb_w3
      have Y2_w3 : Box w3 (w2.heap.size) #[.int .i64 t] := Box.call (by repeat' (first | (with_reducible assumption) | (with_reducible refine Box.new_at _ _ (by first | rfl | (simp; done) | (simp; omega))) | (with_reducible refine Box.alloc ?_ _) | (with_reducible refine Box.drew ?_) | (with_reducible apply Box.set_at) | (with_reducible refine Box.far ?_ ?_ _) | rfl | omega | (simp; done) | (simp; omega))) hb_w3
      have Y1_w3_l := Y1_w3.lt
      have Y1_w3_c0 := Y1_w3.cell 0 _ rfl
      have Y1_w3_f0 := Y1_w3.frozen 0
      have Y1_w3_c1 := Y1_w3.cell 1 _ rfl
      have Y1_w3_f1 := Y1_w3.frozen 1
      have Y1_w3_c2 := Y1_w3.cell 2 _ rfl
      have Y1_w3_f2 := Y1_w3.frozen 2
      have Y2_w3_l := Y2_w3.lt
      have Y2_w3_c0 := Y2_w3.cell 0 _ rfl
      have Y2_w3_f0 := Y2_w3.frozen 0
      obtain ⟨hc_w3, hf_w3⟩ := bcell hB_w3
      clear Y1_wr Y1_wr_l Y1_wr_c0 Y1_wr_f0 Y1_wr_c1 Y1_wr_f1 Y1_wr_c2 Y1_wr_f2 Y2_wr Y2_wr_l Y2_wr_c0 Y2_wr_f0 hc_w2 hf_w2
      go_wp2_with fail
      go_roundw
      case rel =>
        refine ⟨k + 1, t - den, by omega, by go_num, by go_grown, ?_, ?_, by show _ = (burst - ((k + 1 : Nat) : Int)) * den; have := e1.out; rw [show burst - ((k + 1 : Nat) : Int) = burst - ((k : Int) + 1) by omega]; omega⟩
        · repeat' (first | (with_reducible assumption) | (with_reducible refine Box.new_at _ _ (by first | rfl | (simp; done) | (simp; omega))) | (with_reducible refine Box.alloc ?_ _) | (with_reducible refine Box.drew ?_) | (with_reducible apply Box.set_at) | (with_reducible refine Box.far ?_ ?_ _) | rfl | omega | (simp; done) | (simp; omega))
        · repeat' (first | (with_reducible assumption) | (with_reducible refine Box.new_at _ _ (by first | rfl | (simp; done) | (simp; omega))) | (with_reducible refine Box.alloc ?_ _) | (with_reducible refine Box.drew ?_) | (with_reducible apply Box.set_at) | (with_reducible refine Box.far ?_ ?_ _) | rfl | omega | (simp; done) | (simp; omega))
      case measure => simp [intOf]; omega
    · skip
      have hz : (t == 0) = true := by
        have h : (k : Int) = burst := by omega
        have := ht.out
        rw [h, Int.sub_self, Int.zero_mul] at this
        simpa using this
      have h0 : t ≤ 0 ∧ 0 ≤ t := by have : t = 0 := by simpa using hz
                                    omega
      go_wp2_with fail
      refine (bucketSpend_no _ _ _ _ _ HH.out (by omega) (by omega) (by omega)).mono ?_
      rintro e w3 ⟨rfl, hb_w3⟩
      have hB_w3 : Below w.heap.size w w3 := (show Below w.heap.size w _ by go_grown).trans (hb_w3.mono (by go_size))
      have hs_w3 := hB_w3.size
      have Y1_w3 : Box w3 (w1.heap.size) #[.int .i64 num, .int .i64 den, .int .i64 burst] := Box.call (by repeat' (first | (with_reducible assumption) | (with_reducible refine Box.new_at _ _ (by first | rfl | (simp; done) | (simp; omega))) | (with_reducible refine Box.alloc ?_ _) | (with_reducible refine Box.drew ?_) | (with_reducible apply Box.set_at) | (with_reducible refine Box.far ?_ ?_ _) | rfl | omega | (simp; done) | (simp; omega))) hb_w3
      have Y2_w3 : Box w3 (w2.heap.size) #[.int .i64 t] := Box.call (by repeat' (first | (with_reducible assumption) | (with_reducible refine Box.new_at _ _ (by first | rfl | (simp; done) | (simp; omega))) | (with_reducible refine Box.alloc ?_ _) | (with_reducible refine Box.drew ?_) | (with_reducible apply Box.set_at) | (with_reducible refine Box.far ?_ ?_ _) | rfl | omega | (simp; done) | (simp; omega))) hb_w3
      have Y1_w3_l := Y1_w3.lt
      have Y1_w3_c0 := Y1_w3.cell 0 _ rfl
      have Y1_w3_f0 := Y1_w3.frozen 0
      have Y1_w3_c1 := Y1_w3.cell 1 _ rfl
      have Y1_w3_f1 := Y1_w3.frozen 1
      have Y1_w3_c2 := Y1_w3.cell 2 _ rfl
      have Y1_w3_f2 := Y1_w3.frozen 2
      have Y2_w3_l := Y2_w3.lt
      have Y2_w3_c0 := Y2_w3.cell 0 _ rfl
      have Y2_w3_f0 := Y2_w3.frozen 0
      obtain ⟨hc_w3, hf_w3⟩ := bcell hB_w3
      clear Y1_wr Y1_wr_l Y1_wr_c0 Y1_wr_f0 Y1_wr_c1 Y1_wr_f1 Y1_wr_c2 Y1_wr_f2 Y2_wr Y2_wr_l Y2_wr_c0 Y2_wr_f0 hc_w2 hf_w2
      go_wp2_with fail
      go_ret
      exact ⟨ret_bool (by simp), by go_grown⟩

/-- one more token's worth is spent -/
theorem more_step {p p0 den : Int} {m : Nat} (h : p = p0 - m * den) : Hid (p - den = p0 - ((m + 1 : Nat) : Int) * den) := by
  show _ = _
  rw [show ((m + 1 : Nat) : Int) = (m : Int) + 1 by omega, Int.add_mul, Int.one_mul]; omega
/-- what the law asks at the end -/
theorem more_end {p q p0 q0 den burst : Int} {m n : Nat} (hd : 1 ≤ den) (hb : burst ≤ 20) (hp : p = p0 - m * den) (hq : q = q0 - n * den) (h0 : 0 ≤ p) (h1 : 0 ≤ q) (h : p < den ∨ m = 30) (hp0 : p0 ≤ burst * den) (hq0 : q0 ≤ p0) :
    (n : Int) ≤ m ∧ (m : Int) ≤ burst ∧ p < den := by
  have hm : (m : Int) ≤ burst := by
    rcases Int.lt_or_le burst m with h2 | h2
    · have : (burst + 1) * den ≤ m * den := Int.mul_le_mul_of_nonneg_right (by omega) (by omega)
      rw [Int.add_mul, Int.one_mul] at this
      omega
    · exact h2
  have hlt : p < den := by rcases h with h | h <;> omega
  refine ⟨?_, hm, hlt⟩
  rcases Int.lt_or_le m n with h2 | h2
  · have : ((m : Int) + 1) * den ≤ n * den := Int.mul_le_mul_of_nonneg_right (by omega) (by omega)
    rw [Int.add_mul, Int.one_mul] at this
    omega
  · exact h2

theorem BucketMore_walk (a0 a1 a2 a3 a4 : Int) (w0 : (Lit.int .i64 a0).wf = true) (w1 : (Lit.int .i64 a1).wf = true) (w2 : (Lit.int .i64 a2).wf = true) (w3 : (Lit.int .i64 a3).wf = true) (w4 : (Lit.int .i64 a4).wf = true) (w : World) :
    Calls Try.prog 13 #[.int .i64 a0, .int .i64 a1, .int .i64 a2, .int .i64 a3, .int .i64 a4] w fun e w' => e = .returned (.bool true) ∧ Below w.heap.size w w' := by
  have b0 := bounds_i64 w0
  have b1 := bounds_i64 w1
  have b2 := bounds_i64 w2
  have b3 := bounds_i64 w3
  have b4 := bounds_i64 w4
  clear w0 w1 w2 w3 w4
  go_enter Try.func13, Try.ntmps13
  go_wp2_with fail
  refine (budget_any a0 a1 a2 _ b0 b1 b2).mono ?_
  rintro e w1 ⟨rfl, hb_w1⟩
  have hB_w1 : Below w.heap.size w w1 := (show Below w.heap.size w _ by go_grown).trans (hb_w1.mono (by go_size))
  have hs_w1 := hB_w1.size
  obtain ⟨hc_w1, hf_w1⟩ := bcell hB_w1
  have H := budget_ok a0 a1 a2
  generalize pickedZ a0 21 = num at *
  generalize 1 + pickedZ a1 20 = den at *
  generalize pickedZ a2 21 = burst at *
  have HH := Lib.hid H
  obtain ⟨g1, g2⟩ := H.full
  have d0 := H.d0
  have d1 := H.d1
  have r0 := H.b0
  have r1 := H.b1
  clear H
  go_wp2_with fail
  refine (bucketFill_ok _ _ _ _ HH.out).mono ?_
  rintro e w2 ⟨rfl, hb_w2⟩
  have hB_w2 : Below w.heap.size w w2 := (show Below w.heap.size w _ by go_grown).trans (hb_w2.mono (by go_size))
  have hs_w2 := hB_w2.size
  have hz_w2_w1_0 : w1.heap.size < w2.heap.size := Nat.lt_of_lt_of_le (by go_size) hb_w2.size
  have Y1_w2 : Box w2 (w1.heap.size) #[.int .i64 num, .int .i64 den, .int .i64 burst] := Box.call (by repeat' (first | (with_reducible assumption) | (with_reducible refine Box.new_at _ _ (by first | rfl | (simp; done) | (simp; omega))) | (with_reducible refine Box.alloc ?_ _) | (with_reducible refine Box.drew ?_) | (with_reducible apply Box.set_at) | (with_reducible refine Box.far ?_ ?_ _) | rfl | omega | (simp; done) | (simp; omega))) hb_w2
  have Y1_w2_l := Y1_w2.lt
  have Y1_w2_c0 := Y1_w2.cell 0 _ rfl
  have Y1_w2_f0 := Y1_w2.frozen 0
  have Y1_w2_c1 := Y1_w2.cell 1 _ rfl
  have Y1_w2_f1 := Y1_w2.frozen 1
  have Y1_w2_c2 := Y1_w2.cell 2 _ rfl
  have Y1_w2_f2 := Y1_w2.frozen 2
  obtain ⟨hc_w2, hf_w2⟩ := bcell hB_w2
  clear hc_w1 hf_w1
  have hp0 := pickedZ_range a3 (burst * den + 1) (by omega)
  go_wp2_with fail
  refine (picked_any a3 _ _ (by omega) (by omega) (by omega) (by omega)).mono ?_
  rintro e w_ ⟨rfl, rfl⟩
  generalize pickedZ a3 (burst * den + 1) = p0 at *
  have hq0 := pickedZ_range a4 (p0 + 1) (by omega)
  go_wp2_with fail
  refine (picked_any a4 _ _ (by omega) (by omega) (by omega) (by omega)).mono ?_
  rintro e w_ ⟨rfl, rfl⟩
  generalize pickedZ a4 (p0 + 1) = q0 at *
  obtain ⟨hp1, hp2⟩ := hp0
  obtain ⟨hq1, hq2⟩ := hq0
  go_wp2_with fail
  go_loopw [16, 17, 18] (fun mv nv iv wr => ∃ (k m n : Nat) (p q : Int), k ≤ 30 ∧ mv = .int .i64 m ∧ nv = .int .i64 n ∧ iv = .int .i64 k ∧ Below w.heap.size w wr ∧ Box wr w1.heap.size #[.int .i64 num, .int .i64 den, .int .i64 burst] ∧ Box wr (w2.heap.size + 1) #[.int .i64 p] ∧ Box wr (w2.heap.size + 2) #[.int .i64 q] ∧ Hid (p = p0 - m * den) ∧ Hid (q = q0 - n * den) ∧ 0 ≤ p ∧ 0 ≤ q ∧ (p < den ∨ m = k) ∧ m ≤ k ∧ n ≤ k) (fun mv nv iv wr => (30 - intOf iv).toNat)
  case atStart =>
    refine ⟨0, 0, 0, p0, q0, by omega, rfl, rfl, rfl, by go_grown, ?_, ?_, ?_, by show p0 = p0 - 0 * den; omega, by show q0 = q0 - 0 * den; omega, by omega, by omega, by omega, by omega, by omega⟩
    · repeat' (first | (with_reducible assumption) | (with_reducible refine Box.new_at _ _ (by first | rfl | (simp; done) | (simp; omega))) | (with_reducible refine Box.alloc ?_ _) | (with_reducible refine Box.drew ?_) | (with_reducible apply Box.set_at) | (with_reducible refine Box.far ?_ ?_ _) | rfl | omega | (simp; done) | (simp; omega))
    · repeat' (first | (with_reducible assumption) | (with_reducible refine Box.new_at _ _ (by first | rfl | (simp; done) | (simp; omega))) | (with_reducible refine Box.alloc ?_ _) | (with_reducible refine Box.drew ?_) | (with_reducible apply Box.set_at) | (with_reducible refine Box.far ?_ ?_ _) | rfl | omega | (simp; done) | (simp; omega))
    · repeat' (first | (with_reducible assumption) | (with_reducible refine Box.new_at _ _ (by first | rfl | (simp; done) | (simp; omega))) | (with_reducible refine Box.alloc ?_ _) | (with_reducible refine Box.drew ?_) | (with_reducible apply Box.set_at) | (with_reducible refine Box.far ?_ ?_ _) | rfl | omega | (simp; done) | (simp; omega))
  case round =>
    obtain ⟨k, m, n, p, q, hk, rfl, rfl, rfl, hB, Y1_wr, Y2_wr, Y3_wr, hp, hq, e1, e2, e3, e4, e5⟩ := hrel
    have hB0 := hB.size
    have Y1_wr_l := Y1_wr.lt
    have Y1_wr_c0 := Y1_wr.cell 0 _ rfl
    have Y1_wr_f0 := Y1_wr.frozen 0
    have Y1_wr_c1 := Y1_wr.cell 1 _ rfl
    have Y1_wr_f1 := Y1_wr.frozen 1
    have Y1_wr_c2 := Y1_wr.cell 2 _ rfl
    have Y1_wr_f2 := Y1_wr.frozen 2
    have Y2_wr_l := Y2_wr.lt
    have Y2_wr_c0 := Y2_wr.cell 0 _ rfl
    have Y2_wr_f0 := Y2_wr.frozen 0
    have Y3_wr_l := Y3_wr.lt
    have Y3_wr_c0 := Y3_wr.cell 0 _ rfl
    have Y3_wr_f0 := Y3_wr.frozen 0
    have e6 : p ≤ burst * den := by have := hp.out; have : 0 ≤ (m : Int) * den := Int.mul_nonneg (by omega) (by omega); omega
    have e7 : q ≤ burst * den := by have := hq.out; have : 0 ≤ (n : Int) * den := Int.mul_nonneg (by omega) (by omega); omega
    by_cases hlt : k < 30
    · by_cases cp : den ≤ p
      · by_cases cq : den ≤ q
        · skip
          go_wp2_with fail
          refine (bucketSpend_yes _ _ _ _ _ HH.out (by omega) (by omega)).mono ?_
          rintro e w3 ⟨rfl, hb_w3⟩
          have hB_w3 : Below w.heap.size w w3 := (show Below w.heap.size w _ by go_grown).trans (hb_w3.mono (by go_size))
          have hs_w3 := hB_w3.size
          have Y1_w3 : Box w3 (w1.heap.size) #[.int .i64 num, .int .i64 den, .int .i64 burst] := Box.call (by repeat' (first | (with_reducible assumption) | (with_reducible refine Box.new_at _ _ (by first | rfl | (simp; done) | (simp; omega))) | (with_reducible refine Box.alloc ?_ _) | (with_reducible refine Box.drew ?_) | (with_reducible apply Box.set_at) | (with_reducible refine Box.far ?_ ?_ _) | rfl | omega | (simp; done) | (simp; omega))) hb_w3
          have Y2_w3 : Box w3 (w2.heap.size + 1) #[.int .i64 p] := Box.call (by repeat' (first | (with_reducible assumption) | (with_reducible refine Box.new_at _ _ (by first | rfl | (simp; done) | (simp; omega))) | (with_reducible refine Box.alloc ?_ _) | (with_reducible refine Box.drew ?_) | (with_reducible apply Box.set_at) | (with_reducible refine Box.far ?_ ?_ _) | rfl | omega | (simp; done) | (simp; omega))) hb_w3
          have Y3_w3 : Box w3 (w2.heap.size + 2) #[.int .i64 q] := Box.call (by repeat' (first | (with_reducible assumption) | (with_reducible refine Box.new_at _ _ (by first | rfl | (simp; done) | (simp; omega))) | (with_reducible refine Box.alloc ?_ _) | (with_reducible refine Box.drew ?_) | (with_reducible apply Box.set_at) | (with_reducible refine Box.far ?_ ?_ _) | rfl | omega | (simp; done) | (simp; omega))) hb_w3
          have Y1_w3_l := Y1_w3.lt
          have Y1_w3_c0 := Y1_w3.cell 0 _ rfl
          have Y1_w3_f0 := Y1_w3.frozen 0
          have Y1_w3_c1 := Y1_w3.cell 1 _ rfl
          have Y1_w3_f1 := Y1_w3.frozen 1
          have Y1_w3_c2 := Y1_w3.cell 2 _ rfl
          have Y1_w3_f2 := Y1_w3.frozen 2
          have Y2_w3_l := Y2_w3.lt
          have Y2_w3_c0 := Y2_w3.cell 0 _ rfl
          have Y2_w3_f0 := Y2_w3.frozen 0
          have Y3_w3_l := Y3_w3.lt
          have Y3_w3_c0 := Y3_w3.cell 0 _ rfl
          have Y3_w3_f0 := Y3_w3.frozen 0
          obtain ⟨hc_w3, hf_w3⟩ := bcell hB_w3
          clear Y1_wr Y1_wr_l Y1_wr_c0 Y1_wr_f0 Y1_wr_c1 Y1_wr_f1 Y1_wr_c2 Y1_wr_f2 Y2_wr Y2_wr_l Y2_wr_c0 Y2_wr_f0 Y3_wr Y3_wr_l Y3_wr_c0 Y3_wr_f0 hc_w2 hf_w2
          go_wp2_with fail
          refine (bucketSpend_yes _ _ _ _ _ HH.out (by omega) (by omega)).mono ?_
          rintro e w4 ⟨rfl, hb_w4⟩
          have hB_w4 : Below w.heap.size w w4 := (show Below w.heap.size w _ by go_grown).trans (hb_w4.mono (by go_size))
          have hs_w4 := hB_w4.size
          have Y1_w4 : Box w4 (w1.heap.size) #[.int .i64 num, .int .i64 den, .int .i64 burst] := Box.call (by repeat' (first | (with_reducible assumption) | (with_reducible refine Box.new_at _ _ (by first | rfl | (simp; done) | (simp; omega))) | (with_reducible refine Box.alloc ?_ _) | (with_reducible refine Box.drew ?_) | (with_reducible apply Box.set_at) | (with_reducible refine Box.far ?_ ?_ _) | rfl | omega | (simp; done) | (simp; omega))) hb_w4
          have Y2_w4 : Box w4 (w2.heap.size + 1) #[.int .i64 (p - den)] := Box.call (by repeat' (first | (with_reducible assumption) | (with_reducible refine Box.new_at _ _ (by first | rfl | (simp; done) | (simp; omega))) | (with_reducible refine Box.alloc ?_ _) | (with_reducible refine Box.drew ?_) | (with_reducible apply Box.set_at) | (with_reducible refine Box.far ?_ ?_ _) | rfl | omega | (simp; done) | (simp; omega))) hb_w4
          have Y3_w4 : Box w4 (w2.heap.size + 2) #[.int .i64 q] := Box.call (by repeat' (first | (with_reducible assumption) | (with_reducible refine Box.new_at _ _ (by first | rfl | (simp; done) | (simp; omega))) | (with_reducible refine Box.alloc ?_ _) | (with_reducible refine Box.drew ?_) | (with_reducible apply Box.set_at) | (with_reducible refine Box.far ?_ ?_ _) | rfl | omega | (simp; done) | (simp; omega))) hb_w4
          have Y1_w4_l := Y1_w4.lt
          have Y1_w4_c0 := Y1_w4.cell 0 _ rfl
          have Y1_w4_f0 := Y1_w4.frozen 0
          have Y1_w4_c1 := Y1_w4.cell 1 _ rfl
          have Y1_w4_f1 := Y1_w4.frozen 1
          have Y1_w4_c2 := Y1_w4.cell 2 _ rfl
          have Y1_w4_f2 := Y1_w4.frozen 2
          have Y2_w4_l := Y2_w4.lt
          have Y2_w4_c0 := Y2_w4.cell 0 _ rfl
          have Y2_w4_f0 := Y2_w4.frozen 0
          have Y3_w4_l := Y3_w4.lt
          have Y3_w4_c0 := Y3_w4.cell 0 _ rfl
          have Y3_w4_f0 := Y3_w4.frozen 0
          obtain ⟨hc_w4, hf_w4⟩ := bcell hB_w4
          clear Y1_w3 Y1_w3_l Y1_w3_c0 Y1_w3_f0 Y1_w3_c1 Y1_w3_f1 Y1_w3_c2 Y1_w3_f2 Y2_w3 Y2_w3_l Y2_w3_c0 Y2_w3_f0 Y3_w3 Y3_w3_l Y3_w3_c0 Y3_w3_f0 hc_w3 hf_w3
          go_wp2_with fail
          go_roundw
          case rel =>
            refine ⟨k + 1, m + 1, n + 1, p - den, q - den, by omega, by go_num, by go_num, by go_num, by go_grown, ?_, ?_, ?_, more_step hp, more_step hq, by omega, by omega, by omega, by omega, by omega⟩
            · repeat' (first | (with_reducible assumption) | (with_reducible refine Box.new_at _ _ (by first | rfl | (simp; done) | (simp; omega))) | (with_reducible refine Box.alloc ?_ _) | (with_reducible refine Box.drew ?_) | (with_reducible apply Box.set_at) | (with_reducible refine Box.far ?_ ?_ _) | rfl | omega | (simp; done) | (simp; omega))
            · repeat' (first | (with_reducible assumption) | (with_reducible refine Box.new_at _ _ (by first | rfl | (simp; done) | (simp; omega))) | (with_reducible refine Box.alloc ?_ _) | (with_reducible refine Box.drew ?_) | (with_reducible apply Box.set_at) | (with_reducible refine Box.far ?_ ?_ _) | rfl | omega | (simp; done) | (simp; omega))
            · repeat' (first | (with_reducible assumption) | (with_reducible refine Box.new_at _ _ (by first | rfl | (simp; done) | (simp; omega))) | (with_reducible refine Box.alloc ?_ _) | (with_reducible refine Box.drew ?_) | (with_reducible apply Box.set_at) | (with_reducible refine Box.far ?_ ?_ _) | rfl | omega | (simp; done) | (simp; omega))
          case measure => simp [intOf]; omega
        · skip
          go_wp2_with fail
          refine (bucketSpend_yes _ _ _ _ _ HH.out (by omega) (by omega)).mono ?_
          rintro e w3 ⟨rfl, hb_w3⟩
          have hB_w3 : Below w.heap.size w w3 := (show Below w.heap.size w _ by go_grown).trans (hb_w3.mono (by go_size))
          have hs_w3 := hB_w3.size
          have Y1_w3 : Box w3 (w1.heap.size) #[.int .i64 num, .int .i64 den, .int .i64 burst] := Box.call (by repeat' (first | (with_reducible assumption) | (with_reducible refine Box.new_at _ _ (by first | rfl | (simp; done) | (simp; omega))) | (with_reducible refine Box.alloc ?_ _) | (with_reducible refine Box.drew ?_) | (with_reducible apply Box.set_at) | (with_reducible refine Box.far ?_ ?_ _) | rfl | omega | (simp; done) | (simp; omega))) hb_w3
          have Y2_w3 : Box w3 (w2.heap.size + 1) #[.int .i64 p] := Box.call (by repeat' (first | (with_reducible assumption) | (with_reducible refine Box.new_at _ _ (by first | rfl | (simp; done) | (simp; omega))) | (with_reducible refine Box.alloc ?_ _) | (with_reducible refine Box.drew ?_) | (with_reducible apply Box.set_at) | (with_reducible refine Box.far ?_ ?_ _) | rfl | omega | (simp; done) | (simp; omega))) hb_w3
          have Y3_w3 : Box w3 (w2.heap.size + 2) #[.int .i64 q] := Box.call (by repeat' (first | (with_reducible assumption) | (with_reducible refine Box.new_at _ _ (by first | rfl | (simp; done) | (simp; omega))) | (with_reducible refine Box.alloc ?_ _) | (with_reducible refine Box.drew ?_) | (with_reducible apply Box.set_at) | (with_reducible refine Box.far ?_ ?_ _) | rfl | omega | (simp; done) | (simp; omega))) hb_w3
          have Y1_w3_l := Y1_w3.lt
          have Y1_w3_c0 := Y1_w3.cell 0 _ rfl
          have Y1_w3_f0 := Y1_w3.frozen 0
          have Y1_w3_c1 := Y1_w3.cell 1 _ rfl
          have Y1_w3_f1 := Y1_w3.frozen 1
          have Y1_w3_c2 := Y1_w3.cell 2 _ rfl
          have Y1_w3_f2 := Y1_w3.frozen 2
          have Y2_w3_l := Y2_w3.lt
          have Y2_w3_c0 := Y2_w3.cell 0 _ rfl
          have Y2_w3_f0 := Y2_w3.frozen 0
          have Y3_w3_l := Y3_w3.lt
          have Y3_w3_c0 := Y3_w3.cell 0 _ rfl
          have Y3_w3_f0 := Y3_w3.frozen 0
          obtain ⟨hc_w3, hf_w3⟩ := bcell hB_w3
          clear Y1_wr Y1_wr_l Y1_wr_c0 Y1_wr_f0 Y1_wr_c1 Y1_wr_f1 Y1_wr_c2 Y1_wr_f2 Y2_wr Y2_wr_l Y2_wr_c0 Y2_wr_f0 Y3_wr Y3_wr_l Y3_wr_c0 Y3_wr_f0 hc_w2 hf_w2
          go_wp2_with fail
          refine (bucketSpend_no _ _ _ _ _ HH.out (by omega) (by omega) (by omega)).mono ?_
          rintro e w4 ⟨rfl, hb_w4⟩
          have hB_w4 : Below w.heap.size w w4 := (show Below w.heap.size w _ by go_grown).trans (hb_w4.mono (by go_size))
          have hs_w4 := hB_w4.size
          have Y1_w4 : Box w4 (w1.heap.size) #[.int .i64 num, .int .i64 den, .int .i64 burst] := Box.call (by repeat' (first | (with_reducible assumption) | (with_reducible refine Box.new_at _ _ (by first | rfl | (simp; done) | (simp; omega))) | (with_reducible refine Box.alloc ?_ _) | (with_reducible refine Box.drew ?_) | (with_reducible apply Box.set_at) | (with_reducible refine Box.far ?_ ?_ _) | rfl | omega | (simp; done) | (simp; omega))) hb_w4
          have Y2_w4 : Box w4 (w2.heap.size + 1) #[.int .i64 (p - den)] := Box.call (by repeat' (first | (with_reducible assumption) | (with_reducible refine Box.new_at _ _ (by first | rfl | (simp; done) | (simp; omega))) | (with_reducible refine Box.alloc ?_ _) | (with_reducible refine Box.drew ?_) | (with_reducible apply Box.set_at) | (with_reducible refine Box.far ?_ ?_ _) | rfl | omega | (simp; done) | (simp; omega))) hb_w4
          have Y3_w4 : Box w4 (w2.heap.size + 2) #[.int .i64 q] := Box.call (by repeat' (first | (with_reducible assumption) | (with_reducible refine Box.new_at _ _ (by first | rfl | (simp; done) | (simp; omega))) | (with_reducible refine Box.alloc ?_ _) | (with_reducible refine Box.drew ?_) | (with_reducible apply Box.set_at) | (with_reducible refine Box.far ?_ ?_ _) | rfl | omega | (simp; done) | (simp; omega))) hb_w4
          have Y1_w4_l := Y1_w4.lt
          have Y1_w4_c0 := Y1_w4.cell 0 _ rfl
          have Y1_w4_f0 := Y1_w4.frozen 0
          have Y1_w4_c1 := Y1_w4.cell 1 _ rfl
          have Y1_w4_f1 := Y1_w4.frozen 1
          have Y1_w4_c2 := Y1_w4.cell 2 _ rfl
          have Y1_w4_f2 := Y1_w4.frozen 2
          have Y2_w4_l := Y2_w4.lt
          have Y2_w4_c0 := Y2_w4.cell 0 _ rfl
          have Y2_w4_f0 := Y2_w4.frozen 0
          have Y3_w4_l := Y3_w4.lt
          have Y3_w4_c0 := Y3_w4.cell 0 _ rfl
          have Y3_w4_f0 := Y3_w4.frozen 0
          obtain ⟨hc_w4, hf_w4⟩ := bcell hB_w4
          clear Y1_w3 Y1_w3_l Y1_w3_c0 Y1_w3_f0 Y1_w3_c1 Y1_w3_f1 Y1_w3_c2 Y1_w3_f2 Y2_w3 Y2_w3_l Y2_w3_c0 Y2_w3_f0 Y3_w3 Y3_w3_l Y3_w3_c0 Y3_w3_f0 hc_w3 hf_w3
          go_wp2_with fail
          go_roundw
          case rel =>
            refine ⟨k + 1, m + 1, n, p - den, q, by omega, by go_num, by go_num, by go_num, by go_grown, ?_, ?_, ?_, more_step hp, hq, by omega, by omega, by omega, by omega, by omega⟩
            · repeat' (first | (with_reducible assumption) | (with_reducible refine Box.new_at _ _ (by first | rfl | (simp; done) | (simp; omega))) | (with_reducible refine Box.alloc ?_ _) | (with_reducible refine Box.drew ?_) | (with_reducible apply Box.set_at) | (with_reducible refine Box.far ?_ ?_ _) | rfl | omega | (simp; done) | (simp; omega))
            · repeat' (first | (with_reducible assumption) | (with_reducible refine Box.new_at _ _ (by first | rfl | (simp; done) | (simp; omega))) | (with_reducible refine Box.alloc ?_ _) | (with_reducible refine Box.drew ?_) | (with_reducible apply Box.set_at) | (with_reducible refine Box.far ?_ ?_ _) | rfl | omega | (simp; done) | (simp; omega))
            · repeat' (first | (with_reducible assumption) | (with_reducible refine Box.new_at _ _ (by first | rfl | (simp; done) | (simp; omega))) | (with_reducible refine Box.alloc ?_ _) | (with_reducible refine Box.drew ?_) | (with_reducible apply Box.set_at) | (with_reducible refine Box.far ?_ ?_ _) | rfl | omega | (simp; done) | (simp; omega))
          case measure => simp [intOf]; omega
      · by_cases cq : den ≤ q
        · skip
          go_wp2_with fail
          refine (bucketSpend_no _ _ _ _ _ HH.out (by omega) (by omega) (by omega)).mono ?_
          rintro e w3 ⟨rfl, hb_w3⟩
          have hB_w3 : Below w.heap.size w w3 := (show Below w.heap.size w _ by go_grown).trans (hb_w3.mono (by go_size))
          have hs_w3 := hB_w3.size
          have Y1_w3 : Box w3 (w1.heap.size) #[.int .i64 num, .int .i64 den, .int .i64 burst] := Box.call (by repeat' (first | (with_reducible assumption) | (with_reducible refine Box.new_at _ _ (by first | rfl | (simp; done) | (simp; omega))) | (with_reducible refine Box.alloc ?_ _) | (with_reducible refine Box.drew ?_) | (with_reducible apply Box.set_at) | (with_reducible refine Box.far ?_ ?_ _) | rfl | omega | (simp; done) | (simp; omega))) hb_w3
          have Y2_w3 : Box w3 (w2.heap.size + 1) #[.int .i64 p] := Box.call (by repeat' (first | (with_reducible assumption) | (with_reducible refine Box.new_at _ _ (by first | rfl | (simp; done) | (simp; omega))) | (with_reducible refine Box.alloc ?_ _) | (with_reducible refine Box.drew ?_) | (with_reducible apply Box.set_at) | (with_reducible refine Box.far ?_ ?_ _) | rfl | omega | (simp; done) | (simp; omega))) hb_w3
          have Y3_w3 : Box w3 (w2.heap.size + 2) #[.int .i64 q] := Box.call (by repeat' (first | (with_reducible assumption) | (with_reducible refine Box.new_at _ _ (by first | rfl | (simp; done) | (simp; omega))) | (with_reducible refine Box.alloc ?_ _) | (with_reducible refine Box.drew ?_) | (with_reducible apply Box.set_at) | (with_reducible refine Box.far ?_ ?_ _) | rfl | omega | (simp; done) | (simp; omega))) hb_w3
          have Y1_w3_l := Y1_w3.lt
          have Y1_w3_c0 := Y1_w3.cell 0 _ rfl
          have Y1_w3_f0 := Y1_w3.frozen 0
          have Y1_w3_c1 := Y1_w3.cell 1 _ rfl
          have Y1_w3_f1 := Y1_w3.frozen 1
          have Y1_w3_c2 := Y1_w3.cell 2 _ rfl
          have Y1_w3_f2 := Y1_w3.frozen 2
          have Y2_w3_l := Y2_w3.lt
          have Y2_w3_c0 := Y2_w3.cell 0 _ rfl
          have Y2_w3_f0 := Y2_w3.frozen 0
          have Y3_w3_l := Y3_w3.lt
          have Y3_w3_c0 := Y3_w3.cell 0 _ rfl
          have Y3_w3_f0 := Y3_w3.frozen 0
          obtain ⟨hc_w3, hf_w3⟩ := bcell hB_w3
          clear Y1_wr Y1_wr_l Y1_wr_c0 Y1_wr_f0 Y1_wr_c1 Y1_wr_f1 Y1_wr_c2 Y1_wr_f2 Y2_wr Y2_wr_l Y2_wr_c0 Y2_wr_f0 Y3_wr Y3_wr_l Y3_wr_c0 Y3_wr_f0 hc_w2 hf_w2
          go_wp2_with fail
          refine (bucketSpend_yes _ _ _ _ _ HH.out (by omega) (by omega)).mono ?_
          rintro e w4 ⟨rfl, hb_w4⟩
          have hB_w4 : Below w.heap.size w w4 := (show Below w.heap.size w _ by go_grown).trans (hb_w4.mono (by go_size))
          have hs_w4 := hB_w4.size
          have Y1_w4 : Box w4 (w1.heap.size) #[.int .i64 num, .int .i64 den, .int .i64 burst] := Box.call (by repeat' (first | (with_reducible assumption) | (with_reducible refine Box.new_at _ _ (by first | rfl | (simp; done) | (simp; omega))) | (with_reducible refine Box.alloc ?_ _) | (with_reducible refine Box.drew ?_) | (with_reducible apply Box.set_at) | (with_reducible refine Box.far ?_ ?_ _) | rfl | omega | (simp; done) | (simp; omega))) hb_w4
          have Y2_w4 : Box w4 (w2.heap.size + 1) #[.int .i64 (p)] := Box.call (by repeat' (first | (with_reducible assumption) | (with_reducible refine Box.new_at _ _ (by first | rfl | (simp; done) | (simp; omega))) | (with_reducible refine Box.alloc ?_ _) | (with_reducible refine Box.drew ?_) | (with_reducible apply Box.set_at) | (with_reducible refine Box.far ?_ ?_ _) | rfl | omega | (simp; done) | (simp; omega))) hb_w4
          have Y3_w4 : Box w4 (w2.heap.size + 2) #[.int .i64 q] := Box.call (by repeat' (first | (with_reducible assumption) | (with_reducible refine Box.new_at _ _ (by first | rfl | (simp; done) | (simp; omega))) | (with_reducible refine Box.alloc ?_ _) | (with_reducible refine Box.drew ?_) | (with_reducible apply Box.set_at) | (with_reducible refine Box.far ?_ ?_ _) | rfl | omega | (simp; done) | (simp; omega))) hb_w4
          have Y1_w4_l := Y1_w4.lt
          have Y1_w4_c0 := Y1_w4.cell 0 _ rfl
          have Y1_w4_f0 := Y1_w4.frozen 0
          have Y1_w4_c1 := Y1_w4.cell 1 _ rfl
          have Y1_w4_f1 := Y1_w4.frozen 1
          have Y1_w4_c2 := Y1_w4.cell 2 _ rfl
          have Y1_w4_f2 := Y1_w4.frozen 2
          have Y2_w4_l := Y2_w4.lt
          have Y2_w4_c0 := Y2_w4.cell 0 _ rfl
          have Y2_w4_f0 := Y2_w4.frozen 0
          have Y3_w4_l := Y3_w4.lt
          have Y3_w4_c0 := Y3_w4.cell 0 _ rfl
          have Y3_w4_f0 := Y3_w4.frozen 0
          obtain ⟨hc_w4, hf_w4⟩ := bcell hB_w4
          clear Y1_w3 Y1_w3_l Y1_w3_c0 Y1_w3_f0 Y1_w3_c1 Y1_w3_f1 Y1_w3_c2 Y1_w3_f2 Y2_w3 Y2_w3_l Y2_w3_c0 Y2_w3_f0 Y3_w3 Y3_w3_l Y3_w3_c0 Y3_w3_f0 hc_w3 hf_w3
          go_wp2_with fail
          go_roundw
          case rel =>
            refine ⟨k + 1, m, n + 1, p, q - den, by omega, by go_num, by go_num, by go_num, by go_grown, ?_, ?_, ?_, hp, more_step hq, by omega, by omega, by omega, by omega, by omega⟩
            · repeat' (first | (with_reducible assumption) | (with_reducible refine Box.new_at _ _ (by first | rfl | (simp; done) | (simp; omega))) | (with_reducible refine Box.alloc ?_ _) | (with_reducible refine Box.drew ?_) | (with_reducible apply Box.set_at) | (with_reducible refine Box.far ?_ ?_ _) | rfl | omega | (simp; done) | (simp; omega))
            · repeat' (first | (with_reducible assumption) | (with_reducible refine Box.new_at _ _ (by first | rfl | (simp; done) | (simp; omega))) | (with_reducible refine Box.alloc ?_ _) | (with_reducible refine Box.drew ?_) | (with_reducible apply Box.set_at) | (with_reducible refine Box.far ?_ ?_ _) | rfl | omega | (simp; done) | (simp; omega))
            · repeat' (first | (with_reducible assumption) | (with_reducible refine Box.new_at _ _ (by first | rfl | (simp; done) | (simp; omega))) | (with_reducible refine Box.alloc ?_ _) | (with_reducible refine Box.drew ?_) | (with_reducible apply Box.set_at) | (with_reducible refine Box.far ?_ ?_ _) | rfl | omega | (simp; done) | (simp; omega))
          case measure => simp [intOf]; omega
        · skip
          go_wp2_with fail
          refine (bucketSpend_no _ _ _ _ _ HH.out (by omega) (by omega) (by omega)).mono ?_
          rintro e w3 ⟨rfl, hb_w3⟩
          have hB_w3 : Below w.heap.size w w3 := (show Below w.heap.size w _ by go_grown).trans (hb_w3.mono (by go_size))
          have hs_w3 := hB_w3.size
          have Y1_w3 : Box w3 (w1.heap.size) #[.int .i64 num, .int .i64 den, .int .i64 burst] := Box.call (by repeat' (first | (with_reducible assumption) | (with_reducible refine Box.new_at _ _ (by first | rfl | (simp; done) | (simp; omega))) | (with_reducible refine Box.alloc ?_ _) | (with_reducible refine Box.drew ?_) | (with_reducible apply Box.set_at) | (with_reducible refine Box.far ?_ ?_ _) | rfl | omega | (simp; done) | (simp; omega))) hb_w3
          have Y2_w3 : Box w3 (w2.heap.size + 1) #[.int .i64 p] := Box.call (by repeat' (first | (with_reducible assumption) | (with_reducible refine Box.new_at _ _ (by first | rfl | (simp; done) | (simp; omega))) | (with_reducible refine Box.alloc ?_ _) | (with_reducible refine Box.drew ?_) | (with_reducible apply Box.set_at) | (with_reducible refine Box.far ?_ ?_ _) | rfl | omega | (simp; done) | (simp; omega))) hb_w3
          have Y3_w3 : Box w3 (w2.heap.size + 2) #[.int .i64 q] := Box.call (by repeat' (first | (with_reducible assumption) | (with_reducible refine Box.new_at _ _ (by first | rfl | (simp; done) | (simp; omega))) | (with_reducible refine Box.alloc ?_ _) | (with_reducible refine Box.drew ?_) | (with_reducible apply Box.set_at) | (with_reducible refine Box.far ?_ ?_ _) | rfl | omega | (simp; done) | (simp; omega))) hb_w3
          have Y1_w3_l := Y1_w3.lt
          have Y1_w3_c0 := Y1_w3.cell 0 _ rfl
          have Y1_w3_f0 := Y1_w3.frozen 0
          have Y1_w3_c1 := Y1_w3.cell 1 _ rfl
          have Y1_w3_f1 := Y1_w3.frozen 1
          have Y1_w3_c2 := Y1_w3.cell 2 _ rfl
          have Y1_w3_f2 := Y1_w3.frozen 2
          have Y2_w3_l := Y2_w3.lt
          have Y2_w3_c0 := Y2_w3.cell 0 _ rfl
          have Y2_w3_f0 := Y2_w3.frozen 0
          have Y3_w3_l := Y3_w3.lt
          have Y3_w3_c0 := Y3_w3.cell 0 _ rfl
          have Y3_w3_f0 := Y3_w3.frozen 0
          obtain ⟨hc_w3, hf_w3⟩ := bcell hB_w3
          clear Y1_wr Y1_wr_l Y1_wr_c0 Y1_wr_f0 Y1_wr_c1 Y1_wr_f1 Y1_wr_c2 Y1_wr_f2 Y2_wr Y2_wr_l Y2_wr_c0 Y2_wr_f0 Y3_wr Y3_wr_l Y3_wr_c0 Y3_wr_f0 hc_w2 hf_w2
          go_wp2_with fail
          refine (bucketSpend_no _ _ _ _ _ HH.out (by omega) (by omega) (by omega)).mono ?_
          rintro e w4 ⟨rfl, hb_w4⟩
          have hB_w4 : Below w.heap.size w w4 := (show Below w.heap.size w _ by go_grown).trans (hb_w4.mono (by go_size))
          have hs_w4 := hB_w4.size
          have Y1_w4 : Box w4 (w1.heap.size) #[.int .i64 num, .int .i64 den, .int .i64 burst] := Box.call (by repeat' (first | (with_reducible assumption) | (with_reducible refine Box.new_at _ _ (by first | rfl | (simp; done) | (simp; omega))) | (with_reducible refine Box.alloc ?_ _) | (with_reducible refine Box.drew ?_) | (with_reducible apply Box.set_at) | (with_reducible refine Box.far ?_ ?_ _) | rfl | omega | (simp; done) | (simp; omega))) hb_w4
          have Y2_w4 : Box w4 (w2.heap.size + 1) #[.int .i64 (p)] := Box.call (by repeat' (first | (with_reducible assumption) | (with_reducible refine Box.new_at _ _ (by first | rfl | (simp; done) | (simp; omega))) | (with_reducible refine Box.alloc ?_ _) | (with_reducible refine Box.drew ?_) | (with_reducible apply Box.set_at) | (with_reducible refine Box.far ?_ ?_ _) | rfl | omega | (simp; done) | (simp; omega))) hb_w4
          have Y3_w4 : Box w4 (w2.heap.size + 2) #[.int .i64 q] := Box.call (by repeat' (first | (with_reducible assumption) | (with_reducible refine Box.new_at _ _ (by first | rfl | (simp; done) | (simp; omega))) | (with_reducible refine Box.alloc ?_ _) | (with_reducible refine Box.drew ?_) | (with_reducible apply Box.set_at) | (with_reducible refine Box.far ?_ ?_ _) | rfl | omega | (simp; done) | (simp; omega))) hb_w4
          have Y1_w4_l := Y1_w4.lt
          have Y1_w4_c0 := Y1_w4.cell 0 _ rfl
          have Y1_w4_f0 := Y1_w4.frozen 0
          have Y1_w4_c1 := Y1_w4.cell 1 _ rfl
          have Y1_w4_f1 := Y1_w4.frozen 1
          have Y1_w4_c2 := Y1_w4.cell 2 _ rfl
          have Y1_w4_f2 := Y1_w4.frozen 2
          have Y2_w4_l := Y2_w4.lt
          have Y2_w4_c0 := Y2_w4.cell 0 _ rfl
          have Y2_w4_f0 := Y2_w4.frozen 0
          have Y3_w4_l := Y3_w4.lt
          have Y3_w4_c0 := Y3_w4.cell 0 _ rfl
          have Y3_w4_f0 := Y3_w4.frozen 0
          obtain ⟨hc_w4, hf_w4⟩ := bcell hB_w4
          clear Y1_w3 Y1_w3_l Y1_w3_c0 Y1_w3_f0 Y1_w3_c1 Y1_w3_f1 Y1_w3_c2 Y1_w3_f2 Y2_w3 Y2_w3_l Y2_w3_c0 Y2_w3_f0 Y3_w3 Y3_w3_l Y3_w3_c0 Y3_w3_f0 hc_w3 hf_w3
          go_wp2_with fail
          go_roundw
          case rel =>
            refine ⟨k + 1, m, n, p, q, by omega, by go_num, by go_num, by go_num, by go_grown, ?_, ?_, ?_, hp, hq, by omega, by omega, by omega, by omega, by omega⟩
            · repeat' (first | (with_reducible assumption) | (with_reducible refine Box.new_at _ _ (by first | rfl | (simp; done) | (simp; omega))) | (with_reducible refine Box.alloc ?_ _) | (with_reducible refine Box.drew ?_) | (with_reducible apply Box.set_at) | (with_reducible refine Box.far ?_ ?_ _) | rfl | omega | (simp; done) | (simp; omega))
            · repeat' (first | (with_reducible assumption) | (with_reducible refine Box.new_at _ _ (by first | rfl | (simp; done) | (simp; omega))) | (with_reducible refine Box.alloc ?_ _) | (with_reducible refine Box.drew ?_) | (with_reducible apply Box.set_at) | (with_reducible refine Box.far ?_ ?_ _) | rfl | omega | (simp; done) | (simp; omega))
            · repeat' (first | (with_reducible assumption) | (with_reducible refine Box.new_at _ _ (by first | rfl | (simp; done) | (simp; omega))) | (with_reducible refine Box.alloc ?_ _) | (with_reducible refine Box.drew ?_) | (with_reducible apply Box.set_at) | (with_reducible refine Box.far ?_ ?_ _) | rfl | omega | (simp; done) | (simp; omega))
          case measure => simp [intOf]; omega
    · obtain rfl : k = 30 := by omega
      obtain ⟨x1, x2, x3⟩ := more_end d0 r1 hp.out hq.out e1 e2 e3 (by omega) (by omega)
      go_wp2_with fail
      go_ret
      exact ⟨ret_bool (by simp), hB⟩
end Go.Proofs.Ytbfmjccbbkijlaa
