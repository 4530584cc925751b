/- This text proves what the functions of bucket answer for a budget that is right and a bucket that may be. It has no condition of its own beside those in its statements. -/
import Derived.Test.YtbfmjccbbkijlaaMem
namespace Go.Proofs.Ytbfmjccbbkijlaa
open Go.ChangeShapes Go.WideShapes Go.ChangeAt Go.RowKit

/-- a budget that is right -/
structure BudOk (num den burst : Int) : Prop where
  n0 : 0 ≤ num
  n1 : num ≤ 20
  d0 : 1 ≤ den
  d1 : den ≤ 20
  b0 : 0 ≤ burst
  b1 : burst ≤ 20
theorem BudOk.full {num den burst : Int} (h : BudOk num den burst) : 0 ≤ burst * den ∧ burst * den ≤ 400 := by
  obtain ⟨h1, h2, h3, h4, h5, h6⟩ := h
  have a : burst * den ≤ 20 * 20 := Int.mul_le_mul h6 h4 (by omega) (by omega)
  exact ⟨Int.mul_nonneg h5 (by omega), by omega⟩

theorem bucketCheck_ok (num den burst : Int) (w : World) (h : BudOk num den burst) :
    Calls Try.prog 31 #[.agg #[.int .i64 num, .int .i64 den, .int .i64 burst]] w fun e w' => e = .returned (.int .i64 0) ∧ Below w.heap.size w w' := by
  obtain ⟨h1, h2, h3, h4, h5, h6⟩ := h
  go_enter Try.func31, Try.ntmps31
  go_wp2
  go_ret
  exact ⟨rfl, by go_grown⟩

theorem bucketFull_ok (num den burst : Int) (w : World) (h : BudOk num den burst) :
    Calls Try.prog 32 #[.agg #[.int .i64 num, .int .i64 den, .int .i64 burst]] w fun e w' => e = .returned (.int .i64 (burst * den)) ∧ Below w.heap.size w w' := by
  obtain ⟨g1, g2⟩ := h.full
  go_enter Try.func32, Try.ntmps32
  go_wp2
  go_ret
  exact ⟨rfl, by go_grown⟩

theorem bucketOpen_ok (num den burst t : Int) (w : World) (h : BudOk num den burst) (ht : 0 ≤ t) (ht' : t ≤ burst * den) :
    Calls Try.prog 33 #[.agg #[.int .i64 num, .int .i64 den, .int .i64 burst], .agg #[.int .i64 t]] w fun e w' => e = .returned (.int .i64 0) ∧ Below w.heap.size w w' := by
  have H := Lib.hid h
  obtain ⟨g1, g2⟩ := h.full
  clear h
  have hd : decide (t < 0) = false := by simp; omega
  go_enter Try.func33, Try.ntmps33
  go_wp2_with fail
  refine (bucketCheck_ok _ _ _ _ H.out).mono ?_
  rintro e w1 ⟨rfl, hb_w1⟩
  have hB_w1 : Below w.heap.size w w1 := (show Below w.heap.size w _ by go_grown).trans (hb_w1.mono (by go_size))
  have hs_w1 := hB_w1.size
  have Y1_w1 : Box w1 (w.heap.size) #[.int .i64 num, .int .i64 den, .int .i64 burst] := Box.call (by repeat' (first | (with_reducible assumption) | (with_reducible refine Box.new_at _ _ (by first | rfl | (simp; done) | (simp; omega))) | (with_reducible refine Box.alloc ?_ _) | (with_reducible refine Box.drew ?_) | (with_reducible apply Box.set_at) | (with_reducible refine Box.far ?_ ?_ _) | rfl | omega | (simp; done) | (simp; omega))) hb_w1
  have Y2_w1 : Box w1 (w.heap.size + 1) #[.int .i64 t] := Box.call (by repeat' (first | (with_reducible assumption) | (with_reducible refine Box.new_at _ _ (by first | rfl | (simp; done) | (simp; omega))) | (with_reducible refine Box.alloc ?_ _) | (with_reducible refine Box.drew ?_) | (with_reducible apply Box.set_at) | (with_reducible refine Box.far ?_ ?_ _) | rfl | omega | (simp; done) | (simp; omega))) hb_w1
  have Y1_w1_l := Y1_w1.lt
  have Y1_w1_c0 := Y1_w1.cell 0 _ rfl
  have Y1_w1_f0 := Y1_w1.frozen 0
  have Y1_w1_c1 := Y1_w1.cell 1 _ rfl
  have Y1_w1_f1 := Y1_w1.frozen 1
  have Y1_w1_c2 := Y1_w1.cell 2 _ rfl
  have Y1_w1_f2 := Y1_w1.frozen 2
  have Y2_w1_l := Y2_w1.lt
  have Y2_w1_c0 := Y2_w1.cell 0 _ rfl
  have Y2_w1_f0 := Y2_w1.frozen 0
  obtain ⟨hc_w1, hf_w1⟩ := bcell hB_w1
  go_wp2_with fail
  have hx_w2 := @calm_cell
  refine wp_region_calm (by kernel_rfl) (by kernel_rfl) ?_
  repeat (go_big_quiet_step ((go_at_call 32; refine calm_of (bucketFull_ok _ _ _ _ H.out))))
  refine wpQuiet_nil (calm_end fun w2 hb_w2 => ?_)
  clear hx_w2
  have hB_w2 : Below w.heap.size w w2 := (show Below w.heap.size w _ by go_grown).trans (hb_w2.mono (by go_size))
  have hs_w2 := hB_w2.size
  have Y1_w2 : Box w2 (w.heap.size) #[.int .i64 num, .int .i64 den, .int .i64 burst] := Box.call (by repeat' (first | (with_reducible assumption) | (with_reducible refine Box.new_at _ _ (by first | rfl | (simp; done) | (simp; omega))) | (with_reducible refine Box.alloc ?_ _) | (with_reducible refine Box.drew ?_) | (with_reducible apply Box.set_at) | (with_reducible refine Box.far ?_ ?_ _) | rfl | omega | (simp; done) | (simp; omega))) hb_w2
  have Y2_w2 : Box w2 (w.heap.size + 1) #[.int .i64 t] := Box.call (by repeat' (first | (with_reducible assumption) | (with_reducible refine Box.new_at _ _ (by first | rfl | (simp; done) | (simp; omega))) | (with_reducible refine Box.alloc ?_ _) | (with_reducible refine Box.drew ?_) | (with_reducible apply Box.set_at) | (with_reducible refine Box.far ?_ ?_ _) | rfl | omega | (simp; done) | (simp; omega))) hb_w2
  have Y1_w2_l := Y1_w2.lt
  have Y1_w2_c0 := Y1_w2.cell 0 _ rfl
  have Y1_w2_f0 := Y1_w2.frozen 0
  have Y1_w2_c1 := Y1_w2.cell 1 _ rfl
  have Y1_w2_f1 := Y1_w2.frozen 1
  have Y1_w2_c2 := Y1_w2.cell 2 _ rfl
  have Y1_w2_f2 := Y1_w2.frozen 2
  have Y2_w2_l := Y2_w2.lt
  have Y2_w2_c0 := Y2_w2.cell 0 _ rfl
  have Y2_w2_f0 := Y2_w2.frozen 0
  obtain ⟨hc_w2, hf_w2⟩ := bcell hB_w2
  clear Y1_w1 Y1_w1_l Y1_w1_c0 Y1_w1_f0 Y1_w1_c1 Y1_w1_f1 Y1_w1_c2 Y1_w1_f2 Y2_w1 Y2_w1_l Y2_w1_c0 Y2_w1_f0 hc_w1 hf_w1
  go_wp2_with fail
  go_ret
  exact ⟨rfl, hB_w2⟩

theorem bucketFill_ok (num den burst : Int) (w : World) (h : BudOk num den burst) :
    Calls Try.prog 25 #[.agg #[.int .i64 num, .int .i64 den, .int .i64 burst]] w fun e w' => e = .returned (.tuple #[.agg #[.int .i64 (burst * den)], .int .i64 0]) ∧ Below w.heap.size w w' := by
  have H := Lib.hid h
  obtain ⟨g1, g2⟩ := h.full
  clear h
  go_enter Try.func25, Try.ntmps25
  go_wp2_with fail
  refine (bucketCheck_ok _ _ _ _ H.out).mono ?_
  rintro e w1 ⟨rfl, hb_w1⟩
  have hB_w1 : Below w.heap.size w w1 := (show Below w.heap.size w _ by go_grown).trans (hb_w1.mono (by go_size))
  have hs_w1 := hB_w1.size
  have Y1_w1 : Box w1 (w.heap.size) #[.int .i64 num, .int .i64 den, .int .i64 burst] := Box.call (by repeat' (first | (with_reducible assumption) | (with_reducible refine Box.new_at _ _ (by first | rfl | (simp; done) | (simp; omega))) | (with_reducible refine Box.alloc ?_ _) | (with_reducible refine Box.drew ?_) | (with_reducible apply Box.set_at) | (with_reducible refine Box.far ?_ ?_ _) | rfl | omega | (simp; done) | (simp; omega))) hb_w1
  have Y2_w1 : Box w1 (w.heap.size + 1) #[.int .i64 0] := Box.call (by repeat' (first | (with_reducible assumption) | (with_reducible refine Box.new_at _ _ (by first | rfl | (simp; done) | (simp; omega))) | (with_reducible refine Box.alloc ?_ _) | (with_reducible refine Box.drew ?_) | (with_reducible apply Box.set_at) | (with_reducible refine Box.far ?_ ?_ _) | rfl | omega | (simp; done) | (simp; omega))) hb_w1
  have Y1_w1_l := Y1_w1.lt
  have Y1_w1_c0 := Y1_w1.cell 0 _ rfl
  have Y1_w1_f0 := Y1_w1.frozen 0
  have Y1_w1_c1 := Y1_w1.cell 1 _ rfl
  have Y1_w1_f1 := Y1_w1.frozen 1
  have Y1_w1_c2 := Y1_w1.cell 2 _ rfl
  have Y1_w1_f2 := Y1_w1.frozen 2
  have Y2_w1_l := Y2_w1.lt
  have Y2_w1_c0 := Y2_w1.cell 0 _ rfl
  have Y2_w1_f0 := Y2_w1.frozen 0
  obtain ⟨hc_w1, hf_w1⟩ := bcell hB_w1
  go_wp2_with fail
  refine (bucketFull_ok _ _ _ _ H.out).mono ?_
  rintro e w2 ⟨rfl, hb_w2⟩
  have hB_w2 : Below w.heap.size w w2 := (show Below w.heap.size w _ by go_grown).trans (hb_w2.mono (by go_size))
  have hs_w2 := hB_w2.size
  have Y1_w2 : Box w2 (w.heap.size) #[.int .i64 num, .int .i64 den, .int .i64 burst] := Box.call (by repeat' (first | (with_reducible assumption) | (with_reducible refine Box.new_at _ _ (by first | rfl | (simp; done) | (simp; omega))) | (with_reducible refine Box.alloc ?_ _) | (with_reducible refine Box.drew ?_) | (with_reducible apply Box.set_at) | (with_reducible refine Box.far ?_ ?_ _) | rfl | omega | (simp; done) | (simp; omega))) hb_w2
  have Y2_w2 : Box w2 (w.heap.size + 1) #[.int .i64 0] := Box.call (by repeat' (first | (with_reducible assumption) | (with_reducible refine Box.new_at _ _ (by first | rfl | (simp; done) | (simp; omega))) | (with_reducible refine Box.alloc ?_ _) | (with_reducible refine Box.drew ?_) | (with_reducible apply Box.set_at) | (with_reducible refine Box.far ?_ ?_ _) | rfl | omega | (simp; done) | (simp; omega))) hb_w2
  have Y1_w2_l := Y1_w2.lt
  have Y1_w2_c0 := Y1_w2.cell 0 _ rfl
  have Y1_w2_f0 := Y1_w2.frozen 0
  have Y1_w2_c1 := Y1_w2.cell 1 _ rfl
  have Y1_w2_f1 := Y1_w2.frozen 1
  have Y1_w2_c2 := Y1_w2.cell 2 _ rfl
  have Y1_w2_f2 := Y1_w2.frozen 2
  have Y2_w2_l := Y2_w2.lt
  have Y2_w2_c0 := Y2_w2.cell 0 _ rfl
  have Y2_w2_f0 := Y2_w2.frozen 0
  obtain ⟨hc_w2, hf_w2⟩ := bcell hB_w2
  clear Y1_w1 Y1_w1_l Y1_w1_c0 Y1_w1_f0 Y1_w1_c1 Y1_w1_f1 Y1_w1_c2 Y1_w1_f2 Y2_w1 Y2_w1_l Y2_w1_c0 Y2_w1_f0 hc_w1 hf_w1
  go_wp2_with fail
  refine bodyPost_ret (v := .tuple #[.agg #[.int .i64 (burst * den)], .int .i64 0]) (by simp [results, Try.results25, go_sem, *]) rfl ?_
  exact ⟨rfl, by go_grown⟩

theorem bucketSpend_yes (num den burst t : Int) (w : World) (h : BudOk num den burst) (ht : den ≤ t) (ht' : t ≤ burst * den) :
    Calls Try.prog 26 #[.agg #[.int .i64 num, .int .i64 den, .int .i64 burst], .agg #[.int .i64 t]] w fun e w' => e = .returned (.tuple #[.agg #[.int .i64 (t - den)], .int .i64 0]) ∧ Below w.heap.size w w' := by
  have H := Lib.hid h
  obtain ⟨g1, g2⟩ := h.full
  have hd0 := h.d0
  have hd1 := h.d1
  clear h
  go_enter Try.func26, Try.ntmps26
  go_wp2_with fail
  refine (bucketOpen_ok _ _ _ _ _ H.out (by omega) ht').mono ?_
  rintro e w1 ⟨rfl, hb_w1⟩
  have hB_w1 : Below w.heap.size w w1 := (show Below w.heap.size w _ by go_grown).trans (hb_w1.mono (by go_size))
  have hs_w1 := hB_w1.size
  have Y1_w1 : Box w1 (w.heap.size) #[.int .i64 num, .int .i64 den, .int .i64 burst] := Box.call (by repeat' (first | (with_reducible assumption) | (with_reducible refine Box.new_at _ _ (by first | rfl | (simp; done) | (simp; omega))) | (with_reducible refine Box.alloc ?_ _) | (with_reducible refine Box.drew ?_) | (with_reducible apply Box.set_at) | (with_reducible refine Box.far ?_ ?_ _) | rfl | omega | (simp; done) | (simp; omega))) hb_w1
  have Y2_w1 : Box w1 (w.heap.size + 1) #[.int .i64 t] := Box.call (by repeat' (first | (with_reducible assumption) | (with_reducible refine Box.new_at _ _ (by first | rfl | (simp; done) | (simp; omega))) | (with_reducible refine Box.alloc ?_ _) | (with_reducible refine Box.drew ?_) | (with_reducible apply Box.set_at) | (with_reducible refine Box.far ?_ ?_ _) | rfl | omega | (simp; done) | (simp; omega))) hb_w1
  have Y3_w1 : Box w1 (w.heap.size + 2) #[.int .i64 0] := Box.call (by repeat' (first | (with_reducible assumption) | (with_reducible refine Box.new_at _ _ (by first | rfl | (simp; done) | (simp; omega))) | (with_reducible refine Box.alloc ?_ _) | (with_reducible refine Box.drew ?_) | (with_reducible apply Box.set_at) | (with_reducible refine Box.far ?_ ?_ _) | rfl | omega | (simp; done) | (simp; omega))) hb_w1
  have Y1_w1_l := Y1_w1.lt
  have Y1_w1_c0 := Y1_w1.cell 0 _ rfl
  have Y1_w1_f0 := Y1_w1.frozen 0
  have Y1_w1_c1 := Y1_w1.cell 1 _ rfl
  have Y1_w1_f1 := Y1_w1.frozen 1
  have Y1_w1_c2 := Y1_w1.cell 2 _ rfl
  have Y1_w1_f2 := Y1_w1.frozen 2
  have Y2_w1_l := Y2_w1.lt
  have Y2_w1_c0 := Y2_w1.cell 0 _ rfl
  have Y2_w1_f0 := Y2_w1.frozen 0
  have Y3_w1_l := Y3_w1.lt
  have Y3_w1_c0 := Y3_w1.cell 0 _ rfl
  have Y3_w1_f0 := Y3_w1.frozen 0
  obtain ⟨hc_w1, hf_w1⟩ := bcell hB_w1
  go_wp2_with fail
  refine bodyPost_ret (v := .tuple #[.agg #[.int .i64 (t - den)], .int .i64 0]) (by simp [results, Try.results26, go_sem, *]) rfl ?_
  exact ⟨rfl, by go_grown⟩

theorem bucketSpend_no (num den burst t : Int) (w : World) (h : BudOk num den burst) (ht : t < den) (h0 : 0 ≤ t) (ht' : t ≤ burst * den) :
    Calls Try.prog 26 #[.agg #[.int .i64 num, .int .i64 den, .int .i64 burst], .agg #[.int .i64 t]] w fun e w' => e = .returned (.tuple #[.agg #[.int .i64 0], .int .i64 11]) ∧ Below w.heap.size w w' := by
  have H := Lib.hid h
  obtain ⟨g1, g2⟩ := h.full
  have hd0 := h.d0
  have hd1 := h.d1
  clear h
  go_enter Try.func26, Try.ntmps26
  go_wp2_with fail
  refine (bucketOpen_ok _ _ _ _ _ H.out (by omega) ht').mono ?_
  rintro e w1 ⟨rfl, hb_w1⟩
  have hB_w1 : Below w.heap.size w w1 := (show Below w.heap.size w _ by go_grown).trans (hb_w1.mono (by go_size))
  have hs_w1 := hB_w1.size
  have Y1_w1 : Box w1 (w.heap.size) #[.int .i64 num, .int .i64 den, .int .i64 burst] := Box.call (by repeat' (first | (with_reducible assumption) | (with_reducible refine Box.new_at _ _ (by first | rfl | (simp; done) | (simp; omega))) | (with_reducible refine Box.alloc ?_ _) | (with_reducible refine Box.drew ?_) | (with_reducible apply Box.set_at) | (with_reducible refine Box.far ?_ ?_ _) | rfl | omega | (simp; done) | (simp; omega))) hb_w1
  have Y2_w1 : Box w1 (w.heap.size + 1) #[.int .i64 t] := Box.call (by repeat' (first | (with_reducible assumption) | (with_reducible refine Box.new_at _ _ (by first | rfl | (simp; done) | (simp; omega))) | (with_reducible refine Box.alloc ?_ _) | (with_reducible refine Box.drew ?_) | (with_reducible apply Box.set_at) | (with_reducible refine Box.far ?_ ?_ _) | rfl | omega | (simp; done) | (simp; omega))) hb_w1
  have Y3_w1 : Box w1 (w.heap.size + 2) #[.int .i64 0] := Box.call (by repeat' (first | (with_reducible assumption) | (with_reducible refine Box.new_at _ _ (by first | rfl | (simp; done) | (simp; omega))) | (with_reducible refine Box.alloc ?_ _) | (with_reducible refine Box.drew ?_) | (with_reducible apply Box.set_at) | (with_reducible refine Box.far ?_ ?_ _) | rfl | omega | (simp; done) | (simp; omega))) hb_w1
  have Y1_w1_l := Y1_w1.lt
  have Y1_w1_c0 := Y1_w1.cell 0 _ rfl
  have Y1_w1_f0 := Y1_w1.frozen 0
  have Y1_w1_c1 := Y1_w1.cell 1 _ rfl
  have Y1_w1_f1 := Y1_w1.frozen 1
  have Y1_w1_c2 := Y1_w1.cell 2 _ rfl
  have Y1_w1_f2 := Y1_w1.frozen 2
  have Y2_w1_l := Y2_w1.lt
  have Y2_w1_c0 := Y2_w1.cell 0 _ rfl
  have Y2_w1_f0 := Y2_w1.frozen 0
  have Y3_w1_l := Y3_w1.lt
  have Y3_w1_c0 := Y3_w1.cell 0 _ rfl
  have Y3_w1_f0 := Y3_w1.frozen 0
  obtain ⟨hc_w1, hf_w1⟩ := bcell hB_w1
  go_wp2_with fail
  refine bodyPost_ret (v := .tuple #[.agg #[.int .i64 0], .int .i64 11]) (by simp [results, Try.results26, go_sem, *]) rfl ?_
  exact ⟨rfl, by go_grown⟩
end Go.Proofs.Ytbfmjccbbkijlaa
