/- This text proves the walk of the law TallyAdds: it returns true at every input. -/
import Derived.Test.YtbfmjccbbkijlaaTallyOf
namespace Go.Proofs.Ytbfmjccbbkijlaa
open Go.ChangeShapes Go.WideShapes Go.ChangeAt Go.RowKit

/-- what one output adds at place j -/
def delta (o : Outp) (j : Nat) : Int := (if o.kind.toNat = j then 1 else 0) + (if o.kind = 6 ∧ 11 + o.why.toNat = j then 1 else 0)
def cnt (l : List Outp) (j : Nat) : Int := (l.map fun o => delta o j).sum
theorem tallyStep_get (c : List Int) (o : Outp) (h : OutFits o) (hc : c.length = 17) (j : Nat) : (tallyStep c o).getD j 0 = c.getD j 0 + delta o j := by
  obtain ⟨k0, k1, w0, w1⟩ := h
  unfold tallyStep delta
  split
  · rename_i h6
    rw [bump_get _ _ _ (by rw [bump_len]; omega), bump_get _ _ _ (by omega)]
    simp only [h6, true_and]
    omega
  · rename_i h6
    rw [bump_get _ _ _ (by omega)]
    simp [h6]
theorem foldl_get (l : List Outp) (hok : ∀ x ∈ l, OutFits x) (c : List Int) (hc : c.length = 17) (j : Nat) : (l.foldl tallyStep c).getD j 0 = c.getD j 0 + cnt l j := by
  induction l generalizing c with
  | nil => simp [cnt]
  | cons o l ih =>
    rw [List.foldl_cons, ih (fun x hx => hok x (List.mem_cons_of_mem _ hx)) _ (by rw [tallyStep_len]; exact hc), tallyStep_get c o (hok o (List.mem_cons_self ..)) hc]
    simp [cnt]; omega
theorem zero17 (j : Nat) : (List.replicate 17 (0 : Int)).getD j 0 = 0 := by
  rw [List.getD_eq_getElem?_getD, List.getElem?_replicate]; split <;> rfl
theorem tallyL_get (l : List Outp) (hok : ∀ x ∈ l, OutFits x) (j : Nat) : (tallyL l).getD j 0 = cnt l j := by
  unfold tallyL
  rw [foldl_get l hok _ rfl j, zero17]; omega
theorem foldl_len (l : List Outp) (c : List Int) : (l.foldl tallyStep c).length = c.length := by
  induction l generalizing c with
  | nil => rfl
  | cons o l ih => rw [List.foldl_cons, ih, tallyStep_len]
theorem tallyL_len (l : List Outp) : (tallyL l).length = 17 := by unfold tallyL; rw [foldl_len]; rfl
theorem cnt_app (a b : List Outp) (j : Nat) : cnt (a ++ b) j = cnt a j + cnt b j := by simp [cnt]
theorem cnt_bd (l : List Outp) (j : Nat) : 0 ≤ cnt l j ∧ cnt l j ≤ 2 * l.length := by
  induction l with
  | nil => simp [cnt]
  | cons o l ih =>
    have : cnt (o :: l) j = delta o j + cnt l j := by simp [cnt]
    rw [this, List.length_cons]
    have : 0 ≤ delta o j ∧ delta o j ≤ 2 := by unfold delta; split <;> split <;> omega
    omega
/-- the sum of n places from a on -/
def sumF (f : Nat → Int) (a : Nat) : Nat → Int
  | 0 => 0
  | n + 1 => sumF f a n + f (a + n)
theorem sumF_add (f g : Nat → Int) (a n : Nat) : sumF (fun j => f j + g j) a n = sumF f a n + sumF g a n := by
  induction n with
  | zero => rfl
  | succ n ih => simp only [sumF, ih]; omega
theorem sumF_zero (a n : Nat) : sumF (fun _ => 0) a n = 0 := by
  induction n with
  | zero => rfl
  | succ n ih => simp only [sumF, ih]; omega
theorem sumF_one (c : Int) (i a n : Nat) : sumF (fun j => if i = j then c else 0) a n = if a ≤ i ∧ i < a + n then c else 0 := by
  induction n with
  | zero => simp only [sumF]; rw [if_neg (by omega)]
  | succ n ih =>
    simp only [sumF, ih]
    by_cases h : i = a + n
    · subst h; simp
    · by_cases h2 : a ≤ i ∧ i < a + n
      · rw [if_pos h2, if_neg h, if_pos (by omega)]; omega
      · rw [if_neg h2, if_neg h, if_neg (by omega)]; rfl
theorem sumF_bd (f : Nat → Int) (m : Int) (_hm : 0 ≤ m) (h : ∀ j, 0 ≤ f j ∧ f j ≤ m) (a n : Nat) (hn : n ≤ 17) : 0 ≤ sumF f a n ∧ sumF f a n ≤ n * m := by
  induction n with
  | zero => simp [sumF]
  | succ n ih =>
    have := ih (by omega)
    have := h (a + n)
    simp only [sumF]
    rw [show ((n + 1 : Nat) : Int) = (n : Int) + 1 by omega, Int.add_mul, Int.one_mul]
    omega
theorem delta_outs (o : Outp) (h : OutFits o) : sumF (delta o) 0 11 = 1 := by
  obtain ⟨k0, k1, w0, w1⟩ := h
  have e : delta o = fun j => (if o.kind.toNat = j then 1 else 0) + (if 11 + o.why.toNat = j then (if o.kind = 6 then 1 else 0) else 0) := by
    funext j; unfold delta; by_cases h1 : o.kind = 6 <;> by_cases h2 : 11 + o.why.toNat = j <;> simp [h1, h2]
  rw [e, sumF_add, sumF_one, sumF_one, if_pos (by omega), if_neg (by omega)]; rfl
theorem delta_whys (o : Outp) (h : OutFits o) : sumF (delta o) 11 6 = delta o 6 := by
  obtain ⟨k0, k1, w0, w1⟩ := h
  have e : delta o = fun j => (if o.kind.toNat = j then 1 else 0) + (if 11 + o.why.toNat = j then (if o.kind = 6 then 1 else 0) else 0) := by
    funext j; unfold delta; by_cases h1 : o.kind = 6 <;> by_cases h2 : 11 + o.why.toNat = j <;> simp [h1, h2]
  have e6 : delta o 6 = if o.kind = 6 then 1 else 0 := by
    unfold delta
    by_cases h6 : o.kind = 6
    · have : ¬ (11 + o.why.toNat = 6) := by omega
      simp [h6, this]
    · have : ¬ (o.kind.toNat = 6) := by omega
      simp [h6, this]
  rw [e6, e, sumF_add, sumF_one, sumF_one, if_neg (by omega), if_pos (by omega)]; simp
theorem cnt_cons (o : Outp) (l : List Outp) : cnt (o :: l) = fun j => delta o j + cnt l j := by funext j; simp [cnt]
theorem cnt_outs (l : List Outp) (hok : ∀ x ∈ l, OutFits x) : sumF (cnt l) 0 11 = l.length := by
  induction l with
  | nil => exact sumF_zero 0 11
  | cons o l ih =>
    rw [cnt_cons, sumF_add, ih (fun x hx => hok x (List.mem_cons_of_mem _ hx)), delta_outs o (hok o (List.mem_cons_self ..)), List.length_cons]; omega
theorem cnt_whys (l : List Outp) (hok : ∀ x ∈ l, OutFits x) : sumF (cnt l) 11 6 = cnt l 6 := by
  induction l with
  | nil => exact sumF_zero 11 6
  | cons o l ih =>
    rw [cnt_cons, sumF_add, ih (fun x hx => hok x (List.mem_cons_of_mem _ hx)), delta_whys o (hok o (List.mem_cons_self ..))]

theorem outFits_told (x : Told) : OutFits (toldOut x) := by
  have h1 := pickedZ_range x.kind 10 (by omega)
  have h2 := pickedZ_range x.why 6 (by omega)
  constructor <;> (simp only [toldOut]; omega)
theorem fits_tolds (l : List Told) : ∀ x ∈ toldsL l, OutFits x := by
  intro x hx
  obtain ⟨y, _, rfl⟩ := List.mem_map.1 hx
  exact outFits_told y
theorem toldsL_len (l : List Told) : (toldsL l).length ≤ 60 := by
  unfold toldsL; rw [List.length_map, List.length_take]; omega
theorem outE_len (x : Outp) : (outE x).length = 7 := rfl
theorem outE_one (x : Outp) : ∀ u ∈ outE x, u.oneCell' = true := by simp [outE, Value.oneCell']

theorem TallyAdds_walk (x y : List Told) (vx vy : Value) (w : World) (hlx : x.length ≤ 9223372036854775807) (hly : y.length ≤ 9223372036854775807) (hx : Sl w 5 toldE vx x) (hy : Sl w 5 toldE vy y) (okx : ∀ t ∈ x, ToldOk t) (oky : ∀ t ∈ y, ToldOk t) :
    Calls Try.prog 10 #[vx, vy] w fun e w' => e = .returned (.bool true) ∧ Below w.heap.size w w' := by
  obtain ⟨i0, hi, hz0, hz1, hz2⟩ := info_parts Try.infoOutput
  have KX := Lib.hid okx
  have KY := Lib.hid oky
  clear okx oky
  go_enter Try.func10, Try.ntmps10
  go_wp2_with fail
  refine (tolds_ok x vx _ hlx hx KX.out).mono ?_
  rintro e w1 ⟨va, rfl, ha1, hb_w1⟩
  have hB_w1 : Below w.heap.size w w1 := (show Below w.heap.size w _ by go_grown).trans (hb_w1.mono (by go_size))
  have hs_w1 := hB_w1.size
  obtain ⟨hc_w1, hf_w1⟩ := bcell hB_w1
  go_wp2_with fail
  refine (tolds_ok y vy _ hly (hy.call hB_w1) KY.out).mono ?_
  rintro e w2 ⟨vb, rfl, hb2, hb_w2⟩
  have hB_w2 : Below w.heap.size w w2 := (show Below w.heap.size w _ by go_grown).trans (hb_w2.mono (by go_size))
  have hs_w2 := hB_w2.size
  obtain ⟨hc_w2, hf_w2⟩ := bcell hB_w2
  clear hc_w1 hf_w1
  have ha2 := owns_call ha1 hb_w2
  have lA := toldsL_len x
  have lB := toldsL_len y
  have fA := Lib.hid (fits_tolds x)
  have fB := Lib.hid (fits_tolds y)
  generalize toldsL x = A at *
  generalize toldsL y = B at *
  go_wp2_with fail
  refine (tallyOf_ok A va _ (by omega) (Sl.of_owns outE_len ha2) fA.out).mono ?_
  rintro e w3 ⟨rfl, hb_w3⟩
  have hB_w3 : Below w.heap.size w w3 := (show Below w.heap.size w _ by go_grown).trans (hb_w3.mono (by go_size))
  have hs_w3 := hB_w3.size
  obtain ⟨hc_w3, hf_w3⟩ := bcell hB_w3
  clear hc_w2 hf_w2
  have HS : ∀ L, Hid ((Try.prog.info? 41).map (·.size) = some (ints (tallyL L)).size) := fun L => by show _ = _; rw [Try.infoCounts]; simp [ints, tallyL_len]
  have HS0 : ∀ L, Hid ((ints (List.replicate 17 0)).size = (ints (tallyL L)).size) := fun L => by show _ = _; simp [ints, tallyL_len]
  have H1 : ∀ L, Hid ((ints (tallyL L)).all (·.oneCell') = true) := fun L => by show _ = _; simp [ints, Value.oneCell']
  have ZZ : ∀ w : World, Box (w.alloc (.cells (ints (List.replicate 17 0)) 41)) w.heap.size (ints (List.replicate 17 0)) := fun w => Box.new _ _ _
  rw [ints_zero] at ZZ HS0
  have HA := HS A
  have HA0 := HS0 A
  have HA1 := H1 A
  have HZ := Lib.hid (ZZ w3)
  generalize hq : tallyL A = tA at *
  have eA := Lib.hid hq
  clear hq
  go_wp2_with (first | (refine wpList_store_box rfl 41 (.tmp 7) (.tmp 24) rfl w3.heap.size _ (ints tA) (by rfl) (by rfl) HZ.out HA0.out HA.out HA1.out ?_; intro w4 C_w4 ho4))
  have hq4 : Below w3.heap.size w3 w4 := ((Below.refl _ _).alloc (Nat.le_refl _) _).trans (ho4.below (Nat.le_refl _))
  have ha4 := owns_call (owns_call ha2 hb_w3) hq4
  have hb4 := owns_call (owns_call hb2 hb_w3) hq4
  have hB_w4 : Below w.heap.size w w4 := (show Below w.heap.size w _ by go_grown).trans (ho4.below (by go_size))
  have hs_w4 := hB_w4.size
  have C_w4_l := C_w4.lt
  obtain ⟨hc_w4, hf_w4⟩ := bcell hB_w4
  clear hc_w3 hf_w3
  go_wp2_with fail
  refine (tallyOf_ok B vb _ (by omega) (Sl.of_owns outE_len hb4) fB.out).mono ?_
  rintro e w5 ⟨rfl, hb_w5⟩
  have hB_w5 : Below w.heap.size w w5 := (show Below w.heap.size w _ by go_grown).trans (hb_w5.mono (by go_size))
  have hs_w5 := hB_w5.size
  have hz_w5_w3_0 : w3.heap.size < w5.heap.size := Nat.lt_of_lt_of_le (by go_size) hb_w5.size
  have C_w5 : Box w5 (w3.heap.size) (ints tA) := Box.call (by repeat' (first | (with_reducible assumption) | (with_reducible refine Box.new_at _ _ (by first | rfl | (simp; done) | (simp; omega))) | (with_reducible refine Box.alloc ?_ _) | (with_reducible refine Box.drew ?_) | (with_reducible apply Box.set_at) | (with_reducible refine Box.far ?_ ?_ _) | rfl | omega | (simp; done) | (simp; omega))) hb_w5
  have C_w5_l := C_w5.lt
  obtain ⟨hc_w5, hf_w5⟩ := bcell hB_w5
  clear C_w4 C_w4_l hc_w4 hf_w4
  have HB := HS B
  have HB0 := HS0 B
  have HB1 := H1 B
  have HZ5 := Lib.hid (ZZ w5)
  generalize hq : tallyL B = tB at *
  have eB := Lib.hid hq
  clear hq
  go_upto_region 5 with (first | (refine wpList_store_box rfl 41 (.tmp 9) (.tmp 29) rfl w5.heap.size _ (ints tB) (by rfl) (by rfl) HZ5.out HB0.out HB.out HB1.out ?_; intro w6 D_w6 ho6))
  have hq6 : Below w5.heap.size w5 w6 := ((Below.refl _ _).alloc (Nat.le_refl _) _).trans (ho6.below (Nat.le_refl _))
  have ha6 := owns_call (owns_call ha4 hb_w5) hq6
  have hb6 := owns_call (owns_call hb4 hb_w5) hq6
  have hB_w6 : Below w.heap.size w w6 := (show Below w.heap.size w _ by go_grown).trans (ho6.below (by go_size))
  have hs_w6 := hB_w6.size
  have C_w6 : Box w6 (w3.heap.size) (ints tA) := Box.only (by repeat' (first | (with_reducible assumption) | (with_reducible refine Box.new_at _ _ (by first | rfl | (simp; done) | (simp; omega))) | (with_reducible refine Box.alloc ?_ _) | (with_reducible refine Box.drew ?_) | (with_reducible apply Box.set_at) | (with_reducible refine Box.far ?_ ?_ _) | rfl | omega | (simp; done) | (simp; omega))) ho6 (by first | omega | (simp; omega))
  have C_w6_l := C_w6.lt
  have D_w6_l := D_w6.lt
  obtain ⟨hc_w6, hf_w6⟩ := bcell hB_w6
  clear C_w5 C_w5_l hc_w5 hf_w5
  have sA6 := Sl.of_owns outE_len ha6
  have SA := Lib.hid sA6
  have sB6 := Sl.of_owns outE_len hb6
  have SB := Lib.hid sB6
  have EVA : Hid (∃ a c, va = .slice a A.length c) := by obtain ⟨a, c, h, _⟩ := sA6; exact ⟨a, c, h⟩
  have EVB : Hid (∃ a c, vb = .slice a B.length c) := by obtain ⟨a, c, h, _⟩ := sB6; exact ⟨a, c, h⟩
  clear ha1 ha2 ha4 ha6 hb2 hb4 hb6 sA6 sB6 HZ HZ5
  go_wp2_with (first | (at_builtin; have _t := SA; refine wpList_append_Sl (by rfl) (.const (.slice none 0 0)) (.tmp 32) 36 (by rfl) w6.heap.size 58 i0 _ 7 56 Try.underlying36 hi hz0 hz1 hz2 rfl (by omega) (.slice none 0 0) 0 [] (by rfl) (World.ownsRow_nil _ _ _ _) outE outE_len outE_one va A (by rfl) SA.out (by unfold maxLen; omega) (by omega) (Nat.le_refl _) ?_; intro v7 w7 hv7 hg7; clear SA) | (at_builtin; have _t := hv7; refine wpList_append_Sl (by rfl) (.tmp 33) (.tmp 34) 36 (by rfl) w6.heap.size 58 i0 _ 7 56 Try.underlying36 hi hz0 hz1 hz2 rfl (by omega) v7 (0 + A.length) ([] ++ A.flatMap outE) (by rfl) hv7 outE outE_len outE_one vb B (by rfl) (SB.out.below (Nat.le_refl _) ((Below.refl _ _).grown hg7 (Nat.le_refl _) (fun k hk => by cases hk))) (by unfold maxLen; omega) (by omega) hg7.size ?_; intro v8 w8 hv8 hg8; clear SB))
  have hb_w8 : Below w6.heap.size w6 w8 := ((Below.refl _ _).grown hg7 (Nat.le_refl _) (fun k hk => by cases hk)).grown hg8 hg7.size (fun k hk => (hv7.lt k hk).1)
  have hB_w8 : Below w.heap.size w w8 := (show Below w.heap.size w _ by go_grown).trans (hb_w8.mono (by go_size))
  have hs_w8 := hB_w8.size
  have C_w8 : Box w8 (w3.heap.size) (ints tA) := Box.call (by repeat' (first | (with_reducible assumption) | (with_reducible refine Box.new_at _ _ (by first | rfl | (simp; done) | (simp; omega))) | (with_reducible refine Box.alloc ?_ _) | (with_reducible refine Box.drew ?_) | (with_reducible apply Box.set_at) | (with_reducible refine Box.far ?_ ?_ _) | rfl | omega | (simp; done) | (simp; omega))) hb_w8
  have D_w8 : Box w8 (w5.heap.size) (ints tB) := Box.call (by repeat' (first | (with_reducible assumption) | (with_reducible refine Box.new_at _ _ (by first | rfl | (simp; done) | (simp; omega))) | (with_reducible refine Box.alloc ?_ _) | (with_reducible refine Box.drew ?_) | (with_reducible apply Box.set_at) | (with_reducible refine Box.far ?_ ?_ _) | rfl | omega | (simp; done) | (simp; omega))) hb_w8
  have C_w8_l := C_w8.lt
  have D_w8_l := D_w8.lt
  obtain ⟨hc_w8, hf_w8⟩ := bcell hB_w8
  clear C_w6 C_w6_l D_w6 D_w6_l hc_w6 hf_w6
  have sAB : Sl w8 7 outE v8 (A ++ B) := Sl.of_owns outE_len (by rw [List.length_append, List.flatMap_append]; simpa using hv8)
  have fAB : ∀ o ∈ A ++ B, OutFits o := fun o ho => (List.mem_append.1 ho).elim (fA.out o) (fB.out o)
  have SAB := Lib.hid sAB
  have FAB := Lib.hid fAB
  have lAB : (A ++ B).length ≤ 120 := by rw [List.length_append]; omega
  clear sAB fAB hv7 hv8 hg7 hg8
  go_wp2_with fail
  refine (tallyOf_ok (A ++ B) v8 _ (by omega) SAB.out FAB.out).mono ?_
  rintro e w9 ⟨rfl, hb_w9⟩
  have hB_w9 : Below w.heap.size w w9 := (show Below w.heap.size w _ by go_grown).trans (hb_w9.mono (by go_size))
  have hs_w9 := hB_w9.size
  have C_w9 : Box w9 (w3.heap.size) (ints tA) := Box.call (by repeat' (first | (with_reducible assumption) | (with_reducible refine Box.new_at _ _ (by first | rfl | (simp; done) | (simp; omega))) | (with_reducible refine Box.alloc ?_ _) | (with_reducible refine Box.drew ?_) | (with_reducible apply Box.set_at) | (with_reducible refine Box.far ?_ ?_ _) | rfl | omega | (simp; done) | (simp; omega))) hb_w9
  have D_w9 : Box w9 (w5.heap.size) (ints tB) := Box.call (by repeat' (first | (with_reducible assumption) | (with_reducible refine Box.new_at _ _ (by first | rfl | (simp; done) | (simp; omega))) | (with_reducible refine Box.alloc ?_ _) | (with_reducible refine Box.drew ?_) | (with_reducible apply Box.set_at) | (with_reducible refine Box.far ?_ ?_ _) | rfl | omega | (simp; done) | (simp; omega))) hb_w9
  have C_w9_l := C_w9.lt
  have D_w9_l := D_w9.lt
  obtain ⟨hc_w9, hf_w9⟩ := bcell hB_w9
  clear C_w8 C_w8_l D_w8 D_w8_l hc_w8 hf_w8
  have HC := HS (A ++ B)
  have HC0 := HS0 (A ++ B)
  have HC1 := H1 (A ++ B)
  have HZ9 := Lib.hid (ZZ w9)
  have SM : Hid (∀ j, tA.getD j 0 + tB.getD j 0 = (tallyL (A ++ B)).getD j 0) := fun j => by
    rw [tallyL_get _ FAB.out, cnt_app, ← tallyL_get _ fA.out, ← tallyL_get _ fB.out, eA.out, eB.out]
  have BC : Hid (∀ j, 0 ≤ (tallyL (A ++ B)).getD j 0 ∧ (tallyL (A ++ B)).getD j 0 ≤ 240) := fun j => by
    have := cnt_bd (A ++ B) j
    rw [tallyL_get _ FAB.out]; omega
  have BA : Hid (∀ j, 0 ≤ tA.getD j 0 ∧ tA.getD j 0 ≤ 240) := fun j => by
    have := cnt_bd A j
    rw [← eA.out, tallyL_get _ fA.out]; omega
  have BB : Hid (∀ j, 0 ≤ tB.getD j 0 ∧ tB.getD j 0 ≤ 240) := fun j => by
    have := cnt_bd B j
    rw [← eB.out, tallyL_get _ fB.out]; omega
  have LA : Hid (tA.length = 17) := by show _ = _; rw [← eA.out]; exact tallyL_len A
  have LB : Hid (tB.length = 17) := by show _ = _; rw [← eB.out]; exact tallyL_len B
  have LC : Hid ((tallyL (A ++ B)).length = 17) := tallyL_len _
  have S1 : Hid (sumF (fun j => (tallyL (A ++ B)).getD j 0) 0 11 = A.length + B.length) := by
    show _ = _
    rw [show (fun j => (tallyL (A ++ B)).getD j 0) = cnt (A ++ B) from funext fun j => tallyL_get _ FAB.out j, cnt_outs _ FAB.out, List.length_append]; omega
  have S2 : Hid (sumF (fun j => (tallyL (A ++ B)).getD j 0) 11 6 = (tallyL (A ++ B)).getD 6 0) := by
    show _ = _
    rw [show (fun j => (tallyL (A ++ B)).getD j 0) = cnt (A ++ B) from funext fun j => tallyL_get _ FAB.out j, cnt_whys _ FAB.out, tallyL_get _ FAB.out]
  generalize tallyL (A ++ B) = tC at *
  clear fA fB SAB FAB KX KY
  go_upto_region 6 with (first | (refine wpList_store_box rfl 41 (.tmp 11) (.tmp 37) rfl w9.heap.size _ (ints tC) (by rfl) (by rfl) HZ9.out HC0.out HC.out HC1.out ?_; intro w10 E_w10 ho10))
  clear HZ9 HC0 HC HC1 HS HS0 H1 ZZ HA HA0 HA1 HB HB0 HB1
  have hB_w10 : Below w.heap.size w w10 := (show Below w.heap.size w _ by go_grown).trans (ho10.below (by go_size))
  have hs_w10 := hB_w10.size
  have C_w10 : Box w10 (w3.heap.size) (ints tA) := Box.only (by repeat' (first | (with_reducible assumption) | (with_reducible refine Box.new_at _ _ (by first | rfl | (simp; done) | (simp; omega))) | (with_reducible refine Box.alloc ?_ _) | (with_reducible refine Box.drew ?_) | (with_reducible apply Box.set_at) | (with_reducible refine Box.far ?_ ?_ _) | rfl | omega | (simp; done) | (simp; omega))) ho10 (by first | omega | (simp; omega))
  have D_w10 : Box w10 (w5.heap.size) (ints tB) := Box.only (by repeat' (first | (with_reducible assumption) | (with_reducible refine Box.new_at _ _ (by first | rfl | (simp; done) | (simp; omega))) | (with_reducible refine Box.alloc ?_ _) | (with_reducible refine Box.drew ?_) | (with_reducible apply Box.set_at) | (with_reducible refine Box.far ?_ ?_ _) | rfl | omega | (simp; done) | (simp; omega))) ho10 (by first | omega | (simp; omega))
  have C_w10_l := C_w10.lt
  have D_w10_l := D_w10.lt
  have E_w10_l := E_w10.lt
  obtain ⟨hc_w10, hf_w10⟩ := bcell hB_w10
  clear C_w9 C_w9_l D_w9 D_w9_l hc_w9 hf_w9
  go_wp2_with fail
  go_loopw [13, 14] (fun sv kv wr => ∃ k : Nat, k ≤ 11 ∧ kv = .int .i64 k ∧ sv = .int .i64 (sumF (fun j => tC.getD j 0) 0 k) ∧ Below w.heap.size w wr ∧ Box wr w3.heap.size (ints tA) ∧ Box wr w5.heap.size (ints tB) ∧ Box wr w9.heap.size (ints tC)) (fun sv kv wr => 11 - (intOf kv).toNat)
  case atStart => exact ⟨0, by omega, rfl, rfl, hB_w10, C_w10, D_w10, E_w10⟩
  case round =>
    obtain ⟨k, hk, rfl, rfl, hB, C_wr, D_wr, E_wr⟩ := hrel
    have hB0 := hB.size
    have C_wr_l := C_wr.lt
    have D_wr_l := D_wr.lt
    have E_wr_l := E_wr.lt
    have hbd := sumF_bd (fun j => tC.getD j 0) 240 (by omega) BC.out 0 k (by omega)
    by_cases hlt : k < 11
    · have eS := Lib.hid (show sumF (fun j => tC.getD j 0) 0 (k + 1) = sumF (fun j => tC.getD j 0) 0 k + tC.getD k 0 by simp only [sumF]; rw [Nat.zero_add])
      have eA : wr.cell? ⟨w3.heap.size, k, none⟩ = some (.int .i64 (tA.getD k 0)) := C_wr.cell k _ (ints_get tA k (by rw [LA.out]; omega))
      have eB : wr.cell? ⟨w5.heap.size, k, none⟩ = some (.int .i64 (tB.getD k 0)) := D_wr.cell k _ (ints_get tB k (by rw [LB.out]; omega))
      have eC : wr.cell? ⟨w9.heap.size, k, none⟩ = some (.int .i64 (tC.getD k 0)) := E_wr.cell k _ (ints_get tC k (by rw [LC.out]; omega))
      have gC := Lib.hid (ints_get tC k (by rw [LC.out]; omega))
      have bA := BA.out k
      have bB := BB.out k
      have bC := BC.out k
      have hs := SM.out k
      generalize sumF (fun j => tC.getD j 0) 0 k = s at *
      generalize tA.getD k 0 = na at *
      generalize tB.getD k 0 = nb at *
      generalize tC.getD k 0 = nc at *
      have hs' : (na + nb != nc) = false := by simp [hs]
      have hk0 : (0 : Int) ≤ (k : Int) := by omega
      have hk1 : (k : Int) < 11 := by omega
      clear hs
      go_wp2_with fail
      have hx_wq := @calm_cell
      refine wp_region_calm (by kernel_rfl) (by kernel_rfl) ?_
      repeat (go_big_quiet_step (fail))
      refine wpQuiet_nil (calm_end fun wq hb_wq => ?_)
      clear hx_wq
      have hB_wq : Below w.heap.size w wq := (show Below w.heap.size w _ by go_grown).trans (hb_wq.mono (by go_size))
      have hs_wq := hB_wq.size
      have C_wq : Box wq (w3.heap.size) (ints tA) := Box.call (by repeat' (first | (with_reducible assumption) | (with_reducible refine Box.new_at _ _ (by first | rfl | (simp; done) | (simp; omega))) | (with_reducible refine Box.alloc ?_ _) | (with_reducible refine Box.drew ?_) | (with_reducible apply Box.set_at) | (with_reducible refine Box.far ?_ ?_ _) | rfl | omega | (simp; done) | (simp; omega))) hb_wq
      have D_wq : Box wq (w5.heap.size) (ints tB) := Box.call (by repeat' (first | (with_reducible assumption) | (with_reducible refine Box.new_at _ _ (by first | rfl | (simp; done) | (simp; omega))) | (with_reducible refine Box.alloc ?_ _) | (with_reducible refine Box.drew ?_) | (with_reducible apply Box.set_at) | (with_reducible refine Box.far ?_ ?_ _) | rfl | omega | (simp; done) | (simp; omega))) hb_wq
      have E_wq : Box wq (w9.heap.size) (ints tC) := Box.call (by repeat' (first | (with_reducible assumption) | (with_reducible refine Box.new_at _ _ (by first | rfl | (simp; done) | (simp; omega))) | (with_reducible refine Box.alloc ?_ _) | (with_reducible refine Box.drew ?_) | (with_reducible apply Box.set_at) | (with_reducible refine Box.far ?_ ?_ _) | rfl | omega | (simp; done) | (simp; omega))) hb_wq
      have C_wq_l := C_wq.lt
      have D_wq_l := D_wq.lt
      have E_wq_l := E_wq.lt
      obtain ⟨hc_wq, hf_wq⟩ := bcell hB_wq
      clear C_wr C_wr_l D_wr D_wr_l E_wr E_wr_l hc_w10 hf_w10
      have eC' : wq.cell? ⟨w9.heap.size, k, none⟩ = some (.int .i64 nc) := E_wq.cell k _ gC.out
      go_wp2_with fail
      go_roundw
      case rel => exact ⟨k + 1, by omega, by go_num, by rw [eS.out], hB_wq, C_wq, D_wq, E_wq⟩
      case measure => simp [intOf]; omega
    · skip
      have e11 : k = 11 := by omega
      have hS := S1.out
      rw [← e11] at hS
      have HSS := Lib.hid hS
      clear hS
      have hk0 : (k : Int) = 11 := by omega
      generalize hsum : sumF (fun j => tC.getD j 0) 0 k = sum at *
      clear hsum
      obtain rfl : k = 11 := e11
      go_wp2_with fail
      go_loopw [15, 16] (fun sv kv wr => ∃ k : Nat, k ≤ 6 ∧ kv = .int .i64 k ∧ sv = .int .i64 (sumF (fun j => tC.getD j 0) 11 k) ∧ Below w.heap.size w wr ∧ Box wr w3.heap.size (ints tA) ∧ Box wr w5.heap.size (ints tB) ∧ Box wr w9.heap.size (ints tC)) (fun sv kv wr => 6 - (intOf kv).toNat)
      case atStart => exact ⟨0, by omega, rfl, rfl, hB, C_wr, D_wr, E_wr⟩
      case round =>
        clear hB0 hbd C_wr D_wr E_wr hlt C_wr_l D_wr_l E_wr_l hB
        obtain ⟨k, hk, rfl, rfl, hB, C_wr, D_wr, E_wr⟩ := hrel
        have hB0 := hB.size
        have C_wr_l := C_wr.lt
        have D_wr_l := D_wr.lt
        have E_wr_l := E_wr.lt
        have hbd := sumF_bd (fun j => tC.getD j 0) 240 (by omega) BC.out 11 k (by omega)
        by_cases hlt : k < 6
        · have eS := Lib.hid (show sumF (fun j => tC.getD j 0) 11 (k + 1) = sumF (fun j => tC.getD j 0) 11 k + tC.getD (11 + k) 0 by simp only [sumF])
          have eA : wr.cell? ⟨w3.heap.size, 11 + k, none⟩ = some (.int .i64 (tA.getD (11 + k) 0)) := C_wr.cell (11 + k) _ (ints_get tA (11 + k) (by rw [LA.out]; omega))
          have eB : wr.cell? ⟨w5.heap.size, 11 + k, none⟩ = some (.int .i64 (tB.getD (11 + k) 0)) := D_wr.cell (11 + k) _ (ints_get tB (11 + k) (by rw [LB.out]; omega))
          have eC : wr.cell? ⟨w9.heap.size, 11 + k, none⟩ = some (.int .i64 (tC.getD (11 + k) 0)) := E_wr.cell (11 + k) _ (ints_get tC (11 + k) (by rw [LC.out]; omega))
          have gC := Lib.hid (ints_get tC (11 + k) (by rw [LC.out]; omega))
          have bA := BA.out (11 + k)
          have bB := BB.out (11 + k)
          have bC := BC.out (11 + k)
          have hs := SM.out (11 + k)
          generalize sumF (fun j => tC.getD j 0) 11 k = s at *
          generalize tA.getD (11 + k) 0 = na at *
          generalize tB.getD (11 + k) 0 = nb at *
          generalize tC.getD (11 + k) 0 = nc at *
          have hs' : (na + nb != nc) = false := by simp [hs]
          have hk0 : (0 : Int) ≤ (k : Int) := by omega
          have hk1 : (k : Int) < 6 := by omega
          clear hs
          go_wp2_with fail
          have hx_wz := @calm_cell
          refine wp_region_calm (by kernel_rfl) (by kernel_rfl) ?_
          repeat (go_big_quiet_step (fail))
          refine wpQuiet_nil (calm_end fun wz hb_wz => ?_)
          clear hx_wz
          have hB_wz : Below w.heap.size w wz := (show Below w.heap.size w _ by go_grown).trans (hb_wz.mono (by go_size))
          have hs_wz := hB_wz.size
          have C_wz : Box wz (w3.heap.size) (ints tA) := Box.call (by repeat' (first | (with_reducible assumption) | (with_reducible refine Box.new_at _ _ (by first | rfl | (simp; done) | (simp; omega))) | (with_reducible refine Box.alloc ?_ _) | (with_reducible refine Box.drew ?_) | (with_reducible apply Box.set_at) | (with_reducible refine Box.far ?_ ?_ _) | rfl | omega | (simp; done) | (simp; omega))) hb_wz
          have D_wz : Box wz (w5.heap.size) (ints tB) := Box.call (by repeat' (first | (with_reducible assumption) | (with_reducible refine Box.new_at _ _ (by first | rfl | (simp; done) | (simp; omega))) | (with_reducible refine Box.alloc ?_ _) | (with_reducible refine Box.drew ?_) | (with_reducible apply Box.set_at) | (with_reducible refine Box.far ?_ ?_ _) | rfl | omega | (simp; done) | (simp; omega))) hb_wz
          have E_wz : Box wz (w9.heap.size) (ints tC) := Box.call (by repeat' (first | (with_reducible assumption) | (with_reducible refine Box.new_at _ _ (by first | rfl | (simp; done) | (simp; omega))) | (with_reducible refine Box.alloc ?_ _) | (with_reducible refine Box.drew ?_) | (with_reducible apply Box.set_at) | (with_reducible refine Box.far ?_ ?_ _) | rfl | omega | (simp; done) | (simp; omega))) hb_wz
          have C_wz_l := C_wz.lt
          have D_wz_l := D_wz.lt
          have E_wz_l := E_wz.lt
          obtain ⟨hc_wz, hf_wz⟩ := bcell hB_wz
          clear C_wr C_wr_l D_wr D_wr_l E_wr E_wr_l hc_w10 hf_w10
          have eC' : wz.cell? ⟨w9.heap.size, 11 + k, none⟩ = some (.int .i64 nc) := E_wz.cell (11 + k) _ gC.out
          go_wp2_with fail
          go_roundw
          case rel => exact ⟨k + 1, by omega, by go_num, by rw [eS.out], hB_wz, C_wz, D_wz, E_wz⟩
          case measure => simp [intOf]; omega
        · skip
          obtain rfl : k = 6 := by omega
          have hS2 := S2.out
          have e6 : wr.cell? ⟨w9.heap.size, 6, none⟩ = some (.int .i64 (tC.getD 6 0)) := E_wr.cell 6 _ (ints_get tC 6 (by rw [LC.out]; omega))
          have HS1 := HSS.out
          generalize sumF (fun j => tC.getD j 0) 11 6 = whys at *
          generalize tC.getD 6 0 = n6 at *
          subst hS2
          have q1 : (sum == (A.length : Int) + (B.length : Int)) = true := by simp [HS1]
          clear HS1
          obtain ⟨ba, ca, rfl⟩ := EVA.out
          obtain ⟨bb, cb, rfl⟩ := EVB.out
          clear EVA EVB
          have lA0 : (0 : Int) ≤ (A.length : Int) := by omega
          have lB0 : (0 : Int) ≤ (B.length : Int) := by omega
          have lA1 : (A.length : Int) ≤ 60 := by omega
          have lB1 : (B.length : Int) ≤ 60 := by omega
          go_wp2_with fail
          go_ret
          exact ⟨rfl, hB⟩
end Go.Proofs.Ytbfmjccbbkijlaa
