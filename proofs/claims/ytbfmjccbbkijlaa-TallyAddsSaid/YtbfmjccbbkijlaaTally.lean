/- This text proves what the statements' helper 'tolds' makes of raw numbers, and what tally.Of counts. -/
import Derived.Test.YtbfmjccbbkijlaaSlice
import Derived.Test.YtbfmjccbbkijlaaStage
namespace Go.Proofs.Ytbfmjccbbkijlaa
open Go.ChangeShapes Go.WideShapes Go.ChangeAt Go.RowKit

/-- an output's raw numbers -/
structure Told where
  kind : Int
  slot : Int
  gen : Int
  backend : Int
  why : Int
def toldE (x : Told) : List Value := [.int .i64 x.kind, .int .i64 x.slot, .int .i64 x.gen, .int .i64 x.backend, .int .i64 x.why]
structure ToldOk (x : Told) : Prop where
  kind : -9223372036854775808 ≤ x.kind ∧ x.kind ≤ 9223372036854775807
  slot : -9223372036854775808 ≤ x.slot ∧ x.slot ≤ 9223372036854775807
  gen : -9223372036854775808 ≤ x.gen ∧ x.gen ≤ 9223372036854775807
  backend : -9223372036854775808 ≤ x.backend ∧ x.backend ≤ 9223372036854775807
  why : -9223372036854775808 ≤ x.why ∧ x.why ≤ 9223372036854775807
/-- an output -/
structure Outp where
  kind : Int
  slot : Int
  gen : Int
  backend : Int
  request : Int
  code : Int
  why : Int
def outE (x : Outp) : List Value := [.int .i64 x.kind, .int .i64 x.slot, .int .i64 x.gen, .int .i64 x.backend, .int .i64 x.request, .int .i64 x.code, .int .i64 x.why]
def toldOut (x : Told) : Outp := ⟨1 + pickedZ x.kind 10, pickedZ x.slot 3, pickedZ x.gen 2, pickedZ x.backend 12, 0, 0, pickedZ x.why 6⟩
def toldsL (l : List Told) : List Outp := (l.take 60).map toldOut

theorem Try.infoOutput : (Try.prog.info? 58).map (fun i => (i.zero, i.size, i.bytes)) = some (some (.agg #[.int .i64 0, .int .i64 0, .int .i64 0, .int .i64 0, .int .i64 0, .int .i64 0, .int .i64 0]), 7, 56) := by kernel_rfl

theorem tolds_step (l : List Told) (k : Nat) (h : k < l.length) (h6 : k < 60) : (toldsL (l.take (k + 1))).flatMap outE = (toldsL (l.take k)).flatMap outE ++ outE (toldOut l[k]) := by
  have e : ∀ j, j ≤ 60 → (l.take j).take 60 = l.take j := fun j hj => by rw [List.take_take, Nat.min_eq_right hj]
  unfold toldsL
  rw [e _ (by omega), e _ (by omega), List.take_succ_eq_append_getElem h, List.map_append, List.flatMap_append]
  simp

theorem tolds_end (l : List Told) (k : Nat) (h : k = 60 ∨ k = l.length) : toldsL (l.take k) = toldsL l := by
  unfold toldsL
  rcases h with rfl | rfl
  · rw [List.take_take, Nat.min_self]
  · rw [List.take_length]
theorem tolds_len (l : List Told) (k : Nat) (h1 : k ≤ l.length) (h2 : k ≤ 60) (h : k = 60 ∨ k = l.length) : (toldsL l).length = k := by
  unfold toldsL
  rw [List.length_map, List.length_take]
  omega

theorem tolds_ok (l : List Told) (v : Value) (w : World) (hl : l.length ≤ 9223372036854775807) (hv : Sl w 5 toldE v l) (hok : ∀ x ∈ l, ToldOk x) :
    Calls Try.prog 22 #[v] w fun e w' => ∃ v', e = .returned v' ∧ w'.ownsRow w.heap.size 58 7 v' (toldsL l).length ((toldsL l).flatMap outE) ∧ Below w.heap.size w w' := by
  obtain ⟨i0, hi, hz0, hz1, hz2⟩ := info_parts Try.infoOutput
  obtain ⟨ad, cap, rfl, hcap, _, hcell⟩ := hv
  have HC := Lib.hid hcell; clear hcell
  have HO := Lib.hid hok; clear hok
  have hE : toldsL (l.take 0) = [] := rfl
  go_enter Try.func22, Try.ntmps22
  go_wp2
  go_loopw [3, 4] (fun o i wr => ∃ (k : Nat) (ov : Value), k ≤ l.length ∧ k ≤ 60 ∧ i = .int .i64 k ∧ ov = o ∧ wr.ownsRow w.heap.size 58 7 ov k ((toldsL (l.take k)).flatMap outE) ∧ Below w.heap.size w wr) (fun o i wr => 60 - (intOf i).toNat)
  case atStart => exact ⟨0, _, by omega, by omega, rfl, rfl, World.ownsRow_nil _ _ _ _, Below.refl _ _⟩
  case round =>
    obtain ⟨k, ov, hk, hk6, rfl, rfl, hown, hB⟩ := hrel
    by_cases hlt : k < l.length
    · by_cases hlt6 : k < 60
      · obtain ⟨b, off, rfl, hb, hcells⟩ := HC.out (by intro h; subst h; simp at hlt)
        have hx : l[k]? = some l[k] := List.getElem?_eq_getElem hlt
        have hbr : b < wr.heap.size := Nat.lt_of_lt_of_le hb hB.size
        have hd0 : w.cell? ⟨b, off + k * 5, none⟩ = some (.int .i64 l[k].kind) := hcells k _ 0 _ hx rfl
        have hd1 : w.cell? ⟨b, off + k * 5 + 1, none⟩ = some (.int .i64 l[k].slot) := hcells k _ 1 _ hx rfl
        have hd2 : w.cell? ⟨b, off + k * 5 + 2, none⟩ = some (.int .i64 l[k].gen) := hcells k _ 2 _ hx rfl
        have hd3 : w.cell? ⟨b, off + k * 5 + 3, none⟩ = some (.int .i64 l[k].backend) := hcells k _ 3 _ hx rfl
        have hd4 : w.cell? ⟨b, off + k * 5 + 4, none⟩ = some (.int .i64 l[k].why) := hcells k _ 4 _ hx rfl
        have ok := HO.out l[k] (List.getElem_mem hlt)
        have ok0 := ok.kind
        have ok1 := ok.slot
        have ok2 := ok.gen
        have ok3 := ok.backend
        have ok4 := ok.why
        have hn : Hid ((toldsL (l.take (k + 1))).flatMap outE = (toldsL (l.take k)).flatMap outE ++ outE (toldOut l[k])) := tolds_step l k hlt hlt6
        clear hcells hx ok
        generalize (toldsL (l.take k)).flatMap outE = xs at *
        generalize l[k] = x at *
        obtain ⟨x0, x1, x2, x3, x4⟩ := x
        dsimp only at *
        have hk0 : (0 : Int) ≤ (k : Int) := by omega
        have hk1 : (k : Int) < (l.length : Int) := by omega
        have r0 := pickedZ_range x0 10 (by omega)
        have hne : ov.ownBlock ≠ some b := fun h => by have := (hown.lt b h).1; omega
        have HOW := Lib.hid hown
        clear hown
        have hB0 := hB.size
        go_wp2_with fail
        refine wp_region_stage [34] 36 (by kernel_rfl) rfl (by kernel_rfl) ?_
        intro w1 hb_w1
        have hB_w1 : Below w.heap.size w w1 := (show Below w.heap.size w _ by go_grown).trans (hb_w1.mono (by go_size))
        have hs_w1 := hB_w1.size
        obtain ⟨hc_w1, hf_w1⟩ := bcell hB_w1
        have hb1 : b < w1.heap.size := Nat.lt_of_lt_of_le hbr hb_w1.size
        have hx_ := @calm_cell
        refine anyN_quiet (fuel := 30) (List.range 34) (by kernel_rfl) (fun _ _ d _ _ h => by cases d <;> exact h) 6 0 _ _ (by kernel_rfl) ?_
        simp only [List.drop_zero, List.take_succ_cons, List.take_zero]
        repeat (go_big_quiet_step (fail))
        refine wpQuiet_nil ?_
        clear hx_
        have hx_ := @calm_cell
        refine anyN_quiet (fuel := 25) (List.range 34) (by kernel_rfl) (fun _ _ d _ _ h => by cases d <;> exact h) 5 8 _ _ (by kernel_rfl) ?_
        simp only [List.drop_succ_cons, List.drop_zero, List.take_succ_cons, List.take_zero]
        repeat (go_big_quiet_step (fail))
        refine wpQuiet_nil ?_
        clear hx_
        have hx_ := @calm_cell
        refine anyN_quiet (fuel := 20) (List.range 34) (by kernel_rfl) (fun _ _ d _ _ h => by cases d <;> exact h) 5 14 _ _ (by kernel_rfl) ?_
        simp only [List.drop_succ_cons, List.drop_zero, List.take_succ_cons, List.take_zero]
        repeat (go_big_quiet_step (fail))
        refine wpQuiet_nil ?_
        clear hx_
        have hx_ := @calm_cell
        refine anyN_quiet (fuel := 15) (List.range 34) (by kernel_rfl) (fun _ _ d _ _ h => by cases d <;> exact h) 5 20 _ _ (by kernel_rfl) ?_
        simp only [List.drop_succ_cons, List.drop_zero, List.take_succ_cons, List.take_zero]
        repeat (go_big_quiet_step (fail))
        refine wpQuiet_nil ?_
        clear hx_
        have hx_ := @calm_cell
        refine anyN_quiet (fuel := 10) (List.range 34) (by kernel_rfl) (fun _ _ d _ _ h => by cases d <;> exact h) 5 26 _ _ (by kernel_rfl) ?_
        simp only [List.drop_succ_cons, List.drop_zero, List.take_succ_cons, List.take_zero]
        repeat (go_big_quiet_step (fail))
        refine wpQuiet_nil ?_
        clear hx_
        refine anyN_loud (fuel := 9) 6 (by kernel_rfl) ?_
        intro K_ hK_
        simp only [List.drop_succ_cons, List.drop_zero, List.take_succ_cons, List.take_zero]
        go_wp2_with fail
        refine (picked_any _ _ _ (by omega) (by omega) (by omega) (by omega)).mono ?_
        rintro e w_ ⟨rfl, rfl⟩
        go_wp2_with fail
        refine hK_.out _ _ (Below.refl _ _) ?_
        clear hK_ K_
        have hx_ := @calm_cell
        refine anyN_quiet (fuel := 8) (List.range 34) (by kernel_rfl) (fun _ _ d _ _ h => by cases d <;> exact h) 1 7 _ _ (by kernel_rfl) ?_
        simp only [List.drop_succ_cons, List.drop_zero, List.take_succ_cons, List.take_zero]
        repeat (go_big_quiet_step (fail))
        refine wpQuiet_nil ?_
        clear hx_
        refine anyN_loud (fuel := 7) 13 (by kernel_rfl) ?_
        intro K_ hK_
        simp only [List.drop_succ_cons, List.drop_zero, List.take_succ_cons, List.take_zero]
        go_wp2_with fail
        refine (picked_any _ _ _ (by omega) (by omega) (by omega) (by omega)).mono ?_
        rintro e w_ ⟨rfl, rfl⟩
        go_wp2_with fail
        refine hK_.out _ _ (Below.refl _ _) ?_
        clear hK_ K_
        refine anyN_loud (fuel := 6) 19 (by kernel_rfl) ?_
        intro K_ hK_
        simp only [List.drop_succ_cons, List.drop_zero, List.take_succ_cons, List.take_zero]
        go_wp2_with fail
        refine (picked_any _ _ _ (by omega) (by omega) (by omega) (by omega)).mono ?_
        rintro e w_ ⟨rfl, rfl⟩
        go_wp2_with fail
        refine hK_.out _ _ (Below.refl _ _) ?_
        clear hK_ K_
        refine anyN_loud (fuel := 5) 25 (by kernel_rfl) ?_
        intro K_ hK_
        simp only [List.drop_succ_cons, List.drop_zero, List.take_succ_cons, List.take_zero]
        go_wp2_with fail
        refine (picked_any _ _ _ (by omega) (by omega) (by omega) (by omega)).mono ?_
        rintro e w_ ⟨rfl, rfl⟩
        go_wp2_with fail
        refine hK_.out _ _ (Below.refl _ _) ?_
        clear hK_ K_
        refine anyN_loud (fuel := 4) 31 (by kernel_rfl) ?_
        intro K_ hK_
        simp only [List.drop_succ_cons, List.drop_zero, List.take_succ_cons, List.take_zero]
        go_wp2_with fail
        refine (picked_any _ _ _ (by omega) (by omega) (by omega) (by omega)).mono ?_
        rintro e w_ ⟨rfl, rfl⟩
        go_wp2_with fail
        refine hK_.out _ _ (Below.refl _ _) ?_
        clear hK_ K_
        have hx_ := @calm_cell
        refine anyN_quiet (fuel := 3) (List.range 34) (by kernel_rfl) (fun _ _ d _ _ h => by cases d <;> exact h) 1 32 _ _ (by kernel_rfl) ?_
        simp only [List.drop_succ_cons, List.drop_zero, List.take_succ_cons, List.take_zero]
        repeat (go_big_quiet_step (fail))
        refine wpQuiet_nil ?_
        clear hx_
        refine anyN_loud (fuel := 2) 33 (by kernel_rfl) ?_
        intro K_ hK_
        simp only [List.drop_succ_cons, List.drop_zero, List.take_succ_cons, List.take_zero]
        go_wp2_with fail
        refine hK_.out _ _ (by go_grown) ?_
        clear hK_ K_
        have hown1 : w1.ownsRow w.heap.size 58 7 ov k xs := owns_call HOW.out hb_w1
        refine anyN_late (fuel := 1) 34 (by kernel_rfl) (by kernel_rfl) (of_decide_eq_true (by kernel_rfl)) ?_
        intro K_ hK_
        simp only [List.drop_succ_cons, List.drop_zero, List.take_succ_cons, List.take_zero]
        refine wpList_append_lies _ (by rfl) _ _ _ (by rfl) w.heap.size 58 i0 _ 7 56 Try.underlying36 hi hz0 hz1 hz2 rfl (by omega) ov k xs (by rfl) (hown1.alloc _) ⟨w1.heap.size, 0, none⟩ 1 1 (outE (toldOut ⟨x0, x1, x2, x3, x4⟩)) (by rfl) (by rfl) (World.news_of_block (cs := (outE (toldOut ⟨x0, x1, x2, x3, x4⟩)).toArray) (t := 58) (fr := (0, 0)) (heap_alloc_new w1 _)) (by simp [outE, Value.oneCell']) (by omega) (by unfold maxLen; omega) (by omega) (by simp; omega) (w1.heap.size + 1) (by simp) ?_
        intro g cp w2 hown2 hgrow hat hlt2
        refine wpList_nil ?_
        go_simp
        refine hK_.out _ _ ?_
        clear hK_ K_
        have hx_ := @calm_cell
        refine anyN_quiet (fuel := 0) ([]) (by kernel_rfl) (fun _ _ d _ _ h => by cases d <;> exact h) 1 35 _ _ (by kernel_rfl) ?_
        simp only [List.drop_succ_cons, List.drop_zero, List.take_succ_cons, List.take_zero]
        repeat (go_big_quiet_step (fail))
        refine wpQuiet_nil ?_
        clear hx_
        refine anyN_done (by kernel_rfl) ?_
        have hB2 : Below w.heap.size w w2 := ((hB_w1).alloc hB_w1.size _).grown hgrow (by simp; omega) (fun r hr => (hown1.lt r hr).1)
        go_wp2_with fail
        go_roundw
        case rel => exact ⟨k + 1, _, by omega, by omega, by go_num, rfl, by rw [hn.out]; exact hown2, hB2⟩
        case measure => simp [intOf]; omega
      · have e : toldsL (l.take k) = toldsL l := tolds_end l k (by omega)
        have el : (toldsL l).length = k := tolds_len l k hk hk6 (by omega)
        rw [e] at hown
        have HL := Lib.hid (show w.heap.size = w.heap.size ∧ (toldsL l).length = k from ⟨rfl, el⟩)
        clear e el
        go_wp2_with fail
        go_ret
        exact ⟨_, rfl, by rw [HL.out.2]; exact hown, hB⟩
    · have e : toldsL (l.take k) = toldsL l := tolds_end l k (by omega)
      have el : (toldsL l).length = k := tolds_len l k hk hk6 (by omega)
      rw [e] at hown
      have HL := Lib.hid (show w.heap.size = w.heap.size ∧ (toldsL l).length = k from ⟨rfl, el⟩)
      clear e el
      go_wp2_with fail
      go_ret
      exact ⟨_, rfl, by rw [HL.out.2]; exact hown, hB⟩
end Go.Proofs.Ytbfmjccbbkijlaa
