/- This text holds, one behind the other, the texts that say what the program computes, step by step, and the rules that they need. They have no condition of their own. -/
import Derived.Test.YtfkeddefajkobaaMe
import Derived.Test.YtfkeddefajkobaaMc
import Derived.Deep.Slices
import Derived.Test.YtfkeddefajkobaaMd
set_option linter.unusedSimpArgs false
set_option linter.unusedVariables false
set_option maxRecDepth 100000
set_option maxHeartbeats 4000000
namespace Go.Proofs.Ytfkeddefajkobaa
open Go.RowKit
theorem rsame_code : cfun Try.prog [] 48 = some ⟨(.seq (.region 0 [⟨(some 2), (.box (.t 0)), none⟩, ⟨(some 3), (.box (.t 1)), none⟩, ⟨(some 4), (.mov (.k (.bool false))), none⟩]) (.seq (.seq (.region 1 [⟨(some 6), (.fad 0 (.t 2)), none⟩, ⟨(some 7), (.load false 1 (.t 6)), none⟩, ⟨(some 8), (.len (.t 7)), none⟩, ⟨(some 9), (.fad 0 (.t 3)), none⟩, ⟨(some 10), (.load false 1 (.t 9)), none⟩, ⟨(some 11), (.len (.t 10)), none⟩, ⟨(some 12), (.bin .neq (.t 8) (.t 11)), none⟩]) (.cond 12 (.seq (.region 2 [⟨(some 4), (.mov (.k (.bool false))), none⟩]) .ret) .skip)) (.seq (.seq (.region 3 [⟨(some 5), (.mov (.k (.int .i64 0))), none⟩]) (.block 0 (.loop (.seq (.seq (.region 4 [⟨(some 13), (.mov (.t 5)), none⟩, ⟨(some 14), (.fad 0 (.t 2)), none⟩, ⟨(some 15), (.load false 1 (.t 14)), none⟩, ⟨(some 16), (.len (.t 15)), none⟩, ⟨(some 17), (.bin .lss (.t 13) (.t 16)), none⟩]) (.cond 17 .skip (.exit 0))) (.seq (.block 1 (.seq (.draw 6 (.one true ⟨(some 20), (.fad 0 (.t 2)), none⟩ (.one true ⟨(some 21), (.load false 1 (.t 20)), none⟩ (.one true ⟨(some 22), (.mov (.t 5)), none⟩ (.one true ⟨(some 23), (.iads 2 (.t 21) (.t 22)), none⟩ (.one true ⟨(some 24), (.load true 2 (.t 23)), none⟩ (.one true ⟨(some 25), (.fad 0 (.t 3)), none⟩ (.one true ⟨(some 26), (.load false 1 (.t 25)), none⟩ (.one true ⟨(some 27), (.mov (.t 5)), none⟩ (.one true ⟨(some 28), (.iads 2 (.t 26) (.t 27)), none⟩ (.one true ⟨(some 29), (.load true 2 (.t 28)), none⟩ (.one true ⟨(some 30), (.eqa true [.i, .i] (.t 24) (.t 29)), none⟩ .done)))))))))))) (.cond 30 (.seq (.region 7 [⟨(some 4), (.mov (.k (.bool false))), none⟩]) .ret) .skip))) (.region 5 [⟨(some 18), (.mov (.t 5)), none⟩, ⟨(some 19), (.bin .add (.t 18) (.k (.int .i64 1))), none⟩, ⟨(some 5), (.mov (.t 19)), none⟩])))))) (.seq (.region 8 [⟨(some 4), (.mov (.k (.bool true))), none⟩]) .ret)))), [(.t 4)], 31⟩ := by kernel_rfl
theorem rsame_pf (l : List (Int × Int)) (hl : l.length ≤ 1000000) : PF Try.prog 48 [.agg [.rows 2 (l.map spE)], .agg [.rows 2 (l.map spE)]] (.bool true) := by
  refine PF.of follows_ok rsame_code (by simp) (by simp [argOk]) (by simp [noV, noC]) fun B hBN hB0 => acode_sound [0, 1, 2, 3, 4, 5, 12, 17, 30] [] _ _ _ ?_
  simp [AK_at, acode_seq, acode_region, acode_draw, acode_cond, ↓CB_t, ↓CB_f, CB_u, acode_block, acode_loop, acode_exit, acode_scope, acode_ret, acode_skip, seqQ_n, seqQ_e, seqQ_r, blockQ_n, blockQ_e, blockQ_r, TK_at, OK_at, SK_at, aops_nil, aops_cons, asch_done, asch_one, asch_two, asch_top, astep, aop_eq, isLoud, aloud, aloud1, isWrite, qv, evS, strip, gof, eget, hget, putO, eput, herase, oks, opnds, gS, afin, afin0, binD, arith, D.cells, takeD, fillD, keep, trim, envOf, Fin, aresl, aresv, resD, argOk, pickV, isP, deq, deqs, boundD, slD, lenD, isT, isSl, ptrIds, chunks, mn_min, mx_max, D.cells, splice_one, splice_more, Rbr_at, Rfr_at, frR, frV, frC, flatC, brwR, brwV, brwC, omap, leR, leV, leC, leL, leVL]
  refine W.loopS (fun i : Nat => ⟨[(5, I i), (4, .bool false), (3, .ptr 1 0), (2, .ptr 0 0)], [(1, .cells [.rows 2 (l.map spE)]), (0, .cells [.rows 2 (l.map spE)])], 2⟩)
    (fun n i => n = l.length - i ∧ i ≤ l.length) ?_ ?_
  · exact ⟨_, 0, (Gh.ren [0, 1] (by simp [hB0]) (by simp [hB0] <;> decide) (by simp [eget, rnS, rnR, rnV, rnC, LtS, LtR, LtV, LtC, lget]) (by simp [hget, rnO, rnC, LtO, LtC, lget]) (.inl (by simp [lget]))), rfl, by omega⟩
  rintro n i ⟨hn, hi⟩
  refine acode_sound [0, 1, 2, 3, 4, 5, 12, 17, 30] [] _ _ _ ?_
  by_cases hlt : i < l.length
  · have ii : InR ((i : Int) + 1) := inG (by omega) (by omega)
    simp [AK_at, acode_seq, acode_region, acode_draw, acode_cond, ↓CB_t, ↓CB_f, CB_u, acode_block, acode_loop, acode_exit, acode_scope, acode_ret, acode_skip, seqQ_n, seqQ_e, seqQ_r, blockQ_n, blockQ_e, blockQ_r, TK_at, OK_at, SK_at, aops_nil, aops_cons, asch_done, asch_one, asch_two, asch_top, astep, aop_eq, isLoud, aloud, aloud1, isWrite, qv, evS, strip, gof, eget, hget, putO, eput, herase, oks, opnds, gS, afin, afin0, binD, arith, D.cells, takeD, fillD, keep, trim, envOf, Fin, aresl, aresv, resD, argOk, pickV, isP, deq, deqs, boundD, slD, lenD, isT, isSl, ptrIds, chunks, mn_min, mx_max, D.cells, splice_one, splice_more, Rbr_at, Rfr_at, frR, frV, frC, flatC, brwR, brwV, brwC, omap, leR, leV, leC, leL, leVL, hlt, spE, ii]
    exact ⟨_, i + 1, (Gh.ren [0, 1] (by simp [hB0]) (by simp [hB0] <;> decide) (by simp [eget, rnS, rnR, rnV, rnC, LtS, LtR, LtV, LtC, lget]) (by simp [hget, rnO, rnC, LtO, LtC, lget]) (.inl (by simp [lget]))), by omega, rfl, by omega⟩
  · obtain rfl : i = l.length := by omega
    simp [AK_at, acode_seq, acode_region, acode_draw, acode_cond, ↓CB_t, ↓CB_f, CB_u, acode_block, acode_loop, acode_exit, acode_scope, acode_ret, acode_skip, seqQ_n, seqQ_e, seqQ_r, blockQ_n, blockQ_e, blockQ_r, TK_at, OK_at, SK_at, aops_nil, aops_cons, asch_done, asch_one, asch_two, asch_top, astep, aop_eq, isLoud, aloud, aloud1, isWrite, qv, evS, strip, gof, eget, hget, putO, eput, herase, oks, opnds, gS, afin, afin0, binD, arith, D.cells, takeD, fillD, keep, trim, envOf, Fin, aresl, aresv, resD, argOk, pickV, isP, deq, deqs, boundD, slD, lenD, isT, isSl, ptrIds, chunks, mn_min, mx_max, D.cells, splice_one, splice_more, Rbr_at, Rfr_at, frR, frV, frC, flatC, brwR, brwV, brwC, omap, leR, leV, leC, leL, leVL]
/-- the weights behind some members -/
def rgStep (ws : List Nat) (r : List Int) : List Nat :=
  let b := (pickedZ (r.getD 0 0) 12).toNat
  if 0 < ws.getD b 0 then ws else ws.set b (1 + (pickedZ (r.getD 1 0) 8).toNat)
def rg0 : List Nat := [0, 0, 0, 0, 0, 0, 0, 0, 0, 0, 0, 0]
def rgL (l : List (List Int)) : List Nat := (l.take 20).foldl rgStep rg0
theorem rgL_inv (l : List (List Int)) : ∀ i, WOk ((l.take i).foldl rgStep rg0) := fun i => by
  suffices h : ∀ (m : List (List Int)) (ws : List Nat), WOk ws → WOk (m.foldl rgStep ws) from h _ _ ⟨rfl, by simp [rg0]⟩
  intro m
  induction m with
  | nil => exact fun ws h => h
  | cons r t ih =>
    intro ws h
    refine ih _ ?_
    unfold rgStep
    simp only
    split
    · exact h
    · have := pickedZ_range (r.getD 1 0) 8 (by omega)
      exact h.set _ _ (by omega)
theorem rgL_succ (l : List (List Int)) (i : Nat) (h : i < l.length) : (l.take (i + 1)).foldl rgStep rg0 = rgStep ((l.take i).foldl rgStep rg0) l[i] := by
  rw [List.take_succ_eq_append_getElem h, List.foldl_append]; rfl
theorem ring0 : ringM rg0 = [] := by
  have : wantM rg0 12 = [] := by simp [wantM, rg0, List.range_succ, spotsM]
  unfold ringM
  rw [this]
  exact List.mergeSort_nil
theorem ring0b : ringM [0, 0, 0, 0, 0, 0, 0, 0, 0, 0, 0, 0] = [] := ring0
theorem want_len_set (ws : List Nat) (h : WOk ws) (b w : Nat) (hb : b < 12) (h0 : ws.getD b 0 = 0) : (ringM (ws.set b w)).length = (ringM ws).length + 4 * w := by
  rw [← ring_add ws h b w hb h0, sortM_len, List.length_append, spotsM_len]
theorem rnN (f : Nat → Nat) : (rnC f ∘ fun w : Nat => I (w : Int)) = fun w : Nat => I (w : Int) := rfl
theorem spliceN (l : List Nat) (b w : Nat) (h : b < l.length) : splice (l.map fun w : Nat => I (w : Int)) b [D.int IntKind.i64 (w : Int)] = (l.set b w).map fun w : Nat => I (w : Int) := by
  rw [splice_one _ _ _ (by simpa using h), List.map_set]
theorem ringed_code : cfun Try.prog [] 46 = some ⟨(.seq (.region 0 [⟨(some 2), (.alloc [.nil0]), none⟩, ⟨(some 3), (.alloc [(.int .i64 0), (.int .i64 0), (.int .i64 0), (.int .i64 0), (.int .i64 0), (.int .i64 0), (.int .i64 0), (.int .i64 0), (.int .i64 0), (.int .i64 0), (.int .i64 0), (.int .i64 0)]), none⟩, ⟨(some 4), (.mov (.k (.bool false))), none⟩]) (.seq (.region 1 [⟨(some 5), (.alloc [.nil0]), none⟩]) (.seq (.region 2 [⟨(some 6), (.alloc [(.int .i64 0), (.int .i64 0), (.int .i64 0), (.int .i64 0), (.int .i64 0), (.int .i64 0), (.int .i64 0), (.int .i64 0), (.int .i64 0), (.int .i64 0), (.int .i64 0), (.int .i64 0)]), none⟩]) (.seq (.seq (.region 3 [⟨(some 7), (.mov (.k (.int .i64 0))), none⟩]) (.block 0 (.loop (.seq (.seq (.region 4 [⟨(some 11), (.mov (.t 7)), none⟩, ⟨(some 12), (.mov (.t 0)), none⟩, ⟨(some 13), (.len (.t 12)), none⟩, ⟨(some 14), (.bin .lss (.t 11) (.t 13)), none⟩, ⟨(some 15), (.mov (.t 14)), none⟩, ⟨(some 16), (.mov (.t 7)), (some (15, true))⟩, ⟨(some 17), (.bin .lss (.t 16) (.k (.int .i64 20))), (some (15, true))⟩, ⟨(some 18), (.pick (.t 15) (.t 17) (.k (.bool false))), none⟩]) (.cond 18 .skip (.exit 0))) (.seq (.block 1 (.seq (.region 6 [⟨(some 21), (.mov (.t 0)), none⟩, ⟨(some 22), (.mov (.t 7)), none⟩, ⟨(some 23), (.iads 2 (.t 21) (.t 22)), none⟩, ⟨(some 24), (.fad 0 (.t 23)), none⟩, ⟨(some 25), (.load false 1 (.t 24)), none⟩, ⟨(some 26), (.call 25 [(.t 25), (.k (.int .i64 12))]), none⟩, ⟨(some 8), (.mov (.t 26)), none⟩]) (.seq (.seq (.region 7 [⟨(some 27), (.mov (.t 8)), none⟩, ⟨(some 28), (.iada 12 1 (.t 6) (.t 27)), none⟩, ⟨(some 29), (.load false 1 (.t 28)), none⟩, ⟨(some 30), (.bin .gtr (.t 29) (.k (.int .i64 0))), none⟩]) (.cond 30 (.exit 1) .skip)) (.seq (.region 8 [⟨(some 31), (.mov (.t 8)), none⟩, ⟨(some 32), (.mov (.t 0)), none⟩, ⟨(some 33), (.mov (.t 7)), none⟩, ⟨(some 34), (.iads 2 (.t 32) (.t 33)), none⟩, ⟨(some 35), (.fad 1 (.t 34)), none⟩, ⟨(some 36), (.load false 1 (.t 35)), none⟩, ⟨(some 37), (.call 25 [(.t 36), (.k (.int .i64 8))]), none⟩, ⟨(some 38), (.bin .add (.k (.int .i64 1)) (.t 37)), none⟩, ⟨(some 39), (.iada 12 1 (.t 6) (.t 31)), none⟩, ⟨none, (.store 1 (.t 39) (.t 38)), none⟩]) (.seq (.draw 9 (.one true ⟨(some 41), (.load true 1 (.t 5)), none⟩ (.one true ⟨(some 42), (.mov (.t 8)), none⟩ (.one true ⟨(some 43), (.mov (.t 8)), none⟩ (.one true ⟨(some 44), (.iada 12 1 (.t 6) (.t 43)), none⟩ (.one true ⟨(some 45), (.load false 1 (.t 44)), none⟩ (.two (.one true ⟨(some 46), (.call 47 [(.t 41), (.t 42), (.t 45)]), none⟩ (.one true ⟨(some 40), (.mov (.t 46)), none⟩ (.one true ⟨(some 47), (.ext (.t 40) 0), none⟩ (.one true ⟨(some 48), (.ext (.t 40) 1), none⟩ (.one true ⟨(some 9), (.alloc [.nil0]), none⟩ (.one false ⟨none, (.store 1 (.t 9) (.t 47)), none⟩ (.one true ⟨(some 10), (.mov (.t 48)), none⟩ .done))))))) (.two (.one true ⟨(some 9), (.alloc [.nil0]), none⟩ (.one true ⟨(some 46), (.call 47 [(.t 41), (.t 42), (.t 45)]), none⟩ (.one true ⟨(some 40), (.mov (.t 46)), none⟩ (.one true ⟨(some 47), (.ext (.t 40) 0), none⟩ (.one true ⟨(some 48), (.ext (.t 40) 1), none⟩ (.one false ⟨none, (.store 1 (.t 9) (.t 47)), none⟩ (.one true ⟨(some 10), (.mov (.t 48)), none⟩ .done))))))) .top)))))))) (.seq (.seq (.draw 10 (.one true ⟨(some 49), (.mov (.t 10)), none⟩ (.one true ⟨(some 50), (.bin .neq (.t 49) (.k (.int .i64 0))), none⟩ (.one true ⟨(some 51), (.mov (.t 50)), none⟩ (.one true ⟨(some 52), (.fad 0 (.t 9)), (some (51, false))⟩ (.one true ⟨(some 53), (.load false 1 (.t 52)), (some (51, false))⟩ (.one true ⟨(some 54), (.len (.t 53)), (some (51, false))⟩ (.one true ⟨(some 55), (.fad 0 (.t 5)), (some (51, false))⟩ (.one true ⟨(some 56), (.load false 1 (.t 55)), (some (51, false))⟩ (.one true ⟨(some 57), (.len (.t 56)), (some (51, false))⟩ (.one true ⟨(some 58), (.mov (.t 8)), (some (51, false))⟩ (.one true ⟨(some 59), (.iada 12 1 (.t 6) (.t 58)), (some (51, false))⟩ (.one true ⟨(some 60), (.load false 1 (.t 59)), (some (51, false))⟩ (.one true ⟨(some 61), (.bin .mul (.k (.int .i64 4)) (.t 60)), (some (51, false))⟩ (.one true ⟨(some 62), (.bin .add (.t 57) (.t 61)), (some (51, false))⟩ (.one true ⟨(some 63), (.bin .neq (.t 54) (.t 62)), (some (51, false))⟩ (.one true ⟨(some 64), (.pick (.t 51) (.k (.bool true)) (.t 63)), none⟩ .done))))))))))))))))) (.cond 64 (.seq (.draw 11 (.one true ⟨(some 65), (.load true 1 (.t 5)), none⟩ (.two (.one true ⟨(some 66), (.load true 12 (.t 6)), none⟩ (.one false ⟨none, (.store 1 (.t 2) (.t 65)), none⟩ (.one false ⟨none, (.store 12 (.t 3) (.t 66)), none⟩ (.one true ⟨(some 4), (.mov (.k (.bool false))), none⟩ .done)))) (.two (.one false ⟨none, (.store 1 (.t 2) (.t 65)), none⟩ (.one true ⟨(some 66), (.load true 12 (.t 6)), none⟩ (.one false ⟨none, (.store 12 (.t 3) (.t 66)), none⟩ (.one true ⟨(some 4), (.mov (.k (.bool false))), none⟩ .done)))) .top)))) .ret) .skip)) (.region 12 [⟨(some 67), (.load true 1 (.t 9)), none⟩, ⟨none, (.store 1 (.t 5) (.t 67)), none⟩]))))))) (.region 5 [⟨(some 19), (.mov (.t 7)), none⟩, ⟨(some 20), (.bin .add (.t 19) (.k (.int .i64 1))), none⟩, ⟨(some 7), (.mov (.t 20)), none⟩])))))) (.seq (.draw 13 (.one true ⟨(some 68), (.load true 1 (.t 5)), none⟩ (.two (.one true ⟨(some 69), (.load true 12 (.t 6)), none⟩ (.one false ⟨none, (.store 1 (.t 2) (.t 68)), none⟩ (.one false ⟨none, (.store 12 (.t 3) (.t 69)), none⟩ (.one true ⟨(some 4), (.mov (.k (.bool true))), none⟩ .done)))) (.two (.one false ⟨none, (.store 1 (.t 2) (.t 68)), none⟩ (.one true ⟨(some 69), (.load true 12 (.t 6)), none⟩ (.one false ⟨none, (.store 12 (.t 3) (.t 69)), none⟩ (.one true ⟨(some 4), (.mov (.k (.bool true))), none⟩ .done)))) .top)))) .ret))))), [(.c 2 true 1), (.c 3 true 12), (.t 4)], 70⟩ := by kernel_rfl
theorem ringed_pf (l : List (List Int)) (hl : l.length ≤ Go.maxLen) (hr : ∀ r ∈ l, r.length = 2 ∧ ∀ z ∈ r, InR z) :
    PF Try.prog 46 [.rows 2 (l.map fun r => r.map I)] (.tup [.agg [.rows 2 ((ringM (rgL l)).map spE)], .agg ((rgL l).map fun w : Nat => I (w : Int)), .bool true]) := by
  refine PF.of follows_ok ringed_code (by simp) (by simp [argOk]) (by simp [noV, noC]) fun B hBN hB0 => acode_sound [0, 2, 3, 4, 5, 6, 7, 8, 9, 10, 18, 30, 64] [] _ _ _ ?_
  simp [AK_at, acode_seq, acode_region, acode_draw, acode_cond, ↓CB_t, ↓CB_f, CB_u, acode_block, acode_loop, acode_exit, acode_scope, acode_ret, acode_skip, seqQ_n, seqQ_e, seqQ_r, blockQ_n, blockQ_e, blockQ_r, TK_at, OK_at, SK_at, aops_nil, aops_cons, asch_done, asch_one, asch_two, asch_top, astep, aop_eq, isLoud, aloud, aloud1, isWrite, qv, evS, strip, gof, eget, hget, putO, eput, herase, oks, opnds, gS, afin, afin0, binD, arith, D.cells, takeD, fillD, keep, trim, envOf, Fin, aresl, aresv, resD, argOk, pickV, isP, deq, deqs, boundD, slD, lenD, isT, isSl, ptrIds, chunks, mn_min, mx_max, D.cells, splice_one, splice_more, Rbr_at, Rfr_at, frR, frV, frC, flatC, brwR, brwV, brwC, omap, leR, leV, leC, leL, leVL]
  refine W.loopS (fun i : Nat => ⟨[(7, I i), (6, .ptr 3 0), (5, .ptr 2 0), (4, .bool false), (3, .ptr 1 0), (2, .ptr 0 0), (0, .rows 2 (l.map fun r => r.map I))], [(3, .cells (((l.take i).foldl rgStep rg0).map fun w : Nat => I (w : Int))), (2, .cells [.rows 2 ((ringM ((l.take i).foldl rgStep rg0)).map spE)]), (1, .cells [I 0, I 0, I 0, I 0, I 0, I 0, I 0, I 0, I 0, I 0, I 0, I 0]), (0, .cells [.nil0])], 4⟩)
    (fun n i => n = l.length - i ∧ i ≤ l.length ∧ i ≤ 20) ?_ ?_
  · refine ⟨_, 0, (Gh.nilC 2 0 2 [.nil0] (by simp [hget]) rfl).trans ?_, rfl, by omega, by omega⟩
    simp [eput]
    exact (Gh.ren [0, 1, 2, 3] (by simp [hB0]) (by simp [hB0] <;> decide) (by simp [eget, rnS, rnR, rnV, rnC, LtS, LtR, LtV, LtC, lget, ring0b, rg0]) (by simp [hget, rnO, rnC, LtO, LtC, lget, ring0b, rg0]) (.inl (by simp [lget, ring0b, rg0])))
  rintro n i ⟨hn, hi, h20⟩
  refine acode_sound [0, 2, 3, 4, 5, 6, 7, 8, 9, 10, 18, 30, 64] [] _ _ _ ?_
  have hws := rgL_inv l i
  by_cases hlt : i < l.length ∧ i < 20
  · obtain ⟨hlt, hlt2⟩ := hlt
    have hst := rgL_succ l i hlt
    obtain ⟨ws, hw⟩ : ∃ ws, ws = (l.take i).foldl rgStep rg0 := ⟨_, rfl⟩
    rw [← hw] at hst hws
    obtain ⟨h2, hz⟩ := hr _ (List.getElem_mem hlt)
    obtain ⟨x, y, hxy⟩ : ∃ x y, l[i] = [x, y] := by
      match l[i], h2 with
      | [x, y], _ => exact ⟨x, y, rfl⟩
    rw [hxy] at hst hz
    have ix : InR x := hz _ (by simp)
    have iy : InR y := hz _ (by simp)
    have px := picked_pf x 12 ix (by omega)
    have py := picked_pf y 8 iy (by omega)
    have qx := pickedZ_range x 12 (by omega)
    have qy := pickedZ_range y 8 (by omega)
    have hz1 : (i : Int) < l.length := by omega
    have hz2 : (i : Int) < 20 := by omega
    have ii : InR ((i : Int) + 1) := inG (by omega) (by omega)
    have hst1 : rgStep ws [x, y] = if 0 < ws.getD (pickedZ x 12).toNat 0 then ws else ws.set (pickedZ x 12).toNat (1 + (pickedZ y 8).toNat) := rfl
    rw [hst1] at hst
    obtain ⟨b, hb⟩ : ∃ b : Nat, pickedZ x 12 = b := ⟨(pickedZ x 12).toNat, by omega⟩
    obtain ⟨w, hwv⟩ : ∃ w : Nat, 1 + pickedZ y 8 = w := ⟨(1 + pickedZ y 8).toNat, by omega⟩
    have hwv2 : 1 + (pickedZ y 8).toNat = w := by omega
    rw [hb] at px
    rw [hb, hwv2, Int.toNat_natCast] at hst
    have hb12 : b < 12 := by omega
    have hb1 : (b : Int) < 12 := by omega
    have hb2 : b ≤ 11 := by omega
    have hb3 : 0 < 12 - b := by omega
    have hl12 := hws.len
    obtain ⟨c, hc⟩ : ∃ c, c = ws.getD b 0 := ⟨_, rfl⟩
    rw [← hc] at hst
    have hat : ws[b]? = some c := by
      rw [List.getD_eq_getElem?_getD, List.getElem?_eq_getElem (by omega)] at hc
      rw [List.getElem?_eq_getElem (by omega)]
      simpa using hc.symm
    by_cases hc0 : 0 < c
    · rw [if_pos hc0] at hst
      have hcz : (0 : Int) < c := by omega
      repeat' (first
        | simp [AK_at, acode_seq, acode_region, acode_draw, acode_cond, ↓CB_t, ↓CB_f, CB_u, acode_block, acode_loop, acode_exit, acode_scope, acode_ret, acode_skip, seqQ_n, seqQ_e, seqQ_r, blockQ_n, blockQ_e, blockQ_r, TK_at, OK_at, SK_at, aops_nil, aops_cons, asch_done, asch_one, asch_two, asch_top, astep, aop_eq, isLoud, aloud, aloud1, isWrite, qv, evS, strip, gof, eget, hget, putO, eput, herase, oks, opnds, gS, afin, afin0, binD, arith, D.cells, takeD, fillD, keep, trim, envOf, Fin, aresl, aresv, resD, argOk, pickV, isP, deq, deqs, boundD, slD, lenD, isT, isSl, ptrIds, chunks, mn_min, mx_max, D.cells, splice_one, splice_more, Rbr_at, Rfr_at, frR, frV, frC, flatC, brwR, brwV, brwC, omap, leR, leV, leC, leL, leVL, ← hw, hxy, hlt, hz1, hz2, hb1, hb2, hb3, hl12, hat, hc0, ii]
        | (refine WCall.pf (px) ?_ ?_ ?_ ?_; (focus (simp [oks, opnds, gS, gof, eget]; done)); (focus (simp [omap, brwV, brwC, evS, eget, strip, hget, leVL, leV, leC, leL, ← hw, hxy, hlt, hz1, hz2, hb1, hb2, hb3, hl12, hat, hc0, ii]; done)); (focus (simp [noV, noC, flatR, flatV, flatC, evS, eget, strip, ← hw, hxy, hlt, hz1, hz2, hb1, hb2, hb3, hl12, hat, hc0, ii]; done)))
        | (refine ⟨WCall.pf (px) ?_ ?_ ?_ ?_, ?_⟩; (focus (simp [oks, opnds, gS, gof, eget]; done)); (focus (simp [omap, brwV, brwC, evS, eget, strip, hget, leVL, leV, leC, leL, ← hw, hxy, hlt, hz1, hz2, hb1, hb2, hb3, hl12, hat, hc0, ii]; done)); (focus (simp [noV, noC, flatR, flatV, flatC, evS, eget, strip, ← hw, hxy, hlt, hz1, hz2, hb1, hb2, hb3, hl12, hat, hc0, ii]; done)))
        | (with_reducible refine And.intro (And.intro ?_ ?_) ?_)
        | fail)
      all_goals exact ⟨_, i + 1, (Gh.ren [0, 1, 2, 3] (by simp [hB0]) (by simp [hB0] <;> decide) (by simp [eget, rnS, rnR, rnV, rnC, LtS, LtR, LtV, LtC, lget, hst, rnN]) (by simp [hget, rnO, rnC, LtO, LtC, lget, hst, rnN]) (.inl (by simp [lget, hst, rnN]))), by omega, rfl, by omega, by omega⟩
    · rw [if_neg hc0] at hst
      obtain rfl : c = 0 := by omega
      have hadd := radd_pf ws hws b w hb12 (by omega) hc.symm
      have hlen := want_len_set ws hws b w hb12 hc.symm
      have iw : InR (w : Int) := inG (by omega) (by omega)
      obtain ⟨ws2, hws2⟩ : ∃ ws2, ws2 = ws.set b w := ⟨_, rfl⟩
      have hspl := spliceN ws b w (by omega)
      have hat2 : (ws.set b w)[b]? = some w := by simp [hl12, hb12]
      have hsl12 : (ws.set b w).length = 12 := by simp [hl12]
      rw [← hws2] at hspl hat2 hsl12 hlen hadd hst
      have hrl := ringM_len ws hws
      have i4 : InR (4 * (w : Int)) := inG (by omega) (by omega)
      have i5 : InR (((ringM ws).length : Int) + 4 * w) := inG (by omega) (by omega)
      repeat' (first
        | simp [AK_at, acode_seq, acode_region, acode_draw, acode_cond, ↓CB_t, ↓CB_f, CB_u, acode_block, acode_loop, acode_exit, acode_scope, acode_ret, acode_skip, seqQ_n, seqQ_e, seqQ_r, blockQ_n, blockQ_e, blockQ_r, TK_at, OK_at, SK_at, aops_nil, aops_cons, asch_done, asch_one, asch_two, asch_top, astep, aop_eq, isLoud, aloud, aloud1, isWrite, qv, evS, strip, gof, eget, hget, putO, eput, herase, oks, opnds, gS, afin, afin0, binD, arith, D.cells, takeD, fillD, keep, trim, envOf, Fin, aresl, aresv, resD, argOk, pickV, isP, deq, deqs, boundD, slD, lenD, isT, isSl, ptrIds, chunks, mn_min, mx_max, D.cells, splice_one, splice_more, Rbr_at, Rfr_at, frR, frV, frC, flatC, brwR, brwV, brwC, omap, leR, leV, leC, leL, leVL, ← hw, hxy, hlt, hz1, hz2, hb1, hb2, hb3, hl12, hat, ii, hwv, iw, hspl, hat2, hsl12, hlen, i4, i5]
        | (refine WCall.pf (px) ?_ ?_ ?_ ?_; (focus (simp [oks, opnds, gS, gof, eget]; done)); (focus (simp [omap, brwV, brwC, evS, eget, strip, hget, leVL, leV, leC, leL, ← hw, hxy, hlt, hz1, hz2, hb1, hb2, hb3, hl12, hat, ii, hwv, iw, hspl, hat2, hsl12, hlen, i4, i5]; done)); (focus (simp [noV, noC, flatR, flatV, flatC, evS, eget, strip, ← hw, hxy, hlt, hz1, hz2, hb1, hb2, hb3, hl12, hat, ii, hwv, iw, hspl, hat2, hsl12, hlen, i4, i5]; done)))
        | (refine ⟨WCall.pf (px) ?_ ?_ ?_ ?_, ?_⟩; (focus (simp [oks, opnds, gS, gof, eget]; done)); (focus (simp [omap, brwV, brwC, evS, eget, strip, hget, leVL, leV, leC, leL, ← hw, hxy, hlt, hz1, hz2, hb1, hb2, hb3, hl12, hat, ii, hwv, iw, hspl, hat2, hsl12, hlen, i4, i5]; done)); (focus (simp [noV, noC, flatR, flatV, flatC, evS, eget, strip, ← hw, hxy, hlt, hz1, hz2, hb1, hb2, hb3, hl12, hat, ii, hwv, iw, hspl, hat2, hsl12, hlen, i4, i5]; done)))
        | (refine WCall.pf (py) ?_ ?_ ?_ ?_; (focus (simp [oks, opnds, gS, gof, eget]; done)); (focus (simp [omap, brwV, brwC, evS, eget, strip, hget, leVL, leV, leC, leL, ← hw, hxy, hlt, hz1, hz2, hb1, hb2, hb3, hl12, hat, ii, hwv, iw, hspl, hat2, hsl12, hlen, i4, i5]; done)); (focus (simp [noV, noC, flatR, flatV, flatC, evS, eget, strip, ← hw, hxy, hlt, hz1, hz2, hb1, hb2, hb3, hl12, hat, ii, hwv, iw, hspl, hat2, hsl12, hlen, i4, i5]; done)))
        | (refine ⟨WCall.pf (py) ?_ ?_ ?_ ?_, ?_⟩; (focus (simp [oks, opnds, gS, gof, eget]; done)); (focus (simp [omap, brwV, brwC, evS, eget, strip, hget, leVL, leV, leC, leL, ← hw, hxy, hlt, hz1, hz2, hb1, hb2, hb3, hl12, hat, ii, hwv, iw, hspl, hat2, hsl12, hlen, i4, i5]; done)); (focus (simp [noV, noC, flatR, flatV, flatC, evS, eget, strip, ← hw, hxy, hlt, hz1, hz2, hb1, hb2, hb3, hl12, hat, ii, hwv, iw, hspl, hat2, hsl12, hlen, i4, i5]; done)))
        | (refine WCall.pf (hadd) ?_ ?_ ?_ ?_; (focus (simp [oks, opnds, gS, gof, eget]; done)); (focus (simp [omap, brwV, brwC, evS, eget, strip, hget, leVL, leV, leC, leL, ← hw, hxy, hlt, hz1, hz2, hb1, hb2, hb3, hl12, hat, ii, hwv, iw, hspl, hat2, hsl12, hlen, i4, i5]; done)); (focus (simp [noV, noC, flatR, flatV, flatC, evS, eget, strip, ← hw, hxy, hlt, hz1, hz2, hb1, hb2, hb3, hl12, hat, ii, hwv, iw, hspl, hat2, hsl12, hlen, i4, i5]; done)))
        | (refine ⟨WCall.pf (hadd) ?_ ?_ ?_ ?_, ?_⟩; (focus (simp [oks, opnds, gS, gof, eget]; done)); (focus (simp [omap, brwV, brwC, evS, eget, strip, hget, leVL, leV, leC, leL, ← hw, hxy, hlt, hz1, hz2, hb1, hb2, hb3, hl12, hat, ii, hwv, iw, hspl, hat2, hsl12, hlen, i4, i5]; done)); (focus (simp [noV, noC, flatR, flatV, flatC, evS, eget, strip, ← hw, hxy, hlt, hz1, hz2, hb1, hb2, hb3, hl12, hat, ii, hwv, iw, hspl, hat2, hsl12, hlen, i4, i5]; done)))
        | (with_reducible refine And.intro (And.intro ?_ ?_) ?_)
        | fail)
      all_goals exact ⟨_, i + 1, (Gh.ren [0, 1, 2, 3] (by simp [hB0]) (by simp [hB0] <;> decide) (by simp [eget, rnS, rnR, rnV, rnC, LtS, LtR, LtV, LtC, lget, hst, rnN]) (by simp [hget, rnO, rnC, LtO, LtC, lget, hst, rnN]) (.inl (by simp [lget, hst, rnN]))), by omega, rfl, by omega, by omega⟩
  · have hcl : (l.take i).foldl rgStep rg0 = rgL l := by
      unfold rgL
      by_cases h1 : i = 20
      · rw [h1]
      · rw [List.take_of_length_le (show l.length ≤ i by omega), List.take_of_length_le (show l.length ≤ 20 by omega)]
    rw [hcl] at hws ⊢
    have hl12 := hws.len
    have hs0 := spl12 hws.len
    have htw : ((rgL l).map fun w : Nat => I (w : Int)).take 12 = (rgL l).map fun w : Nat => I (w : Int) := List.take_of_length_le (by simp [hl12])
    by_cases hlt1 : i < l.length
    · obtain rfl : i = 20 := by omega
      have hz1 : (20 : Int) < l.length := by omega
      simp [AK_at, acode_seq, acode_region, acode_draw, acode_cond, ↓CB_t, ↓CB_f, CB_u, acode_block, acode_loop, acode_exit, acode_scope, acode_ret, acode_skip, seqQ_n, seqQ_e, seqQ_r, blockQ_n, blockQ_e, blockQ_r, TK_at, OK_at, SK_at, aops_nil, aops_cons, asch_done, asch_one, asch_two, asch_top, astep, aop_eq, isLoud, aloud, aloud1, isWrite, qv, evS, strip, gof, eget, hget, putO, eput, herase, oks, opnds, gS, afin, afin0, binD, arith, D.cells, takeD, fillD, keep, trim, envOf, Fin, aresl, aresv, resD, argOk, pickV, isP, deq, deqs, boundD, slD, lenD, isT, isSl, ptrIds, chunks, mn_min, mx_max, D.cells, splice_one, splice_more, Rbr_at, Rfr_at, frR, frV, frC, flatC, brwR, brwV, brwC, omap, leR, leV, leC, leL, leVL, hlt1, hz1, hl12, hs0, htw, omapI, leLI]
    · have hz1 : ¬ (i : Int) < l.length := by omega
      simp [AK_at, acode_seq, acode_region, acode_draw, acode_cond, ↓CB_t, ↓CB_f, CB_u, acode_block, acode_loop, acode_exit, acode_scope, acode_ret, acode_skip, seqQ_n, seqQ_e, seqQ_r, blockQ_n, blockQ_e, blockQ_r, TK_at, OK_at, SK_at, aops_nil, aops_cons, asch_done, asch_one, asch_two, asch_top, astep, aop_eq, isLoud, aloud, aloud1, isWrite, qv, evS, strip, gof, eget, hget, putO, eput, herase, oks, opnds, gS, afin, afin0, binD, arith, D.cells, takeD, fillD, keep, trim, envOf, Fin, aresl, aresv, resD, argOk, pickV, isP, deq, deqs, boundD, slD, lenD, isT, isSl, ptrIds, chunks, mn_min, mx_max, D.cells, splice_one, splice_more, Rbr_at, Rfr_at, frR, frV, frC, flatC, brwR, brwV, brwC, omap, leR, leV, leC, leL, leVL, hlt1, hz1, hl12, hs0, htw, omapI, leLI]
end Go.Proofs.Ytfkeddefajkobaa

set_option linter.unusedSimpArgs false
set_option linter.unusedVariables false
set_option maxRecDepth 100000
set_option maxHeartbeats 4000000
namespace Go.Proofs.Ytfkeddefajkobaa
open Go.RowKit
theorem rgStep_pos (ws : List Nat) (r : List Int) (h : WOk ws) : ∃ b, b < 12 ∧ 0 < (rgStep ws r).getD b 0 := by
  have q := pickedZ_range (r.getD 0 0) 12 (by omega)
  refine ⟨(pickedZ (r.getD 0 0) 12).toNat, by omega, ?_⟩
  unfold rgStep
  simp only
  split
  · assumption
  · have : (pickedZ (r.getD 0 0) 12).toNat < ws.length := by rw [h.len]; omega
    rw [List.getD_eq_getElem?_getD, List.getElem?_set_self this]
    show 0 < 1 + (pickedZ (r.getD 1 0) 8).toNat
    omega
theorem rgL_pos (l : List (List Int)) (h : l ≠ []) : 0 < (ringM (rgL l)).length := by
  have hl : 0 < l.length := List.length_pos_iff.2 h
  obtain ⟨i, hi⟩ : ∃ i, min 20 l.length = i + 1 := ⟨min 20 l.length - 1, by omega⟩
  have e : rgL l = rgStep ((l.take i).foldl rgStep rg0) (l[i]'(by omega)) := by
    rw [← rgL_succ l i (by omega)]
    unfold rgL
    by_cases h20 : 20 ≤ l.length
    · rw [show i + 1 = 20 by omega]
    · rw [List.take_of_length_le (show l.length ≤ 20 by omega), List.take_of_length_le (show l.length ≤ i + 1 by omega)]
  obtain ⟨b, hb, hp⟩ := rgStep_pos ((l.take i).foldl rgStep rg0) (l[i]'(by omega)) (rgL_inv l i)
  rw [← e] at hp
  have h1 := cnt_ring (rgL l) b hb
  have h2 := List.countP_le_length (p := isB b) (l := ringM (rgL l))
  omega
def dnM (ws : List Nat) (k : Nat) : List Nat := (List.range 12).map fun j => if k ≤ j then ws.getD j 0 else 0
theorem dnM_len (ws : List Nat) (k : Nat) : (dnM ws k).length = 12 := by simp [dnM]
theorem dnM_ok {ws : List Nat} (h : WOk ws) (k : Nat) : WOk (dnM ws k) := ⟨dnM_len ws k, fun w hw => by
  obtain ⟨j, hj, rfl⟩ := List.mem_map.1 hw
  have hj := List.mem_range.1 hj
  split
  · rw [List.getD_eq_getElem?_getD, List.getElem?_eq_getElem (by rw [h.len]; exact hj)]
    exact h.le _ (List.getElem_mem _)
  · omega⟩
theorem dnM_12 (ws : List Nat) : dnM ws 12 = rg0 := by simp [dnM, rg0, List.range_succ]
theorem dnM_0 {ws : List Nat} (h : WOk ws) : dnM ws 0 = ws := by
  refine List.ext_getElem (by rw [dnM_len, h.len]) fun j h1 h2 => ?_
  have hj : j < 12 := by rw [dnM_len] at h1; exact h1
  simp [dnM, List.getElem?_eq_getElem h2]
theorem dnM_at (ws : List Nat) (k : Nat) (hk : k < 12) : (dnM ws (k + 1)).getD k 0 = 0 := by
  have : ¬ k + 1 ≤ k := by omega
  simp [dnM, List.getD_eq_getElem?_getD, List.getElem?_range, hk, this]
theorem dnM_set (ws : List Nat) (k : Nat) (hk : k < 12) : (dnM ws (k + 1)).set k (ws.getD k 0) = dnM ws k := by
  refine List.ext_getElem (by simp [dnM]) fun j h1 h2 => ?_
  rw [List.getElem_set]
  simp only [dnM, List.getElem_map, List.getElem_range]
  by_cases h : k = j
  · subst h; rw [if_pos rfl, if_pos (by omega)]
  · rw [if_neg h]
    by_cases h3 : k ≤ j
    · rw [if_pos h3, if_pos (by omega)]
    · rw [if_neg h3, if_neg (by omega)]
theorem dnM_same (ws : List Nat) (k : Nat) (hk : k < 12) (h0 : ws.getD k 0 = 0) : dnM ws k = dnM ws (k + 1) := by
  rw [← dnM_set ws k hk, h0]
  refine List.ext_getElem (by simp) fun j h1 h2 => ?_
  rw [List.getElem_set]
  by_cases h : k = j
  · subst h
    have : ¬ k + 1 ≤ k := by omega
    simp [dnM, this]
  · rw [if_neg h]
theorem rturn_code : cfun Try.prog [] 17 = some ⟨(.seq (.region 0 [⟨(some 2), (.mov (.k (.bool false))), none⟩]) (.seq (.region 1 [⟨(some 11), (.mov (.t 0)), none⟩, ⟨(some 12), (.call 46 [(.t 11)]), none⟩, ⟨(some 10), (.mov (.t 12)), none⟩, ⟨(some 13), (.ext (.t 10) 0), none⟩, ⟨(some 14), (.ext (.t 10) 1), none⟩, ⟨(some 15), (.ext (.t 10) 2), none⟩, ⟨(some 3), (.alloc [.nil0]), none⟩, ⟨(some 4), (.alloc [(.int .i64 0), (.int .i64 0), (.int .i64 0), (.int .i64 0), (.int .i64 0), (.int .i64 0), (.int .i64 0), (.int .i64 0), (.int .i64 0), (.int .i64 0), (.int .i64 0), (.int .i64 0)]), none⟩, ⟨none, (.store 1 (.t 3) (.t 13)), none⟩, ⟨none, (.store 12 (.t 4) (.t 14)), none⟩, ⟨(some 5), (.mov (.t 15)), none⟩]) (.seq (.region 2 [⟨(some 6), (.alloc [.nil0]), none⟩]) (.seq (.seq (.region 3 [⟨(some 7), (.mov (.k (.int .i64 11))), none⟩]) (.block 0 (.loop (.seq (.seq (.region 4 [⟨(some 16), (.mov (.t 7)), none⟩, ⟨(some 17), (.bin .geq (.t 16) (.k (.int .i64 0))), none⟩]) (.cond 17 .skip (.exit 0))) (.seq (.block 1 (.seq (.seq (.region 6 [⟨(some 20), (.mov (.t 7)), none⟩, ⟨(some 21), (.iada 12 1 (.t 4) (.t 20)), none⟩, ⟨(some 22), (.load false 1 (.t 21)), none⟩, ⟨(some 23), (.bin .eql (.t 22) (.k (.int .i64 0))), none⟩]) (.cond 23 (.exit 1) .skip)) (.seq (.draw 7 (.one true ⟨(some 25), (.load true 1 (.t 6)), none⟩ (.one true ⟨(some 26), (.mov (.t 7)), none⟩ (.one true ⟨(some 27), (.mov (.t 7)), none⟩ (.one true ⟨(some 28), (.iada 12 1 (.t 4) (.t 27)), none⟩ (.one true ⟨(some 29), (.load false 1 (.t 28)), none⟩ (.two (.one true ⟨(some 30), (.call 47 [(.t 25), (.t 26), (.t 29)]), none⟩ (.one true ⟨(some 24), (.mov (.t 30)), none⟩ (.one true ⟨(some 31), (.ext (.t 24) 0), none⟩ (.one true ⟨(some 32), (.ext (.t 24) 1), none⟩ (.one true ⟨(some 8), (.alloc [.nil0]), none⟩ (.one false ⟨none, (.store 1 (.t 8) (.t 31)), none⟩ (.one true ⟨(some 9), (.mov (.t 32)), none⟩ .done))))))) (.two (.one true ⟨(some 8), (.alloc [.nil0]), none⟩ (.one true ⟨(some 30), (.call 47 [(.t 25), (.t 26), (.t 29)]), none⟩ (.one true ⟨(some 24), (.mov (.t 30)), none⟩ (.one true ⟨(some 31), (.ext (.t 24) 0), none⟩ (.one true ⟨(some 32), (.ext (.t 24) 1), none⟩ (.one false ⟨none, (.store 1 (.t 8) (.t 31)), none⟩ (.one true ⟨(some 9), (.mov (.t 32)), none⟩ .done))))))) .top)))))))) (.seq (.seq (.region 8 [⟨(some 33), (.mov (.t 9)), none⟩, ⟨(some 34), (.bin .neq (.t 33) (.k (.int .i64 0))), none⟩]) (.cond 34 (.seq (.region 9 [⟨(some 2), (.mov (.k (.bool false))), none⟩]) .ret) .skip)) (.region 10 [⟨(some 35), (.load true 1 (.t 8)), none⟩, ⟨none, (.store 1 (.t 6) (.t 35)), none⟩]))))) (.region 5 [⟨(some 18), (.mov (.t 7)), none⟩, ⟨(some 19), (.bin .sub (.t 18) (.k (.int .i64 1))), none⟩, ⟨(some 7), (.mov (.t 19)), none⟩])))))) (.seq (.region 11 [⟨(some 36), (.mov (.t 5)), none⟩, ⟨(some 37), (.mov (.t 36)), none⟩, ⟨(some 38), (.load true 1 (.t 3)), (some (37, true))⟩, ⟨(some 39), (.load true 1 (.t 6)), (some (37, true))⟩, ⟨(some 40), (.call 48 [(.t 38), (.t 39)]), (some (37, true))⟩, ⟨(some 41), (.pick (.t 37) (.t 40) (.k (.bool false))), none⟩, ⟨(some 42), (.mov (.t 41)), none⟩, ⟨(some 43), (.mov (.t 0)), (some (42, true))⟩, ⟨(some 44), (.len (.t 43)), (some (42, true))⟩, ⟨(some 45), (.bin .eql (.t 44) (.k (.int .i64 0))), (some (42, true))⟩, ⟨(some 46), (.mov (.t 45)), (some (42, true))⟩, ⟨(some 47), (.fad 0 (.t 3)), (some (46, false))⟩, ⟨(some 48), (.load false 1 (.t 47)), (some (46, false))⟩, ⟨(some 49), (.len (.t 48)), (some (46, false))⟩, ⟨(some 50), (.bin .gtr (.t 49) (.k (.int .i64 0))), (some (46, false))⟩, ⟨(some 51), (.pick (.t 46) (.k (.bool true)) (.t 50)), (some (42, true))⟩, ⟨(some 52), (.pick (.t 42) (.t 51) (.k (.bool false))), none⟩, ⟨(some 2), (.mov (.t 52)), none⟩]) .ret))))), [(.t 2)], 53⟩ := by kernel_rfl
theorem rturn_pf (l : List (List Int)) (hl : l.length ≤ Go.maxLen) (hr : ∀ r ∈ l, r.length = 2 ∧ ∀ z ∈ r, InR z) : PF Try.prog 17 [.rows 2 (l.map fun r => r.map I)] (.bool true) := by
  have hrg := ringed_pf l hl hr
  have hpos := rgL_pos l
  have hws : WOk (rgL l) := rgL_inv l 20
  generalize rgL l = ws at hrg hpos hws
  have hl12 := hws.len
  have hs0 := spl12 hws.len
  have htw : (ws.map fun w : Nat => I (w : Int)).take 12 = ws.map fun w : Nat => I (w : Int) := List.take_of_length_le (by simp [hl12])
  have hrl := ringM_len ws hws
  refine PF.of follows_ok rturn_code (by simp) (by simp [argOk]) (by simp [noV, noC]) fun B hBN hB0 => acode_sound [0, 2, 3, 4, 5, 6, 7, 8, 9, 17, 23, 34] [] _ _ _ ?_
  repeat' (first
    | simp [AK_at, acode_seq, acode_region, acode_draw, acode_cond, ↓CB_t, ↓CB_f, CB_u, acode_block, acode_loop, acode_exit, acode_scope, acode_ret, acode_skip, seqQ_n, seqQ_e, seqQ_r, blockQ_n, blockQ_e, blockQ_r, TK_at, OK_at, SK_at, aops_nil, aops_cons, asch_done, asch_one, asch_two, asch_top, astep, aop_eq, isLoud, aloud, aloud1, isWrite, qv, evS, strip, gof, eget, hget, putO, eput, herase, oks, opnds, gS, afin, afin0, binD, arith, D.cells, takeD, fillD, keep, trim, envOf, Fin, aresl, aresv, resD, argOk, pickV, isP, deq, deqs, boundD, slD, lenD, isT, isSl, ptrIds, chunks, mn_min, mx_max, D.cells, splice_one, splice_more, Rbr_at, Rfr_at, frR, frV, frC, flatC, brwR, brwV, brwC, omap, leR, leV, leC, leL, leVL, hl12, hs0, htw]
    | (refine WCall.pf (hrg) ?_ ?_ ?_ ?_; (focus (simp [oks, opnds, gS, gof, eget]; done)); (focus (simp [omap, brwV, brwC, evS, eget, strip, hget, leVL, leV, leC, leL, hl12, hs0, htw]; done)); (focus (simp [noV, noC, flatR, flatV, flatC, evS, eget, strip, hl12, hs0, htw]; done)))
    | (refine ⟨WCall.pf (hrg) ?_ ?_ ?_ ?_, ?_⟩; (focus (simp [oks, opnds, gS, gof, eget]; done)); (focus (simp [omap, brwV, brwC, evS, eget, strip, hget, leVL, leV, leC, leL, hl12, hs0, htw]; done)); (focus (simp [noV, noC, flatR, flatV, flatC, evS, eget, strip, hl12, hs0, htw]; done)))
    | (with_reducible refine And.intro (And.intro ?_ ?_) ?_)
    | fail)
  refine W.loopS (fun k : Nat => ⟨[(7, I ((k : Int) - 1)), (6, .ptr 2 0), (5, .bool true), (4, .ptr 1 0), (3, .ptr 0 0), (2, .bool false), (0, .rows 2 (l.map fun r => r.map I))], [(2, .cells [.rows 2 ((ringM (dnM ws k)).map spE)]), (1, .cells (ws.map fun w : Nat => I (w : Int))), (0, .cells [.rows 2 ((ringM ws).map spE)])], 3⟩)
    (fun n k => n = k ∧ k ≤ 12) ?_ ?_
  · refine ⟨_, 12, (Gh.nilC 2 0 2 [.nil0] (by simp [hget]) rfl).trans ?_, rfl, by omega⟩
    simp [eput]
    exact (Gh.ren [0, 1, 2] (by simp [hB0]) (by simp [hB0] <;> decide) (by simp [eget, rnS, rnR, rnV, rnC, LtS, LtR, LtV, LtC, lget, dnM_12, ring0, rnN]) (by simp [hget, rnO, rnC, LtO, LtC, lget, dnM_12, ring0, rnN]) (.inl (by simp [lget, dnM_12, ring0, rnN])))
  rintro n k ⟨rfl, hk⟩
  refine acode_sound [0, 2, 3, 4, 5, 6, 7, 8, 9, 17, 23, 34] [] _ _ _ ?_
  cases n with
  | zero =>
    rw [dnM_0 hws]
    have hsm := rsame_pf (ringM ws) (by omega)
    by_cases h0 : l = []
    · subst h0
      repeat' (first
        | simp [AK_at, acode_seq, acode_region, acode_draw, acode_cond, ↓CB_t, ↓CB_f, CB_u, acode_block, acode_loop, acode_exit, acode_scope, acode_ret, acode_skip, seqQ_n, seqQ_e, seqQ_r, blockQ_n, blockQ_e, blockQ_r, TK_at, OK_at, SK_at, aops_nil, aops_cons, asch_done, asch_one, asch_two, asch_top, astep, aop_eq, isLoud, aloud, aloud1, isWrite, qv, evS, strip, gof, eget, hget, putO, eput, herase, oks, opnds, gS, afin, afin0, binD, arith, D.cells, takeD, fillD, keep, trim, envOf, Fin, aresl, aresv, resD, argOk, pickV, isP, deq, deqs, boundD, slD, lenD, isT, isSl, ptrIds, chunks, mn_min, mx_max, D.cells, splice_one, splice_more, Rbr_at, Rfr_at, frR, frV, frC, flatC, brwR, brwV, brwC, omap, leR, leV, leC, leL, leVL, ]
        | (refine WCall.pf (hsm) ?_ ?_ ?_ ?_; (focus (simp [oks, opnds, gS, gof, eget]; done)); (focus (simp [omap, brwV, brwC, evS, eget, strip, hget, leVL, leV, leC, leL, ]; done)); (focus (simp [noV, noC, flatR, flatV, flatC, evS, eget, strip, ]; done)))
        | (refine ⟨WCall.pf (hsm) ?_ ?_ ?_ ?_, ?_⟩; (focus (simp [oks, opnds, gS, gof, eget]; done)); (focus (simp [omap, brwV, brwC, evS, eget, strip, hget, leVL, leV, leC, leL, ]; done)); (focus (simp [noV, noC, flatR, flatV, flatC, evS, eget, strip, ]; done)))
        | (with_reducible refine And.intro (And.intro ?_ ?_) ?_)
        | fail)
    · have hp := hpos h0
      have h1 : ¬ l.length = 0 := fun e => h0 (List.eq_nil_of_length_eq_zero e)
      have h2 : ¬ (ringM ws) = [] := fun e => by rw [e] at hp; simp at hp
      repeat' (first
        | simp [AK_at, acode_seq, acode_region, acode_draw, acode_cond, ↓CB_t, ↓CB_f, CB_u, acode_block, acode_loop, acode_exit, acode_scope, acode_ret, acode_skip, seqQ_n, seqQ_e, seqQ_r, blockQ_n, blockQ_e, blockQ_r, TK_at, OK_at, SK_at, aops_nil, aops_cons, asch_done, asch_one, asch_two, asch_top, astep, aop_eq, isLoud, aloud, aloud1, isWrite, qv, evS, strip, gof, eget, hget, putO, eput, herase, oks, opnds, gS, afin, afin0, binD, arith, D.cells, takeD, fillD, keep, trim, envOf, Fin, aresl, aresv, resD, argOk, pickV, isP, deq, deqs, boundD, slD, lenD, isT, isSl, ptrIds, chunks, mn_min, mx_max, D.cells, splice_one, splice_more, Rbr_at, Rfr_at, frR, frV, frC, flatC, brwR, brwV, brwC, omap, leR, leV, leC, leL, leVL, h0, h1, h2, hp]
        | (refine WCall.pf (hsm) ?_ ?_ ?_ ?_; (focus (simp [oks, opnds, gS, gof, eget]; done)); (focus (simp [omap, brwV, brwC, evS, eget, strip, hget, leVL, leV, leC, leL, h0, h1, h2, hp]; done)); (focus (simp [noV, noC, flatR, flatV, flatC, evS, eget, strip, h0, h1, h2, hp]; done)))
        | (refine ⟨WCall.pf (hsm) ?_ ?_ ?_ ?_, ?_⟩; (focus (simp [oks, opnds, gS, gof, eget]; done)); (focus (simp [omap, brwV, brwC, evS, eget, strip, hget, leVL, leV, leC, leL, h0, h1, h2, hp]; done)); (focus (simp [noV, noC, flatR, flatV, flatC, evS, eget, strip, h0, h1, h2, hp]; done)))
        | (with_reducible refine And.intro (And.intro ?_ ?_) ?_)
        | fail)
  | succ k =>
    have hk12 : k < 12 := by omega
    have hset := dnM_set ws k hk12
    obtain ⟨w, hw⟩ : ∃ w, w = ws.getD k 0 := ⟨_, rfl⟩
    rw [← hw] at hset
    have hw8 : w ≤ 8 := by
      rw [hw, List.getD_eq_getElem?_getD, List.getElem?_eq_getElem (by omega)]
      exact hws.le _ (List.getElem_mem _)
    have hat : ws[k]? = some w := by
      rw [List.getD_eq_getElem?_getD, List.getElem?_eq_getElem (by omega)] at hw
      rw [List.getElem?_eq_getElem (by omega)]
      simpa using hw.symm
    have ii : InR ((k : Int) - 1) := inG (by omega) (by omega)
    have hb1 : (k : Int) < 12 := by omega
    have hb2 : k ≤ 11 := by omega
    have hb3 : 0 < 12 - k := by omega
    have hz0 : (0 : Int) ≤ k := by omega
    by_cases h0 : w = 0
    · subst h0
      have hsame := dnM_same ws k hk12 hw.symm
      repeat' (first
        | simp [AK_at, acode_seq, acode_region, acode_draw, acode_cond, ↓CB_t, ↓CB_f, CB_u, acode_block, acode_loop, acode_exit, acode_scope, acode_ret, acode_skip, seqQ_n, seqQ_e, seqQ_r, blockQ_n, blockQ_e, blockQ_r, TK_at, OK_at, SK_at, aops_nil, aops_cons, asch_done, asch_one, asch_two, asch_top, astep, aop_eq, isLoud, aloud, aloud1, isWrite, qv, evS, strip, gof, eget, hget, putO, eput, herase, oks, opnds, gS, afin, afin0, binD, arith, D.cells, takeD, fillD, keep, trim, envOf, Fin, aresl, aresv, resD, argOk, pickV, isP, deq, deqs, boundD, slD, lenD, isT, isSl, ptrIds, chunks, mn_min, mx_max, D.cells, splice_one, splice_more, Rbr_at, Rfr_at, frR, frV, frC, flatC, brwR, brwV, brwC, omap, leR, leV, leC, leL, leVL, hl12, hat, ii, hb1, hb2, hb3, hz0]
        | (refine WCall.pf (hrg) ?_ ?_ ?_ ?_; (focus (simp [oks, opnds, gS, gof, eget]; done)); (focus (simp [omap, brwV, brwC, evS, eget, strip, hget, leVL, leV, leC, leL, hl12, hat, ii, hb1, hb2, hb3, hz0]; done)); (focus (simp [noV, noC, flatR, flatV, flatC, evS, eget, strip, hl12, hat, ii, hb1, hb2, hb3, hz0]; done)))
        | (refine ⟨WCall.pf (hrg) ?_ ?_ ?_ ?_, ?_⟩; (focus (simp [oks, opnds, gS, gof, eget]; done)); (focus (simp [omap, brwV, brwC, evS, eget, strip, hget, leVL, leV, leC, leL, hl12, hat, ii, hb1, hb2, hb3, hz0]; done)); (focus (simp [noV, noC, flatR, flatV, flatC, evS, eget, strip, hl12, hat, ii, hb1, hb2, hb3, hz0]; done)))
        | (with_reducible refine And.intro (And.intro ?_ ?_) ?_)
        | fail)
      all_goals exact ⟨_, k, (Gh.ren [0, 1, 2] (by simp [hB0]) (by simp [hB0] <;> decide) (by simp [eget, rnS, rnR, rnV, rnC, LtS, LtR, LtV, LtC, lget, hsame, rnN]) (by simp [hget, rnO, rnC, LtO, LtC, lget, hsame, rnN]) (.inl (by simp [lget, hsame, rnN]))), by omega, rfl, by omega⟩
    · have hadd := radd_pf (dnM ws (k + 1)) (dnM_ok hws _) k w hk12 (by omega) (dnM_at ws k hk12)
      rw [hset] at hadd
      repeat' (first
        | simp [AK_at, acode_seq, acode_region, acode_draw, acode_cond, ↓CB_t, ↓CB_f, CB_u, acode_block, acode_loop, acode_exit, acode_scope, acode_ret, acode_skip, seqQ_n, seqQ_e, seqQ_r, blockQ_n, blockQ_e, blockQ_r, TK_at, OK_at, SK_at, aops_nil, aops_cons, asch_done, asch_one, asch_two, asch_top, astep, aop_eq, isLoud, aloud, aloud1, isWrite, qv, evS, strip, gof, eget, hget, putO, eput, herase, oks, opnds, gS, afin, afin0, binD, arith, D.cells, takeD, fillD, keep, trim, envOf, Fin, aresl, aresv, resD, argOk, pickV, isP, deq, deqs, boundD, slD, lenD, isT, isSl, ptrIds, chunks, mn_min, mx_max, D.cells, splice_one, splice_more, Rbr_at, Rfr_at, frR, frV, frC, flatC, brwR, brwV, brwC, omap, leR, leV, leC, leL, leVL, hl12, hat, ii, hb1, hb2, hb3, hz0, h0]
        | (refine WCall.pf (hadd) ?_ ?_ ?_ ?_; (focus (simp [oks, opnds, gS, gof, eget]; done)); (focus (simp [omap, brwV, brwC, evS, eget, strip, hget, leVL, leV, leC, leL, hl12, hat, ii, hb1, hb2, hb3, hz0, h0]; done)); (focus (simp [noV, noC, flatR, flatV, flatC, evS, eget, strip, hl12, hat, ii, hb1, hb2, hb3, hz0, h0]; done)))
        | (refine ⟨WCall.pf (hadd) ?_ ?_ ?_ ?_, ?_⟩; (focus (simp [oks, opnds, gS, gof, eget]; done)); (focus (simp [omap, brwV, brwC, evS, eget, strip, hget, leVL, leV, leC, leL, hl12, hat, ii, hb1, hb2, hb3, hz0, h0]; done)); (focus (simp [noV, noC, flatR, flatV, flatC, evS, eget, strip, hl12, hat, ii, hb1, hb2, hb3, hz0, h0]; done)))
        | (with_reducible refine And.intro (And.intro ?_ ?_) ?_)
        | fail)
      all_goals exact ⟨_, k, (Gh.ren [0, 1, 2] (by simp [hB0]) (by simp [hB0] <;> decide) (by simp [eget, rnS, rnR, rnV, rnC, LtS, LtR, LtV, LtC, lget, rnN]) (by simp [hget, rnO, rnC, LtO, LtC, lget, rnN]) (.inl (by simp [lget, rnN]))), by omega, rfl, by omega⟩
end Go.Proofs.Ytfkeddefajkobaa

set_option linter.unusedSimpArgs false
set_option linter.unusedVariables false
set_option maxRecDepth 100000
set_option maxHeartbeats 4000000
namespace Go.Proofs.Ytfkeddefajkobaa
open Go.RowKit
def nq (q : Int × Int → Bool) (x : Int × Int) : Bool := !q x
theorem df_keep {l ys : List (Int × Int)} {q : Int × Int → Bool} {i j : Nat} (hl : ys.length = l.length) (hij : i < j) (hj : j < l.length) (h1 : ys.take i = (l.take j).filter (nq q)) (h2 : ys.drop j = l.drop j) (hq : q l[j] = false) :
    (ys.set i l[j]).take (i + 1) = (l.take (j + 1)).filter (nq q) ∧ (ys.set i l[j]).drop (j + 1) = l.drop (j + 1) := by
  constructor
  · rw [List.take_succ_eq_append_getElem (by simp; omega), List.take_succ_eq_append_getElem hj, List.filter_append, ← h1]
    simp [nq, hq, List.take_set_of_le]
  · rw [List.drop_set_of_lt (by omega)]
    have := congrArg (List.drop 1) h2
    rwa [List.drop_drop, List.drop_drop] at this
theorem df_drop {l ys : List (Int × Int)} {q : Int × Int → Bool} {i j : Nat} (hj : j < l.length) (h1 : ys.take i = (l.take j).filter (nq q)) (h2 : ys.drop j = l.drop j) (hq : q l[j] = true) :
    ys.take i = (l.take (j + 1)).filter (nq q) ∧ ys.drop (j + 1) = l.drop (j + 1) := by
  constructor
  · rw [List.take_succ_eq_append_getElem hj, List.filter_append, ← h1]
    simp [nq, hq]
  · have := congrArg (List.drop 1) h2
    rwa [List.drop_drop, List.drop_drop] at this
theorem df_at {l ys : List (Int × Int)} {j : Nat} (hj : j < l.length) (hy : j < ys.length) (h2 : ys.drop j = l.drop j) : ys[j] = l[j] := by
  rw [List.drop_eq_getElem_cons hy, List.drop_eq_getElem_cons hj] at h2
  exact (List.cons.inj h2).1
theorem df_all {l : List (Int × Int)} {q : Int × Int → Bool} (h : idxZ q l = -1) : l.filter (nq q) = l :=
  List.filter_eq_self.2 fun x hx => by
    cases hq : q x with
    | false => simp [nq, hq]
    | true => have := idxZ_some q l ⟨x, hx, hq⟩; omega
theorem df_start {l : List (Int × Int)} {q : Int × Int → Bool} {i : Nat} (h : idxZ q l = i) : l.take i = (l.take (i + 1)).filter (nq q) := by
  obtain ⟨h2, hq, hb⟩ := idxZ_get q l (by omega)
  have e : (idxZ q l).toNat = i := by omega
  simp only [e] at h2 hq hb
  rw [List.take_succ_eq_append_getElem h2, List.filter_append, List.filter_eq_self.2 fun x hx => ?_]
  · simp [nq, hq]
  · obtain ⟨j, hj, rfl⟩ := List.mem_iff_getElem.1 hx
    rw [List.length_take] at hj
    rw [List.getElem_take]
    simp [nq, hb j (by omega)]
theorem spdf_code : cfun Try.prog [] 85 = some ⟨(.seq (.region 0 [⟨(some 4), (.mov (.k .nil0)), none⟩]) (.seq (.region 1 [⟨(some 8), (.mov (.t 0)), none⟩, ⟨(some 9), (.mov (.t 1)), none⟩, ⟨(some 10), (.call 115 [(.t 8), (.t 9)]), none⟩, ⟨(some 5), (.mov (.t 10)), none⟩]) (.seq (.seq (.region 2 [⟨(some 11), (.mov (.t 5)), none⟩, ⟨(some 12), (.bin .eql (.t 11) (.k (.int .i64 (-1)))), none⟩]) (.cond 12 (.seq (.region 3 [⟨(some 13), (.mov (.t 0)), none⟩, ⟨(some 4), (.mov (.t 13)), none⟩]) .ret) .skip)) (.seq (.seq (.region 4 [⟨(some 14), (.mov (.t 5)), none⟩, ⟨(some 15), (.bin .add (.t 14) (.k (.int .i64 1))), none⟩, ⟨(some 6), (.mov (.t 15)), none⟩]) (.block 0 (.loop (.seq (.seq (.region 5 [⟨(some 16), (.mov (.t 6)), none⟩, ⟨(some 17), (.mov (.t 0)), none⟩, ⟨(some 18), (.len (.t 17)), none⟩, ⟨(some 19), (.bin .lss (.t 16) (.t 18)), none⟩]) (.cond 19 .skip (.exit 0))) (.seq (.block 1 (.seq (.region 7 [⟨(some 22), (.mov (.t 0)), none⟩, ⟨(some 23), (.mov (.t 6)), none⟩, ⟨(some 24), (.iads 2 (.t 22) (.t 23)), none⟩, ⟨(some 25), (.load true 2 (.t 24)), none⟩, ⟨(some 7), (.alloc [(.int .i64 0), (.int .i64 0)]), none⟩, ⟨none, (.store 2 (.t 7) (.t 25)), none⟩]) (.seq (.region 8 [⟨(some 26), (.mov (.t 1)), none⟩, ⟨(some 27), (.load true 2 (.t 7)), none⟩, ⟨(some 28), (.callv (.t 26) [(.t 27)]), none⟩, ⟨(some 29), (.not (.t 28)), none⟩]) (.cond 29 (.seq (.region 9 [⟨(some 30), (.mov (.t 0)), none⟩, ⟨(some 31), (.mov (.t 5)), none⟩, ⟨(some 32), (.load true 2 (.t 7)), none⟩, ⟨(some 33), (.iads 2 (.t 30) (.t 31)), none⟩, ⟨none, (.store 2 (.t 33) (.t 32)), none⟩]) (.region 10 [⟨(some 34), (.mov (.t 5)), none⟩, ⟨(some 35), (.bin .add (.t 34) (.k (.int .i64 1))), none⟩, ⟨(some 5), (.mov (.t 35)), none⟩])) .skip)))) (.region 6 [⟨(some 20), (.mov (.t 6)), none⟩, ⟨(some 21), (.bin .add (.t 20) (.k (.int .i64 1))), none⟩, ⟨(some 6), (.mov (.t 21)), none⟩])))))) (.seq (.region 11 [⟨(some 36), (.mov (.t 0)), none⟩, ⟨(some 37), (.mov (.t 5)), none⟩, ⟨(some 38), (.slc 2 (.t 36) (some (.t 37)) none none), none⟩, ⟨none, (.xop 10 [2] [(.t 38)]), none⟩]) (.seq (.region 12 [⟨(some 39), (.mov (.t 0)), none⟩, ⟨(some 40), (.mov (.t 5)), none⟩, ⟨(some 41), (.slc 2 (.t 39) none (some (.t 40)) none), none⟩, ⟨(some 4), (.mov (.t 41)), none⟩]) .ret)))))), [(.t 4)], 42⟩ := by kernel_rfl
theorem spdf_hf (l : List (Int × Int)) (F : FuncId) (ds : List D) (q : Int × Int → Bool) (hl : l.length ≤ 1000000) (hF : ∀ s ∈ l, PF Try.prog F [.agg (spE s), .pc ds] (.bool (q s))) :
    HF Try.prog 85 [.own 0, .fn F [.pc ds]] [(0, .row 2 (l.map spE))] 1 (fun d H' nx' => (d = .own 0 ∧ H' = [(0, .row 2 ((l.filter (nq q)).map spE))] ∧ nx' = 1) ∨ ∃ W3, d = .sl 0 2 0 (l.filter (nq q)).length W3.length ∧ H' = [(0, .blk 2 W3)] ∧ nx' = 1 ∧ W3.take (l.filter (nq q)).length = (l.filter (nq q)).map spE ∧ ∀ f, W3.map (fun x => List.map (rnC f) x) = W3) := by
  have hix := spixf1_pf spE l F ds q hl (els_sp l) hF
  refine HF.of follows_ok spdf_code (by simp) (by simp [argOk]) (by simp [LtV, LtC]) fun B hBN hB0 => acode_sound [0, 1, 4, 5, 6, 7, 12, 19, 29] [11] _ _ _ ?_
  by_cases h : idxZ q l = -1
  · have hall : l.filter (nq q) = l := df_all h
    rw [hall]
    repeat' (first
      | simp [AK_at, acode_seq, acode_region, acode_draw, acode_cond, ↓CB_t, ↓CB_f, CB_u, acode_block, acode_loop, acode_exit, acode_scope, acode_ret, acode_skip, seqQ_n, seqQ_e, seqQ_r, blockQ_n, blockQ_e, blockQ_r, TK_at, OK_at, SK_at, aops_nil, aops_cons, asch_done, asch_one, asch_two, asch_top, astep, aop_eq, isLoud, aloud, aloud1, isWrite, qv, evS, strip, gof, eget, hget, putO, eput, herase, oks, opnds, gS, afin, afin0, binD, arith, D.cells, takeD, fillD, keep, trim, envOf, Fin, aresl, aresv, resD, argOk, pickV, isP, deq, deqs, boundD, slD, lenD, isT, isSl, ptrIds, chunks, mn_min, mx_max, D.cells, splice_one, splice_more, Rbr_at, Rfr_at, frR, frV, frC, flatC, brwR, brwV, brwC, omap, leR, leV, leC, leL, leVL, h]
      | (refine WCall.pf (hix) ?_ ?_ ?_ ?_; (focus (simp [oks, opnds, gS, gof, eget]; done)); (focus (simp [omap, brwV, brwC, evS, eget, strip, hget, leVL, leV, leC, leL, h]; done)); (focus (simp [noV, noC, flatR, flatV, flatC, evS, eget, strip, h]; done)))
      | (refine ⟨WCall.pf (hix) ?_ ?_ ?_ ?_, ?_⟩; (focus (simp [oks, opnds, gS, gof, eget]; done)); (focus (simp [omap, brwV, brwC, evS, eget, strip, hget, leVL, leV, leC, leL, h]; done)); (focus (simp [noV, noC, flatR, flatV, flatC, evS, eget, strip, h]; done)))
      | (with_reducible refine And.intro (And.intro ?_ ?_) ?_)
      | fail)
  · have hlo := idxZ_lo q l
    have h0 : 0 ≤ idxZ q l := by omega
    obtain ⟨i0, hi0⟩ : ∃ i0 : Nat, idxZ q l = i0 := ⟨(idxZ q l).toNat, by omega⟩
    rw [hi0] at hix
    have hil : i0 < l.length := by omega
    have ii : InR ((i0 : Int) + 1) := inG (by omega) (by omega)
    have hne : ¬ (i0 : Int) = -1 := by omega
    repeat' (first
      | simp [AK_at, acode_seq, acode_region, acode_draw, acode_cond, ↓CB_t, ↓CB_f, CB_u, acode_block, acode_loop, acode_exit, acode_scope, acode_ret, acode_skip, seqQ_n, seqQ_e, seqQ_r, blockQ_n, blockQ_e, blockQ_r, TK_at, OK_at, SK_at, aops_nil, aops_cons, asch_done, asch_one, asch_two, asch_top, astep, aop_eq, isLoud, aloud, aloud1, isWrite, qv, evS, strip, gof, eget, hget, putO, eput, herase, oks, opnds, gS, afin, afin0, binD, arith, D.cells, takeD, fillD, keep, trim, envOf, Fin, aresl, aresv, resD, argOk, pickV, isP, deq, deqs, boundD, slD, lenD, isT, isSl, ptrIds, chunks, mn_min, mx_max, D.cells, splice_one, splice_more, Rbr_at, Rfr_at, frR, frV, frC, flatC, brwR, brwV, brwC, omap, leR, leV, leC, leL, leVL, ii, hne]
      | (refine WCall.pf (hix) ?_ ?_ ?_ ?_; (focus (simp [oks, opnds, gS, gof, eget]; done)); (focus (simp [omap, brwV, brwC, evS, eget, strip, hget, leVL, leV, leC, leL, ii, hne]; done)); (focus (simp [noV, noC, flatR, flatV, flatC, evS, eget, strip, ii, hne]; done)))
      | (refine ⟨WCall.pf (hix) ?_ ?_ ?_ ?_, ?_⟩; (focus (simp [oks, opnds, gS, gof, eget]; done)); (focus (simp [omap, brwV, brwC, evS, eget, strip, hget, leVL, leV, leC, leL, ii, hne]; done)); (focus (simp [noV, noC, flatR, flatV, flatC, evS, eget, strip, ii, hne]; done)))
      | (with_reducible refine And.intro (And.intro ?_ ?_) ?_)
      | fail)
    refine W.loopS (fun y : Nat × Nat × List (Int × Int) => ⟨[(6, I y.2.1), (5, I y.1), (4, .nil0), (1, .fn F [.pc ds]), (0, .own 0)], [(0, .row 2 (y.2.2.map spE))], 1⟩)
      (fun n y => n = l.length - y.2.1 ∧ y.2.1 ≤ l.length ∧ y.1 < y.2.1 ∧ y.2.2.length = l.length ∧ y.2.2.take y.1 = (l.take y.2.1).filter (nq q) ∧ y.2.2.drop y.2.1 = l.drop y.2.1) ?_ ?_
    · refine ⟨_, (i0, i0 + 1, l), (Gh.ren [0] (by simp [hB0]) (by simp [hB0] <;> decide) (by simp [eget, rnS, rnR, rnV, rnC, LtS, LtR, LtV, LtC, lget]) (by simp [hget, rnO, rnC, LtO, LtC, lget]) (.inl (by simp [lget]))), rfl, by simp only; omega, by simp only; omega, rfl, df_start hi0, rfl⟩
    rintro n ⟨i, j, ys⟩ ⟨hn, hj, hij, hyl, h1, h2⟩
    simp only at hn hj hij hyl h1 h2
    refine acode_sound [0, 1, 4, 5, 6, 7, 12, 19, 29] [11] _ _ _ ?_
    by_cases hlt : j < l.length
    · obtain ⟨x, hx⟩ : ∃ x, x = l[j] := ⟨_, rfl⟩
      have hyj : j < ys.length := by omega
      have hye : ys[j] = x := by rw [hx]; exact df_at hlt hyj h2
      have hFx := hF x (hx ▸ List.getElem_mem hlt)
      have ij : InR ((j : Int) + 1) := inG (by omega) (by omega)
      have i1 : InR ((i : Int) + 1) := inG (by omega) (by omega)
      have hiy : i < ys.length := by omega
      by_cases hq : q x = true
      · have hd := df_drop hlt h1 h2 (hx ▸ hq)
        rw [hq] at hFx
        repeat' (first
          | simp [AK_at, acode_seq, acode_region, acode_draw, acode_cond, ↓CB_t, ↓CB_f, CB_u, acode_block, acode_loop, acode_exit, acode_scope, acode_ret, acode_skip, seqQ_n, seqQ_e, seqQ_r, blockQ_n, blockQ_e, blockQ_r, TK_at, OK_at, SK_at, aops_nil, aops_cons, asch_done, asch_one, asch_two, asch_top, astep, aop_eq, isLoud, aloud, aloud1, isWrite, qv, evS, strip, gof, eget, hget, putO, eput, herase, oks, opnds, gS, afin, afin0, binD, arith, D.cells, takeD, fillD, keep, trim, envOf, Fin, aresl, aresv, resD, argOk, pickV, isP, deq, deqs, boundD, slD, lenD, isT, isSl, ptrIds, chunks, mn_min, mx_max, D.cells, splice_one, splice_more, Rbr_at, Rfr_at, frR, frV, frC, flatC, brwR, brwV, brwC, omap, leR, leV, leC, leL, leVL, hlt, hyl, hyj, hye, spE, ij]
          | (refine WCall.pfv (hFx) ?_ rfl ?_ ?_ ?_; (focus (simp [oks, opnds, gS, gof, eget]; done)); (focus (simp [omap, brwV, brwC, evS, eget, strip, hget, leVL, leV, leC, leL, hlt, hyl, hyj, hye, spE, ij]; done)); (focus (simp [noV, noC, flatR, flatV, flatC, evS, eget, strip, hlt, hyl, hyj, hye, spE, ij]; done)))
          | (refine ⟨WCall.pfv (hFx) ?_ rfl ?_ ?_ ?_, ?_⟩; (focus (simp [oks, opnds, gS, gof, eget]; done)); (focus (simp [omap, brwV, brwC, evS, eget, strip, hget, leVL, leV, leC, leL, hlt, hyl, hyj, hye, spE, ij]; done)); (focus (simp [noV, noC, flatR, flatV, flatC, evS, eget, strip, hlt, hyl, hyj, hye, spE, ij]; done)))
          | (with_reducible refine And.intro (And.intro ?_ ?_) ?_)
          | fail)
        exact ⟨_, (i, j + 1, ys), (Gh.ren [0] (by simp [hB0]) (by simp [hB0] <;> decide) (by simp [eget, rnS, rnR, rnV, rnC, LtS, LtR, LtV, LtC, lget]) (by simp [hget, rnO, rnC, LtO, LtC, lget]) (.inl (by simp [lget]))), by simp only; omega, rfl, by simp only; omega, by simp only; omega, hyl, hd.1, hd.2⟩
      · have hq : q x = false := by simpa using hq
        have hd := df_keep hyl hij hlt h1 h2 (hx ▸ hq)
        rw [← hx] at hd
        rw [hq] at hFx
        have hd2 : List.drop 2 ((Option.map spE ys[i]?).getD []) = [] := by simp [List.getElem?_eq_getElem hiy, spE]
        repeat' (first
          | simp [AK_at, acode_seq, acode_region, acode_draw, acode_cond, ↓CB_t, ↓CB_f, CB_u, acode_block, acode_loop, acode_exit, acode_scope, acode_ret, acode_skip, seqQ_n, seqQ_e, seqQ_r, blockQ_n, blockQ_e, blockQ_r, TK_at, OK_at, SK_at, aops_nil, aops_cons, asch_done, asch_one, asch_two, asch_top, astep, aop_eq, isLoud, aloud, aloud1, isWrite, qv, evS, strip, gof, eget, hget, putO, eput, herase, oks, opnds, gS, afin, afin0, binD, arith, D.cells, takeD, fillD, keep, trim, envOf, Fin, aresl, aresv, resD, argOk, pickV, isP, deq, deqs, boundD, slD, lenD, isT, isSl, ptrIds, chunks, mn_min, mx_max, D.cells, splice_one, splice_more, Rbr_at, Rfr_at, frR, frV, frC, flatC, brwR, brwV, brwC, omap, leR, leV, leC, leL, leVL, hlt, hyl, hyj, hye, spE, ij, i1, hiy, hd2]
          | (refine WCall.pfv (hFx) ?_ rfl ?_ ?_ ?_; (focus (simp [oks, opnds, gS, gof, eget]; done)); (focus (simp [omap, brwV, brwC, evS, eget, strip, hget, leVL, leV, leC, leL, hlt, hyl, hyj, hye, spE, ij, i1, hiy, hd2]; done)); (focus (simp [noV, noC, flatR, flatV, flatC, evS, eget, strip, hlt, hyl, hyj, hye, spE, ij, i1, hiy, hd2]; done)))
          | (refine ⟨WCall.pfv (hFx) ?_ rfl ?_ ?_ ?_, ?_⟩; (focus (simp [oks, opnds, gS, gof, eget]; done)); (focus (simp [omap, brwV, brwC, evS, eget, strip, hget, leVL, leV, leC, leL, hlt, hyl, hyj, hye, spE, ij, i1, hiy, hd2]; done)); (focus (simp [noV, noC, flatR, flatV, flatC, evS, eget, strip, hlt, hyl, hyj, hye, spE, ij, i1, hiy, hd2]; done)))
          | (with_reducible refine And.intro (And.intro ?_ ?_) ?_)
          | fail)
        exact ⟨by omega, _, (i + 1, j + 1, ys.set i x), (Gh.ren [0] (by simp [hB0]) (by simp [hB0] <;> decide) (by simp [eget, rnS, rnR, rnV, rnC, LtS, LtR, LtV, LtC, lget, List.map_set, spE]) (by simp [hget, rnO, rnC, LtO, LtC, lget, List.map_set, spE]) (.inl (by simp [lget, List.map_set, spE]))), by simp only; omega, rfl, by simp only; omega, by simp only; omega, by simp [hyl], hd.1, hd.2⟩
    · obtain rfl : j = l.length := by omega
      rw [List.take_length] at h1
      have hfl : (l.filter (nq q)).length = i := by rw [← h1, List.length_take]; omega
      have hfm : (l.filter (nq q)).map spE = (ys.map spE).take i := by rw [← h1, List.map_take]
      simp [AK_at, acode_seq, acode_region, acode_draw, acode_cond, ↓CB_t, ↓CB_f, CB_u, acode_block, acode_loop, acode_exit, acode_scope, acode_ret, acode_skip, seqQ_n, seqQ_e, seqQ_r, blockQ_n, blockQ_e, blockQ_r, TK_at, OK_at, SK_at, aops_nil, aops_cons, asch_done, asch_one, asch_two, asch_top, astep, aop_eq, isLoud, aloud, aloud1, isWrite, qv, evS, strip, gof, eget, hget, putO, eput, herase, oks, opnds, gS, afin, afin0, binD, arith, D.cells, takeD, fillD, keep, trim, envOf, Fin, aresl, aresv, resD, argOk, pickV, isP, deq, deqs, boundD, slD, lenD, isT, isSl, ptrIds, chunks, mn_min, mx_max, D.cells, splice_one, splice_more, Rbr_at, Rfr_at, frR, frV, frC, flatC, brwR, brwV, brwC, omap, leR, leV, leC, leL, leVL, hyl]
      refine W.openR (t := 0) (id := 0) (sz := 2) (xs := ys.map spE) (by simp [eget]) (by simp [hget]) (by simp; rintro rfl; simp at hyl; omega) fun k => ?_
      simp only [eput]
      refine acode_sound [0, 1, 4, 5, 6, 7, 12, 19, 29] [] _ _ _ ?_
      obtain ⟨U, hU⟩ : ∃ U, U = ys.map spE ++ List.replicate k (anyRow 2) := ⟨_, rfl⟩
      have hUl : U.length = l.length + k := by rw [hU]; simp [hyl]
      have hUt : U.take i = (ys.map spE).take i := by rw [hU, List.take_append_of_le_length (by simp; omega)]
      rw [← hU, List.length_map, hyl]
      have e1 : i ≤ l.length := by omega
      have e2 : i ≤ l.length + k := by omega
      have e3 : l.length ≤ l.length + k := by omega
      simp [AK_at, acode_seq, acode_region, acode_draw, acode_cond, ↓CB_t, ↓CB_f, CB_u, acode_block, acode_loop, acode_exit, acode_scope, acode_ret, acode_skip, seqQ_n, seqQ_e, seqQ_r, blockQ_n, blockQ_e, blockQ_r, TK_at, OK_at, SK_at, aops_nil, aops_cons, asch_done, asch_one, asch_two, asch_top, astep, aop_eq, isLoud, aloud, aloud1, isWrite, qv, evS, strip, gof, eget, hget, putO, eput, herase, oks, opnds, gS, afin, afin0, binD, arith, D.cells, takeD, fillD, keep, trim, envOf, Fin, aresl, aresv, resD, argOk, pickV, isP, deq, deqs, boundD, slD, lenD, isT, isSl, ptrIds, chunks, mn_min, mx_max, D.cells, splice_one, splice_more, Rbr_at, Rfr_at, frR, frV, frC, flatC, brwR, brwV, brwC, omap, leR, leV, leC, leL, leVL, e1, e2, e3]
      refine XCall.clear (id := 0) (sz := 2) (off := i) (len := l.length - i) (cp := l.length + k - i) (xs := U) (by simp [oks, opnds, gS, gof, eget]) rfl (by simp [evS, eget, strip]) (by simp [hget]) ?_
      obtain ⟨W3, hW3⟩ : ∃ W3, W3 = U.take i ++ List.replicate (l.length - i) (anyRow 2) ++ U.drop (i + (List.replicate (l.length - i) (anyRow 2)).length) := ⟨_, rfl⟩
      have hWl : W3.length = l.length + k := by rw [hW3]; simp; omega
      have hWt : W3.take i = (ys.map spE).take i := by
        rw [hW3, List.append_assoc, List.take_append_of_le_length (by simp; omega), List.take_take, Nat.min_self, hUt]
      have hWr : ∀ f, W3.map (fun x => List.map (rnC f) x) = W3 := fun f => by
        have hUm : ∀ r ∈ U, (∃ y, r = spE y) ∨ r = anyRow 2 := fun r hr => by
          rw [hU] at hr
          rcases List.mem_append.1 hr with hr | hr
          · obtain ⟨y, _, rfl⟩ := List.mem_map.1 hr; exact .inl ⟨y, rfl⟩
          · exact .inr (List.eq_of_mem_replicate hr)
        have : ∀ r ∈ W3, List.map (rnC f) r = r := fun r hr => by
          have hr' : (∃ y, r = spE y) ∨ r = anyRow 2 := by
            rw [hW3] at hr
            rcases List.mem_append.1 hr with hr | hr
            · rcases List.mem_append.1 hr with hr | hr
              · exact hUm r (List.mem_of_mem_take hr)
              · exact .inr (List.eq_of_mem_replicate hr)
            · exact hUm r (List.mem_of_mem_drop hr)
          rcases hr' with ⟨y, rfl⟩ | rfl <;> rfl
        exact (List.map_congr_left this).trans (by simp)
      rw [← hW3]
      simp [AK_at, acode_seq, acode_region, acode_draw, acode_cond, ↓CB_t, ↓CB_f, CB_u, acode_block, acode_loop, acode_exit, acode_scope, acode_ret, acode_skip, seqQ_n, seqQ_e, seqQ_r, blockQ_n, blockQ_e, blockQ_r, TK_at, OK_at, SK_at, aops_nil, aops_cons, asch_done, asch_one, asch_two, asch_top, astep, aop_eq, isLoud, aloud, aloud1, isWrite, qv, evS, strip, gof, eget, hget, putO, eput, herase, oks, opnds, gS, afin, afin0, binD, arith, D.cells, takeD, fillD, keep, trim, envOf, Fin, aresl, aresv, resD, argOk, pickV, isP, deq, deqs, boundD, slD, lenD, isT, isSl, ptrIds, chunks, mn_min, mx_max, D.cells, splice_one, splice_more, Rbr_at, Rfr_at, frR, frV, frC, flatC, brwR, brwV, brwC, omap, leR, leV, leC, leL, leVL, e1, e2, e3, hfl, hfm, hWl, hWt]
      exact ⟨W3, hWl.symm, rfl, hWt, hWr⟩
theorem spots_del (b k n : Nat) : (spotsM k n).filter (nq (isB b)) = if k = b then [] else spotsM k n := by
  split
  · rename_i h
    refine List.filter_eq_nil_iff.2 fun s hs => ?_
    have := spotsM_mem hs
    simp [nq, isB, this, h]
  · rename_i h
    refine List.filter_eq_self.2 fun s hs => ?_
    have := spotsM_mem hs
    simp [nq, isB, this]; omega
theorem want_del (ws : List Nat) (b : Nat) (hb : b < ws.length) : ∀ k, wantM (ws.set b 0) k = (wantM ws k).filter (nq (isB b))
  | 0 => by simp [wantM]
  | k + 1 => by
    rw [wantM_succ, wantM_succ, List.filter_append, want_del ws b hb k, spots_del]
    by_cases h : k = b
    · subst h
      rw [if_pos rfl]
      have : (ws.set k 0).getD k 0 = 0 := by simp [List.getD_eq_getElem?_getD, hb]
      rw [this]; rfl
    · rw [if_neg h]
      have : (ws.set b 0).getD k 0 = ws.getD k 0 := by simp [List.getD_eq_getElem?_getD, List.getElem?_set_ne (Ne.symm h)]
      rw [this]
theorem ring_del (ws : List Nat) (h : WOk ws) (b : Nat) (hb : b < 12) : (ringM ws).filter (nq (isB b)) = ringM (ws.set b 0) := by
  have hp : ((ringM ws).filter (nq (isB b))).Perm (ringM (ws.set b 0)) := by
    refine ((ringM_perm ws).filter _).trans ?_
    rw [← want_del ws b (by rw [h.len]; exact hb)]
    exact (ringM_perm _).symm
  refine List.Perm.eq_of_pairwise (le := fun a b => (!(ltOf cfSp) b a) = true) (fun a b _ _ h1 h2 => ?_) ((sortM_pw _).filter _) (sortM_pw _) hp
  simp only [Bool.not_eq_true'] at h1 h2
  exact totSp a b h2 h1
theorem rrem1_code : cfun Try.prog [] 86 = some ⟨(.seq (.region 0 [⟨(some 2), (.box (.t 0)), none⟩, ⟨(some 3), (.mov (.k (.bool false))), none⟩]) (.seq (.region 1 [⟨(some 4), (.fad 1 (.t 2)), none⟩, ⟨(some 5), (.load false 1 (.t 4)), none⟩, ⟨(some 6), (.load false 1 (.t 1)), none⟩, ⟨(some 7), (.bin .eql (.t 5) (.t 6)), none⟩, ⟨(some 3), (.mov (.t 7)), none⟩]) .ret)), [(.t 3)], 8⟩ := by kernel_rfl
theorem rrem1_pf (s : Int × Int) (b : Nat) : PF Try.prog 86 [.agg (spE s), .pc [I b]] (.bool (isB b s)) := by
  refine PF.of follows_ok rrem1_code (by simp) (by simp [argOk]) (by simp [noV, noC, spE]) fun B hBN hB0 => acode_sound [0, 1, 2, 3] [] _ _ _ ?_
  simp [AK_at, acode_seq, acode_region, acode_draw, acode_cond, ↓CB_t, ↓CB_f, CB_u, acode_block, acode_loop, acode_exit, acode_scope, acode_ret, acode_skip, seqQ_n, seqQ_e, seqQ_r, blockQ_n, blockQ_e, blockQ_r, TK_at, OK_at, SK_at, aops_nil, aops_cons, asch_done, asch_one, asch_two, asch_top, astep, aop_eq, isLoud, aloud, aloud1, isWrite, qv, evS, strip, gof, eget, hget, putO, eput, herase, oks, opnds, gS, afin, afin0, binD, arith, D.cells, takeD, fillD, keep, trim, envOf, Fin, aresl, aresv, resD, argOk, pickV, isP, deq, deqs, boundD, slD, lenD, isT, isSl, ptrIds, chunks, mn_min, mx_max, D.cells, splice_one, splice_more, Rbr_at, Rfr_at, frR, frV, frC, flatC, brwR, brwV, brwC, omap, leR, leV, leC, leL, leVL, spE, isB]
theorem rrem_code : cfun Try.prog [] 50 = some ⟨(.seq (.region 0 [⟨(some 2), (.box (.t 0)), none⟩, ⟨(some 3), (.box (.t 1)), none⟩, ⟨(some 4), (.alloc [.nil0]), none⟩, ⟨(some 5), (.mov (.k (.int .i64 0))), none⟩]) (.seq (.region 1 [⟨(some 10), (.load true 1 (.t 2)), none⟩, ⟨(some 11), (.call 80 [(.t 10)]), none⟩, ⟨(some 9), (.mov (.t 11)), none⟩, ⟨(some 12), (.ext (.t 9) 0), none⟩, ⟨(some 13), (.ext (.t 9) 1), none⟩, ⟨(some 6), (.alloc [(.int .i64 0), (.int .i64 0), (.int .i64 0), (.int .i64 0), (.int .i64 0), (.int .i64 0), (.int .i64 0), (.int .i64 0), (.int .i64 0), (.int .i64 0), (.int .i64 0), (.int .i64 0)]), none⟩, ⟨none, (.store 12 (.t 6) (.t 12)), none⟩, ⟨(some 7), (.mov (.t 13)), none⟩]) (.seq (.block 0 (.seq (.region 2 [⟨(some 15), (.mov (.t 7)), none⟩, ⟨(some 16), (.not (.t 15)), none⟩, ⟨(some 14), (.mov (.t 16)), none⟩]) (.cond 14 (.seq (.region 3 [⟨(some 17), (.build [.nil0] []), none⟩, ⟨none, (.store 1 (.t 4) (.t 17)), none⟩, ⟨(some 5), (.mov (.k (.int .i64 6))), none⟩]) .ret) (.seq (.region 4 [⟨(some 19), (.load false 1 (.t 3)), none⟩, ⟨(some 20), (.bin .lss (.t 19) (.k (.int .i64 0))), none⟩, ⟨(some 21), (.mov (.t 20)), none⟩, ⟨(some 22), (.load false 1 (.t 3)), (some (21, false))⟩, ⟨(some 23), (.bin .geq (.t 22) (.k (.int .i64 12))), (some (21, false))⟩, ⟨(some 24), (.pick (.t 21) (.k (.bool true)) (.t 23)), none⟩, ⟨(some 25), (.mov (.t 24)), none⟩, ⟨(some 26), (.load false 1 (.t 3)), (some (25, false))⟩, ⟨(some 27), (.iada 12 1 (.t 6) (.t 26)), (some (25, false))⟩, ⟨(some 28), (.load false 1 (.t 27)), (some (25, false))⟩, ⟨(some 29), (.bin .eql (.t 28) (.k (.int .i64 0))), (some (25, false))⟩, ⟨(some 30), (.pick (.t 25) (.k (.bool true)) (.t 29)), none⟩, ⟨(some 18), (.mov (.t 30)), none⟩]) (.cond 18 (.seq (.region 5 [⟨(some 31), (.build [.nil0] []), none⟩, ⟨none, (.store 1 (.t 4) (.t 31)), none⟩, ⟨(some 5), (.mov (.k (.int .i64 8))), none⟩]) .ret) .skip))))) (.seq (.region 6 [⟨(some 32), (.fad 0 (.t 2)), none⟩, ⟨(some 33), (.load false 1 (.t 32)), none⟩, ⟨(some 34), (.call 81 [(.t 33)]), none⟩, ⟨(some 35), (.mkfn 86 [(.t 3)]), none⟩, ⟨(some 36), (.call 85 [(.t 34), (.t 35)]), none⟩, ⟨(some 8), (.mov (.t 36)), none⟩]) (.seq (.region 7 [⟨(some 37), (.mov (.t 8)), none⟩, ⟨(some 38), (.build [.nil0] [(0, (1, (.t 37)))]), none⟩, ⟨none, (.store 1 (.t 4) (.t 38)), none⟩, ⟨(some 5), (.mov (.k (.int .i64 0))), none⟩]) .ret))))), [(.c 4 true 1), (.t 5)], 39⟩ := by kernel_rfl
theorem rrem0_pf (ws : List Nat) (h : WOk ws) (b : Nat) (hb : b < 12) (h0 : ws.getD b 0 = 0) :
    PF Try.prog 50 [.agg [.rows 2 ((ringM ws).map spE)], I b] (.tup [.agg [.rows 2 []], I 8]) := by
  have hwe := rwei_pf ws h
  have hrl := ringM_len ws h
  have hl12 := h.len
  have hs0 := spl12 h.len
  have htw : (ws.map fun w : Nat => I (w : Int)).take 12 = ws.map fun w : Nat => I (w : Int) := List.take_of_length_le (by simp [h.len])
  have hat : ws[b]? = some 0 := by
    rw [List.getD_eq_getElem?_getD, List.getElem?_eq_getElem (by omega)] at h0
    rw [List.getElem?_eq_getElem (by omega)]
    simpa using h0
  have c1 : ¬ (b : Int) < 0 := by omega
  have c2 : ¬ (12 : Int) ≤ b := by omega
  have hb1 : (b : Int) < 12 := by omega
  have hb2 : b ≤ 11 := by omega
  have hb3 : 0 < 12 - b := by omega
  refine PF.of follows_ok rrem_code (by simp) (by simp [argOk]) (by simp [noV, noC]) fun B hBN hB0 => acode_sound [0, 1, 2, 3, 4, 5, 6, 7, 8, 14, 18] [] _ _ _ ?_
  repeat' (first
    | simp [AK_at, acode_seq, acode_region, acode_draw, acode_cond, ↓CB_t, ↓CB_f, CB_u, acode_block, acode_loop, acode_exit, acode_scope, acode_ret, acode_skip, seqQ_n, seqQ_e, seqQ_r, blockQ_n, blockQ_e, blockQ_r, TK_at, OK_at, SK_at, aops_nil, aops_cons, asch_done, asch_one, asch_two, asch_top, astep, aop_eq, isLoud, aloud, aloud1, isWrite, qv, evS, strip, gof, eget, hget, putO, eput, herase, oks, opnds, gS, afin, afin0, binD, arith, D.cells, takeD, fillD, keep, trim, envOf, Fin, aresl, aresv, resD, argOk, pickV, isP, deq, deqs, boundD, slD, lenD, isT, isSl, ptrIds, chunks, mn_min, mx_max, D.cells, splice_one, splice_more, Rbr_at, Rfr_at, frR, frV, frC, flatC, brwR, brwV, brwC, omap, leR, leV, leC, leL, leVL, hl12, hs0, htw, hat, c1, c2, hb1, hb2, hb3]
    | (refine WCall.pf (hwe) ?_ ?_ ?_ ?_; (focus (simp [oks, opnds, gS, gof, eget]; done)); (focus (simp [omap, brwV, brwC, evS, eget, strip, hget, leVL, leV, leC, leL, hl12, hs0, htw, hat, c1, c2, hb1, hb2, hb3]; done)); (focus (simp [noV, noC, flatR, flatV, flatC, evS, eget, strip, hl12, hs0, htw, hat, c1, c2, hb1, hb2, hb3]; done)))
    | (refine ⟨WCall.pf (hwe) ?_ ?_ ?_ ?_, ?_⟩; (focus (simp [oks, opnds, gS, gof, eget]; done)); (focus (simp [omap, brwV, brwC, evS, eget, strip, hget, leVL, leV, leC, leL, hl12, hs0, htw, hat, c1, c2, hb1, hb2, hb3]; done)); (focus (simp [noV, noC, flatR, flatV, flatC, evS, eget, strip, hl12, hs0, htw, hat, c1, c2, hb1, hb2, hb3]; done)))
    | (with_reducible refine And.intro (And.intro ?_ ?_) ?_)
    | fail)
theorem rrem_pf (ws : List Nat) (h : WOk ws) (b w : Nat) (hb : b < 12) (hw : ws.getD b 0 = w) (h1 : 0 < w) :
    PF Try.prog 50 [.agg [.rows 2 ((ringM ws).map spE)], I b] (.tup [.agg [.rows 2 ((ringM (ws.set b 0)).map spE)], I 0]) := by
  have hwe := rwei_pf ws h
  have hrl := ringM_len ws h
  have hl12 := h.len
  have hs0 := spl12 h.len
  have htw : (ws.map fun w : Nat => I (w : Int)).take 12 = ws.map fun w : Nat => I (w : Int) := List.take_of_length_le (by simp [h.len])
  have hat : ws[b]? = some w := by
    rw [List.getD_eq_getElem?_getD, List.getElem?_eq_getElem (by omega)] at hw
    rw [List.getElem?_eq_getElem (by omega)]
    simpa using hw
  have c1 : ¬ (b : Int) < 0 := by omega
  have c2 : ¬ (12 : Int) ≤ b := by omega
  have c3 : ¬ w = 0 := by omega
  have hb1 : (b : Int) < 12 := by omega
  have hb2 : b ≤ 11 := by omega
  have hb3 : 0 < 12 - b := by omega
  have hcl := spcln_hf spE (ringM ws) (by omega) (els_sp _)
  have hdf := spdf_hf (ringM ws) 86 [I b] (isB b) (by omega) (fun s _ => rrem1_pf s b)
  rw [ring_del ws h b hb] at hdf
  have hne : ringM ws ≠ [] := fun e => by
    have := cnt_ring ws b hb
    rw [e, hw] at this
    simp at this; omega
  refine PF.of follows_ok rrem_code (by simp) (by simp [argOk]) (by simp [noV, noC]) fun B hBN hB0 => acode_sound [0, 1, 2, 3, 4, 5, 6, 7, 8, 14, 18] [6, 7] _ _ _ ?_
  repeat' (first
    | simp [AK_at, acode_seq, acode_region, acode_draw, acode_cond, ↓CB_t, ↓CB_f, CB_u, acode_block, acode_loop, acode_exit, acode_scope, acode_ret, acode_skip, seqQ_n, seqQ_e, seqQ_r, blockQ_n, blockQ_e, blockQ_r, TK_at, OK_at, SK_at, aops_nil, aops_cons, asch_done, asch_one, asch_two, asch_top, astep, aop_eq, isLoud, aloud, aloud1, isWrite, qv, evS, strip, gof, eget, hget, putO, eput, herase, oks, opnds, gS, afin, afin0, binD, arith, D.cells, takeD, fillD, keep, trim, envOf, Fin, aresl, aresv, resD, argOk, pickV, isP, deq, deqs, boundD, slD, lenD, isT, isSl, ptrIds, chunks, mn_min, mx_max, D.cells, splice_one, splice_more, Rbr_at, Rfr_at, frR, frV, frC, flatC, brwR, brwV, brwC, omap, leR, leV, leC, leL, leVL, hl12, hs0, htw, hat, c1, c2, c3, hb1, hb2, hb3]
    | (refine WCall.pf (hwe) ?_ ?_ ?_ ?_; (focus (simp [oks, opnds, gS, gof, eget]; done)); (focus (simp [omap, brwV, brwC, evS, eget, strip, hget, leVL, leV, leC, leL, hl12, hs0, htw, hat, c1, c2, c3, hb1, hb2, hb3]; done)); (focus (simp [noV, noC, flatR, flatV, flatC, evS, eget, strip, hl12, hs0, htw, hat, c1, c2, c3, hb1, hb2, hb3]; done)))
    | (refine ⟨WCall.pf (hwe) ?_ ?_ ?_ ?_, ?_⟩; (focus (simp [oks, opnds, gS, gof, eget]; done)); (focus (simp [omap, brwV, brwC, evS, eget, strip, hget, leVL, leV, leC, leL, hl12, hs0, htw, hat, c1, c2, c3, hb1, hb2, hb3]; done)); (focus (simp [noV, noC, flatR, flatV, flatC, evS, eget, strip, hl12, hs0, htw, hat, c1, c2, c3, hb1, hb2, hb3]; done)))
    | (with_reducible refine And.intro (And.intro ?_ ?_) ?_)
    | fail)
  refine W.freeze [1] ?_
  simp [freeze, hkeep, hdrop, fzS, fzR, fzV, fzC, fzO, brwC, omap, hget]
  refine acode_sound [0, 1, 2, 3, 4, 5, 6, 7, 8, 14, 18] [7] _ _ _ ?_
  simp [AK_at, acode_seq, acode_region, acode_draw, acode_cond, ↓CB_t, ↓CB_f, CB_u, acode_block, acode_loop, acode_exit, acode_scope, acode_ret, acode_skip, seqQ_n, seqQ_e, seqQ_r, blockQ_n, blockQ_e, blockQ_r, TK_at, OK_at, SK_at, aops_nil, aops_cons, asch_done, asch_one, asch_two, asch_top, astep, aop_eq, isLoud, aloud, aloud1, isWrite, qv, evS, strip, gof, eget, hget, putO, eput, herase, oks, opnds, gS, afin, afin0, binD, arith, D.cells, takeD, fillD, keep, trim, envOf, Fin, aresl, aresv, resD, argOk, pickV, isP, deq, deqs, boundD, slD, lenD, isT, isSl, ptrIds, chunks, mn_min, mx_max, D.cells, splice_one, splice_more, Rbr_at, Rfr_at, frR, frV, frC, flatC, brwR, brwV, brwC, omap, leR, leV, leC, leL, leVL]
  refine WCall.hf0 hcl (by simp [oks, opnds, gS, gof, eget]) (by simp [evS, eget, strip]) (by simp [argOk]) (by simp [noV, noC]) ?_
  rintro d H' nx' (⟨rfl, hnil, rfl, rfl⟩ | ⟨rfl, rfl, rfl⟩)
  · exact absurd hnil hne
  simp [AK_at, acode_seq, acode_region, acode_draw, acode_cond, ↓CB_t, ↓CB_f, CB_u, acode_block, acode_loop, acode_exit, acode_scope, acode_ret, acode_skip, seqQ_n, seqQ_e, seqQ_r, blockQ_n, blockQ_e, blockQ_r, TK_at, OK_at, SK_at, aops_nil, aops_cons, asch_done, asch_one, asch_two, asch_top, astep, aop_eq, isLoud, aloud, aloud1, isWrite, qv, evS, strip, gof, eget, hget, putO, eput, herase, oks, opnds, gS, afin, afin0, binD, arith, D.cells, takeD, fillD, keep, trim, envOf, Fin, aresl, aresv, resD, argOk, pickV, isP, deq, deqs, boundD, slD, lenD, isT, isSl, ptrIds, chunks, mn_min, mx_max, D.cells, splice_one, splice_more, Rbr_at, Rfr_at, frR, frV, frC, flatC, brwR, brwV, brwC, omap, leR, leV, leC, leL, leVL, rnR, rnV, rnC, rnO, rho_0, hputs, herases, rho]
  refine WCall.hf [5] (hdf) (by simp [oks, opnds, gS, gof, eget]) rfl rfl (by decide) (by simp) (by simp [evS, eget, strip, rnV, rnC, rho, ]) (by simp [argOk, ]) (by simp [LtV, LtC, ]) (by simp [rho, rnO, rnC, hget, LtO, LtC, ]) ?_
  obtain ⟨R, hR⟩ : ∃ R, R = ringM (ws.set b 0) := ⟨_, rfl⟩
  rw [← hR]
  rintro d H' nx' (⟨rfl, rfl, rfl⟩ | ⟨W3, rfl, rfl, rfl, hW3, hWr⟩)
  · simp [AK_at, acode_seq, acode_region, acode_draw, acode_cond, ↓CB_t, ↓CB_f, CB_u, acode_block, acode_loop, acode_exit, acode_scope, acode_ret, acode_skip, seqQ_n, seqQ_e, seqQ_r, blockQ_n, blockQ_e, blockQ_r, TK_at, OK_at, SK_at, aops_nil, aops_cons, asch_done, asch_one, asch_two, asch_top, astep, aop_eq, isLoud, aloud, aloud1, isWrite, qv, evS, strip, gof, eget, hget, putO, eput, herase, oks, opnds, gS, afin, afin0, binD, arith, D.cells, takeD, fillD, keep, trim, envOf, Fin, aresl, aresv, resD, argOk, pickV, isP, deq, deqs, boundD, slD, lenD, isT, isSl, ptrIds, chunks, mn_min, mx_max, D.cells, splice_one, splice_more, Rbr_at, Rfr_at, frR, frV, frC, flatC, brwR, brwV, brwC, omap, leR, leV, leC, leL, leVL, rnR, rnV, rnC, rnO, rho_0, hputs, herases, rho]
    refine acode_sound [0, 1, 2, 3, 4, 5, 6, 7, 8, 14, 18] [] _ _ _ ?_
    simp [AK_at, acode_seq, acode_region, acode_draw, acode_cond, ↓CB_t, ↓CB_f, CB_u, acode_block, acode_loop, acode_exit, acode_scope, acode_ret, acode_skip, seqQ_n, seqQ_e, seqQ_r, blockQ_n, blockQ_e, blockQ_r, TK_at, OK_at, SK_at, aops_nil, aops_cons, asch_done, asch_one, asch_two, asch_top, astep, aop_eq, isLoud, aloud, aloud1, isWrite, qv, evS, strip, gof, eget, hget, putO, eput, herase, oks, opnds, gS, afin, afin0, binD, arith, D.cells, takeD, fillD, keep, trim, envOf, Fin, aresl, aresv, resD, argOk, pickV, isP, deq, deqs, boundD, slD, lenD, isT, isSl, ptrIds, chunks, mn_min, mx_max, D.cells, splice_one, splice_more, Rbr_at, Rfr_at, frR, frV, frC, flatC, brwR, brwV, brwC, omap, leR, leV, leC, leL, leVL, rnR, rnV, rnC, rnO, rho_0, hputs, herases, rho]
  · simp [AK_at, acode_seq, acode_region, acode_draw, acode_cond, ↓CB_t, ↓CB_f, CB_u, acode_block, acode_loop, acode_exit, acode_scope, acode_ret, acode_skip, seqQ_n, seqQ_e, seqQ_r, blockQ_n, blockQ_e, blockQ_r, TK_at, OK_at, SK_at, aops_nil, aops_cons, asch_done, asch_one, asch_two, asch_top, astep, aop_eq, isLoud, aloud, aloud1, isWrite, qv, evS, strip, gof, eget, hget, putO, eput, herase, oks, opnds, gS, afin, afin0, binD, arith, D.cells, takeD, fillD, keep, trim, envOf, Fin, aresl, aresv, resD, argOk, pickV, isP, deq, deqs, boundD, slD, lenD, isT, isSl, ptrIds, chunks, mn_min, mx_max, D.cells, splice_one, splice_more, Rbr_at, Rfr_at, frR, frV, frC, flatC, brwR, brwV, brwC, omap, leR, leV, leC, leL, leVL, rnR, rnV, rnC, rnO, rho_0, hputs, herases, rho, hWr]
    refine W.gh (Gh.closeR (t := 8) (id := 5) (sz := 2) (len := R.length) (xs := W3) (by simp [eget]) (by simp [hget]) ?_) ?_
    · rw [hW3]
      intro r hr d hd
      obtain ⟨y, _, rfl⟩ := List.mem_map.1 hr
      simp [spE] at hd
      rcases hd with rfl | rfl <;> rfl
    rw [hW3]
    simp only [eput, herase]
    refine acode_sound [0, 1, 2, 3, 4, 5, 6, 7, 8, 14, 18] [] _ _ _ ?_
    simp [AK_at, acode_seq, acode_region, acode_draw, acode_cond, ↓CB_t, ↓CB_f, CB_u, acode_block, acode_loop, acode_exit, acode_scope, acode_ret, acode_skip, seqQ_n, seqQ_e, seqQ_r, blockQ_n, blockQ_e, blockQ_r, TK_at, OK_at, SK_at, aops_nil, aops_cons, asch_done, asch_one, asch_two, asch_top, astep, aop_eq, isLoud, aloud, aloud1, isWrite, qv, evS, strip, gof, eget, hget, putO, eput, herase, oks, opnds, gS, afin, afin0, binD, arith, D.cells, takeD, fillD, keep, trim, envOf, Fin, aresl, aresv, resD, argOk, pickV, isP, deq, deqs, boundD, slD, lenD, isT, isSl, ptrIds, chunks, mn_min, mx_max, D.cells, splice_one, splice_more, Rbr_at, Rfr_at, frR, frV, frC, flatC, brwR, brwV, brwC, omap, leR, leV, leC, leL, leVL, rnR, rnV, rnC, rnO, rho_0, hputs, herases, rho]
end Go.Proofs.Ytfkeddefajkobaa

set_option linter.unusedSimpArgs false
set_option linter.unusedVariables false
set_option maxRecDepth 100000
set_option maxHeartbeats 4000000
namespace Go.Proofs.Ytfkeddefajkobaa
open Go.RowKit
theorem rback_code : cfun Try.prog [] 19 = some ⟨(.seq (.region 0 [⟨(some 6), (.mov (.k (.bool false))), none⟩]) (.seq (.region 1 [⟨(some 22), (.mov (.t 0)), none⟩, ⟨(some 23), (.call 46 [(.t 22)]), none⟩, ⟨(some 21), (.mov (.t 23)), none⟩, ⟨(some 24), (.ext (.t 21) 0), none⟩, ⟨(some 25), (.ext (.t 21) 1), none⟩, ⟨(some 26), (.ext (.t 21) 2), none⟩, ⟨(some 7), (.alloc [.nil0]), none⟩, ⟨(some 8), (.alloc [(.int .i64 0), (.int .i64 0), (.int .i64 0), (.int .i64 0), (.int .i64 0), (.int .i64 0), (.int .i64 0), (.int .i64 0), (.int .i64 0), (.int .i64 0), (.int .i64 0), (.int .i64 0)]), none⟩, ⟨none, (.store 1 (.t 7) (.t 24)), none⟩, ⟨none, (.store 12 (.t 8) (.t 25)), none⟩, ⟨(some 9), (.mov (.t 26)), none⟩]) (.seq (.region 2 [⟨(some 27), (.mov (.t 1)), none⟩, ⟨(some 28), (.call 25 [(.t 27), (.k (.int .i64 12))]), none⟩, ⟨(some 10), (.mov (.t 28)), none⟩]) (.seq (.seq (.region 3 [⟨(some 29), (.mov (.t 9)), none⟩, ⟨(some 30), (.not (.t 29)), none⟩]) (.cond 30 (.seq (.region 4 [⟨(some 6), (.mov (.k (.bool false))), none⟩]) .ret) .skip)) (.seq (.seq (.region 5 [⟨(some 31), (.mov (.t 10)), none⟩, ⟨(some 32), (.iada 12 1 (.t 8) (.t 31)), none⟩, ⟨(some 33), (.load false 1 (.t 32)), none⟩, ⟨(some 34), (.bin .gtr (.t 33) (.k (.int .i64 0))), none⟩]) (.cond 34 (.seq (.region 6 [⟨(some 36), (.load true 1 (.t 7)), none⟩, ⟨(some 37), (.mov (.t 10)), none⟩, ⟨(some 38), (.call 50 [(.t 36), (.t 37)]), none⟩, ⟨(some 35), (.mov (.t 38)), none⟩, ⟨(some 39), (.ext (.t 35) 0), none⟩, ⟨(some 40), (.ext (.t 35) 1), none⟩, ⟨(some 11), (.alloc [.nil0]), none⟩, ⟨none, (.store 1 (.t 11) (.t 39)), none⟩, ⟨(some 12), (.mov (.t 40)), none⟩]) (.seq (.draw 7 (.one true ⟨(some 42), (.load true 1 (.t 11)), none⟩ (.one true ⟨(some 43), (.mov (.t 10)), none⟩ (.one true ⟨(some 44), (.mov (.t 10)), none⟩ (.one true ⟨(some 45), (.iada 12 1 (.t 8) (.t 44)), none⟩ (.one true ⟨(some 46), (.load false 1 (.t 45)), none⟩ (.two (.one true ⟨(some 47), (.call 47 [(.t 42), (.t 43), (.t 46)]), none⟩ (.one true ⟨(some 41), (.mov (.t 47)), none⟩ (.one true ⟨(some 48), (.ext (.t 41) 0), none⟩ (.one true ⟨(some 49), (.ext (.t 41) 1), none⟩ (.one true ⟨(some 13), (.alloc [.nil0]), none⟩ (.one false ⟨none, (.store 1 (.t 13) (.t 48)), none⟩ (.one true ⟨(some 14), (.mov (.t 49)), none⟩ .done))))))) (.two (.one true ⟨(some 13), (.alloc [.nil0]), none⟩ (.one true ⟨(some 47), (.call 47 [(.t 42), (.t 43), (.t 46)]), none⟩ (.one true ⟨(some 41), (.mov (.t 47)), none⟩ (.one true ⟨(some 48), (.ext (.t 41) 0), none⟩ (.one true ⟨(some 49), (.ext (.t 41) 1), none⟩ (.one false ⟨none, (.store 1 (.t 13) (.t 48)), none⟩ (.one true ⟨(some 14), (.mov (.t 49)), none⟩ .done))))))) .top)))))))) (.seq (.region 8 [⟨(some 50), (.mov (.t 12)), none⟩, ⟨(some 51), (.bin .eql (.t 50) (.k (.int .i64 0))), none⟩, ⟨(some 52), (.mov (.t 51)), none⟩, ⟨(some 53), (.mov (.t 14)), (some (52, true))⟩, ⟨(some 54), (.bin .eql (.t 53) (.k (.int .i64 0))), (some (52, true))⟩, ⟨(some 55), (.pick (.t 52) (.t 54) (.k (.bool false))), none⟩, ⟨(some 56), (.mov (.t 55)), none⟩, ⟨(some 57), (.load true 1 (.t 13)), (some (56, true))⟩, ⟨(some 58), (.load true 1 (.t 7)), (some (56, true))⟩, ⟨(some 59), (.call 48 [(.t 57), (.t 58)]), (some (56, true))⟩, ⟨(some 60), (.pick (.t 56) (.t 59) (.k (.bool false))), none⟩, ⟨(some 61), (.mov (.t 60)), none⟩, ⟨(some 62), (.fad 0 (.t 11)), (some (61, true))⟩, ⟨(some 63), (.load false 1 (.t 62)), (some (61, true))⟩, ⟨(some 64), (.len (.t 63)), (some (61, true))⟩, ⟨(some 65), (.fad 0 (.t 7)), (some (61, true))⟩, ⟨(some 66), (.load false 1 (.t 65)), (some (61, true))⟩, ⟨(some 67), (.len (.t 66)), (some (61, true))⟩, ⟨(some 68), (.bin .lss (.t 64) (.t 67)), (some (61, true))⟩, ⟨(some 69), (.pick (.t 61) (.t 68) (.k (.bool false))), none⟩, ⟨(some 6), (.mov (.t 69)), none⟩]) .ret))) .skip)) (.seq (.draw 9 (.one true ⟨(some 71), (.load true 1 (.t 7)), none⟩ (.one true ⟨(some 72), (.mov (.t 10)), none⟩ (.one true ⟨(some 73), (.mov (.t 2)), none⟩ (.two (.one true ⟨(some 74), (.call 25 [(.t 73), (.k (.int .i64 8))]), none⟩ (.one true ⟨(some 75), (.bin .add (.k (.int .i64 1)) (.t 74)), none⟩ (.two (.one true ⟨(some 76), (.call 47 [(.t 71), (.t 72), (.t 75)]), none⟩ (.one true ⟨(some 70), (.mov (.t 76)), none⟩ (.one true ⟨(some 77), (.ext (.t 70) 0), none⟩ (.one true ⟨(some 78), (.ext (.t 70) 1), none⟩ (.one true ⟨(some 15), (.alloc [.nil0]), none⟩ (.one false ⟨none, (.store 1 (.t 15) (.t 77)), none⟩ (.one true ⟨(some 16), (.mov (.t 78)), none⟩ .done))))))) (.two (.one true ⟨(some 15), (.alloc [.nil0]), none⟩ (.one true ⟨(some 76), (.call 47 [(.t 71), (.t 72), (.t 75)]), none⟩ (.one true ⟨(some 70), (.mov (.t 76)), none⟩ (.one true ⟨(some 77), (.ext (.t 70) 0), none⟩ (.one true ⟨(some 78), (.ext (.t 70) 1), none⟩ (.one false ⟨none, (.store 1 (.t 15) (.t 77)), none⟩ (.one true ⟨(some 16), (.mov (.t 78)), none⟩ .done))))))) .top)))) (.two (.one true ⟨(some 15), (.alloc [.nil0]), none⟩ (.one true ⟨(some 74), (.call 25 [(.t 73), (.k (.int .i64 8))]), none⟩ (.one true ⟨(some 75), (.bin .add (.k (.int .i64 1)) (.t 74)), none⟩ (.one true ⟨(some 76), (.call 47 [(.t 71), (.t 72), (.t 75)]), none⟩ (.one true ⟨(some 70), (.mov (.t 76)), none⟩ (.one true ⟨(some 77), (.ext (.t 70) 0), none⟩ (.one true ⟨(some 78), (.ext (.t 70) 1), none⟩ (.one false ⟨none, (.store 1 (.t 15) (.t 77)), none⟩ (.one true ⟨(some 16), (.mov (.t 78)), none⟩ .done))))))))) .top)))))) (.seq (.region 10 [⟨(some 80), (.load true 1 (.t 15)), none⟩, ⟨(some 81), (.mov (.t 10)), none⟩, ⟨(some 82), (.call 50 [(.t 80), (.t 81)]), none⟩, ⟨(some 79), (.mov (.t 82)), none⟩, ⟨(some 83), (.ext (.t 79) 0), none⟩, ⟨(some 84), (.ext (.t 79) 1), none⟩, ⟨(some 17), (.alloc [.nil0]), none⟩, ⟨none, (.store 1 (.t 17) (.t 83)), none⟩, ⟨(some 18), (.mov (.t 84)), none⟩]) (.seq (.region 11 [⟨(some 86), (.load true 1 (.t 7)), none⟩, ⟨(some 87), (.mov (.t 10)), none⟩, ⟨(some 88), (.call 50 [(.t 86), (.t 87)]), none⟩, ⟨(some 85), (.mov (.t 88)), none⟩, ⟨(some 89), (.ext (.t 85) 0), none⟩, ⟨(some 90), (.ext (.t 85) 1), none⟩, ⟨(some 19), (.alloc [.nil0]), none⟩, ⟨none, (.store 1 (.t 19) (.t 89)), none⟩, ⟨(some 20), (.mov (.t 90)), none⟩]) (.seq (.region 12 [⟨(some 91), (.mov (.t 16)), none⟩, ⟨(some 92), (.bin .eql (.t 91) (.k (.int .i64 0))), none⟩, ⟨(some 93), (.mov (.t 92)), none⟩, ⟨(some 94), (.mov (.t 18)), (some (93, true))⟩, ⟨(some 95), (.bin .eql (.t 94) (.k (.int .i64 0))), (some (93, true))⟩, ⟨(some 96), (.pick (.t 93) (.t 95) (.k (.bool false))), none⟩, ⟨(some 97), (.mov (.t 96)), none⟩, ⟨(some 98), (.mov (.t 20)), (some (97, true))⟩, ⟨(some 99), (.bin .eql (.t 98) (.k (.int .i64 8))), (some (97, true))⟩, ⟨(some 100), (.pick (.t 97) (.t 99) (.k (.bool false))), none⟩, ⟨(some 101), (.mov (.t 100)), none⟩, ⟨(some 102), (.load true 1 (.t 17)), (some (101, true))⟩, ⟨(some 103), (.load true 1 (.t 7)), (some (101, true))⟩, ⟨(some 104), (.call 48 [(.t 102), (.t 103)]), (some (101, true))⟩, ⟨(some 105), (.pick (.t 101) (.t 104) (.k (.bool false))), none⟩, ⟨(some 106), (.mov (.t 105)), none⟩, ⟨(some 107), (.fad 0 (.t 15)), (some (106, true))⟩, ⟨(some 108), (.load false 1 (.t 107)), (some (106, true))⟩, ⟨(some 109), (.len (.t 108)), (some (106, true))⟩, ⟨(some 110), (.fad 0 (.t 7)), (some (106, true))⟩, ⟨(some 111), (.load false 1 (.t 110)), (some (106, true))⟩, ⟨(some 112), (.len (.t 111)), (some (106, true))⟩, ⟨(some 113), (.bin .gtr (.t 109) (.t 112)), (some (106, true))⟩, ⟨(some 114), (.pick (.t 106) (.t 113) (.k (.bool false))), none⟩, ⟨(some 6), (.mov (.t 114)), none⟩]) .ret))))))))), [(.t 6)], 115⟩ := by kernel_rfl
theorem rback_pf (l : List (List Int)) (backend weight : Int) (hl : l.length ≤ Go.maxLen) (hr : ∀ r ∈ l, r.length = 2 ∧ ∀ z ∈ r, InR z) (ib : InR backend) (iw : InR weight) :
    PF Try.prog 19 [.rows 2 (l.map fun r => r.map I), I backend, I weight] (.bool true) := by
  have hrg := ringed_pf l hl hr
  have hws : WOk (rgL l) := rgL_inv l 20
  generalize rgL l = ws at hrg hws
  have p1 := picked_pf backend 12 ib (by omega)
  have p2 := picked_pf weight 8 iw (by omega)
  have q1 := pickedZ_range backend 12 (by omega)
  have q2 := pickedZ_range weight 8 (by omega)
  obtain ⟨b, hb⟩ : ∃ b : Nat, pickedZ backend 12 = b := ⟨(pickedZ backend 12).toNat, by omega⟩
  rw [hb] at p1
  have hb12 : b < 12 := by omega
  have hl12 := hws.len
  have hs0 := spl12 hws.len
  have htw : (ws.map fun w : Nat => I (w : Int)).take 12 = ws.map fun w : Nat => I (w : Int) := List.take_of_length_le (by simp [hl12])
  have hrl := ringM_len ws hws
  have hb1 : (b : Int) < 12 := by omega
  have hb2 : b ≤ 11 := by omega
  have hb3 : 0 < 12 - b := by omega
  obtain ⟨w, hw⟩ : ∃ w, w = ws.getD b 0 := ⟨_, rfl⟩
  have hat0 : ws[b]'(by omega) = w := by
    rw [hw, List.getD_eq_getElem?_getD, List.getElem?_eq_getElem (by omega)]; rfl
  have hat : ws[b]? = some w := by rw [List.getElem?_eq_getElem (by omega), hat0]
  have hw8 : w ≤ 8 := hat0 ▸ hws.le _ (List.getElem_mem _)
  have hself : ws.set b w = ws := by rw [← hat0]; exact List.set_getElem_self _
  have hsame := rsame_pf (ringM ws) (by omega)
  by_cases h0 : 0 < w
  · have hrem := rrem_pf ws hws b w hb12 hw.symm h0
    have hz : (ws.set b 0).getD b 0 = 0 := by
      rw [List.getD_eq_getElem?_getD, List.getElem?_set_self (by omega)]; rfl
    have hadd := radd_pf (ws.set b 0) (hws.set b 0 (by omega)) b w hb12 (by omega) hz
    have hlen := want_len_set (ws.set b 0) (hws.set b 0 (by omega)) b w hb12 hz
    rw [List.set_set, hself] at hadd hlen
    obtain ⟨R, hR⟩ : ∃ R, R = ringM (ws.set b 0) := ⟨_, rfl⟩
    rw [← hR] at hrem hadd hlen
    obtain ⟨Q, hQ⟩ : ∃ Q, Q = ringM ws := ⟨_, rfl⟩
    rw [← hQ] at hrem hadd hlen hsame hrg hrl
    have hlt : R.length < Q.length := by omega
    refine PF.of follows_ok rback_code (by simp) (by simp [argOk]) (by simp [noV, noC]) fun B hBN hB0 => acode_sound [0, 1, 2, 6, 7, 8, 9, 10, 11, 12, 13, 14, 15, 16, 17, 18, 20, 30, 34] [] _ _ _ ?_
    repeat' (first
      | simp [AK_at, acode_seq, acode_region, acode_draw, acode_cond, ↓CB_t, ↓CB_f, CB_u, acode_block, acode_loop, acode_exit, acode_scope, acode_ret, acode_skip, seqQ_n, seqQ_e, seqQ_r, blockQ_n, blockQ_e, blockQ_r, TK_at, OK_at, SK_at, aops_nil, aops_cons, asch_done, asch_one, asch_two, asch_top, astep, aop_eq, isLoud, aloud, aloud1, isWrite, qv, evS, strip, gof, eget, hget, putO, eput, herase, oks, opnds, gS, afin, afin0, binD, arith, D.cells, takeD, fillD, keep, trim, envOf, Fin, aresl, aresv, resD, argOk, pickV, isP, deq, deqs, boundD, slD, lenD, isT, isSl, ptrIds, chunks, mn_min, mx_max, D.cells, splice_one, splice_more, Rbr_at, Rfr_at, frR, frV, frC, flatC, brwR, brwV, brwC, omap, leR, leV, leC, leL, leVL, hl12, hs0, htw, hat, hb1, hb2, hb3, h0, hlt]
      | (refine WCall.pf (hrg) ?_ ?_ ?_ ?_; (focus (simp [oks, opnds, gS, gof, eget]; done)); (focus (simp [omap, brwV, brwC, evS, eget, strip, hget, leVL, leV, leC, leL, hl12, hs0, htw, hat, hb1, hb2, hb3, h0, hlt]; done)); (focus (simp [noV, noC, flatR, flatV, flatC, evS, eget, strip, hl12, hs0, htw, hat, hb1, hb2, hb3, h0, hlt]; done)))
      | (refine ⟨WCall.pf (hrg) ?_ ?_ ?_ ?_, ?_⟩; (focus (simp [oks, opnds, gS, gof, eget]; done)); (focus (simp [omap, brwV, brwC, evS, eget, strip, hget, leVL, leV, leC, leL, hl12, hs0, htw, hat, hb1, hb2, hb3, h0, hlt]; done)); (focus (simp [noV, noC, flatR, flatV, flatC, evS, eget, strip, hl12, hs0, htw, hat, hb1, hb2, hb3, h0, hlt]; done)))
      | (refine WCall.pf (p1) ?_ ?_ ?_ ?_; (focus (simp [oks, opnds, gS, gof, eget]; done)); (focus (simp [omap, brwV, brwC, evS, eget, strip, hget, leVL, leV, leC, leL, hl12, hs0, htw, hat, hb1, hb2, hb3, h0, hlt]; done)); (focus (simp [noV, noC, flatR, flatV, flatC, evS, eget, strip, hl12, hs0, htw, hat, hb1, hb2, hb3, h0, hlt]; done)))
      | (refine ⟨WCall.pf (p1) ?_ ?_ ?_ ?_, ?_⟩; (focus (simp [oks, opnds, gS, gof, eget]; done)); (focus (simp [omap, brwV, brwC, evS, eget, strip, hget, leVL, leV, leC, leL, hl12, hs0, htw, hat, hb1, hb2, hb3, h0, hlt]; done)); (focus (simp [noV, noC, flatR, flatV, flatC, evS, eget, strip, hl12, hs0, htw, hat, hb1, hb2, hb3, h0, hlt]; done)))
      | (refine WCall.pf (hrem) ?_ ?_ ?_ ?_; (focus (simp [oks, opnds, gS, gof, eget]; done)); (focus (simp [omap, brwV, brwC, evS, eget, strip, hget, leVL, leV, leC, leL, hl12, hs0, htw, hat, hb1, hb2, hb3, h0, hlt]; done)); (focus (simp [noV, noC, flatR, flatV, flatC, evS, eget, strip, hl12, hs0, htw, hat, hb1, hb2, hb3, h0, hlt]; done)))
      | (refine ⟨WCall.pf (hrem) ?_ ?_ ?_ ?_, ?_⟩; (focus (simp [oks, opnds, gS, gof, eget]; done)); (focus (simp [omap, brwV, brwC, evS, eget, strip, hget, leVL, leV, leC, leL, hl12, hs0, htw, hat, hb1, hb2, hb3, h0, hlt]; done)); (focus (simp [noV, noC, flatR, flatV, flatC, evS, eget, strip, hl12, hs0, htw, hat, hb1, hb2, hb3, h0, hlt]; done)))
      | (refine WCall.pf (hadd) ?_ ?_ ?_ ?_; (focus (simp [oks, opnds, gS, gof, eget]; done)); (focus (simp [omap, brwV, brwC, evS, eget, strip, hget, leVL, leV, leC, leL, hl12, hs0, htw, hat, hb1, hb2, hb3, h0, hlt]; done)); (focus (simp [noV, noC, flatR, flatV, flatC, evS, eget, strip, hl12, hs0, htw, hat, hb1, hb2, hb3, h0, hlt]; done)))
      | (refine ⟨WCall.pf (hadd) ?_ ?_ ?_ ?_, ?_⟩; (focus (simp [oks, opnds, gS, gof, eget]; done)); (focus (simp [omap, brwV, brwC, evS, eget, strip, hget, leVL, leV, leC, leL, hl12, hs0, htw, hat, hb1, hb2, hb3, h0, hlt]; done)); (focus (simp [noV, noC, flatR, flatV, flatC, evS, eget, strip, hl12, hs0, htw, hat, hb1, hb2, hb3, h0, hlt]; done)))
      | (refine WCall.pf (hsame) ?_ ?_ ?_ ?_; (focus (simp [oks, opnds, gS, gof, eget]; done)); (focus (simp [omap, brwV, brwC, evS, eget, strip, hget, leVL, leV, leC, leL, hl12, hs0, htw, hat, hb1, hb2, hb3, h0, hlt]; done)); (focus (simp [noV, noC, flatR, flatV, flatC, evS, eget, strip, hl12, hs0, htw, hat, hb1, hb2, hb3, h0, hlt]; done)))
      | (refine ⟨WCall.pf (hsame) ?_ ?_ ?_ ?_, ?_⟩; (focus (simp [oks, opnds, gS, gof, eget]; done)); (focus (simp [omap, brwV, brwC, evS, eget, strip, hget, leVL, leV, leC, leL, hl12, hs0, htw, hat, hb1, hb2, hb3, h0, hlt]; done)); (focus (simp [noV, noC, flatR, flatV, flatC, evS, eget, strip, hl12, hs0, htw, hat, hb1, hb2, hb3, h0, hlt]; done)))
      | (with_reducible refine And.intro (And.intro ?_ ?_) ?_)
      | fail)
  · obtain rfl : w = 0 := by omega
    obtain ⟨v, hv⟩ : ∃ v : Nat, 1 + pickedZ weight 8 = v := ⟨(1 + pickedZ weight 8).toNat, by omega⟩
    have iv : InR (v : Int) := inG (by omega) (by omega)
    have hadd := radd_pf ws hws b v hb12 (by omega) hw.symm
    have hlen := want_len_set ws hws b v hb12 hw.symm
    have hz : (ws.set b v).getD b 0 = v := by
      rw [List.getD_eq_getElem?_getD, List.getElem?_set_self (by omega)]; rfl
    have hrem := rrem_pf (ws.set b v) (hws.set b v (by omega)) b v hb12 hz (by omega)
    rw [List.set_set, hself] at hrem
    have hrem0 := rrem0_pf ws hws b hb12 hw.symm
    obtain ⟨R, hR⟩ : ∃ R, R = ringM (ws.set b v) := ⟨_, rfl⟩
    rw [← hR] at hrem hadd hlen
    obtain ⟨Q, hQ⟩ : ∃ Q, Q = ringM ws := ⟨_, rfl⟩
    rw [← hQ] at hrem hadd hlen hsame hrg hrl hrem0
    have hlt : Q.length < R.length := by omega
    refine PF.of follows_ok rback_code (by simp) (by simp [argOk]) (by simp [noV, noC]) fun B hBN hB0 => acode_sound [0, 1, 2, 6, 7, 8, 9, 10, 11, 12, 13, 14, 15, 16, 17, 18, 20, 30, 34] [] _ _ _ ?_
    repeat' (first
      | simp [AK_at, acode_seq, acode_region, acode_draw, acode_cond, ↓CB_t, ↓CB_f, CB_u, acode_block, acode_loop, acode_exit, acode_scope, acode_ret, acode_skip, seqQ_n, seqQ_e, seqQ_r, blockQ_n, blockQ_e, blockQ_r, TK_at, OK_at, SK_at, aops_nil, aops_cons, asch_done, asch_one, asch_two, asch_top, astep, aop_eq, isLoud, aloud, aloud1, isWrite, qv, evS, strip, gof, eget, hget, putO, eput, herase, oks, opnds, gS, afin, afin0, binD, arith, D.cells, takeD, fillD, keep, trim, envOf, Fin, aresl, aresv, resD, argOk, pickV, isP, deq, deqs, boundD, slD, lenD, isT, isSl, ptrIds, chunks, mn_min, mx_max, D.cells, splice_one, splice_more, Rbr_at, Rfr_at, frR, frV, frC, flatC, brwR, brwV, brwC, omap, leR, leV, leC, leL, leVL, hl12, hs0, htw, hat, hb1, hb2, hb3, hlt, hv, iv]
      | (refine WCall.pf (hrg) ?_ ?_ ?_ ?_; (focus (simp [oks, opnds, gS, gof, eget]; done)); (focus (simp [omap, brwV, brwC, evS, eget, strip, hget, leVL, leV, leC, leL, hl12, hs0, htw, hat, hb1, hb2, hb3, hlt, hv, iv]; done)); (focus (simp [noV, noC, flatR, flatV, flatC, evS, eget, strip, hl12, hs0, htw, hat, hb1, hb2, hb3, hlt, hv, iv]; done)))
      | (refine ⟨WCall.pf (hrg) ?_ ?_ ?_ ?_, ?_⟩; (focus (simp [oks, opnds, gS, gof, eget]; done)); (focus (simp [omap, brwV, brwC, evS, eget, strip, hget, leVL, leV, leC, leL, hl12, hs0, htw, hat, hb1, hb2, hb3, hlt, hv, iv]; done)); (focus (simp [noV, noC, flatR, flatV, flatC, evS, eget, strip, hl12, hs0, htw, hat, hb1, hb2, hb3, hlt, hv, iv]; done)))
      | (refine WCall.pf (p1) ?_ ?_ ?_ ?_; (focus (simp [oks, opnds, gS, gof, eget]; done)); (focus (simp [omap, brwV, brwC, evS, eget, strip, hget, leVL, leV, leC, leL, hl12, hs0, htw, hat, hb1, hb2, hb3, hlt, hv, iv]; done)); (focus (simp [noV, noC, flatR, flatV, flatC, evS, eget, strip, hl12, hs0, htw, hat, hb1, hb2, hb3, hlt, hv, iv]; done)))
      | (refine ⟨WCall.pf (p1) ?_ ?_ ?_ ?_, ?_⟩; (focus (simp [oks, opnds, gS, gof, eget]; done)); (focus (simp [omap, brwV, brwC, evS, eget, strip, hget, leVL, leV, leC, leL, hl12, hs0, htw, hat, hb1, hb2, hb3, hlt, hv, iv]; done)); (focus (simp [noV, noC, flatR, flatV, flatC, evS, eget, strip, hl12, hs0, htw, hat, hb1, hb2, hb3, hlt, hv, iv]; done)))
      | (refine WCall.pf (p2) ?_ ?_ ?_ ?_; (focus (simp [oks, opnds, gS, gof, eget]; done)); (focus (simp [omap, brwV, brwC, evS, eget, strip, hget, leVL, leV, leC, leL, hl12, hs0, htw, hat, hb1, hb2, hb3, hlt, hv, iv]; done)); (focus (simp [noV, noC, flatR, flatV, flatC, evS, eget, strip, hl12, hs0, htw, hat, hb1, hb2, hb3, hlt, hv, iv]; done)))
      | (refine ⟨WCall.pf (p2) ?_ ?_ ?_ ?_, ?_⟩; (focus (simp [oks, opnds, gS, gof, eget]; done)); (focus (simp [omap, brwV, brwC, evS, eget, strip, hget, leVL, leV, leC, leL, hl12, hs0, htw, hat, hb1, hb2, hb3, hlt, hv, iv]; done)); (focus (simp [noV, noC, flatR, flatV, flatC, evS, eget, strip, hl12, hs0, htw, hat, hb1, hb2, hb3, hlt, hv, iv]; done)))
      | (refine WCall.pf (hadd) ?_ ?_ ?_ ?_; (focus (simp [oks, opnds, gS, gof, eget]; done)); (focus (simp [omap, brwV, brwC, evS, eget, strip, hget, leVL, leV, leC, leL, hl12, hs0, htw, hat, hb1, hb2, hb3, hlt, hv, iv]; done)); (focus (simp [noV, noC, flatR, flatV, flatC, evS, eget, strip, hl12, hs0, htw, hat, hb1, hb2, hb3, hlt, hv, iv]; done)))
      | (refine ⟨WCall.pf (hadd) ?_ ?_ ?_ ?_, ?_⟩; (focus (simp [oks, opnds, gS, gof, eget]; done)); (focus (simp [omap, brwV, brwC, evS, eget, strip, hget, leVL, leV, leC, leL, hl12, hs0, htw, hat, hb1, hb2, hb3, hlt, hv, iv]; done)); (focus (simp [noV, noC, flatR, flatV, flatC, evS, eget, strip, hl12, hs0, htw, hat, hb1, hb2, hb3, hlt, hv, iv]; done)))
      | (refine WCall.pf (hrem) ?_ ?_ ?_ ?_; (focus (simp [oks, opnds, gS, gof, eget]; done)); (focus (simp [omap, brwV, brwC, evS, eget, strip, hget, leVL, leV, leC, leL, hl12, hs0, htw, hat, hb1, hb2, hb3, hlt, hv, iv]; done)); (focus (simp [noV, noC, flatR, flatV, flatC, evS, eget, strip, hl12, hs0, htw, hat, hb1, hb2, hb3, hlt, hv, iv]; done)))
      | (refine ⟨WCall.pf (hrem) ?_ ?_ ?_ ?_, ?_⟩; (focus (simp [oks, opnds, gS, gof, eget]; done)); (focus (simp [omap, brwV, brwC, evS, eget, strip, hget, leVL, leV, leC, leL, hl12, hs0, htw, hat, hb1, hb2, hb3, hlt, hv, iv]; done)); (focus (simp [noV, noC, flatR, flatV, flatC, evS, eget, strip, hl12, hs0, htw, hat, hb1, hb2, hb3, hlt, hv, iv]; done)))
      | (refine WCall.pf (hrem0) ?_ ?_ ?_ ?_; (focus (simp [oks, opnds, gS, gof, eget]; done)); (focus (simp [omap, brwV, brwC, evS, eget, strip, hget, leVL, leV, leC, leL, hl12, hs0, htw, hat, hb1, hb2, hb3, hlt, hv, iv]; done)); (focus (simp [noV, noC, flatR, flatV, flatC, evS, eget, strip, hl12, hs0, htw, hat, hb1, hb2, hb3, hlt, hv, iv]; done)))
      | (refine ⟨WCall.pf (hrem0) ?_ ?_ ?_ ?_, ?_⟩; (focus (simp [oks, opnds, gS, gof, eget]; done)); (focus (simp [omap, brwV, brwC, evS, eget, strip, hget, leVL, leV, leC, leL, hl12, hs0, htw, hat, hb1, hb2, hb3, hlt, hv, iv]; done)); (focus (simp [noV, noC, flatR, flatV, flatC, evS, eget, strip, hl12, hs0, htw, hat, hb1, hb2, hb3, hlt, hv, iv]; done)))
      | (refine WCall.pf (hsame) ?_ ?_ ?_ ?_; (focus (simp [oks, opnds, gS, gof, eget]; done)); (focus (simp [omap, brwV, brwC, evS, eget, strip, hget, leVL, leV, leC, leL, hl12, hs0, htw, hat, hb1, hb2, hb3, hlt, hv, iv]; done)); (focus (simp [noV, noC, flatR, flatV, flatC, evS, eget, strip, hl12, hs0, htw, hat, hb1, hb2, hb3, hlt, hv, iv]; done)))
      | (refine ⟨WCall.pf (hsame) ?_ ?_ ?_ ?_, ?_⟩; (focus (simp [oks, opnds, gS, gof, eget]; done)); (focus (simp [omap, brwV, brwC, evS, eget, strip, hget, leVL, leV, leC, leL, hl12, hs0, htw, hat, hb1, hb2, hb3, hlt, hv, iv]; done)); (focus (simp [noV, noC, flatR, flatV, flatC, evS, eget, strip, hl12, hs0, htw, hat, hb1, hb2, hb3, hlt, hv, iv]; done)))
      | (with_reducible refine And.intro (And.intro ?_ ?_) ?_)
      | fail)
end Go.Proofs.Ytfkeddefajkobaa

set_option linter.unusedSimpArgs false
set_option linter.unusedVariables false
namespace Go.Proofs.Ytfkeddefajkobaa
open Go.ChangeShapes Go.WideShapes Go.ChangeAt Go.RowKit

def numsE (r : List Int) : List Value := r.map (Value.int .i64)
def NumsOk (r : List Int) : Prop := ∀ z ∈ r, (Lit.int .i64 z).wf = true
/-- a type of n numbers in n cells -/
def Nums (P : Program) (t : TypeId) (n : Nat) : Prop :=
  ∀ {H : Type} {enc : TypeId × Value → H} {w : World} {base : Nat} {spare : Nat → Bool} {held : Bool} {fuel : Nat} {cs : List Value} {x : DataW H × List MemPlace},
    DataW.trod enc P w base spare held fuel t cs = some x → ∃ r : List Int, cs = numsE r ∧ r.length = n ∧ NumsOk r
theorem nums_of_cells (cs : List Value) (h : ∀ i, i < cs.length → ∃ z, cs[i]? = some (.int .i64 z) ∧ (Lit.int .i64 z).wf = true) : ∃ r : List Int, cs = numsE r ∧ NumsOk r := by
  induction cs with
  | nil => exact ⟨[], rfl, fun z hz => by cases hz⟩
  | cons v cs ih =>
    obtain ⟨z, hz, hw⟩ := h 0 (by simp)
    obtain ⟨r, rfl, hr⟩ := ih fun i hi => by have := h (i + 1) (by simpa using hi); simpa using this
    simp only [List.getElem?_cons_zero, Option.some.injEq] at hz
    subst hz
    refine ⟨z :: r, rfl, fun y hy => ?_⟩
    rcases List.mem_cons.1 hy with rfl | hy
    · exact hw
    · exact hr y hy
theorem Nums.struct {P : Program} {t : TypeId} {fs : Array Field} (ht : P.underlying t = some (.struct fs)) (hc : P.cellsOf t = fs.size)
    (hf : ∀ (i : Nat) (f : Field), fs[i]? = some f → f.offset = i ∧ P.cellsOf f.type = 1 ∧ P.underlying f.type = some (.int .i64)) : Nums P t fs.size := by
  intro H enc w base spare held fuel cs x h
  obtain ⟨xs, n, _, _, hl, hlen, hx⟩ := DataW.trod_struct ht h
  rw [hc] at hl
  obtain ⟨r, rfl, hr⟩ := nums_of_cells cs fun i hi => by
    rw [hl] at hi
    have hi' : i < xs.length := by omega
    have h1 := hx i fs[i] (by simp [hi])
    obtain ⟨h2, h3, h4⟩ := hf i fs[i] (by simp [hi])
    rw [h2, h3, List.getElem?_eq_getElem hi'] at h1
    obtain ⟨z, hz, _, hw⟩ := DataW.trod_int h4 h1
    refine ⟨z, ?_, hw⟩
    have := congrArg (fun l => l[0]?) hz
    simpa [List.getElem?_take, List.getElem?_drop] using this
  exact ⟨r, rfl, by simpa [numsE] using hl, hr⟩
theorem open_nums {H : Type} {enc : TypeId × Value → H} {P : Program} {w : World} {base : Nat} {spare : Nat → Bool} {held : Bool} {r0 : Reach} {b0 : Nat} {t e : TypeId} {n : Nat} {v : Value} {d : DataW H} {ps : List MemPlace}
    (ht : P.underlying t = some (.slice e)) (hc : P.cellsOf e = n) (hn0 : 0 < n) (hI : Nums P e n) (hv : Value.okWide P w r0 b0 t v) (h : DataW.Trod enc P w base spare held t v d ps) :
    ∃ rows : List (List Int), rows.length ≤ maxLen ∧ (∀ r ∈ rows, r.length = n ∧ NumsOk r) ∧ Sl w n numsE v rows := by
  obtain ⟨a0, len0, cap0, rfl⟩ := okWide_slice ht hv
  obtain ⟨fuel, hf⟩ := h
  rcases Go.Deep.open_slice ht hf with ⟨h0, _⟩ | ⟨a, len, cap, m, k, D, Pl, hcs, hb, hl, hm, hmm, _, hx⟩
  · simp only [Value.cells, List.cons.injEq, Value.slice.injEq, and_true] at h0
    obtain ⟨rfl, rfl, rfl⟩ := h0
    exact ⟨[], by simp, by simp, Sl.nil _ _ _⟩
  · simp only [Value.cells, List.cons.injEq, Value.slice.injEq, and_true] at hcs
    obtain ⟨e0, e1, e2⟩ := hcs
    subst e0 e1 e2
    rw [hc] at hx
    have hlm : len0 ≤ m := by rw [hmm]; split <;> omega
    have hrow : ∀ i, i < len0 → ∃ r : List Int, (r.length = n ∧ NumsOk r) ∧ ∀ j, j < n → w.cell? ((a.add (i * n)).add j) = (numsE r)[j]? := fun i hi => by
      obtain ⟨cs', h1, h2⟩ := hx i (by omega)
      obtain ⟨r, rfl, hr, hk⟩ := hI h2
      exact ⟨r, ⟨hr, hk⟩, (World.cells?_some h1).2.2⟩
    obtain ⟨f, hf'⟩ := Go.Deep.choose_lt hrow
    have hlen : ((List.range len0).map f).length = len0 := by simp
    refine ⟨(List.range len0).map f, by rw [hlen]; omega, fun r hr => ?_, some a, cap0, by rw [hlen], by rw [hlen]; exact hl, (fun h => by cases h), fun hne => ?_⟩
    · obtain ⟨i, hi, rfl⟩ := List.mem_map.1 hr
      exact (hf' i (List.mem_range.1 hi)).1
    · have h0 : 0 < len0 := by
        rcases Nat.eq_zero_or_pos len0 with rfl | h
        · simp at hne
        · exact h
      have hL : ∀ i, i < len0 → (numsE (f i)).length = n := fun i hi => by simp [numsE, (hf' i hi).1.1]
      have hc0 := (hf' 0 h0).2 0 hn0
      rw [List.getElem?_eq_getElem (by rw [hL 0 h0]; exact hn0)] at hc0
      obtain ⟨b, off, spot⟩ := a
      have hspot : spot = none := by simpa [Addr.add] using World.cell?_spot hc0
      subst hspot
      refine ⟨b, off, rfl, ?_, fun i x j u hxx hu => ?_⟩
      · obtain ⟨cs0, g1, _⟩ := hx 0 (by omega)
        simpa [Addr.add] using World.cells?_block g1 (by omega)
      · have hi : i < len0 := by
          have := (List.getElem?_eq_some_iff.1 hxx).1
          rwa [hlen] at this
        rw [List.getElem?_map, List.getElem?_range hi] at hxx
        simp only [Option.map_some, Option.some.injEq] at hxx
        subst hxx
        have hj : j < n := by
          have := (List.getElem?_eq_some_iff.1 hu).1
          rwa [hL i hi] at this
        rw [← hu, ← (hf' i hi).2 j hj, Go.Deep.add_add]
        congr 1
        unfold Addr.add
        split
        · rename_i hz
          obtain ⟨h1, h2⟩ : i * n = 0 ∧ j = 0 := by omega
          rw [h1, h2]; rfl
        · rw [Nat.add_assoc]
theorem Sl.map {α β : Type} {w : World} {sz : Nat} {E : α → List Value} {F : β → List Value} {v : Value} {xs : List α} (g : α → β) (h : Sl w sz E v xs) (hg : ∀ x ∈ xs, F (g x) = E x) : Sl w sz F v (xs.map g) := by
  obtain ⟨a, cap, h1, h2, h0, h3⟩ := h
  refine ⟨a, cap, by rw [h1, List.length_map], by rw [List.length_map]; exact h2, h0, fun hne => ?_⟩
  obtain ⟨b, off, h4, h5, h6⟩ := h3 (by simpa using hne)
  refine ⟨b, off, h4, h5, fun i x j u hx hu => ?_⟩
  rw [List.getElem?_map] at hx
  cases hxi : xs[i]? with
  | none => rw [hxi] at hx; cases hx
  | some y =>
    rw [hxi] at hx
    simp only [Option.map_some, Option.some.injEq] at hx
    subst hx
    exact h6 i y j u hxi (by rw [← hg y (List.mem_of_getElem? hxi)]; exact hu)
theorem nums_wf {z : Int} (h : (Lit.int .i64 z).wf = true) : -9223372036854775808 ≤ z ∧ z ≤ 9223372036854775807 := by
  have h1 : IntKind.i64.min = -9223372036854775808 := rfl
  have h2 : IntKind.i64.max = 9223372036854775807 := rfl
  simp only [Lit.wf, Bool.and_eq_true, decide_eq_true_eq] at h
  omega
end Go.Proofs.Ytfkeddefajkobaa

set_option linter.unusedSimpArgs false
set_option linter.unusedVariables false
set_option maxRecDepth 100000
namespace Go.Proofs.Ytfkeddefajkobaa
open Go.ChangeShapes Go.WideShapes Go.ChangeAt Go.RowKit

/-- what a type's cells may be -/
def Elt (P : Program) (t : TypeId) (n : Nat) {α : Type} (E : α → List Value) (ok : α → Prop) : Prop :=
  ∀ {H : Type} {enc : TypeId × Value → H} {w : World} {base : Nat} {spare : Nat → Bool} {held : Bool} {fuel : Nat} {cs : List Value} {x : DataW H × List MemPlace},
    DataW.trod enc P w base spare held fuel t cs = some x → ∃ r : α, cs = E r ∧ (E r).length = n ∧ ok r
theorem Elt.bool {P : Program} {t : TypeId} (ht : P.underlying t = some .bool) : Elt P t 1 (fun b : Bool => [Value.bool b]) (fun _ => True) := fun h => by
  obtain ⟨b, rfl, _⟩ := DataW.trod_bool ht h
  exact ⟨b, rfl, rfl, trivial⟩
theorem Elt.int {P : Program} {t : TypeId} (ht : P.underlying t = some (.int .i64)) : Elt P t 1 (fun z : Int => [Value.int .i64 z]) InR := fun h => by
  obtain ⟨z, rfl, _, hw⟩ := DataW.trod_int ht h
  exact ⟨z, rfl, rfl, nums_wf hw⟩
theorem Elt.nums {P : Program} {t : TypeId} {n : Nat} (h : Nums P t n) : Elt P t n numsE (fun r => r.length = n ∧ ∀ z ∈ r, InR z) := fun hx => by
  obtain ⟨r, rfl, hl, hk⟩ := h hx
  exact ⟨r, rfl, by simpa [numsE] using hl, hl, fun z hz => nums_wf (hk z hz)⟩
theorem open_elts {α : Type} [Inhabited α] {E : α → List Value} {ok : α → Prop} {H : Type} {enc : TypeId × Value → H} {P : Program} {w : World} {base : Nat} {spare : Nat → Bool} {held : Bool} {r0 : Reach} {b0 : Nat} {t e : TypeId} {n : Nat} {v : Value} {d : DataW H} {ps : List MemPlace}
    (ht : P.underlying t = some (.slice e)) (hc : P.cellsOf e = n) (hn0 : 0 < n) (hI : Elt P e n E ok) (hv : Value.okWide P w r0 b0 t v) (h : DataW.Trod enc P w base spare held t v d ps) :
    ∃ rows : List α, rows.length ≤ maxLen ∧ (∀ r ∈ rows, (E r).length = n ∧ ok r) ∧ Sl w n E v rows := by
  obtain ⟨a0, len0, cap0, rfl⟩ := okWide_slice ht hv
  obtain ⟨fuel, hf⟩ := h
  rcases Go.Deep.open_slice ht hf with ⟨h0, _⟩ | ⟨a, len, cap, m, k, D, Pl, hcs, hb, hl, hm, hmm, _, hx⟩
  · simp only [Value.cells, List.cons.injEq, Value.slice.injEq, and_true] at h0
    obtain ⟨rfl, rfl, rfl⟩ := h0
    exact ⟨[], by simp, by simp, Sl.nil _ _ _⟩
  · simp only [Value.cells, List.cons.injEq, Value.slice.injEq, and_true] at hcs
    obtain ⟨e0, e1, e2⟩ := hcs
    subst e0 e1 e2
    rw [hc] at hx
    have hlm : len0 ≤ m := by rw [hmm]; split <;> omega
    have hrow : ∀ i, i < len0 → ∃ r : α, ((E r).length = n ∧ ok r) ∧ ∀ j, j < n → w.cell? ((a.add (i * n)).add j) = (E r)[j]? := fun i hi => by
      obtain ⟨cs', h1, h2⟩ := hx i (by omega)
      obtain ⟨r, rfl, hr, hk⟩ := hI h2
      exact ⟨r, ⟨hr, hk⟩, (World.cells?_some h1).2.2⟩
    obtain ⟨f, hf'⟩ := Go.Deep.choose_lt hrow
    have hlen : ((List.range len0).map f).length = len0 := by simp
    refine ⟨(List.range len0).map f, by rw [hlen]; omega, fun r hr => ?_, some a, cap0, by rw [hlen], by rw [hlen]; exact hl, (fun h => by cases h), fun hne => ?_⟩
    · obtain ⟨i, hi, rfl⟩ := List.mem_map.1 hr
      exact (hf' i (List.mem_range.1 hi)).1
    · have h0 : 0 < len0 := by
        rcases Nat.eq_zero_or_pos len0 with rfl | h
        · simp at hne
        · exact h
      have hL : ∀ i, i < len0 → (E (f i)).length = n := fun i hi => (hf' i hi).1.1
      have hc0 := (hf' 0 h0).2 0 hn0
      rw [List.getElem?_eq_getElem (by rw [hL 0 h0]; exact hn0)] at hc0
      obtain ⟨b, off, spot⟩ := a
      have hspot : spot = none := by simpa [Addr.add] using World.cell?_spot hc0
      subst hspot
      refine ⟨b, off, rfl, ?_, fun i x j u hxx hu => ?_⟩
      · obtain ⟨cs0, g1, _⟩ := hx 0 (by omega)
        simpa [Addr.add] using World.cells?_block g1 (by omega)
      · have hi : i < len0 := by
          have := (List.getElem?_eq_some_iff.1 hxx).1
          rwa [hlen] at this
        rw [List.getElem?_map, List.getElem?_range hi] at hxx
        simp only [Option.map_some, Option.some.injEq] at hxx
        subst hxx
        have hj : j < n := by
          have := (List.getElem?_eq_some_iff.1 hu).1
          rwa [hL i hi] at this
        rw [← hu, ← (hf' i hi).2 j hj, Go.Deep.add_add]
        congr 1
        unfold Addr.add
        split
        · rename_i hz
          obtain ⟨h1, h2⟩ : i * n = 0 ∧ j = 0 := by omega
          rw [h1, h2]; rfl
        · rw [Nat.add_assoc]

theorem vt_bools {W : World} {v : Value} {l : List Bool} (h : Sl W 1 (fun b : Bool => [Value.bool b]) v l) : VT (allZ W) (.rows 1 (l.map fun b => [D.bool b])) v :=
  h.rows fun b _ => ⟨rfl, rfl, fun j d hd => by
    cases j with
    | zero => simp at hd; subst hd; exact ⟨_, rfl, fun Z => VT.bool b⟩
    | succ j => simp at hd⟩
theorem vt_ints {W : World} {v : Value} {l : List Int} (h : Sl W 1 (fun z : Int => [Value.int .i64 z]) v l) : VT (allZ W) (.rows 1 (l.map fun z => [I z])) v :=
  h.rows fun z _ => ⟨rfl, rfl, fun j d hd => by
    cases j with
    | zero => simp at hd; subst hd; exact ⟨_, rfl, fun Z => VT.int .i64 z⟩
    | succ j => simp at hd⟩
theorem vt_nums {W : World} {v : Value} {n : Nat} {l : List (List Int)} (h : Sl W n numsE v l) (hl : ∀ r ∈ l, r.length = n) : VT (allZ W) (.rows n (l.map fun r => r.map I)) v :=
  h.rows fun r hr => ⟨by simp [numsE, hl r hr], by simp [hl r hr], fun j d hd => by
    obtain ⟨z, hz, rfl⟩ := (map_get _ _ _ _).1 hd
    exact ⟨_, (map_get _ _ _ _).2 ⟨z, hz, rfl⟩, fun Z => VT.int .i64 z⟩⟩
theorem open_bools {H : Type} {enc : TypeId × Value → H} {w : World} {base : Nat} {spare : Nat → Bool} {held : Bool} {r0 : Reach} {b0 : Nat} {t e : TypeId} {v : Value} {d : DataW H} {ps : List MemPlace}
    (ht : Try.prog.underlying t = some (.slice e)) (hc : Try.prog.cellsOf e = 1) (he : Try.prog.underlying e = some .bool) (hv : Value.okWide Try.prog w r0 b0 t v) (h : DataW.Trod enc Try.prog w base spare held t v d ps) :
    ∃ l : List Bool, l.length ≤ maxLen ∧ VV s0 (allZ w) (.rows 1 (l.map fun b => [D.bool b])) v ∧ True := by
  obtain ⟨l, h1, _, h3⟩ := open_elts ht hc (by omega) (Elt.bool he) hv h
  exact ⟨l, h1, vt_bools h3, trivial⟩
theorem open_ints {H : Type} {enc : TypeId × Value → H} {w : World} {base : Nat} {spare : Nat → Bool} {held : Bool} {r0 : Reach} {b0 : Nat} {t e : TypeId} {v : Value} {d : DataW H} {ps : List MemPlace}
    (ht : Try.prog.underlying t = some (.slice e)) (hc : Try.prog.cellsOf e = 1) (he : Try.prog.underlying e = some (.int .i64)) (hv : Value.okWide Try.prog w r0 b0 t v) (h : DataW.Trod enc Try.prog w base spare held t v d ps) :
    ∃ l : List Int, l.length ≤ maxLen ∧ VV s0 (allZ w) (.rows 1 (l.map fun z => [I z])) v ∧ ∀ z ∈ l, InR z := by
  obtain ⟨l, h1, h2, h3⟩ := open_elts ht hc (by omega) (Elt.int he) hv h
  exact ⟨l, h1, vt_ints h3, fun z hz => (h2 z hz).2⟩
theorem open_rows {H : Type} {enc : TypeId × Value → H} {w : World} {base : Nat} {spare : Nat → Bool} {held : Bool} {r0 : Reach} {b0 : Nat} {t e : TypeId} {n : Nat} {v : Value} {d : DataW H} {ps : List MemPlace}
    (ht : Try.prog.underlying t = some (.slice e)) (hc : Try.prog.cellsOf e = n) (h0 : 0 < n) (he : Nums Try.prog e n) (hv : Value.okWide Try.prog w r0 b0 t v) (h : DataW.Trod enc Try.prog w base spare held t v d ps) :
    ∃ l : List (List Int), l.length ≤ maxLen ∧ VV s0 (allZ w) (.rows n (l.map fun r => r.map I)) v ∧ ∀ r ∈ l, r.length = n ∧ ∀ z ∈ r, InR z := by
  obtain ⟨l, h1, h2, h3⟩ := open_elts ht hc h0 (Elt.nums he) hv h
  exact ⟨l, h1, vt_nums h3 (fun r hr => (h2 r hr).2.1), fun r hr => (h2 r hr).2⟩
theorem laidOut : laidOutB Try.prog = true := by kernel_rfl
end Go.Proofs.Ytfkeddefajkobaa

set_option linter.unusedSimpArgs false
set_option linter.unusedVariables false
set_option maxRecDepth 100000
namespace Go.Proofs.Ytfkeddefajkobaa
open Go.ChangeShapes Go.WideShapes Go.ChangeAt Go.RowKit
theorem byte_wf {z : Int} (h : (Lit.int .u8 z).wf = true) : Byte z := by
  have h1 : IntKind.u8.min = 0 := rfl
  have h2 : IntKind.u8.max = 255 := rfl
  simp only [Lit.wf, Bool.and_eq_true, decide_eq_true_eq] at h
  exact ⟨by omega, by omega⟩
theorem open_struct {H : Type} {enc : TypeId × Value → H} {w : World} {base : Nat} {spare : Nat → Bool} {held : Bool} {t : TypeId} {n : Nat} {v : Value} {d : DataW H} {ps : List MemPlace}
    (h2 : 2 ≤ n) (he : Nums Try.prog t n) (h : DataW.Trod enc Try.prog w base spare held t v d ps) :
    ∃ r : List Int, VV s0 (allZ w) (.agg (r.map I)) v ∧ r.length = n ∧ ∀ z ∈ r, InR z := by
  obtain ⟨fuel, hf⟩ := h
  obtain ⟨r, hc, hl, hk⟩ := he hf
  refine ⟨r, ?_, hl, fun z hz => nums_wf (hk z hz)⟩
  have hlen : v.cells.toList.length = n := by rw [hc]; simpa [numsE] using hl
  cases v with
  | agg vs =>
    obtain ⟨vs⟩ := vs
    have e : vs = numsE r := by simpa [Value.cells] using hc
    subst e
    refine ⟨_, rfl, by simp [numsE], fun j x hx => ?_⟩
    obtain ⟨z, hz, rfl⟩ := (map_get _ _ _ _).1 hx
    have : (numsE r).toArray.getD j undef = .int .i64 z := by
      have : (numsE r)[j]? = some (.int .i64 z) := (map_get _ _ _ _).2 ⟨z, hz, rfl⟩
      simp [Array.getD_eq_getD_getElem?, this]
    rw [this]
    exact VT.int .i64 z
  | _ => simp [Value.cells] at hlen; omega
theorem Elt.byte {P : Program} {t : TypeId} (ht : P.underlying t = some (.int .u8)) : Elt P t 1 (fun z : Int => [Value.int .u8 z]) Byte := fun h => by
  obtain ⟨z, rfl, _, hw⟩ := DataW.trod_int ht h
  exact ⟨z, rfl, rfl, byte_wf hw⟩
theorem vt_bytes {W : World} {v : Value} {l : List Int} (h : Sl W 1 (fun z : Int => [Value.int .u8 z]) v l) : VT (allZ W) (.rows 1 (l.map PB)) v :=
  h.rows fun z _ => ⟨rfl, rfl, fun j d hd => by
    cases j with
    | zero => simp [PB] at hd; subst hd; exact ⟨_, rfl, fun Z => VT.int .u8 z⟩
    | succ j => simp [PB] at hd⟩
theorem open_bytes {H : Type} {enc : TypeId × Value → H} {w : World} {base : Nat} {spare : Nat → Bool} {held : Bool} {r0 : Reach} {b0 : Nat} {t e : TypeId} {v : Value} {d : DataW H} {ps : List MemPlace}
    (ht : Try.prog.underlying t = some (.slice e)) (hc : Try.prog.cellsOf e = 1) (he : Try.prog.underlying e = some (.int .u8)) (hv : Value.okWide Try.prog w r0 b0 t v) (h : DataW.Trod enc Try.prog w base spare held t v d ps) :
    ∃ l : List Int, l.length ≤ maxLen ∧ VV s0 (allZ w) (.rows 1 (l.map PB)) v ∧ ∀ z ∈ l, Byte z := by
  obtain ⟨l, h1, h2, h3⟩ := open_elts ht hc (by omega) (Elt.byte he) hv h
  exact ⟨l, h1, vt_bytes h3, fun z hz => (h2 z hz).2⟩
end Go.Proofs.Ytfkeddefajkobaa

