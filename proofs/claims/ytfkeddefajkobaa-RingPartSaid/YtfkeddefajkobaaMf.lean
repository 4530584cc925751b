/- This text holds, one behind the other, the texts that say what the program computes, step by step, and the rules that they need. They have no condition of their own. -/
import Derived.Test.YtfkeddefajkobaaMe
import Derived.Test.YtfkeddefajkobaaMc
import Derived.Deep.Slices
import Derived.Test.YtfkeddefajkobaaMd
set_option linter.unusedSimpArgs false
set_option linter.unusedVariables false
set_option maxRecDepth 100000
set_option maxHeartbeats 4000000
namespace Go.Proofs.Ytfkeddefajkobaa
open Go.RowKit
theorem rsame_code : cfun Try.prog [] 48 = some ⟨(.seq (.region 0 [⟨(some 2), (.box (.t 0)), none⟩, ⟨(some 3), (.box (.t 1)), none⟩, ⟨(some 4), (.mov (.k (.bool false))), none⟩]) (.seq (.seq (.region 1 [⟨(some 6), (.fad 0 (.t 2)), none⟩, ⟨(some 7), (.load false 1 (.t 6)), none⟩, ⟨(some 8), (.len (.t 7)), none⟩, ⟨(some 9), (.fad 0 (.t 3)), none⟩, ⟨(some 10), (.load false 1 (.t 9)), none⟩, ⟨(some 11), (.len (.t 10)), none⟩, ⟨(some 12), (.bin .neq (.t 8) (.t 11)), none⟩]) (.cond 12 (.seq (.region 2 [⟨(some 4), (.mov (.k (.bool false))), none⟩]) .ret) .skip)) (.seq (.seq (.region 3 [⟨(some 5), (.mov (.k (.int .i64 0))), none⟩]) (.block 0 (.loop (.seq (.seq (.region 4 [⟨(some 13), (.mov (.t 5)), none⟩, ⟨(some 14), (.fad 0 (.t 2)), none⟩, ⟨(some 15), (.load false 1 (.t 14)), none⟩, ⟨(some 16), (.len (.t 15)), none⟩, ⟨(some 17), (.bin .lss (.t 13) (.t 16)), none⟩]) (.cond 17 .skip (.exit 0))) (.seq (.block 1 (.seq (.draw 6 (.one true ⟨(some 20), (.fad 0 (.t 2)), none⟩ (.one true ⟨(some 21), (.load false 1 (.t 20)), none⟩ (.one true ⟨(some 22), (.mov (.t 5)), none⟩ (.one true ⟨(some 23), (.iads 2 (.t 21) (.t 22)), none⟩ (.one true ⟨(some 24), (.load true 2 (.t 23)), none⟩ (.one true ⟨(some 25), (.fad 0 (.t 3)), none⟩ (.one true ⟨(some 26), (.load false 1 (.t 25)), none⟩ (.one true ⟨(some 27), (.mov (.t 5)), none⟩ (.one true ⟨(some 28), (.iads 2 (.t 26) (.t 27)), none⟩ (.one true ⟨(some 29), (.load true 2 (.t 28)), none⟩ (.one true ⟨(some 30), (.eqa true [.i, .i] (.t 24) (.t 29)), none⟩ .done)))))))))))) (.cond 30 (.seq (.region 7 [⟨(some 4), (.mov (.k (.bool false))), none⟩]) .ret) .skip))) (.region 5 [⟨(some 18), (.mov (.t 5)), none⟩, ⟨(some 19), (.bin .add (.t 18) (.k (.int .i64 1))), none⟩, ⟨(some 5), (.mov (.t 19)), none⟩])))))) (.seq (.region 8 [⟨(some 4), (.mov (.k (.bool true))), none⟩]) .ret)))), [(.t 4)], 31⟩ := by kernel_rfl
theorem rsame_pf (l : List (Int × Int)) (hl : l.length ≤ 1000000) : PF Try.prog 48 [.agg [.rows 2 (l.map spE)], .agg [.rows 2 (l.map spE)]] (.bool true) := by
  refine PF.of follows_ok rsame_code (by simp) (by simp [argOk]) (by simp [noV, noC]) fun B hBN hB0 => acode_sound [0, 1, 2, 3, 4, 5, 12, 17, 30] [] _ _ _ ?_
  simp [AK_at, acode_seq, acode_region, acode_draw, acode_cond, ↓CB_t, ↓CB_f, CB_u, acode_block, acode_loop, acode_exit, acode_scope, acode_ret, acode_skip, seqQ_n, seqQ_e, seqQ_r, blockQ_n, blockQ_e, blockQ_r, TK_at, OK_at, SK_at, aops_nil, aops_cons, asch_done, asch_one, asch_two, asch_top, astep, aop_eq, isLoud, aloud, aloud1, isWrite, qv, evS, strip, gof, eget, hget, putO, eput, herase, oks, opnds, gS, afin, afin0, binD, arith, D.cells, takeD, fillD, keep, trim, envOf, Fin, aresl, aresv, resD, argOk, pickV, isP, deq, deqs, boundD, slD, lenD, isT, isSl, ptrIds, chunks, mn_min, mx_max, D.cells, splice_one, splice_more, Rbr_at, Rfr_at, frR, frV, frC, flatC, brwR, brwV, brwC, omap, leR, leV, leC, leL, leVL]
  refine W.loopS (fun i : Nat => ⟨[(5, I i), (4, .bool false), (3, .ptr 1 0), (2, .ptr 0 0)], [(1, .cells [.rows 2 (l.map spE)]), (0, .cells [.rows 2 (l.map spE)])], 2⟩)
    (fun n i => n = l.length - i ∧ i ≤ l.length) ?_ ?_
  · exact ⟨_, 0, (Gh.ren [0, 1] (by simp [hB0]) (by simp [hB0] <;> decide) (by simp [eget, rnS, rnR, rnV, rnC, LtS, LtR, LtV, LtC, lget]) (by simp [hget, rnO, rnC, LtO, LtC, lget]) (.inl (by simp [lget]))), rfl, by omega⟩
  rintro n i ⟨hn, hi⟩
  refine acode_sound [0, 1, 2, 3, 4, 5, 12, 17, 30] [] _ _ _ ?_
  by_cases hlt : i < l.length
  · have ii : InR ((i : Int) + 1) := inG (by omega) (by omega)
    simp [AK_at, acode_seq, acode_region, acode_draw, acode_cond, ↓CB_t, ↓CB_f, CB_u, acode_block, acode_loop, acode_exit, acode_scope, acode_ret, acode_skip, seqQ_n, seqQ_e, seqQ_r, blockQ_n, blockQ_e, blockQ_r, TK_at, OK_at, SK_at, aops_nil, aops_cons, asch_done, asch_one, asch_two, asch_top, astep, aop_eq, isLoud, aloud, aloud1, isWrite, qv, evS, strip, gof, eget, hget, putO, eput, herase, oks, opnds, gS, afin, afin0, binD, arith, D.cells, takeD, fillD, keep, trim, envOf, Fin, aresl, aresv, resD, argOk, pickV, isP, deq, deqs, boundD, slD, lenD, isT, isSl, ptrIds, chunks, mn_min, mx_max, D.cells, splice_one, splice_more, Rbr_at, Rfr_at, frR, frV, frC, flatC, brwR, brwV, brwC, omap, leR, leV, leC, leL, leVL, hlt, spE, ii]
    exact ⟨_, i + 1, (Gh.ren [0, 1] (by simp [hB0]) (by simp [hB0] <;> decide) (by simp [eget, rnS, rnR, rnV, rnC, LtS, LtR, LtV, LtC, lget]) (by simp [hget, rnO, rnC, LtO, LtC, lget]) (.inl (by simp [lget]))), by omega, rfl, by omega⟩
  · obtain rfl : i = l.length := by omega
    simp [AK_at, acode_seq, acode_region, acode_draw, acode_cond, ↓CB_t, ↓CB_f, CB_u, acode_block, acode_loop, acode_exit, acode_scope, acode_ret, acode_skip, seqQ_n, seqQ_e, seqQ_r, blockQ_n, blockQ_e, blockQ_r, TK_at, OK_at, SK_at, aops_nil, aops_cons, asch_done, asch_one, asch_two, asch_top, astep, aop_eq, isLoud, aloud, aloud1, isWrite, qv, evS, strip, gof, eget, hget, putO, eput, herase, oks, opnds, gS, afin, afin0, binD, arith, D.cells, takeD, fillD, keep, trim, envOf, Fin, aresl, aresv, resD, argOk, pickV, isP, deq, deqs, boundD, slD, lenD, isT, isSl, ptrIds, chunks, mn_min, mx_max, D.cells, splice_one, splice_more, Rbr_at, Rfr_at, frR, frV, frC, flatC, brwR, brwV, brwC, omap, leR, leV, leC, leL, leVL]
/-- the weights behind some members -/
def rgStep (ws : List Nat) (r : List Int) : List Nat :=
  let b := (pickedZ (r.getD 0 0) 12).toNat
  if 0 < ws.getD b 0 then ws else ws.set b (1 + (pickedZ (r.getD 1 0) 8).toNat)
def rg0 : List Nat := [0, 0, 0, 0, 0, 0, 0, 0, 0, 0, 0, 0]
def rgL (l : List (List Int)) : List Nat := (l.take 20).foldl rgStep rg0
theorem rgL_inv (l : List (List Int)) : ∀ i, WOk ((l.take i).foldl rgStep rg0) := fun i => by
  suffices h : ∀ (m : List (List Int)) (ws : List Nat), WOk ws → WOk (m.foldl rgStep ws) from h _ _ ⟨rfl, by simp [rg0]⟩
  intro m
  induction m with
  | nil => exact fun ws h => h
  | cons r t ih =>
    intro ws h
    refine ih _ ?_
    unfold rgStep
    simp only
    split
    · exact h
    · have := pickedZ_range (r.getD 1 0) 8 (by omega)
      exact h.set _ _ (by omega)
theorem rgL_succ (l : List (List Int)) (i : Nat) (h : i < l.length) : (l.take (i + 1)).foldl rgStep rg0 = rgStep ((l.take i).foldl rgStep rg0) l[i] := by
  rw [List.take_succ_eq_append_getElem h, List.foldl_append]; rfl
theorem ring0 : ringM rg0 = [] := by
  have : wantM rg0 12 = [] := by simp [wantM, rg0, List.range_succ, spotsM]
  unfold ringM
  rw [this]
  exact List.mergeSort_nil
theorem ring0b : ringM [0, 0, 0, 0, 0, 0, 0, 0, 0, 0, 0, 0] = [] := ring0
theorem want_len_set (ws : List Nat) (h : WOk ws) (b w : Nat) (hb : b < 12) (h0 : ws.getD b 0 = 0) : (ringM (ws.set b w)).length = (ringM ws).length + 4 * w := by
  rw [← ring_add ws h b w hb h0, sortM_len, List.length_append, spotsM_len]
theorem rnN (f : Nat → Nat) : (rnC f ∘ fun w : Nat => I (w : Int)) = fun w : Nat => I (w : Int) := rfl
theorem spliceN (l : List Nat) (b w : Nat) (h : b < l.length) : splice (l.map fun w : Nat => I (w : Int)) b [D.int IntKind.i64 (w : Int)] = (l.set b w).map fun w : Nat => I (w : Int) := by
  rw [splice_one _ _ _ (by simpa using h), List.map_set]
theorem ringed_code : cfun Try.prog [] 46 = some ⟨(.seq (.region 0 [⟨(some 2), (.alloc [.nil0]), none⟩, ⟨(some 3), (.alloc [(.int .i64 0), (.int .i64 0), (.int .i64 0), (.int .i64 0), (.int .i64 0), (.int .i64 0), (.int .i64 0), (.int .i64 0), (.int .i64 0), (.int .i64 0), (.int .i64 0), (.int .i64 0)]), none⟩, ⟨(some 4), (.mov (.k (.bool false))), none⟩]) (.seq (.region 1 [⟨(some 5), (.alloc [.nil0]), none⟩]) (.seq (.region 2 [⟨(some 6), (.alloc [(.int .i64 0), (.int .i64 0), (.int .i64 0), (.int .i64 0), (.int .i64 0), (.int .i64 0), (.int .i64 0), (.int .i64 0), (.int .i64 0), (.int .i64 0), (.int .i64 0), (.int .i64 0)]), none⟩]) (.seq (.seq (.region 3 [⟨(some 7), (.mov (.k (.int .i64 0))), none⟩]) (.block 0 (.loop (.seq (.seq (.region 4 [⟨(some 11), (.mov (.t 7)), none⟩, ⟨(some 12), (.mov (.t 0)), none⟩, ⟨(some 13), (.len (.t 12)), none⟩, ⟨(some 14), (.bin .lss (.t 11) (.t 13)), none⟩, ⟨(some 15), (.mov (.t 14)), none⟩, ⟨(some 16), (.mov (.t 7)), (some (15, true))⟩, ⟨(some 17), (.bin .lss (.t 16) (.k (.int .i64 20))), (some (15, true))⟩, ⟨(some 18), (.pick (.t 15) (.t 17) (.k (.bool false))), none⟩]) (.cond 18 .skip (.exit 0))) (.seq (.block 1 (.seq (.region 6 [⟨(some 21), (.mov (.t 0)), none⟩, ⟨(some 22), (.mov (.t 7)), none⟩, ⟨(some 23), (.iads 2 (.t 21) (.t 22)), none⟩, ⟨(some 24), (.fad 0 (.t 23)), none⟩, ⟨(some 25), (.load false 1 (.t 24)), none⟩, ⟨(some 26), (.call 25 [(.t 25), (.k (.int .i64 12))]), none⟩, ⟨(some 8), (.mov (.t 26)), none⟩]) (.seq (.seq (.region 7 [⟨(some 27), (.mov (.t 8)), none⟩, ⟨(some 28), (.iada 12 1 (.t 6) (.t 27)), none⟩, ⟨(some 29), (.load false 1 (.t 28)), none⟩, ⟨(some 30), (.bin .gtr (.t 29) (.k (.int .i64 0))), none⟩]) (.cond 30 (.exit 1) .skip)) (.seq (.region 8 [⟨(some 31), (.mov (.t 8)), none⟩, ⟨(some 32), (.mov (.t 0)), none⟩, ⟨(some 33), (.mov (.t 7)), none⟩, ⟨(some 34), (.iads 2 (.t 32) (.t 33)), none⟩, ⟨(some 35), (.fad 1 (.t 34)), none⟩, ⟨(some 36), (.load false 1 (.t 35)), none⟩, ⟨(some 37), (.call 25 [(.t 36), (.k (.int .i64 8))]), none⟩, ⟨(some 38), (.bin .add (.k (.int .i64 1)) (.t 37)), none⟩, ⟨(some 39), (.iada 12 1 (.t 6) (.t 31)), none⟩, ⟨none, (.store 1 (.t 39) (.t 38)), none⟩]) (.seq (.draw 9 (.one true ⟨(some 41), (.load true 1 (.t 5)), none⟩ (.one true ⟨(some 42), (.mov (.t 8)), none⟩ (.one true ⟨(some 43), (.mov (.t 8)), none⟩ (.one true ⟨(some 44), (.iada 12 1 (.t 6) (.t 43)), none⟩ (.one true ⟨(some 45), (.load false 1 (.t 44)), none⟩ (.two (.one true ⟨(some 46), (.call 47 [(.t 41), (.t 42), (.t 45)]), none⟩ (.one true ⟨(some 40), (.mov (.t 46)), none⟩ (.one true ⟨(some 47), (.ext (.t 40) 0), none⟩ (.one true ⟨(some 48), (.ext (.t 40) 1), none⟩ (.one true ⟨(some 9), (.alloc [.nil0]), none⟩ (.one false ⟨none, (.store 1 (.t 9) (.t 47)), none⟩ (.one true ⟨(some 10), (.mov (.t 48)), none⟩ .done))))))) (.two (.one true ⟨(some 9), (.alloc [.nil0]), none⟩ (.one true ⟨(some 46), (.call 47 [(.t 41), (.t 42), (.t 45)]), none⟩ (.one true ⟨(some 40), (.mov (.t 46)), none⟩ (.one true ⟨(some 47), (.ext (.t 40) 0), none⟩ (.one true ⟨(some 48), (.ext (.t 40) 1), none⟩ (.one false ⟨none, (.store 1 (.t 9) (.t 47)), none⟩ (.one true ⟨(some 10), (.mov (.t 48)), none⟩ .done))))))) .top)))))))) (.seq (.seq (.draw 10 (.one true ⟨(some 49), (.mov (.t 10)), none⟩ (.one true ⟨(some 50), (.bin .neq (.t 49) (.k (.int .i64 0))), none⟩ (.one true ⟨(some 51), (.mov (.t 50)), none⟩ (.one true ⟨(some 52), (.fad 0 (.t 9)), (some (51, false))⟩ (.one true ⟨(some 53), (.load false 1 (.t 52)), (some (51, false))⟩ (.one true ⟨(some 54), (.len (.t 53)), (some (51, false))⟩ (.one true ⟨(some 55), (.fad 0 (.t 5)), (some (51, false))⟩ (.one true ⟨(some 56), (.load false 1 (.t 55)), (some (51, false))⟩ (.one true ⟨(some 57), (.len (.t 56)), (some (51, false))⟩ (.one true ⟨(some 58), (.mov (.t 8)), (some (51, false))⟩ (.one true ⟨(some 59), (.iada 12 1 (.t 6) (.t 58)), (some (51, false))⟩ (.one true ⟨(some 60), (.load false 1 (.t 59)), (some (51, false))⟩ (.one true ⟨(some 61), (.bin .mul (.k (.int .i64 4)) (.t 60)), (some (51, false))⟩ (.one true ⟨(some 62), (.bin .add (.t 57) (.t 61)), (some (51, false))⟩ (.one true ⟨(some 63), (.bin .neq (.t 54) (.t 62)), (some (51, false))⟩ (.one true ⟨(some 64), (.pick (.t 51) (.k (.bool true)) (.t 63)), none⟩ .done))))))))))))))))) (.cond 64 (.seq (.draw 11 (.one true ⟨(some 65), (.load true 1 (.t 5)), none⟩ (.two (.one true ⟨(some 66), (.load true 12 (.t 6)), none⟩ (.one false ⟨none, (.store 1 (.t 2) (.t 65)), none⟩ (.one false ⟨none, (.store 12 (.t 3) (.t 66)), none⟩ (.one true ⟨(some 4), (.mov (.k (.bool false))), none⟩ .done)))) (.two (.one false ⟨none, (.store 1 (.t 2) (.t 65)), none⟩ (.one true ⟨(some 66), (.load true 12 (.t 6)), none⟩ (.one false ⟨none, (.store 12 (.t 3) (.t 66)), none⟩ (.one true ⟨(some 4), (.mov (.k (.bool false))), none⟩ .done)))) .top)))) .ret) .skip)) (.region 12 [⟨(some 67), (.load true 1 (.t 9)), none⟩, ⟨none, (.store 1 (.t 5) (.t 67)), none⟩]))))))) (.region 5 [⟨(some 19), (.mov (.t 7)), none⟩, ⟨(some 20), (.bin .add (.t 19) (.k (.int .i64 1))), none⟩, ⟨(some 7), (.mov (.t 20)), none⟩])))))) (.seq (.draw 13 (.one true ⟨(some 68), (.load true 1 (.t 5)), none⟩ (.two (.one true ⟨(some 69), (.load true 12 (.t 6)), none⟩ (.one false ⟨none, (.store 1 (.t 2) (.t 68)), none⟩ (.one false ⟨none, (.store 12 (.t 3) (.t 69)), none⟩ (.one true ⟨(some 4), (.mov (.k (.bool true))), none⟩ .done)))) (.two (.one false ⟨none, (.store 1 (.t 2) (.t 68)), none⟩ (.one true ⟨(some 69), (.load true 12 (.t 6)), none⟩ (.one false ⟨none, (.store 12 (.t 3) (.t 69)), none⟩ (.one true ⟨(some 4), (.mov (.k (.bool true))), none⟩ .done)))) .top)))) .ret))))), [(.c 2 true 1), (.c 3 true 12), (.t 4)], 70⟩ := by kernel_rfl
theorem ringed_pf (l : List (List Int)) (hl : l.length ≤ Go.maxLen) (hr : ∀ r ∈ l, r.length = 2 ∧ ∀ z ∈ r, InR z) :
    PF Try.prog 46 [.rows 2 (l.map fun r => r.map I)] (.tup [.agg [.rows 2 ((ringM (rgL l)).map spE)], .agg ((rgL l).map fun w : Nat => I (w : Int)), .bool true]) := by
  refine PF.of follows_ok ringed_code (by simp) (by simp [argOk]) (by simp [noV, noC]) fun B hBN hB0 => acode_sound [0, 2, 3, 4, 5, 6, 7, 8, 9, 10, 18, 30, 64] [] _ _ _ ?_
  simp [AK_at, acode_seq, acode_region, acode_draw, acode_cond, ↓CB_t, ↓CB_f, CB_u, acode_block, acode_loop, acode_exit, acode_scope, acode_ret, acode_skip, seqQ_n, seqQ_e, seqQ_r, blockQ_n, blockQ_e, blockQ_r, TK_at, OK_at, SK_at, aops_nil, aops_cons, asch_done, asch_one, asch_two, asch_top, astep, aop_eq, isLoud, aloud, aloud1, isWrite, qv, evS, strip, gof, eget, hget, putO, eput, herase, oks, opnds, gS, afin, afin0, binD, arith, D.cells, takeD, fillD, keep, trim, envOf, Fin, aresl, aresv, resD, argOk, pickV, isP, deq, deqs, boundD, slD, lenD, isT, isSl, ptrIds, chunks, mn_min, mx_max, D.cells, splice_one, splice_more, Rbr_at, Rfr_at, frR, frV, frC, flatC, brwR, brwV, brwC, omap, leR, leV, leC, leL, leVL]
  refine W.loopS (fun i : Nat => ⟨[(7, I i), (6, .ptr 3 0), (5, .ptr 2 0), (4, .bool false), (3, .ptr 1 0), (2, .ptr 0 0), (0, .rows 2 (l.map fun r => r.map I))], [(3, .cells (((l.take i).foldl rgStep rg0).map fun w : Nat => I (w : Int))), (2, .cells [.rows 2 ((ringM ((l.take i).foldl rgStep rg0)).map spE)]), (1, .cells [I 0, I 0, I 0, I 0, I 0, I 0, I 0, I 0, I 0, I 0, I 0, I 0]), (0, .cells [.nil0])], 4⟩)
    (fun n i => n = l.length - i ∧ i ≤ l.length ∧ i ≤ 20) ?_ ?_
  · refine ⟨_, 0, (Gh.nilC 2 0 2 [.nil0] (by simp [hget]) rfl).trans ?_, rfl, by omega, by omega⟩
    simp [eput]
    exact (Gh.ren [0, 1, 2, 3] (by simp [hB0]) (by simp [hB0] <;> decide) (by simp [eget, rnS, rnR, rnV, rnC, LtS, LtR, LtV, LtC, lget, ring0b, rg0]) (by simp [hget, rnO, rnC, LtO, LtC, lget, ring0b, rg0]) (.inl (by simp [lget, ring0b, rg0])))
  rintro n i ⟨hn, hi, h20⟩
  refine acode_sound [0, 2, 3, 4, 5, 6, 7, 8, 9, 10, 18, 30, 64] [] _ _ _ ?_
  have hws := rgL_inv l i
  by_cases hlt : i < l.length ∧ i < 20
  · obtain ⟨hlt, hlt2⟩ := hlt
    have hst := rgL_succ l i hlt
    obtain ⟨ws, hw⟩ : ∃ ws, ws = (l.take i).foldl rgStep rg0 := ⟨_, rfl⟩
    rw [← hw] at hst hws
    obtain ⟨h2, hz⟩ := hr _ (List.getElem_mem hlt)
    obtain ⟨x, y, hxy⟩ : ∃ x y, l[i] = [x, y] := by
      match l[i], h2 with
      | [x, y], _ => exact ⟨x, y, rfl⟩
    rw [hxy] at hst hz
    have ix : InR x := hz _ (by simp)
    have iy : InR y := hz _ (by simp)
    have px := picked_pf x 12 ix (by omega)
    have py := picked_pf y 8 iy (by omega)
    have qx := pickedZ_range x 12 (by omega)
    have qy := pickedZ_range y 8 (by omega)
    have hz1 : (i : Int) < l.length := by omega
    have hz2 : (i : Int) < 20 := by omega
    have ii : InR ((i : Int) + 1) := inG (by omega) (by omega)
    have hst1 : rgStep ws [x, y] = if 0 < ws.getD (pickedZ x 12).toNat 0 then ws else ws.set (pickedZ x 12).toNat (1 + (pickedZ y 8).toNat) := rfl
    rw [hst1] at hst
    obtain ⟨b, hb⟩ : ∃ b : Nat, pickedZ x 12 = b := ⟨(pickedZ x 12).toNat, by omega⟩
    obtain ⟨w, hwv⟩ : ∃ w : Nat, 1 + pickedZ y 8 = w := ⟨(1 + pickedZ y 8).toNat, by omega⟩
    have hwv2 : 1 + (pickedZ y 8).toNat = w := by omega
    rw [hb] at px
    rw [hb, hwv2, Int.toNat_natCast] at hst
    have hb12 : b < 12 := by omega
    have hb1 : (b : Int) < 12 := by omega
    have hb2 : b ≤ 11 := by omega
    have hb3 : 0 < 12 - b := by omega
    have hl12 := hws.len
    obtain ⟨c, hc⟩ : ∃ c, c = ws.getD b 0 := ⟨_, rfl⟩
    rw [← hc] at hst
    have hat : ws[b]? = some c := by
      rw [List.getD_eq_getElem?_getD, List.getElem?_eq_getElem (by omega)] at hc
      rw [List.getElem?_eq_getElem (by omega)]
      simpa using hc.symm
    by_cases hc0 : 0 < c
    · rw [if_pos hc0] at hst
      have hcz : (0 : Int) < c := by omega
      repeat' (first
        | simp [AK_at, acode_seq, acode_region, acode_draw, acode_cond, ↓CB_t, ↓CB_f, CB_u, acode_block, acode_loop, acode_exit, acode_scope, acode_ret, acode_skip, seqQ_n, seqQ_e, seqQ_r, blockQ_n, blockQ_e, blockQ_r, TK_at, OK_at, SK_at, aops_nil, aops_cons, asch_done, asch_one, asch_two, asch_top, astep, aop_eq, isLoud, aloud, aloud1, isWrite, qv, evS, strip, gof, eget, hget, putO, eput, herase, oks, opnds, gS, afin, afin0, binD, arith, D.cells, takeD, fillD, keep, trim, envOf, Fin, aresl, aresv, resD, argOk, pickV, isP, deq, deqs, boundD, slD, lenD, isT, isSl, ptrIds, chunks, mn_min, mx_max, D.cells, splice_one, splice_more, Rbr_at, Rfr_at, frR, frV, frC, flatC, brwR, brwV, brwC, omap, leR, leV, leC, leL, leVL, ← hw, hxy, hlt, hz1, hz2, hb1, hb2, hb3, hl12, hat, hc0, ii]
        | (refine WCall.pf (px) ?_ ?_ ?_ ?_; (focus (simp [oks, opnds, gS, gof, eget]; done)); (focus (simp [omap, brwV, brwC, evS, eget, strip, hget, leVL, leV, leC, leL, ← hw, hxy, hlt, hz1, hz2, hb1, hb2, hb3, hl12, hat, hc0, ii]; done)); (focus (simp [noV, noC, flatR, flatV, flatC, evS, eget, strip, ← hw, hxy, hlt, hz1, hz2, hb1, hb2, hb3, hl12, hat, hc0, ii]; done)))
        | (refine ⟨WCall.pf (px) ?_ ?_ ?_ ?_, ?_⟩; (focus (simp [oks, opnds, gS, gof, eget]; done)); (focus (simp [omap, brwV, brwC, evS, eget, strip, hget, leVL, leV, leC, leL, ← hw, hxy, hlt, hz1, hz2, hb1, hb2, hb3, hl12, hat, hc0, ii]; done)); (focus (simp [noV, noC, flatR, flatV, flatC, evS, eget, strip, ← hw, hxy, hlt, hz1, hz2, hb1, hb2, hb3, hl12, hat, hc0, ii]; done)))
        | (with_reducible refine And.intro (And.intro ?_ ?_) ?_)
        | fail)
      all_goals exact ⟨_, i + 1, (Gh.ren [0, 1, 2, 3] (by simp [hB0]) (by simp [hB0] <;> decide) (by simp [eget, rnS, rnR, rnV, rnC, LtS, LtR, LtV, LtC, lget, hst, rnN]) (by simp [hget, rnO, rnC, LtO, LtC, lget, hst, rnN]) (.inl (by simp [lget, hst, rnN]))), by omega, rfl, by omega, by omega⟩
    · rw [if_neg hc0] at hst
      obtain rfl : c = 0 := by omega
      have hadd := radd_pf ws hws b w hb12 (by omega) hc.symm
      have hlen := want_len_set ws hws b w hb12 hc.symm
      have iw : InR (w : Int) := inG (by omega) (by omega)
      obtain ⟨ws2, hws2⟩ : ∃ ws2, ws2 = ws.set b w := ⟨_, rfl⟩
      have hspl := spliceN ws b w (by omega)
      have hat2 : (ws.set b w)[b]? = some w := by simp [hl12, hb12]
      have hsl12 : (ws.set b w).length = 12 := by simp [hl12]
      rw [← hws2] at hspl hat2 hsl12 hlen hadd hst
      have hrl := ringM_len ws hws
      have i4 : InR (4 * (w : Int)) := inG (by omega) (by omega)
      have i5 : InR (((ringM ws).length : Int) + 4 * w) := inG (by omega) (by omega)
      repeat' (first
        | simp [AK_at, acode_seq, acode_region, acode_draw, acode_cond, ↓CB_t, ↓CB_f, CB_u, acode_block, acode_loop, acode_exit, acode_scope, acode_ret, acode_skip, seqQ_n, seqQ_e, seqQ_r, blockQ_n, blockQ_e, blockQ_r, TK_at, OK_at, SK_at, aops_nil, aops_cons, asch_done, asch_one, asch_two, asch_top, astep, aop_eq, isLoud, aloud, aloud1, isWrite, qv, evS, strip, gof, eget, hget, putO, eput, herase, oks, opnds, gS, afin, afin0, binD, arith, D.cells, takeD, fillD, keep, trim, envOf, Fin, aresl, aresv, resD, argOk, pickV, isP, deq, deqs, boundD, slD, lenD, isT, isSl, ptrIds, chunks, mn_min, mx_max, D.cells, splice_one, splice_more, Rbr_at, Rfr_at, frR, frV, frC, flatC, brwR, brwV, brwC, omap, leR, leV, leC, leL, leVL, ← hw, hxy, hlt, hz1, hz2, hb1, hb2, hb3, hl12, hat, ii, hwv, iw, hspl, hat2, hsl12, hlen, i4, i5]
        | (refine WCall.pf (px) ?_ ?_ ?_ ?_; (focus (simp [oks, opnds, gS, gof, eget]; done)); (focus (simp [omap, brwV, brwC, evS, eget, strip, hget, leVL, leV, leC, leL, ← hw, hxy, hlt, hz1, hz2, hb1, hb2, hb3, hl12, hat, ii, hwv, iw, hspl, hat2, hsl12, hlen, i4, i5]; done)); (focus (simp [noV, noC, flatR, flatV, flatC, evS, eget, strip, ← hw, hxy, hlt, hz1, hz2, hb1, hb2, hb3, hl12, hat, ii, hwv, iw, hspl, hat2, hsl12, hlen, i4, i5]; done)))
        | (refine ⟨WCall.pf (px) ?_ ?_ ?_ ?_, ?_⟩; (focus (simp [oks, opnds, gS, gof, eget]; done)); (focus (simp [omap, brwV, brwC, evS, eget, strip, hget, leVL, leV, leC, leL, ← hw, hxy, hlt, hz1, hz2, hb1, hb2, hb3, hl12, hat, ii, hwv, iw, hspl, hat2, hsl12, hlen, i4, i5]; done)); (focus (simp [noV, noC, flatR, flatV, flatC, evS, eget, strip, ← hw, hxy, hlt, hz1, hz2, hb1, hb2, hb3, hl12, hat, ii, hwv, iw, hspl, hat2, hsl12, hlen, i4, i5]; done)))
        | (refine WCall.pf (py) ?_ ?_ ?_ ?_; (focus (simp [oks, opnds, gS, gof, eget]; done)); (focus (simp [omap, brwV, brwC, evS, eget, strip, hget, leVL, leV, leC, leL, ← hw, hxy, hlt, hz1, hz2, hb1, hb2, hb3, hl12, hat, ii, hwv, iw, hspl, hat2, hsl12, hlen, i4, i5]; done)); (focus (simp [noV, noC, flatR, flatV, flatC, evS, eget, strip, ← hw, hxy, hlt, hz1, hz2, hb1, hb2, hb3, hl12, hat, ii, hwv, iw, hspl, hat2, hsl12, hlen, i4, i5]; done)))
        | (refine ⟨WCall.pf (py) ?_ ?_ ?_ ?_, ?_⟩; (focus (simp [oks, opnds, gS, gof, eget]; done)); (focus (simp [omap, brwV, brwC, evS, eget, strip, hget, leVL, leV, leC, leL, ← hw, hxy, hlt, hz1, hz2, hb1, hb2, hb3, hl12, hat, ii, hwv, iw, hspl, hat2, hsl12, hlen, i4, i5]; done)); (focus (simp [noV, noC, flatR, flatV, flatC, evS, eget, strip, ← hw, hxy, hlt, hz1, hz2, hb1, hb2, hb3, hl12, hat, ii, hwv, iw, hspl, hat2, hsl12, hlen, i4, i5]; done)))
        | (refine WCall.pf (hadd) ?_ ?_ ?_ ?_; (focus (simp [oks, opnds, gS, gof, eget]; done)); (focus (simp [omap, brwV, brwC, evS, eget, strip, hget, leVL, leV, leC, leL, ← hw, hxy, hlt, hz1, hz2, hb1, hb2, hb3, hl12, hat, ii, hwv, iw, hspl, hat2, hsl12, hlen, i4, i5]; done)); (focus (simp [noV, noC, flatR, flatV, flatC, evS, eget, strip, ← hw, hxy, hlt, hz1, hz2, hb1, hb2, hb3, hl12, hat, ii, hwv, iw, hspl, hat2, hsl12, hlen, i4, i5]; done)))
        | (refine ⟨WCall.pf (hadd) ?_ ?_ ?_ ?_, ?_⟩; (focus (simp [oks, opnds, gS, gof, eget]; done)); (focus (simp [omap, brwV, brwC, evS, eget, strip, hget, leVL, leV, leC, leL, ← hw, hxy, hlt, hz1, hz2, hb1, hb2, hb3, hl12, hat, ii, hwv, iw, hspl, hat2, hsl12, hlen, i4, i5]; done)); (focus (simp [noV, noC, flatR, flatV, flatC, evS, eget, strip, ← hw, hxy, hlt, hz1, hz2, hb1, hb2, hb3, hl12, hat, ii, hwv, iw, hspl, hat2, hsl12, hlen, i4, i5]; done)))
        | (with_reducible refine And.intro (And.intro ?_ ?_) ?_)
        | fail)
      all_goals exact ⟨_, i + 1, (Gh.ren [0, 1, 2, 3] (by simp [hB0]) (by simp [hB0] <;> decide) (by simp [eget, rnS, rnR, rnV, rnC, LtS, LtR, LtV, LtC, lget, hst, rnN]) (by simp [hget, rnO, rnC, LtO, LtC, lget, hst, rnN]) (.inl (by simp [lget, hst, rnN]))), by omega, rfl, by omega, by omega⟩
  · have hcl : (l.take i).foldl rgStep rg0 = rgL l := by
      unfold rgL
      by_cases h1 : i = 20
      · rw [h1]
      · rw [List.take_of_length_le (show l.length ≤ i by omega), List.take_of_length_le (show l.length ≤ 20 by omega)]
    rw [hcl] at hws ⊢
    have hl12 := hws.len
    have hs0 := spl12 hws.len
    have htw : ((rgL l).map fun w : Nat => I (w : Int)).take 12 = (rgL l).map fun w : Nat => I (w : Int) := List.take_of_length_le (by simp [hl12])
    by_cases hlt1 : i < l.length
    · obtain rfl : i = 20 := by omega
      have hz1 : (20 : Int) < l.length := by omega
      simp [AK_at, acode_seq, acode_region, acode_draw, acode_cond, ↓CB_t, ↓CB_f, CB_u, acode_block, acode_loop, acode_exit, acode_scope, acode_ret, acode_skip, seqQ_n, seqQ_e, seqQ_r, blockQ_n, blockQ_e, blockQ_r, TK_at, OK_at, SK_at, aops_nil, aops_cons, asch_done, asch_one, asch_two, asch_top, astep, aop_eq, isLoud, aloud, aloud1, isWrite, qv, evS, strip, gof, eget, hget, putO, eput, herase, oks, opnds, gS, afin, afin0, binD, arith, D.cells, takeD, fillD, keep, trim, envOf, Fin, aresl, aresv, resD, argOk, pickV, isP, deq, deqs, boundD, slD, lenD, isT, isSl, ptrIds, chunks, mn_min, mx_max, D.cells, splice_one, splice_more, Rbr_at, Rfr_at, frR, frV, frC, flatC, brwR, brwV, brwC, omap, leR, leV, leC, leL, leVL, hlt1, hz1, hl12, hs0, htw, omapI, leLI]
    · have hz1 : ¬ (i : Int) < l.length := by omega
      simp [AK_at, acode_seq, acode_region, acode_draw, acode_cond, ↓CB_t, ↓CB_f, CB_u, acode_block, acode_loop, acode_exit, acode_scope, acode_ret, acode_skip, seqQ_n, seqQ_e, seqQ_r, blockQ_n, blockQ_e, blockQ_r, TK_at, OK_at, SK_at, aops_nil, aops_cons, asch_done, asch_one, asch_two, asch_top, astep, aop_eq, isLoud, aloud, aloud1, isWrite, qv, evS, strip, gof, eget, hget, putO, eput, herase, oks, opnds, gS, afin, afin0, binD, arith, D.cells, takeD, fillD, keep, trim, envOf, Fin, aresl, aresv, resD, argOk, pickV, isP, deq, deqs, boundD, slD, lenD, isT, isSl, ptrIds, chunks, mn_min, mx_max, D.cells, splice_one, splice_more, Rbr_at, Rfr_at, frR, frV, frC, flatC, brwR, brwV, brwC, omap, leR, leV, leC, leL, leVL, hlt1, hz1, hl12, hs0, htw, omapI, leLI]
end Go.Proofs.Ytfkeddefajkobaa

set_option linter.unusedSimpArgs false
set_option linter.unusedVariables false
set_option maxRecDepth 100000
set_option maxHeartbeats 4000000
namespace Go.Proofs.Ytfkeddefajkobaa
open Go.RowKit
theorem rgStep_pos (ws : List Nat) (r : List Int) (h : WOk ws) : ∃ b, b < 12 ∧ 0 < (rgStep ws r).getD b 0 := by
  have q := pickedZ_range (r.getD 0 0) 12 (by omega)
  refine ⟨(pickedZ (r.getD 0 0) 12).toNat, by omega, ?_⟩
  unfold rgStep
  simp only
  split
  · assumption
  · have : (pickedZ (r.getD 0 0) 12).toNat < ws.length := by rw [h.len]; omega
    rw [List.getD_eq_getElem?_getD, List.getElem?_set_self this]
    show 0 < 1 + (pickedZ (r.getD 1 0) 8).toNat
    omega
theorem rgL_pos (l : List (List Int)) (h : l ≠ []) : 0 < (ringM (rgL l)).length := by
  have hl : 0 < l.length := List.length_pos_iff.2 h
  obtain ⟨i, hi⟩ : ∃ i, min 20 l.length = i + 1 := ⟨min 20 l.length - 1, by omega⟩
  have e : rgL l = rgStep ((l.take i).foldl rgStep rg0) (l[i]'(by omega)) := by
    rw [← rgL_succ l i (by omega)]
    unfold rgL
    by_cases h20 : 20 ≤ l.length
    · rw [show i + 1 = 20 by omega]
    · rw [List.take_of_length_le (show l.length ≤ 20 by omega), List.take_of_length_le (show l.length ≤ i + 1 by omega)]
  obtain ⟨b, hb, hp⟩ := rgStep_pos ((l.take i).foldl rgStep rg0) (l[i]'(by omega)) (rgL_inv l i)
  rw [← e] at hp
  have h1 := cnt_ring (rgL l) b hb
  have h2 := List.countP_le_length (p := isB b) (l := ringM (rgL l))
  omega
def dnM (ws : List Nat) (k : Nat) : List Nat := (List.range 12).map fun j => if k ≤ j then ws.getD j 0 else 0
theorem dnM_len (ws : List Nat) (k : Nat) : (dnM ws k).length = 12 := by simp [dnM]
theorem dnM_ok {ws : List Nat} (h : WOk ws) (k : Nat) : WOk (dnM ws k) := ⟨dnM_len ws k, fun w hw => by
  obtain ⟨j, hj, rfl⟩ := List.mem_map.1 hw
  have hj := List.mem_range.1 hj
  split
  · rw [List.getD_eq_getElem?_getD, List.getElem?_eq_getElem (by rw [h.len]; exact hj)]
    exact h.le _ (List.getElem_mem _)
  · omega⟩
theorem dnM_12 (ws : List Nat) : dnM ws 12 = rg0 := by simp [dnM, rg0, List.range_succ]
theorem dnM_0 {ws : List Nat} (h : WOk ws) : dnM ws 0 = ws := by
  refine List.ext_getElem (by rw [dnM_len, h.len]) fun j h1 h2 => ?_
  have hj : j < 12 := by rw [dnM_len] at h1; exact h1
  simp [dnM, List.getElem?_eq_getElem h2]
theorem dnM_at (ws : List Nat) (k : Nat) (hk : k < 12) : (dnM ws (k + 1)).getD k 0 = 0 := by
  have : ¬ k + 1 ≤ k := by omega
  simp [dnM, List.getD_eq_getElem?_getD, List.getElem?_range, hk, this]
theorem dnM_set (ws : List Nat) (k : Nat) (hk : k < 12) : (dnM ws (k + 1)).set k (ws.getD k 0) = dnM ws k := by
  refine List.ext_getElem (by simp [dnM]) fun j h1 h2 => ?_
  rw [List.getElem_set]
  simp only [dnM, List.getElem_map, List.getElem_range]
  by_cases h : k = j
  · subst h; rw [if_pos rfl, if_pos (by omega)]
  · rw [if_neg h]
    by_cases h3 : k ≤ j
    · rw [if_pos h3, if_pos (by omega)]
    · rw [if_neg h3, if_neg (by omega)]
theorem dnM_same (ws : List Nat) (k : Nat) (hk : k < 12) (h0 : ws.getD k 0 = 0) : dnM ws k = dnM ws (k + 1) := by
  rw [← dnM_set ws k hk, h0]
  refine List.ext_getElem (by simp) fun j h1 h2 => ?_
  rw [List.getElem_set]
  by_cases h : k = j
  · subst h
    have : ¬ k + 1 ≤ k := by omega
    simp [dnM, this]
  · rw [if_neg h]
theorem rturn_code : cfun Try.prog [] 17 = some ⟨(.seq (.region 0 [⟨(some 2), (.mov (.k (.bool false))), none⟩]) (.seq (.region 1 [⟨(some 11), (.mov (.t 0)), none⟩, ⟨(some 12), (.call 46 [(.t 11)]), none⟩, ⟨(some 10), (.mov (.t 12)), none⟩, ⟨(some 13), (.ext (.t 10) 0), none⟩, ⟨(some 14), (.ext (.t 10) 1), none⟩, ⟨(some 15), (.ext (.t 10) 2), none⟩, ⟨(some 3), (.alloc [.nil0]), none⟩, ⟨(some 4), (.alloc [(.int .i64 0), (.int .i64 0), (.int .i64 0), (.int .i64 0), (.int .i64 0), (.int .i64 0), (.int .i64 0), (.int .i64 0), (.int .i64 0), (.int .i64 0), (.int .i64 0), (.int .i64 0)]), none⟩, ⟨none, (.store 1 (.t 3) (.t 13)), none⟩, ⟨none, (.store 12 (.t 4) (.t 14)), none⟩, ⟨(some 5), (.mov (.t 15)), none⟩]) (.seq (.region 2 [⟨(some 6), (.alloc [.nil0]), none⟩]) (.seq (.seq (.region 3 [⟨(some 7), (.mov (.k (.int .i64 11))), none⟩]) (.block 0 (.loop (.seq (.seq (.region 4 [⟨(some 16), (.mov (.t 7)), none⟩, ⟨(some 17), (.bin .geq (.t 16) (.k (.int .i64 0))), none⟩]) (.cond 17 .skip (.exit 0))) (.seq (.block 1 (.seq (.seq (.region 6 [⟨(some 20), (.mov (.t 7)), none⟩, ⟨(some 21), (.iada 12 1 (.t 4) (.t 20)), none⟩, ⟨(some 22), (.load false 1 (.t 21)), none⟩, ⟨(some 23), (.bin .eql (.t 22) (.k (.int .i64 0))), none⟩]) (.cond 23 (.exit 1) .skip)) (.seq (.draw 7 (.one true ⟨(some 25), (.load true 1 (.t 6)), none⟩ (.one true ⟨(some 26), (.mov (.t 7)), none⟩ (.one true ⟨(some 27), (.mov (.t 7)), none⟩ (.one true ⟨(some 28), (.iada 12 1 (.t 4) (.t 27)), none⟩ (.one true ⟨(some 29), (.load false 1 (.t 28)), none⟩ (.two (.one true ⟨(some 30), (.call 47 [(.t 25), (.t 26), (.t 29)]), none⟩ (.one true ⟨(some 24), (.mov (.t 30)), none⟩ (.one true ⟨(some 31), (.ext (.t 24) 0), none⟩ (.one true ⟨(some 32), (.ext (.t 24) 1), none⟩ (.one true ⟨(some 8), (.alloc [.nil0]), none⟩ (.one false ⟨none, (.store 1 (.t 8) (.t 31)), none⟩ (.one true ⟨(some 9), (.mov (.t 32)), none⟩ .done))))))) (.two (.one true ⟨(some 8), (.alloc [.nil0]), none⟩ (.one true ⟨(some 30), (.call 47 [(.t 25), (.t 26), (.t 29)]), none⟩ (.one true ⟨(some 24), (.mov (.t 30)), none⟩ (.one true ⟨(some 31), (.ext (.t 24) 0), none⟩ (.one true ⟨(some 32), (.ext (.t 24) 1), none⟩ (.one false ⟨none, (.store 1 (.t 8) (.t 31)), none⟩ (.one true ⟨(some 9), (.mov (.t 32)), none⟩ .done))))))) .top)))))))) (.seq (.seq (.region 8 [⟨(some 33), (.mov (.t 9)), none⟩, ⟨(some 34), (.bin .neq (.t 33) (.k (.int .i64 0))), none⟩]) (.cond 34 (.seq (.region 9 [⟨(some 2), (.mov (.k (.bool false))), none⟩]) .ret) .skip)) (.region 10 [⟨(some 35), (.load true 1 (.t 8)), none⟩, ⟨none, (.store 1 (.t 6) (.t 35)), none⟩]))))) (.region 5 [⟨(some 18), (.mov (.t 7)), none⟩, ⟨(some 19), (.bin .sub (.t 18) (.k (.int .i64 1))), none⟩, ⟨(some 7), (.mov (.t 19)), none⟩])))))) (.seq (.region 11 [⟨(some 36), (.mov (.t 5)), none⟩, ⟨(some 37), (.mov (.t 36)), none⟩, ⟨(some 38), (.load true 1 (.t 3)), (some (37, true))⟩, ⟨(some 39), (.load true 1 (.t 6)), (some (37, true))⟩, ⟨(some 40), (.call 48 [(.t 38), (.t 39)]), (some (37, true))⟩, ⟨(some 41), (.pick (.t 37) (.t 40) (.k (.bool false))), none⟩, ⟨(some 42), (.mov (.t 41)), none⟩, ⟨(some 43), (.mov (.t 0)), (some (42, true))⟩, ⟨(some 44), (.len (.t 43)), (some (42, true))⟩, ⟨(some 45), (.bin .eql (.t 44) (.k (.int .i64 0))), (some (42, true))⟩, ⟨(some 46), (.mov (.t 45)), (some (42, true))⟩, ⟨(some 47), (.fad 0 (.t 3)), (some (46, false))⟩, ⟨(some 48), (.load false 1 (.t 47)), (some (46, false))⟩, ⟨(some 49), (.len (.t 48)), (some (46, false))⟩, ⟨(some 50), (.bin .gtr (.t 49) (.k (.int .i64 0))), (some (46, false))⟩, ⟨(some 51), (.pick (.t 46) (.k (.bool true)) (.t 50)), (some (42, true))⟩, ⟨(some 52), (.pick (.t 42) (.t 51) (.k (.bool false))), none⟩, ⟨(some 2), (.mov (.t 52)), none⟩]) .ret))))), [(.t 2)], 53⟩ := by kernel_rfl
theorem rturn_pf (l : List (List Int)) (hl : l.length ≤ Go.maxLen) (hr : ∀ r ∈ l, r.length = 2 ∧ ∀ z ∈ r, InR z) : PF Try.prog 17 [.rows 2 (l.map fun r => r.map I)] (.bool true) := by
  have hrg := ringed_pf l hl hr
  have hpos := rgL_pos l
  have hws : WOk (rgL l) := rgL_inv l 20
  generalize rgL l = ws at hrg hpos hws
  have hl12 := hws.len
  have hs0 := spl12 hws.len
  have htw : (ws.map fun w : Nat => I (w : Int)).take 12 = ws.map fun w : Nat => I (w : Int) := List.take_of_length_le (by simp [hl12])
  have hrl := ringM_len ws hws
  refine PF.of follows_ok rturn_code (by simp) (by simp [argOk]) (by simp [noV, noC]) fun B hBN hB0 => acode_sound [0, 2, 3, 4, 5, 6, 7, 8, 9, 17, 23, 34] [] _ _ _ ?_
  repeat' (first
    | simp [AK_at, acode_seq, acode_region, acode_draw, acode_cond, ↓CB_t, ↓CB_f, CB_u, acode_block, acode_loop, acode_exit, acode_scope, acode_ret, acode_skip, seqQ_n, seqQ_e, seqQ_r, blockQ_n, blockQ_e, blockQ_r, TK_at, OK_at, SK_at, aops_nil, aops_cons, asch_done, asch_one, asch_two, asch_top, astep, aop_eq, isLoud, aloud, aloud1, isWrite, qv, evS, strip, gof, eget, hget, putO, eput, herase, oks, opnds, gS, afin, afin0, binD, arith, D.cells, takeD, fillD, keep, trim, envOf, Fin, aresl, aresv, resD, argOk, pickV, isP, deq, deqs, boundD, slD, lenD, isT, isSl, ptrIds, chunks, mn_min, mx_max, D.cells, splice_one, splice_more, Rbr_at, Rfr_at, frR, frV, frC, flatC, brwR, brwV, brwC, omap, leR, leV, leC, leL, leVL, hl12, hs0, htw]
    | (refine WCall.pf (hrg) ?_ ?_ ?_ ?_; (focus (simp [oks, opnds, gS, gof, eget]; done)); (focus (simp [omap, brwV, brwC, evS, eget, strip, hget, leVL, leV, leC, leL, hl12, hs0, htw]; done)); (focus (simp [noV, noC, flatR, flatV, flatC, evS, eget, strip, hl12, hs0, htw]; done)))
    | (refine ⟨WCall.pf (hrg) ?_ ?_ ?_ ?_, ?_⟩; (focus (simp [oks, opnds, gS, gof, eget]; done)); (focus (simp [omap, brwV, brwC, evS, eget, strip, hget, leVL, leV, leC, leL, hl12, hs0, htw]; done)); (focus (simp [noV, noC, flatR, flatV, flatC, evS, eget, strip, hl12, hs0, htw]; done)))
    | (with_reducible refine And.intro (And.intro ?_ ?_) ?_)
    | fail)
  refine W.loopS (fun k : Nat => ⟨[(7, I ((k : Int) - 1)), (6, .ptr 2 0), (5, .bool true), (4, .ptr 1 0), (3, .ptr 0 0), (2, .bool false), (0, .rows 2 (l.map fun r => r.map I))], [(2, .cells [.rows 2 ((ringM (dnM ws k)).map spE)]), (1, .cells (ws.map fun w : Nat => I (w : Int))), (0, .cells [.rows 2 ((ringM ws).map spE)])], 3⟩)
    (fun n k => n = k ∧ k ≤ 12) ?_ ?_
  · refine ⟨_, 12, (Gh.nilC 2 0 2 [.nil0] (by simp [hget]) rfl).trans ?_, rfl, by omega⟩
    simp [eput]
    exact (Gh.ren [0, 1, 2] (by simp [hB0]) (by simp [hB0] <;> decide) (by simp [eget, rnS, rnR, rnV, rnC, LtS, LtR, LtV, LtC, lget, dnM_12, ring0, rnN]) (by simp [hget, rnO, rnC, LtO, LtC, lget, dnM_12, ring0, rnN]) (.inl (by simp [lget, dnM_12, ring0, rnN])))
  rintro n k ⟨rfl, hk⟩
  refine acode_sound [0, 2, 3, 4, 5, 6, 7, 8, 9, 17, 23, 34] [] _ _ _ ?_
  cases n with
  | zero =>
    rw [dnM_0 hws]
    have hsm := rsame_pf (ringM ws) (by omega)
    by_cases h0 : l = []
    · subst h0
      repeat' (first
        | simp [AK_at, acode_seq, acode_region, acode_draw, acode_cond, ↓CB_t, ↓CB_f, CB_u, acode_block, acode_loop, acode_exit, acode_scope, acode_ret, acode_skip, seqQ_n, seqQ_e, seqQ_r, blockQ_n, blockQ_e, blockQ_r, TK_at, OK_at, SK_at, aops_nil, aops_cons, asch_done, asch_one, asch_two, asch_top, astep, aop_eq, isLoud, aloud, aloud1, isWrite, qv, evS, strip, gof, eget, hget, putO, eput, herase, oks, opnds, gS, afin, afin0, binD, arith, D.cells, takeD, fillD, keep, trim, envOf, Fin, aresl, aresv, resD, argOk, pickV, isP, deq, deqs, boundD, slD, lenD, isT, isSl, ptrIds, chunks, mn_min, mx_max, D.cells, splice_one, splice_more, Rbr_at, Rfr_at, frR, frV, frC, flatC, brwR, brwV, brwC, omap, leR, leV, leC, leL, leVL, ]
        | (refine WCall.pf (hsm) ?_ ?_ ?_ ?_; (focus (simp [oks, opnds, gS, gof, eget]; done)); (focus (simp [omap, brwV, brwC, evS, eget, strip, hget, leVL, leV, leC, leL, ]; done)); (focus (simp [noV, noC, flatR, flatV, flatC, evS, eget, strip, ]; done)))
        | (refine ⟨WCall.pf (hsm) ?_ ?_ ?_ ?_, ?_⟩; (focus (simp [oks, opnds, gS, gof, eget]; done)); (focus (simp [omap, brwV, brwC, evS, eget, strip, hget, leVL, leV, leC, leL, ]; done)); (focus (simp [noV, noC, flatR, flatV, flatC, evS, eget, strip, ]; done)))
        | (with_reducible refine And.intro (And.intro ?_ ?_) ?_)
        | fail)
    · have hp := hpos h0
      have h1 : ¬ l.length = 0 := fun e => h0 (List.eq_nil_of_length_eq_zero e)
      have h2 : ¬ (ringM ws) = [] := fun e => by rw [e] at hp; simp at hp
      repeat' (first
        | simp [AK_at, acode_seq, acode_region, acode_draw, acode_cond, ↓CB_t, ↓CB_f, CB_u, acode_block, acode_loop, acode_exit, acode_scope, acode_ret, acode_skip, seqQ_n, seqQ_e, seqQ_r, blockQ_n, blockQ_e, blockQ_r, TK_at, OK_at, SK_at, aops_nil, aops_cons, asch_done, asch_one, asch_two, asch_top, astep, aop_eq, isLoud, aloud, aloud1, isWrite, qv, evS, strip, gof, eget, hget, putO, eput, herase, oks, opnds, gS, afin, afin0, binD, arith, D.cells, takeD, fillD, keep, trim, envOf, Fin, aresl, aresv, resD, argOk, pickV, isP, deq, deqs, boundD, slD, lenD, isT, isSl, ptrIds, chunks, mn_min, mx_max, D.cells, splice_one, splice_more, Rbr_at, Rfr_at, frR, frV, frC, flatC, brwR, brwV, brwC, omap, leR, leV, leC, leL, leVL, h0, h1, h2, hp]
        | (refine WCall.pf (hsm) ?_ ?_ ?_ ?_; (focus (simp [oks, opnds, gS, gof, eget]; done)); (focus (simp [omap, brwV, brwC, evS, eget, strip, hget, leVL, leV, leC, leL, h0, h1, h2, hp]; done)); (focus (simp [noV, noC, flatR, flatV, flatC, evS, eget, strip, h0, h1, h2, hp]; done)))
        | (refine ⟨WCall.pf (hsm) ?_ ?_ ?_ ?_, ?_⟩; (focus (simp [oks, opnds, gS, gof, eget]; done)); (focus (simp [omap, brwV, brwC, evS, eget, strip, hget, leVL, leV, leC, leL, h0, h1, h2, hp]; done)); (focus (simp [noV, noC, flatR, flatV, flatC, evS, eget, strip, h0, h1, h2, hp]; done)))
        | (with_reducible refine And.intro (And.intro ?_ ?_) ?_)
        | fail)
  | succ k =>
    have hk12 : k < 12 := by omega
    have hset := dnM_set ws k hk12
    obtain ⟨w, hw⟩ : ∃ w, w = ws.getD k 0 := ⟨_, rfl⟩
    rw [← hw] at hset
    have hw8 : w ≤ 8 := by
      rw [hw, List.getD_eq_getElem?_getD, List.getElem?_eq_getElem (by omega)]
      exact hws.le _ (List.getElem_mem _)
    have hat : ws[k]? = some w := by
      rw [List.getD_eq_getElem?_getD, List.getElem?_eq_getElem (by omega)] at hw
      rw [List.getElem?_eq_getElem (by omega)]
      simpa using hw.symm
    have ii : InR ((k : Int) - 1) := inG (by omega) (by omega)
    have hb1 : (k : Int) < 12 := by omega
    have hb2 : k ≤ 11 := by omega
    have hb3 : 0 < 12 - k := by omega
    have hz0 : (0 : Int) ≤ k := by omega
    by_cases h0 : w = 0
    · subst h0
      have hsame := dnM_same ws k hk12 hw.symm
      repeat' (first
        | simp [AK_at, acode_seq, acode_region, acode_draw, acode_cond, ↓CB_t, ↓CB_f, CB_u, acode_block, acode_loop, acode_exit, acode_scope, acode_ret, acode_skip, seqQ_n, seqQ_e, seqQ_r, blockQ_n, blockQ_e, blockQ_r, TK_at, OK_at, SK_at, aops_nil, aops_cons, asch_done, asch_one, asch_two, asch_top, astep, aop_eq, isLoud, aloud, aloud1, isWrite, qv, evS, strip, gof, eget, hget, putO, eput, herase, oks, opnds, gS, afin, afin0, binD, arith, D.cells, takeD, fillD, keep, trim, envOf, Fin, aresl, aresv, resD, argOk, pickV, isP, deq, deqs, boundD, slD, lenD, isT, isSl, ptrIds, chunks, mn_min, mx_max, D.cells, splice_one, splice_more, Rbr_at, Rfr_at, frR, frV, frC, flatC, brwR, brwV, brwC, omap, leR, leV, leC, leL, leVL, hl12, hat, ii, hb1, hb2, hb3, hz0]
        | (refine WCall.pf (hrg) ?_ ?_ ?_ ?_; (focus (simp [oks, opnds, gS, gof, eget]; done)); (focus (simp [omap, brwV, brwC, evS, eget, strip, hget, leVL, leV, leC, leL, hl12, hat, ii, hb1, hb2, hb3, hz0]; done)); (focus (simp [noV, noC, flatR, flatV, flatC, evS, eget, strip, hl12, hat, ii, hb1, hb2, hb3, hz0]; done)))
        | (refine ⟨WCall.pf (hrg) ?_ ?_ ?_ ?_, ?_⟩; (focus (simp [oks, opnds, gS, gof, eget]; done)); (focus (simp [omap, brwV, brwC, evS, eget, strip, hget, leVL, leV, leC, leL, hl12, hat, ii, hb1, hb2, hb3, hz0]; done)); (focus (simp [noV, noC, flatR, flatV, flatC, evS, eget, strip, hl12, hat, ii, hb1, hb2, hb3, hz0]; done)))
        | (with_reducible refine And.intro (And.intro ?_ ?_) ?_)
        | fail)
      all_goals exact ⟨_, k, (Gh.ren [0, 1, 2] (by simp [hB0]) (by simp [hB0] <;> decide) (by simp [eget, rnS, rnR, rnV, rnC, LtS, LtR, LtV, LtC, lget, hsame, rnN]) (by simp [hget, rnO, rnC, LtO, LtC, lget, hsame, rnN]) (.inl (by simp [lget, hsame, rnN]))), by omega, rfl, by omega⟩
    · have hadd := radd_pf (dnM ws (k + 1)) (dnM_ok hws _) k w hk12 (by omega) (dnM_at ws k hk12)
      rw [hset] at hadd
      repeat' (first
        | simp [AK_at, acode_seq, acode_region, acode_draw, acode_cond, ↓CB_t, ↓CB_f, CB_u, acode_block, acode_loop, acode_exit, acode_scope, acode_ret, acode_skip, seqQ_n, seqQ_e, seqQ_r, blockQ_n, blockQ_e, blockQ_r, TK_at, OK_at, SK_at, aops_nil, aops_cons, asch_done, asch_one, asch_two, asch_top, astep, aop_eq, isLoud, aloud, aloud1, isWrite, qv, evS, strip, gof, eget, hget, putO, eput, herase, oks, opnds, gS, afin, afin0, binD, arith, D.cells, takeD, fillD, keep, trim, envOf, Fin, aresl, aresv, resD, argOk, pickV, isP, deq, deqs, boundD, slD, lenD, isT, isSl, ptrIds, chunks, mn_min, mx_max, D.cells, splice_one, splice_more, Rbr_at, Rfr_at, frR, frV, frC, flatC, brwR, brwV, brwC, omap, leR, leV, leC, leL, leVL, hl12, hat, ii, hb1, hb2, hb3, hz0, h0]
        | (refine WCall.pf (hadd) ?_ ?_ ?_ ?_; (focus (simp [oks, opnds, gS, gof, eget]; done)); (focus (simp [omap, brwV, brwC, evS, eget, strip, hget, leVL, leV, leC, leL, hl12, hat, ii, hb1, hb2, hb3, hz0, h0]; done)); (focus (simp [noV, noC, flatR, flatV, flatC, evS, eget, strip, hl12, hat, ii, hb1, hb2, hb3, hz0, h0]; done)))
        | (refine ⟨WCall.pf (hadd) ?_ ?_ ?_ ?_, ?_⟩; (focus (simp [oks, opnds, gS, gof, eget]; done)); (focus (simp [omap, brwV, brwC, evS, eget, strip, hget, leVL, leV, leC, leL, hl12, hat, ii, hb1, hb2, hb3, hz0, h0]; done)); (focus (simp [noV, noC, flatR, flatV, flatC, evS, eget, strip, hl12, hat, ii, hb1, hb2, hb3, hz0, h0]; done)))
        | (with_reducible refine And.intro (And.intro ?_ ?_) ?_)
        | fail)
      all_goals exact ⟨_, k, (Gh.ren [0, 1, 2] (by simp [hB0]) (by simp [hB0] <;> decide) (by simp [eget, rnS, rnR, rnV, rnC, LtS, LtR, LtV, LtC, lget, rnN]) (by simp [hget, rnO, rnC, LtO, LtC, lget, rnN]) (.inl (by simp [lget, rnN]))), by omega, rfl, by omega⟩
end Go.Proofs.Ytfkeddefajkobaa

set_option linter.unusedSimpArgs false
set_option linter.unusedVariables false
set_option maxRecDepth 100000
set_option maxHeartbeats 4000000
namespace Go.Proofs.Ytfkeddefajkobaa
open Go.RowKit
theorem rchk_code : cfun Try.prog [] 49 = some ⟨(.seq (.region 0 [⟨(some 1), (.box (.t 0)), none⟩, ⟨(some 2), (.mov (.k (.int .i64 0))), none⟩]) (.seq (.seq (.region 1 [⟨(some 6), (.load true 1 (.t 1)), none⟩, ⟨(some 7), (.call 80 [(.t 6)]), none⟩, ⟨(some 5), (.mov (.t 7)), none⟩, ⟨(some 8), (.ext (.t 5) 0), none⟩, ⟨(some 9), (.ext (.t 5) 1), none⟩, ⟨(some 3), (.alloc [(.int .i64 0), (.int .i64 0), (.int .i64 0), (.int .i64 0), (.int .i64 0), (.int .i64 0), (.int .i64 0), (.int .i64 0), (.int .i64 0), (.int .i64 0), (.int .i64 0), (.int .i64 0)]), none⟩, ⟨none, (.store 12 (.t 3) (.t 8)), none⟩, ⟨(some 4), (.mov (.t 9)), none⟩]) (.seq (.region 2 [⟨(some 10), (.mov (.t 4)), none⟩, ⟨(some 11), (.not (.t 10)), none⟩]) (.cond 11 (.seq (.region 3 [⟨(some 2), (.mov (.k (.int .i64 6))), none⟩]) .ret) .skip))) (.seq (.region 4 [⟨(some 2), (.mov (.k (.int .i64 0))), none⟩]) .ret))), [(.t 2)], 12⟩ := by kernel_rfl
theorem rchk_pf (ws : List Nat) (h : WOk ws) : PF Try.prog 49 [.agg [.rows 2 ((ringM ws).map spE)]] (I 0) := by
  have hwe := rwei_pf ws h
  have hl12 := h.len
  have hs0 := spl12 h.len
  have htw : (ws.map fun w : Nat => I (w : Int)).take 12 = ws.map fun w : Nat => I (w : Int) := List.take_of_length_le (by simp [h.len])
  refine PF.of follows_ok rchk_code (by simp) (by simp [argOk]) (by simp [noV, noC]) fun B hBN hB0 => acode_sound [0, 1, 2, 4, 11] [] _ _ _ ?_
  repeat' (first
    | simp [AK_at, acode_seq, acode_region, acode_draw, acode_cond, ↓CB_t, ↓CB_f, CB_u, acode_block, acode_loop, acode_exit, acode_scope, acode_ret, acode_skip, seqQ_n, seqQ_e, seqQ_r, blockQ_n, blockQ_e, blockQ_r, TK_at, OK_at, SK_at, aops_nil, aops_cons, asch_done, asch_one, asch_two, asch_top, astep, aop_eq, isLoud, aloud, aloud1, isWrite, qv, evS, strip, gof, eget, hget, putO, eput, herase, oks, opnds, gS, afin, afin0, binD, arith, D.cells, takeD, fillD, keep, trim, envOf, Fin, aresl, aresv, resD, argOk, pickV, isP, deq, deqs, boundD, slD, lenD, isT, isSl, ptrIds, chunks, mn_min, mx_max, D.cells, splice_one, splice_more, Rbr_at, Rfr_at, frR, frV, frC, flatC, brwR, brwV, brwC, omap, leR, leV, leC, leL, leVL, hl12, hs0, htw]
    | (refine WCall.pf (hwe) ?_ ?_ ?_ ?_; (focus (simp [oks, opnds, gS, gof, eget]; done)); (focus (simp [omap, brwV, brwC, evS, eget, strip, hget, leVL, leV, leC, leL, hl12, hs0, htw]; done)); (focus (simp [noV, noC, flatR, flatV, flatC, evS, eget, strip, hl12, hs0, htw]; done)))
    | (refine ⟨WCall.pf (hwe) ?_ ?_ ?_ ?_, ?_⟩; (focus (simp [oks, opnds, gS, gof, eget]; done)); (focus (simp [omap, brwV, brwC, evS, eget, strip, hget, leVL, leV, leC, leL, hl12, hs0, htw]; done)); (focus (simp [noV, noC, flatR, flatV, flatC, evS, eget, strip, hl12, hs0, htw]; done)))
    | (with_reducible refine And.intro (And.intro ?_ ?_) ?_)
    | fail)
theorem ringM_up (ws : List Nat) (k : Nat) (h : k + 1 < (ringM ws).length) : ¬ (ringM ws)[k + 1].1 < (ringM ws)[k].1 := by
  have := List.pairwise_iff_getElem.1 (sortM_pw (wantM ws 12)) k (k + 1) (by unfold ringM at h; omega) h (by omega)
  rw [ltSp] at this
  simp at this
  unfold ringM
  omega
theorem rpart_code : cfun Try.prog [] 18 = some ⟨(.seq (.region 0 [⟨(some 2), (.mov (.k (.bool false))), none⟩]) (.seq (.region 1 [⟨(some 11), (.mov (.t 0)), none⟩, ⟨(some 12), (.call 46 [(.t 11)]), none⟩, ⟨(some 10), (.mov (.t 12)), none⟩, ⟨(some 13), (.ext (.t 10) 0), none⟩, ⟨(some 14), (.ext (.t 10) 1), none⟩, ⟨(some 15), (.ext (.t 10) 2), none⟩, ⟨(some 3), (.alloc [.nil0]), none⟩, ⟨(some 4), (.alloc [(.int .i64 0), (.int .i64 0), (.int .i64 0), (.int .i64 0), (.int .i64 0), (.int .i64 0), (.int .i64 0), (.int .i64 0), (.int .i64 0), (.int .i64 0), (.int .i64 0), (.int .i64 0)]), none⟩, ⟨none, (.store 1 (.t 3) (.t 13)), none⟩, ⟨none, (.store 12 (.t 4) (.t 14)), none⟩, ⟨(some 5), (.mov (.t 15)), none⟩]) (.seq (.region 2 [⟨(some 6), (.alloc [(.int .i64 0), (.int .i64 0), (.int .i64 0), (.int .i64 0), (.int .i64 0), (.int .i64 0), (.int .i64 0), (.int .i64 0), (.int .i64 0), (.int .i64 0), (.int .i64 0), (.int .i64 0)]), none⟩]) (.seq (.seq (.region 3 [⟨(some 7), (.mov (.k (.int .i64 0))), none⟩]) (.block 0 (.loop (.seq (.seq (.region 4 [⟨(some 16), (.mov (.t 7)), none⟩, ⟨(some 17), (.fad 0 (.t 3)), none⟩, ⟨(some 18), (.load false 1 (.t 17)), none⟩, ⟨(some 19), (.len (.t 18)), none⟩, ⟨(some 20), (.bin .lss (.t 16) (.t 19)), none⟩]) (.cond 20 .skip (.exit 0))) (.seq (.block 1 (.seq (.region 6 [⟨(some 23), (.fad 0 (.t 3)), none⟩, ⟨(some 24), (.load false 1 (.t 23)), none⟩, ⟨(some 25), (.mov (.t 7)), none⟩, ⟨(some 26), (.iads 2 (.t 24) (.t 25)), none⟩, ⟨(some 27), (.load true 2 (.t 26)), none⟩, ⟨(some 8), (.alloc [(.int .i64 0), (.int .i64 0)]), none⟩, ⟨none, (.store 2 (.t 8) (.t 27)), none⟩]) (.seq (.seq (.draw 7 (.one true ⟨(some 28), (.fad 1 (.t 8)), none⟩ (.one true ⟨(some 29), (.load false 1 (.t 28)), none⟩ (.one true ⟨(some 30), (.bin .lss (.t 29) (.k (.int .i64 0))), none⟩ (.one true ⟨(some 31), (.mov (.t 30)), none⟩ (.one true ⟨(some 32), (.fad 1 (.t 8)), (some (31, false))⟩ (.one true ⟨(some 33), (.load false 1 (.t 32)), (some (31, false))⟩ (.one true ⟨(some 34), (.bin .geq (.t 33) (.k (.int .i64 12))), (some (31, false))⟩ (.one true ⟨(some 35), (.pick (.t 31) (.k (.bool true)) (.t 34)), none⟩ (.one true ⟨(some 36), (.mov (.t 35)), none⟩ (.one true ⟨(some 37), (.mov (.t 7)), (some (36, false))⟩ (.one true ⟨(some 38), (.bin .gtr (.t 37) (.k (.int .i64 0))), (some (36, false))⟩ (.one true ⟨(some 39), (.mov (.t 38)), (some (36, false))⟩ (.one true ⟨(some 40), (.fad 0 (.t 8)), (some (39, true))⟩ (.one true ⟨(some 41), (.load false 1 (.t 40)), (some (39, true))⟩ (.one true ⟨(some 42), (.fad 0 (.t 3)), (some (39, true))⟩ (.one true ⟨(some 43), (.load false 1 (.t 42)), (some (39, true))⟩ (.one true ⟨(some 44), (.mov (.t 7)), (some (39, true))⟩ (.one true ⟨(some 45), (.bin .sub (.t 44) (.k (.int .i64 1))), (some (39, true))⟩ (.one true ⟨(some 46), (.iads 2 (.t 43) (.t 45)), (some (39, true))⟩ (.one true ⟨(some 47), (.fad 0 (.t 46)), (some (39, true))⟩ (.one true ⟨(some 48), (.load false 1 (.t 47)), (some (39, true))⟩ (.one true ⟨(some 49), (.bin .lss (.t 41) (.t 48)), (some (39, true))⟩ (.one true ⟨(some 50), (.pick (.t 39) (.t 49) (.k (.bool false))), (some (36, false))⟩ (.one true ⟨(some 51), (.pick (.t 36) (.k (.bool true)) (.t 50)), none⟩ .done))))))))))))))))))))))))) (.cond 51 (.seq (.region 8 [⟨(some 2), (.mov (.k (.bool false))), none⟩]) .ret) .skip)) (.region 9 [⟨(some 52), (.fad 1 (.t 8)), none⟩, ⟨(some 53), (.load false 1 (.t 52)), none⟩, ⟨(some 54), (.iada 12 1 (.t 6) (.t 53)), none⟩, ⟨(some 55), (.load false 1 (.t 54)), none⟩, ⟨(some 56), (.bin .add (.t 55) (.k (.int .i64 1))), none⟩, ⟨(some 57), (.iada 12 1 (.t 6) (.t 53)), none⟩, ⟨none, (.store 1 (.t 57) (.t 56)), none⟩])))) (.region 5 [⟨(some 21), (.mov (.t 7)), none⟩, ⟨(some 22), (.bin .add (.t 21) (.k (.int .i64 1))), none⟩, ⟨(some 7), (.mov (.t 22)), none⟩])))))) (.seq (.seq (.region 10 [⟨(some 9), (.mov (.k (.int .i64 0))), none⟩]) (.block 2 (.loop (.seq (.seq (.region 11 [⟨(some 58), (.mov (.t 9)), none⟩, ⟨(some 59), (.bin .lss (.t 58) (.k (.int .i64 12))), none⟩]) (.cond 59 .skip (.exit 2))) (.seq (.block 3 (.seq (.draw 13 (.one true ⟨(some 62), (.mov (.t 9)), none⟩ (.one true ⟨(some 63), (.iada 12 1 (.t 6) (.t 62)), none⟩ (.one true ⟨(some 64), (.load false 1 (.t 63)), none⟩ (.one true ⟨(some 65), (.mov (.t 9)), none⟩ (.one true ⟨(some 66), (.iada 12 1 (.t 4) (.t 65)), none⟩ (.one true ⟨(some 67), (.load false 1 (.t 66)), none⟩ (.one true ⟨(some 68), (.bin .mul (.k (.int .i64 4)) (.t 67)), none⟩ (.one true ⟨(some 69), (.bin .neq (.t 64) (.t 68)), none⟩ .done))))))))) (.cond 69 (.seq (.region 14 [⟨(some 2), (.mov (.k (.bool false))), none⟩]) .ret) .skip))) (.region 12 [⟨(some 60), (.mov (.t 9)), none⟩, ⟨(some 61), (.bin .add (.t 60) (.k (.int .i64 1))), none⟩, ⟨(some 9), (.mov (.t 61)), none⟩])))))) (.seq (.region 15 [⟨(some 70), (.mov (.t 5)), none⟩, ⟨(some 71), (.mov (.t 70)), none⟩, ⟨(some 72), (.load true 1 (.t 3)), (some (71, true))⟩, ⟨(some 73), (.call 49 [(.t 72)]), (some (71, true))⟩, ⟨(some 74), (.bin .eql (.t 73) (.k (.int .i64 0))), (some (71, true))⟩, ⟨(some 75), (.pick (.t 71) (.t 74) (.k (.bool false))), none⟩, ⟨(some 76), (.mov (.t 75)), none⟩, ⟨(some 77), (.mov (.t 0)), (some (76, true))⟩, ⟨(some 78), (.len (.t 77)), (some (76, true))⟩, ⟨(some 79), (.bin .eql (.t 78) (.k (.int .i64 0))), (some (76, true))⟩, ⟨(some 80), (.mov (.t 79)), (some (76, true))⟩, ⟨(some 81), (.fad 0 (.t 3)), (some (80, false))⟩, ⟨(some 82), (.load false 1 (.t 81)), (some (80, false))⟩, ⟨(some 83), (.len (.t 82)), (some (80, false))⟩, ⟨(some 84), (.bin .gtr (.t 83) (.k (.int .i64 0))), (some (80, false))⟩, ⟨(some 85), (.pick (.t 80) (.k (.bool true)) (.t 84)), (some (76, true))⟩, ⟨(some 86), (.pick (.t 76) (.t 85) (.k (.bool false))), none⟩, ⟨(some 2), (.mov (.t 86)), none⟩]) .ret)))))), [(.t 2)], 87⟩ := by kernel_rfl
theorem rpart_pf (l : List (List Int)) (hl : l.length ≤ Go.maxLen) (hr : ∀ r ∈ l, r.length = 2 ∧ ∀ z ∈ r, InR z) : PF Try.prog 18 [.rows 2 (l.map fun r => r.map I)] (.bool true) := by
  have hrg := ringed_pf l hl hr
  have hpos := rgL_pos l
  have hws : WOk (rgL l) := rgL_inv l 20
  generalize rgL l = ws at hrg hpos hws
  have hl12 := hws.len
  have hs0 := spl12 hws.len
  have htw : (ws.map fun w : Nat => I (w : Int)).take 12 = ws.map fun w : Nat => I (w : Int) := List.take_of_length_le (by simp [hl12])
  have hrl := ringM_len ws hws
  have hck := rchk_pf ws hws
  refine PF.of follows_ok rpart_code (by simp) (by simp [argOk]) (by simp [noV, noC]) fun B hBN hB0 => acode_sound [0, 2, 3, 4, 5, 6, 7, 8, 9, 20, 51, 59, 69] [] _ _ _ ?_
  repeat' (first
    | simp [AK_at, acode_seq, acode_region, acode_draw, acode_cond, ↓CB_t, ↓CB_f, CB_u, acode_block, acode_loop, acode_exit, acode_scope, acode_ret, acode_skip, seqQ_n, seqQ_e, seqQ_r, blockQ_n, blockQ_e, blockQ_r, TK_at, OK_at, SK_at, aops_nil, aops_cons, asch_done, asch_one, asch_two, asch_top, astep, aop_eq, isLoud, aloud, aloud1, isWrite, qv, evS, strip, gof, eget, hget, putO, eput, herase, oks, opnds, gS, afin, afin0, binD, arith, D.cells, takeD, fillD, keep, trim, envOf, Fin, aresl, aresv, resD, argOk, pickV, isP, deq, deqs, boundD, slD, lenD, isT, isSl, ptrIds, chunks, mn_min, mx_max, D.cells, splice_one, splice_more, Rbr_at, Rfr_at, frR, frV, frC, flatC, brwR, brwV, brwC, omap, leR, leV, leC, leL, leVL, hl12, hs0, htw]
    | (refine WCall.pf (hrg) ?_ ?_ ?_ ?_; (focus (simp [oks, opnds, gS, gof, eget]; done)); (focus (simp [omap, brwV, brwC, evS, eget, strip, hget, leVL, leV, leC, leL, hl12, hs0, htw]; done)); (focus (simp [noV, noC, flatR, flatV, flatC, evS, eget, strip, hl12, hs0, htw]; done)))
    | (refine ⟨WCall.pf (hrg) ?_ ?_ ?_ ?_, ?_⟩; (focus (simp [oks, opnds, gS, gof, eget]; done)); (focus (simp [omap, brwV, brwC, evS, eget, strip, hget, leVL, leV, leC, leL, hl12, hs0, htw]; done)); (focus (simp [noV, noC, flatR, flatV, flatC, evS, eget, strip, hl12, hs0, htw]; done)))
    | (with_reducible refine And.intro (And.intro ?_ ?_) ?_)
    | fail)
  refine W.loopS (fun i : Nat => ⟨[(7, I i), (6, .ptr 2 0), (5, .bool true), (4, .ptr 1 0), (3, .ptr 0 0), (2, .bool false), (0, .rows 2 (l.map fun r => r.map I))], [(2, .cells ((cntS ((ringM ws).take i)).map I)), (1, .cells (ws.map fun w : Nat => I (w : Int))), (0, .cells [.rows 2 ((ringM ws).map spE)])], 3⟩)
    (fun n i => n = (ringM ws).length - i ∧ i ≤ (ringM ws).length) ?_ ?_
  · exact ⟨_, 0, (Gh.ren [0, 1, 2] (by simp [hB0]) (by simp [hB0] <;> decide) (by simp [eget, rnS, rnR, rnV, rnC, LtS, LtR, LtV, LtC, lget, cntS, List.range_succ, rnN]) (by simp [hget, rnO, rnC, LtO, LtC, lget, cntS, List.range_succ, rnN]) (.inl (by simp [lget, cntS, List.range_succ, rnN]))), rfl, by omega⟩
  rintro n i ⟨hn, hi⟩
  refine acode_sound [0, 2, 3, 4, 5, 6, 7, 8, 9, 20, 51, 59, 69] [] _ _ _ ?_
  by_cases hlt : i < (ringM ws).length
  · obtain ⟨o, ho⟩ : ∃ o, o = (ringM ws)[i] := ⟨_, rfl⟩
    have hm : o ∈ ringM ws := ho ▸ List.getElem_mem hlt
    have hmm := ringM_mem hm
    obtain ⟨b, hb⟩ : ∃ b : Nat, o.2 = b := ⟨o.2.toNat, by omega⟩
    have hb2 : b < 12 := by omega
    have hbd := cntS_bd ((ringM ws).take i) b
    have hll : ((ringM ws).take i).length ≤ 384 := by simp; omega
    have hst := cntS_succ (ringM ws) i hlt b (ho ▸ hb) hb2
    have hlc : (cntS ((ringM ws).take i)).length = 12 := by simp [cntS]
    obtain ⟨c, hc⟩ : ∃ c, c = ((ringM ws).take i).countP (isB b) := ⟨_, rfl⟩
    rw [← hc] at hst hbd
    have hat : (cntS ((ringM ws).take i))[b]? = some (c : Int) := by simp [cntS, hc, List.getElem?_range, hb2]
    have ii : InR ((i : Int) + 1) := inG (by omega) (by omega)
    have ic : InR ((c : Int) + 1) := inG (by omega) (by omega)
    have c1 : ¬ (b : Int) < 0 := by omega
    have c2 : ¬ (12 : Int) ≤ b := by omega
    have hb3 : (b : Int) < 12 := by omega
    have hb4 : b ≤ 11 := by omega
    have hb5 : 0 < 12 - b := by omega
    have hspl := spliceI (cntS ((ringM ws).take i)) b ((c : Int) + 1) (by rw [hlc]; exact hb2)
    rw [← hst] at hspl
    cases i with
    | zero =>
      have i1 : InR 1 := inG (by omega) (by omega)
      rw [List.take_zero] at hlc hat hspl
      repeat' (first
        | simp [AK_at, acode_seq, acode_region, acode_draw, acode_cond, ↓CB_t, ↓CB_f, CB_u, acode_block, acode_loop, acode_exit, acode_scope, acode_ret, acode_skip, seqQ_n, seqQ_e, seqQ_r, blockQ_n, blockQ_e, blockQ_r, TK_at, OK_at, SK_at, aops_nil, aops_cons, asch_done, asch_one, asch_two, asch_top, astep, aop_eq, isLoud, aloud, aloud1, isWrite, qv, evS, strip, gof, eget, hget, putO, eput, herase, oks, opnds, gS, afin, afin0, binD, arith, D.cells, takeD, fillD, keep, trim, envOf, Fin, aresl, aresv, resD, argOk, pickV, isP, deq, deqs, boundD, slD, lenD, isT, isSl, ptrIds, chunks, mn_min, mx_max, D.cells, splice_one, splice_more, Rbr_at, Rfr_at, frR, frV, frC, flatC, brwR, brwV, brwC, omap, leR, leV, leC, leL, leVL, hlt, ← ho, spE, hb, hat, hlc, ii, i1, ic, c1, c2, hspl, hb3, hb4, hb5]
        | (refine WCall.pf (hck) ?_ ?_ ?_ ?_; (focus (simp [oks, opnds, gS, gof, eget]; done)); (focus (simp [omap, brwV, brwC, evS, eget, strip, hget, leVL, leV, leC, leL, hlt, ← ho, spE, hb, hat, hlc, ii, i1, ic, c1, c2, hspl, hb3, hb4, hb5]; done)); (focus (simp [noV, noC, flatR, flatV, flatC, evS, eget, strip, hlt, ← ho, spE, hb, hat, hlc, ii, i1, ic, c1, c2, hspl, hb3, hb4, hb5]; done)))
        | (refine ⟨WCall.pf (hck) ?_ ?_ ?_ ?_, ?_⟩; (focus (simp [oks, opnds, gS, gof, eget]; done)); (focus (simp [omap, brwV, brwC, evS, eget, strip, hget, leVL, leV, leC, leL, hlt, ← ho, spE, hb, hat, hlc, ii, i1, ic, c1, c2, hspl, hb3, hb4, hb5]; done)); (focus (simp [noV, noC, flatR, flatV, flatC, evS, eget, strip, hlt, ← ho, spE, hb, hat, hlc, ii, i1, ic, c1, c2, hspl, hb3, hb4, hb5]; done)))
        | (with_reducible refine And.intro (And.intro ?_ ?_) ?_)
        | fail)
      all_goals exact ⟨_, 1, (Gh.ren [0, 1, 2] (by simp [hB0]) (by simp [hB0] <;> decide) (by simp [eget, rnS, rnR, rnV, rnC, LtS, LtR, LtV, LtC, lget, rnI, rnN]) (by simp [hget, rnO, rnC, LtO, LtC, lget, rnI, rnN]) (.inl (by simp [lget, rnI, rnN]))), by omega, rfl, by omega⟩
    | succ k =>
      have hk : k < (ringM ws).length := by omega
      have hup := ringM_up ws k hlt
      rw [← ho] at hup
      obtain ⟨p, hp⟩ : ∃ p, p = (ringM ws)[k] := ⟨_, rfl⟩
      rw [← hp] at hup
      have ik : InR (k : Int) := inG (by omega) (by omega)
      have i2 : InR ((k : Int) + 1 + 1) := inG (by omega) (by omega)
      have e1 : (k : Int) + 1 - 1 = k := by omega
      have e2 : ((k : Int) + 1).toNat = k + 1 := by omega
      have d4 : (0 : Int) < (k : Int) + 1 := by omega
      have d5 : (0 : Int) ≤ (k : Int) + 1 := by omega
      have d6 : (k : Int) + 1 < (ringM ws).length := by omega
      repeat' (first
        | simp [AK_at, acode_seq, acode_region, acode_draw, acode_cond, ↓CB_t, ↓CB_f, CB_u, acode_block, acode_loop, acode_exit, acode_scope, acode_ret, acode_skip, seqQ_n, seqQ_e, seqQ_r, blockQ_n, blockQ_e, blockQ_r, TK_at, OK_at, SK_at, aops_nil, aops_cons, asch_done, asch_one, asch_two, asch_top, astep, aop_eq, isLoud, aloud, aloud1, isWrite, qv, evS, strip, gof, eget, hget, putO, eput, herase, oks, opnds, gS, afin, afin0, binD, arith, D.cells, takeD, fillD, keep, trim, envOf, Fin, aresl, aresv, resD, argOk, pickV, isP, deq, deqs, boundD, slD, lenD, isT, isSl, ptrIds, chunks, mn_min, mx_max, D.cells, splice_one, splice_more, Rbr_at, Rfr_at, frR, frV, frC, flatC, brwR, brwV, brwC, omap, leR, leV, leC, leL, leVL, hlt, hk, ← ho, ← hp, spE, hb, hat, hlc, ic, c1, c2, hspl, hb3, hb4, hb5, hup, ik, i2, e1, e2, d4, d5, d6]
        | (refine WCall.pf (hck) ?_ ?_ ?_ ?_; (focus (simp [oks, opnds, gS, gof, eget]; done)); (focus (simp [omap, brwV, brwC, evS, eget, strip, hget, leVL, leV, leC, leL, hlt, hk, ← ho, ← hp, spE, hb, hat, hlc, ic, c1, c2, hspl, hb3, hb4, hb5, hup, ik, i2, e1, e2, d4, d5, d6]; done)); (focus (simp [noV, noC, flatR, flatV, flatC, evS, eget, strip, hlt, hk, ← ho, ← hp, spE, hb, hat, hlc, ic, c1, c2, hspl, hb3, hb4, hb5, hup, ik, i2, e1, e2, d4, d5, d6]; done)))
        | (refine ⟨WCall.pf (hck) ?_ ?_ ?_ ?_, ?_⟩; (focus (simp [oks, opnds, gS, gof, eget]; done)); (focus (simp [omap, brwV, brwC, evS, eget, strip, hget, leVL, leV, leC, leL, hlt, hk, ← ho, ← hp, spE, hb, hat, hlc, ic, c1, c2, hspl, hb3, hb4, hb5, hup, ik, i2, e1, e2, d4, d5, d6]; done)); (focus (simp [noV, noC, flatR, flatV, flatC, evS, eget, strip, hlt, hk, ← ho, ← hp, spE, hb, hat, hlc, ic, c1, c2, hspl, hb3, hb4, hb5, hup, ik, i2, e1, e2, d4, d5, d6]; done)))
        | (with_reducible refine And.intro (And.intro ?_ ?_) ?_)
        | fail)
      all_goals exact ⟨_, k + 1 + 1, (Gh.ren [0, 1, 2] (by simp [hB0]) (by simp [hB0] <;> decide) (by simp [eget, rnS, rnR, rnV, rnC, LtS, LtR, LtV, LtC, lget, rnI, rnN]) (by simp [hget, rnO, rnC, LtO, LtC, lget, rnI, rnN]) (.inl (by simp [lget, rnI, rnN]))), by omega, rfl, by omega⟩
  · obtain rfl : i = (ringM ws).length := by omega
    simp only [List.take_length, cnt_byM]
    simp [AK_at, acode_seq, acode_region, acode_draw, acode_cond, ↓CB_t, ↓CB_f, CB_u, acode_block, acode_loop, acode_exit, acode_scope, acode_ret, acode_skip, seqQ_n, seqQ_e, seqQ_r, blockQ_n, blockQ_e, blockQ_r, TK_at, OK_at, SK_at, aops_nil, aops_cons, asch_done, asch_one, asch_two, asch_top, astep, aop_eq, isLoud, aloud, aloud1, isWrite, qv, evS, strip, gof, eget, hget, putO, eput, herase, oks, opnds, gS, afin, afin0, binD, arith, D.cells, takeD, fillD, keep, trim, envOf, Fin, aresl, aresv, resD, argOk, pickV, isP, deq, deqs, boundD, slD, lenD, isT, isSl, ptrIds, chunks, mn_min, mx_max, D.cells, splice_one, splice_more, Rbr_at, Rfr_at, frR, frV, frC, flatC, brwR, brwV, brwC, omap, leR, leV, leC, leL, leVL]
    refine W.loopS (fun k : Nat => ⟨[(9, I k), (6, .ptr 2 0), (5, .bool true), (4, .ptr 1 0), (3, .ptr 0 0), (2, .bool false), (0, .rows 2 (l.map fun r => r.map I))], [(2, .cells ((byM ws 0).map I)), (1, .cells (ws.map fun w : Nat => I (w : Int))), (0, .cells [.rows 2 ((ringM ws).map spE)])], 3⟩)
      (fun n k => n = 12 - k ∧ k ≤ 12) ?_ ?_
    · exact ⟨_, 0, (Gh.ren [0, 1, 2] (by simp [hB0]) (by simp [hB0] <;> decide) (by simp [eget, rnS, rnR, rnV, rnC, LtS, LtR, LtV, LtC, lget, rnI, rnN]) (by simp [hget, rnO, rnC, LtO, LtC, lget, rnI, rnN]) (.inl (by simp [lget, rnI, rnN]))), rfl, by omega⟩
    rintro n k ⟨hn, hk⟩
    refine acode_sound [0, 2, 3, 4, 5, 6, 7, 8, 9, 20, 51, 59, 69] [] _ _ _ ?_
    have hlb : (byM ws 0).length = 12 := by simp [byM]
    by_cases hk12 : k < 12
    · obtain ⟨w, hw⟩ : ∃ w, w = ws.getD k 0 := ⟨_, rfl⟩
      have hat : ws[k]? = some w := by
        rw [List.getD_eq_getElem?_getD, List.getElem?_eq_getElem (by omega)] at hw
        rw [List.getElem?_eq_getElem (by omega)]
        simpa using hw.symm
      have hw8 : w ≤ 8 := by
        rw [hw, List.getD_eq_getElem?_getD, List.getElem?_eq_getElem (by omega)]
        exact hws.le _ (List.getElem_mem _)
      have hat0 : (byM ws 0)[k]? = some (4 * (w : Int)) := by simp [byM, List.getElem?_range, hk12, hat]
      have i4 : InR (4 * (w : Int)) := inG (by omega) (by omega)
      have ii : InR ((k : Int) + 1) := inG (by omega) (by omega)
      have hb1 : (k : Int) < 12 := by omega
      have hb2 : k ≤ 11 := by omega
      have hb3 : 0 < 12 - k := by omega
      repeat' (first
        | simp [AK_at, acode_seq, acode_region, acode_draw, acode_cond, ↓CB_t, ↓CB_f, CB_u, acode_block, acode_loop, acode_exit, acode_scope, acode_ret, acode_skip, seqQ_n, seqQ_e, seqQ_r, blockQ_n, blockQ_e, blockQ_r, TK_at, OK_at, SK_at, aops_nil, aops_cons, asch_done, asch_one, asch_two, asch_top, astep, aop_eq, isLoud, aloud, aloud1, isWrite, qv, evS, strip, gof, eget, hget, putO, eput, herase, oks, opnds, gS, afin, afin0, binD, arith, D.cells, takeD, fillD, keep, trim, envOf, Fin, aresl, aresv, resD, argOk, pickV, isP, deq, deqs, boundD, slD, lenD, isT, isSl, ptrIds, chunks, mn_min, mx_max, D.cells, splice_one, splice_more, Rbr_at, Rfr_at, frR, frV, frC, flatC, brwR, brwV, brwC, omap, leR, leV, leC, leL, leVL, hl12, hlb, hat, hat0, i4, ii, hb1, hb2, hb3]
        | (refine WCall.pf (hck) ?_ ?_ ?_ ?_; (focus (simp [oks, opnds, gS, gof, eget]; done)); (focus (simp [omap, brwV, brwC, evS, eget, strip, hget, leVL, leV, leC, leL, hl12, hlb, hat, hat0, i4, ii, hb1, hb2, hb3]; done)); (focus (simp [noV, noC, flatR, flatV, flatC, evS, eget, strip, hl12, hlb, hat, hat0, i4, ii, hb1, hb2, hb3]; done)))
        | (refine ⟨WCall.pf (hck) ?_ ?_ ?_ ?_, ?_⟩; (focus (simp [oks, opnds, gS, gof, eget]; done)); (focus (simp [omap, brwV, brwC, evS, eget, strip, hget, leVL, leV, leC, leL, hl12, hlb, hat, hat0, i4, ii, hb1, hb2, hb3]; done)); (focus (simp [noV, noC, flatR, flatV, flatC, evS, eget, strip, hl12, hlb, hat, hat0, i4, ii, hb1, hb2, hb3]; done)))
        | (with_reducible refine And.intro (And.intro ?_ ?_) ?_)
        | fail)
      all_goals exact ⟨_, k + 1, (Gh.ren [0, 1, 2] (by simp [hB0]) (by simp [hB0] <;> decide) (by simp [eget, rnS, rnR, rnV, rnC, LtS, LtR, LtV, LtC, lget, rnI, rnN]) (by simp [hget, rnO, rnC, LtO, LtC, lget, rnI, rnN]) (.inl (by simp [lget, rnI, rnN]))), by omega, rfl, by omega⟩
    · obtain rfl : k = 12 := by omega
      by_cases h0 : l = []
      · subst h0
        repeat' (first
          | simp [AK_at, acode_seq, acode_region, acode_draw, acode_cond, ↓CB_t, ↓CB_f, CB_u, acode_block, acode_loop, acode_exit, acode_scope, acode_ret, acode_skip, seqQ_n, seqQ_e, seqQ_r, blockQ_n, blockQ_e, blockQ_r, TK_at, OK_at, SK_at, aops_nil, aops_cons, asch_done, asch_one, asch_two, asch_top, astep, aop_eq, isLoud, aloud, aloud1, isWrite, qv, evS, strip, gof, eget, hget, putO, eput, herase, oks, opnds, gS, afin, afin0, binD, arith, D.cells, takeD, fillD, keep, trim, envOf, Fin, aresl, aresv, resD, argOk, pickV, isP, deq, deqs, boundD, slD, lenD, isT, isSl, ptrIds, chunks, mn_min, mx_max, D.cells, splice_one, splice_more, Rbr_at, Rfr_at, frR, frV, frC, flatC, brwR, brwV, brwC, omap, leR, leV, leC, leL, leVL, ]
          | (refine WCall.pf (hck) ?_ ?_ ?_ ?_; (focus (simp [oks, opnds, gS, gof, eget]; done)); (focus (simp [omap, brwV, brwC, evS, eget, strip, hget, leVL, leV, leC, leL, ]; done)); (focus (simp [noV, noC, flatR, flatV, flatC, evS, eget, strip, ]; done)))
          | (refine ⟨WCall.pf (hck) ?_ ?_ ?_ ?_, ?_⟩; (focus (simp [oks, opnds, gS, gof, eget]; done)); (focus (simp [omap, brwV, brwC, evS, eget, strip, hget, leVL, leV, leC, leL, ]; done)); (focus (simp [noV, noC, flatR, flatV, flatC, evS, eget, strip, ]; done)))
          | (with_reducible refine And.intro (And.intro ?_ ?_) ?_)
          | fail)
      · have hp := hpos h0
        have h1 : ¬ l.length = 0 := fun e => h0 (List.eq_nil_of_length_eq_zero e)
        have h2 : ¬ (ringM ws) = [] := fun e => by rw [e] at hp; simp at hp
        repeat' (first
          | simp [AK_at, acode_seq, acode_region, acode_draw, acode_cond, ↓CB_t, ↓CB_f, CB_u, acode_block, acode_loop, acode_exit, acode_scope, acode_ret, acode_skip, seqQ_n, seqQ_e, seqQ_r, blockQ_n, blockQ_e, blockQ_r, TK_at, OK_at, SK_at, aops_nil, aops_cons, asch_done, asch_one, asch_two, asch_top, astep, aop_eq, isLoud, aloud, aloud1, isWrite, qv, evS, strip, gof, eget, hget, putO, eput, herase, oks, opnds, gS, afin, afin0, binD, arith, D.cells, takeD, fillD, keep, trim, envOf, Fin, aresl, aresv, resD, argOk, pickV, isP, deq, deqs, boundD, slD, lenD, isT, isSl, ptrIds, chunks, mn_min, mx_max, D.cells, splice_one, splice_more, Rbr_at, Rfr_at, frR, frV, frC, flatC, brwR, brwV, brwC, omap, leR, leV, leC, leL, leVL, h0, h1, h2, hp]
          | (refine WCall.pf (hck) ?_ ?_ ?_ ?_; (focus (simp [oks, opnds, gS, gof, eget]; done)); (focus (simp [omap, brwV, brwC, evS, eget, strip, hget, leVL, leV, leC, leL, h0, h1, h2, hp]; done)); (focus (simp [noV, noC, flatR, flatV, flatC, evS, eget, strip, h0, h1, h2, hp]; done)))
          | (refine ⟨WCall.pf (hck) ?_ ?_ ?_ ?_, ?_⟩; (focus (simp [oks, opnds, gS, gof, eget]; done)); (focus (simp [omap, brwV, brwC, evS, eget, strip, hget, leVL, leV, leC, leL, h0, h1, h2, hp]; done)); (focus (simp [noV, noC, flatR, flatV, flatC, evS, eget, strip, h0, h1, h2, hp]; done)))
          | (with_reducible refine And.intro (And.intro ?_ ?_) ?_)
          | fail)
end Go.Proofs.Ytfkeddefajkobaa

set_option linter.unusedSimpArgs false
set_option linter.unusedVariables false
namespace Go.Proofs.Ytfkeddefajkobaa
open Go.ChangeShapes Go.WideShapes Go.ChangeAt Go.RowKit

def numsE (r : List Int) : List Value := r.map (Value.int .i64)
def NumsOk (r : List Int) : Prop := ∀ z ∈ r, (Lit.int .i64 z).wf = true
/-- a type of n numbers in n cells -/
def Nums (P : Program) (t : TypeId) (n : Nat) : Prop :=
  ∀ {H : Type} {enc : TypeId × Value → H} {w : World} {base : Nat} {spare : Nat → Bool} {held : Bool} {fuel : Nat} {cs : List Value} {x : DataW H × List MemPlace},
    DataW.trod enc P w base spare held fuel t cs = some x → ∃ r : List Int, cs = numsE r ∧ r.length = n ∧ NumsOk r
theorem nums_of_cells (cs : List Value) (h : ∀ i, i < cs.length → ∃ z, cs[i]? = some (.int .i64 z) ∧ (Lit.int .i64 z).wf = true) : ∃ r : List Int, cs = numsE r ∧ NumsOk r := by
  induction cs with
  | nil => exact ⟨[], rfl, fun z hz => by cases hz⟩
  | cons v cs ih =>
    obtain ⟨z, hz, hw⟩ := h 0 (by simp)
    obtain ⟨r, rfl, hr⟩ := ih fun i hi => by have := h (i + 1) (by simpa using hi); simpa using this
    simp only [List.getElem?_cons_zero, Option.some.injEq] at hz
    subst hz
    refine ⟨z :: r, rfl, fun y hy => ?_⟩
    rcases List.mem_cons.1 hy with rfl | hy
    · exact hw
    · exact hr y hy
theorem Nums.struct {P : Program} {t : TypeId} {fs : Array Field} (ht : P.underlying t = some (.struct fs)) (hc : P.cellsOf t = fs.size)
    (hf : ∀ (i : Nat) (f : Field), fs[i]? = some f → f.offset = i ∧ P.cellsOf f.type = 1 ∧ P.underlying f.type = some (.int .i64)) : Nums P t fs.size := by
  intro H enc w base spare held fuel cs x h
  obtain ⟨xs, n, _, _, hl, hlen, hx⟩ := DataW.trod_struct ht h
  rw [hc] at hl
  obtain ⟨r, rfl, hr⟩ := nums_of_cells cs fun i hi => by
    rw [hl] at hi
    have hi' : i < xs.length := by omega
    have h1 := hx i fs[i] (by simp [hi])
    obtain ⟨h2, h3, h4⟩ := hf i fs[i] (by simp [hi])
    rw [h2, h3, List.getElem?_eq_getElem hi'] at h1
    obtain ⟨z, hz, _, hw⟩ := DataW.trod_int h4 h1
    refine ⟨z, ?_, hw⟩
    have := congrArg (fun l => l[0]?) hz
    simpa [List.getElem?_take, List.getElem?_drop] using this
  exact ⟨r, rfl, by simpa [numsE] using hl, hr⟩
theorem open_nums {H : Type} {enc : TypeId × Value → H} {P : Program} {w : World} {base : Nat} {spare : Nat → Bool} {held : Bool} {r0 : Reach} {b0 : Nat} {t e : TypeId} {n : Nat} {v : Value} {d : DataW H} {ps : List MemPlace}
    (ht : P.underlying t = some (.slice e)) (hc : P.cellsOf e = n) (hn0 : 0 < n) (hI : Nums P e n) (hv : Value.okWide P w r0 b0 t v) (h : DataW.Trod enc P w base spare held t v d ps) :
    ∃ rows : List (List Int), rows.length ≤ maxLen ∧ (∀ r ∈ rows, r.length = n ∧ NumsOk r) ∧ Sl w n numsE v rows := by
  obtain ⟨a0, len0, cap0, rfl⟩ := okWide_slice ht hv
  obtain ⟨fuel, hf⟩ := h
  rcases Go.Deep.open_slice ht hf with ⟨h0, _⟩ | ⟨a, len, cap, m, k, D, Pl, hcs, hb, hl, hm, hmm, _, hx⟩
  · simp only [Value.cells, List.cons.injEq, Value.slice.injEq, and_true] at h0
    obtain ⟨rfl, rfl, rfl⟩ := h0
    exact ⟨[], by simp, by simp, Sl.nil _ _ _⟩
  · simp only [Value.cells, List.cons.injEq, Value.slice.injEq, and_true] at hcs
    obtain ⟨e0, e1, e2⟩ := hcs
    subst e0 e1 e2
    rw [hc] at hx
    have hlm : len0 ≤ m := by rw [hmm]; split <;> omega
    have hrow : ∀ i, i < len0 → ∃ r : List Int, (r.length = n ∧ NumsOk r) ∧ ∀ j, j < n → w.cell? ((a.add (i * n)).add j) = (numsE r)[j]? := fun i hi => by
      obtain ⟨cs', h1, h2⟩ := hx i (by omega)
      obtain ⟨r, rfl, hr, hk⟩ := hI h2
      exact ⟨r, ⟨hr, hk⟩, (World.cells?_some h1).2.2⟩
    obtain ⟨f, hf'⟩ := Go.Deep.choose_lt hrow
    have hlen : ((List.range len0).map f).length = len0 := by simp
    refine ⟨(List.range len0).map f, by rw [hlen]; omega, fun r hr => ?_, some a, cap0, by rw [hlen], by rw [hlen]; exact hl, (fun h => by cases h), fun hne => ?_⟩
    · obtain ⟨i, hi, rfl⟩ := List.mem_map.1 hr
      exact (hf' i (List.mem_range.1 hi)).1
    · have h0 : 0 < len0 := by
        rcases Nat.eq_zero_or_pos len0 with rfl | h
        · simp at hne
        · exact h
      have hL : ∀ i, i < len0 → (numsE (f i)).length = n := fun i hi => by simp [numsE, (hf' i hi).1.1]
      have hc0 := (hf' 0 h0).2 0 hn0
      rw [List.getElem?_eq_getElem (by rw [hL 0 h0]; exact hn0)] at hc0
      obtain ⟨b, off, spot⟩ := a
      have hspot : spot = none := by simpa [Addr.add] using World.cell?_spot hc0
      subst hspot
      refine ⟨b, off, rfl, ?_, fun i x j u hxx hu => ?_⟩
      · obtain ⟨cs0, g1, _⟩ := hx 0 (by omega)
        simpa [Addr.add] using World.cells?_block g1 (by omega)
      · have hi : i < len0 := by
          have := (List.getElem?_eq_some_iff.1 hxx).1
          rwa [hlen] at this
        rw [List.getElem?_map, List.getElem?_range hi] at hxx
        simp only [Option.map_some, Option.some.injEq] at hxx
        subst hxx
        have hj : j < n := by
          have := (List.getElem?_eq_some_iff.1 hu).1
          rwa [hL i hi] at this
        rw [← hu, ← (hf' i hi).2 j hj, Go.Deep.add_add]
        congr 1
        unfold Addr.add
        split
        · rename_i hz
          obtain ⟨h1, h2⟩ : i * n = 0 ∧ j = 0 := by omega
          rw [h1, h2]; rfl
        · rw [Nat.add_assoc]
theorem Sl.map {α β : Type} {w : World} {sz : Nat} {E : α → List Value} {F : β → List Value} {v : Value} {xs : List α} (g : α → β) (h : Sl w sz E v xs) (hg : ∀ x ∈ xs, F (g x) = E x) : Sl w sz F v (xs.map g) := by
  obtain ⟨a, cap, h1, h2, h0, h3⟩ := h
  refine ⟨a, cap, by rw [h1, List.length_map], by rw [List.length_map]; exact h2, h0, fun hne => ?_⟩
  obtain ⟨b, off, h4, h5, h6⟩ := h3 (by simpa using hne)
  refine ⟨b, off, h4, h5, fun i x j u hx hu => ?_⟩
  rw [List.getElem?_map] at hx
  cases hxi : xs[i]? with
  | none => rw [hxi] at hx; cases hx
  | some y =>
    rw [hxi] at hx
    simp only [Option.map_some, Option.some.injEq] at hx
    subst hx
    exact h6 i y j u hxi (by rw [← hg y (List.mem_of_getElem? hxi)]; exact hu)
theorem nums_wf {z : Int} (h : (Lit.int .i64 z).wf = true) : -9223372036854775808 ≤ z ∧ z ≤ 9223372036854775807 := by
  have h1 : IntKind.i64.min = -9223372036854775808 := rfl
  have h2 : IntKind.i64.max = 9223372036854775807 := rfl
  simp only [Lit.wf, Bool.and_eq_true, decide_eq_true_eq] at h
  omega
end Go.Proofs.Ytfkeddefajkobaa

set_option linter.unusedSimpArgs false
set_option linter.unusedVariables false
set_option maxRecDepth 100000
namespace Go.Proofs.Ytfkeddefajkobaa
open Go.ChangeShapes Go.WideShapes Go.ChangeAt Go.RowKit

/-- what a type's cells may be -/
def Elt (P : Program) (t : TypeId) (n : Nat) {α : Type} (E : α → List Value) (ok : α → Prop) : Prop :=
  ∀ {H : Type} {enc : TypeId × Value → H} {w : World} {base : Nat} {spare : Nat → Bool} {held : Bool} {fuel : Nat} {cs : List Value} {x : DataW H × List MemPlace},
    DataW.trod enc P w base spare held fuel t cs = some x → ∃ r : α, cs = E r ∧ (E r).length = n ∧ ok r
theorem Elt.bool {P : Program} {t : TypeId} (ht : P.underlying t = some .bool) : Elt P t 1 (fun b : Bool => [Value.bool b]) (fun _ => True) := fun h => by
  obtain ⟨b, rfl, _⟩ := DataW.trod_bool ht h
  exact ⟨b, rfl, rfl, trivial⟩
theorem Elt.int {P : Program} {t : TypeId} (ht : P.underlying t = some (.int .i64)) : Elt P t 1 (fun z : Int => [Value.int .i64 z]) InR := fun h => by
  obtain ⟨z, rfl, _, hw⟩ := DataW.trod_int ht h
  exact ⟨z, rfl, rfl, nums_wf hw⟩
theorem Elt.nums {P : Program} {t : TypeId} {n : Nat} (h : Nums P t n) : Elt P t n numsE (fun r => r.length = n ∧ ∀ z ∈ r, InR z) := fun hx => by
  obtain ⟨r, rfl, hl, hk⟩ := h hx
  exact ⟨r, rfl, by simpa [numsE] using hl, hl, fun z hz => nums_wf (hk z hz)⟩
theorem open_elts {α : Type} [Inhabited α] {E : α → List Value} {ok : α → Prop} {H : Type} {enc : TypeId × Value → H} {P : Program} {w : World} {base : Nat} {spare : Nat → Bool} {held : Bool} {r0 : Reach} {b0 : Nat} {t e : TypeId} {n : Nat} {v : Value} {d : DataW H} {ps : List MemPlace}
    (ht : P.underlying t = some (.slice e)) (hc : P.cellsOf e = n) (hn0 : 0 < n) (hI : Elt P e n E ok) (hv : Value.okWide P w r0 b0 t v) (h : DataW.Trod enc P w base spare held t v d ps) :
    ∃ rows : List α, rows.length ≤ maxLen ∧ (∀ r ∈ rows, (E r).length = n ∧ ok r) ∧ Sl w n E v rows := by
  obtain ⟨a0, len0, cap0, rfl⟩ := okWide_slice ht hv
  obtain ⟨fuel, hf⟩ := h
  rcases Go.Deep.open_slice ht hf with ⟨h0, _⟩ | ⟨a, len, cap, m, k, D, Pl, hcs, hb, hl, hm, hmm, _, hx⟩
  · simp only [Value.cells, List.cons.injEq, Value.slice.injEq, and_true] at h0
    obtain ⟨rfl, rfl, rfl⟩ := h0
    exact ⟨[], by simp, by simp, Sl.nil _ _ _⟩
  · simp only [Value.cells, List.cons.injEq, Value.slice.injEq, and_true] at hcs
    obtain ⟨e0, e1, e2⟩ := hcs
    subst e0 e1 e2
    rw [hc] at hx
    have hlm : len0 ≤ m := by rw [hmm]; split <;> omega
    have hrow : ∀ i, i < len0 → ∃ r : α, ((E r).length = n ∧ ok r) ∧ ∀ j, j < n → w.cell? ((a.add (i * n)).add j) = (E r)[j]? := fun i hi => by
      obtain ⟨cs', h1, h2⟩ := hx i (by omega)
      obtain ⟨r, rfl, hr, hk⟩ := hI h2
      exact ⟨r, ⟨hr, hk⟩, (World.cells?_some h1).2.2⟩
    obtain ⟨f, hf'⟩ := Go.Deep.choose_lt hrow
    have hlen : ((List.range len0).map f).length = len0 := by simp
    refine ⟨(List.range len0).map f, by rw [hlen]; omega, fun r hr => ?_, some a, cap0, by rw [hlen], by rw [hlen]; exact hl, (fun h => by cases h), fun hne => ?_⟩
    · obtain ⟨i, hi, rfl⟩ := List.mem_map.1 hr
      exact (hf' i (List.mem_range.1 hi)).1
    · have h0 : 0 < len0 := by
        rcases Nat.eq_zero_or_pos len0 with rfl | h
        · simp at hne
        · exact h
      have hL : ∀ i, i < len0 → (E (f i)).length = n := fun i hi => (hf' i hi).1.1
      have hc0 := (hf' 0 h0).2 0 hn0
      rw [List.getElem?_eq_getElem (by rw [hL 0 h0]; exact hn0)] at hc0
      obtain ⟨b, off, spot⟩ := a
      have hspot : spot = none := by simpa [Addr.add] using World.cell?_spot hc0
      subst hspot
      refine ⟨b, off, rfl, ?_, fun i x j u hxx hu => ?_⟩
      · obtain ⟨cs0, g1, _⟩ := hx 0 (by omega)
        simpa [Addr.add] using World.cells?_block g1 (by omega)
      · have hi : i < len0 := by
          have := (List.getElem?_eq_some_iff.1 hxx).1
          rwa [hlen] at this
        rw [List.getElem?_map, List.getElem?_range hi] at hxx
        simp only [Option.map_some, Option.some.injEq] at hxx
        subst hxx
        have hj : j < n := by
          have := (List.getElem?_eq_some_iff.1 hu).1
          rwa [hL i hi] at this
        rw [← hu, ← (hf' i hi).2 j hj, Go.Deep.add_add]
        congr 1
        unfold Addr.add
        split
        · rename_i hz
          obtain ⟨h1, h2⟩ : i * n = 0 ∧ j = 0 := by omega
          rw [h1, h2]; rfl
        · rw [Nat.add_assoc]

theorem vt_bools {W : World} {v : Value} {l : List Bool} (h : Sl W 1 (fun b : Bool => [Value.bool b]) v l) : VT (allZ W) (.rows 1 (l.map fun b => [D.bool b])) v :=
  h.rows fun b _ => ⟨rfl, rfl, fun j d hd => by
    cases j with
    | zero => simp at hd; subst hd; exact ⟨_, rfl, fun Z => VT.bool b⟩
    | succ j => simp at hd⟩
theorem vt_ints {W : World} {v : Value} {l : List Int} (h : Sl W 1 (fun z : Int => [Value.int .i64 z]) v l) : VT (allZ W) (.rows 1 (l.map fun z => [I z])) v :=
  h.rows fun z _ => ⟨rfl, rfl, fun j d hd => by
    cases j with
    | zero => simp at hd; subst hd; exact ⟨_, rfl, fun Z => VT.int .i64 z⟩
    | succ j => simp at hd⟩
theorem vt_nums {W : World} {v : Value} {n : Nat} {l : List (List Int)} (h : Sl W n numsE v l) (hl : ∀ r ∈ l, r.length = n) : VT (allZ W) (.rows n (l.map fun r => r.map I)) v :=
  h.rows fun r hr => ⟨by simp [numsE, hl r hr], by simp [hl r hr], fun j d hd => by
    obtain ⟨z, hz, rfl⟩ := (map_get _ _ _ _).1 hd
    exact ⟨_, (map_get _ _ _ _).2 ⟨z, hz, rfl⟩, fun Z => VT.int .i64 z⟩⟩
theorem open_bools {H : Type} {enc : TypeId × Value → H} {w : World} {base : Nat} {spare : Nat → Bool} {held : Bool} {r0 : Reach} {b0 : Nat} {t e : TypeId} {v : Value} {d : DataW H} {ps : List MemPlace}
    (ht : Try.prog.underlying t = some (.slice e)) (hc : Try.prog.cellsOf e = 1) (he : Try.prog.underlying e = some .bool) (hv : Value.okWide Try.prog w r0 b0 t v) (h : DataW.Trod enc Try.prog w base spare held t v d ps) :
    ∃ l : List Bool, l.length ≤ maxLen ∧ VV s0 (allZ w) (.rows 1 (l.map fun b => [D.bool b])) v ∧ True := by
  obtain ⟨l, h1, _, h3⟩ := open_elts ht hc (by omega) (Elt.bool he) hv h
  exact ⟨l, h1, vt_bools h3, trivial⟩
theorem open_ints {H : Type} {enc : TypeId × Value → H} {w : World} {base : Nat} {spare : Nat → Bool} {held : Bool} {r0 : Reach} {b0 : Nat} {t e : TypeId} {v : Value} {d : DataW H} {ps : List MemPlace}
    (ht : Try.prog.underlying t = some (.slice e)) (hc : Try.prog.cellsOf e = 1) (he : Try.prog.underlying e = some (.int .i64)) (hv : Value.okWide Try.prog w r0 b0 t v) (h : DataW.Trod enc Try.prog w base spare held t v d ps) :
    ∃ l : List Int, l.length ≤ maxLen ∧ VV s0 (allZ w) (.rows 1 (l.map fun z => [I z])) v ∧ ∀ z ∈ l, InR z := by
  obtain ⟨l, h1, h2, h3⟩ := open_elts ht hc (by omega) (Elt.int he) hv h
  exact ⟨l, h1, vt_ints h3, fun z hz => (h2 z hz).2⟩
theorem open_rows {H : Type} {enc : TypeId × Value → H} {w : World} {base : Nat} {spare : Nat → Bool} {held : Bool} {r0 : Reach} {b0 : Nat} {t e : TypeId} {n : Nat} {v : Value} {d : DataW H} {ps : List MemPlace}
    (ht : Try.prog.underlying t = some (.slice e)) (hc : Try.prog.cellsOf e = n) (h0 : 0 < n) (he : Nums Try.prog e n) (hv : Value.okWide Try.prog w r0 b0 t v) (h : DataW.Trod enc Try.prog w base spare held t v d ps) :
    ∃ l : List (List Int), l.length ≤ maxLen ∧ VV s0 (allZ w) (.rows n (l.map fun r => r.map I)) v ∧ ∀ r ∈ l, r.length = n ∧ ∀ z ∈ r, InR z := by
  obtain ⟨l, h1, h2, h3⟩ := open_elts ht hc h0 (Elt.nums he) hv h
  exact ⟨l, h1, vt_nums h3 (fun r hr => (h2 r hr).2.1), fun r hr => (h2 r hr).2⟩
theorem laidOut : laidOutB Try.prog = true := by kernel_rfl
end Go.Proofs.Ytfkeddefajkobaa

set_option linter.unusedSimpArgs false
set_option linter.unusedVariables false
set_option maxRecDepth 100000
namespace Go.Proofs.Ytfkeddefajkobaa
open Go.ChangeShapes Go.WideShapes Go.ChangeAt Go.RowKit
theorem byte_wf {z : Int} (h : (Lit.int .u8 z).wf = true) : Byte z := by
  have h1 : IntKind.u8.min = 0 := rfl
  have h2 : IntKind.u8.max = 255 := rfl
  simp only [Lit.wf, Bool.and_eq_true, decide_eq_true_eq] at h
  exact ⟨by omega, by omega⟩
theorem open_struct {H : Type} {enc : TypeId × Value → H} {w : World} {base : Nat} {spare : Nat → Bool} {held : Bool} {t : TypeId} {n : Nat} {v : Value} {d : DataW H} {ps : List MemPlace}
    (h2 : 2 ≤ n) (he : Nums Try.prog t n) (h : DataW.Trod enc Try.prog w base spare held t v d ps) :
    ∃ r : List Int, VV s0 (allZ w) (.agg (r.map I)) v ∧ r.length = n ∧ ∀ z ∈ r, InR z := by
  obtain ⟨fuel, hf⟩ := h
  obtain ⟨r, hc, hl, hk⟩ := he hf
  refine ⟨r, ?_, hl, fun z hz => nums_wf (hk z hz)⟩
  have hlen : v.cells.toList.length = n := by rw [hc]; simpa [numsE] using hl
  cases v with
  | agg vs =>
    obtain ⟨vs⟩ := vs
    have e : vs = numsE r := by simpa [Value.cells] using hc
    subst e
    refine ⟨_, rfl, by simp [numsE], fun j x hx => ?_⟩
    obtain ⟨z, hz, rfl⟩ := (map_get _ _ _ _).1 hx
    have : (numsE r).toArray.getD j undef = .int .i64 z := by
      have : (numsE r)[j]? = some (.int .i64 z) := (map_get _ _ _ _).2 ⟨z, hz, rfl⟩
      simp [Array.getD_eq_getD_getElem?, this]
    rw [this]
    exact VT.int .i64 z
  | _ => simp [Value.cells] at hlen; omega
theorem Elt.byte {P : Program} {t : TypeId} (ht : P.underlying t = some (.int .u8)) : Elt P t 1 (fun z : Int => [Value.int .u8 z]) Byte := fun h => by
  obtain ⟨z, rfl, _, hw⟩ := DataW.trod_int ht h
  exact ⟨z, rfl, rfl, byte_wf hw⟩
theorem vt_bytes {W : World} {v : Value} {l : List Int} (h : Sl W 1 (fun z : Int => [Value.int .u8 z]) v l) : VT (allZ W) (.rows 1 (l.map PB)) v :=
  h.rows fun z _ => ⟨rfl, rfl, fun j d hd => by
    cases j with
    | zero => simp [PB] at hd; subst hd; exact ⟨_, rfl, fun Z => VT.int .u8 z⟩
    | succ j => simp [PB] at hd⟩
theorem open_bytes {H : Type} {enc : TypeId × Value → H} {w : World} {base : Nat} {spare : Nat → Bool} {held : Bool} {r0 : Reach} {b0 : Nat} {t e : TypeId} {v : Value} {d : DataW H} {ps : List MemPlace}
    (ht : Try.prog.underlying t = some (.slice e)) (hc : Try.prog.cellsOf e = 1) (he : Try.prog.underlying e = some (.int .u8)) (hv : Value.okWide Try.prog w r0 b0 t v) (h : DataW.Trod enc Try.prog w base spare held t v d ps) :
    ∃ l : List Int, l.length ≤ maxLen ∧ VV s0 (allZ w) (.rows 1 (l.map PB)) v ∧ ∀ z ∈ l, Byte z := by
  obtain ⟨l, h1, h2, h3⟩ := open_elts ht hc (by omega) (Elt.byte he) hv h
  exact ⟨l, h1, vt_bytes h3, fun z hz => (h2 z hz).2⟩
end Go.Proofs.Ytfkeddefajkobaa

