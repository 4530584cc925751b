/- This text holds, one behind the other, the texts that say what the program computes, step by step, and the rules that they need. They have no condition of their own. -/
import Derived.Test.YtfkeddefajkobaaMc
import Derived.Deep.Slices
set_option linter.unusedSimpArgs false
set_option linter.unusedVariables false
set_option maxRecDepth 100000
set_option maxHeartbeats 4000000
namespace Go.Proofs.Ytfkeddefajkobaa
open Go.RowKit
structure Budget where
  num : Int
  den : Int
  burst : Int
def Budget.D (b : Budget) : List D := [I b.num, I b.den, I b.burst]
def Budget.Ok (b : Budget) : Prop := (((((0 ≤ b.num ∧ b.num ≤ 20) ∧ 1 ≤ b.den) ∧ b.den ≤ 20) ∧ 0 ≤ b.burst) ∧ b.burst ≤ 20)
instance (b : Budget) : Decidable b.Ok := by unfold Budget.Ok; infer_instance
def Budget.full (b : Budget) : Int := b.burst * b.den
theorem Budget.Ok.full {b : Budget} (h : b.Ok) : 0 ≤ b.full ∧ b.full ≤ 400 := by
  obtain ⟨⟨⟨⟨⟨h1, h2⟩, h3⟩, h4⟩, h5⟩, h6⟩ := h
  unfold Budget.full
  refine ⟨Int.mul_nonneg h5 (by omega), Int.le_trans (Int.mul_le_mul_of_nonneg_right h6 (by omega)) (by omega)⟩
theorem inR {z : Int} (h1 : -9223372036854775808 ≤ z) (h2 : z ≤ 9223372036854775807) : InR z := ⟨h1, h2⟩
theorem bcheck_code : cfun Try.prog [] 61 = some ⟨(.seq (.region 0 [⟨(some 1), (.box (.t 0)), none⟩, ⟨(some 2), (.mov (.k (.int .i64 0))), none⟩]) (.seq (.seq (.region 1 [⟨(some 3), (.fad 0 (.t 1)), none⟩, ⟨(some 4), (.load false 1 (.t 3)), none⟩, ⟨(some 5), (.bin .lss (.t 4) (.k (.int .i64 0))), none⟩, ⟨(some 6), (.mov (.t 5)), none⟩, ⟨(some 7), (.fad 0 (.t 1)), (some (6, false))⟩, ⟨(some 8), (.load false 1 (.t 7)), (some (6, false))⟩, ⟨(some 9), (.bin .gtr (.t 8) (.k (.int .i64 20))), (some (6, false))⟩, ⟨(some 10), (.pick (.t 6) (.k (.bool true)) (.t 9)), none⟩, ⟨(some 11), (.mov (.t 10)), none⟩, ⟨(some 12), (.fad 1 (.t 1)), (some (11, false))⟩, ⟨(some 13), (.load false 1 (.t 12)), (some (11, false))⟩, ⟨(some 14), (.bin .lss (.t 13) (.k (.int .i64 1))), (some (11, false))⟩, ⟨(some 15), (.pick (.t 11) (.k (.bool true)) (.t 14)), none⟩, ⟨(some 16), (.mov (.t 15)), none⟩, ⟨(some 17), (.fad 1 (.t 1)), (some (16, false))⟩, ⟨(some 18), (.load false 1 (.t 17)), (some (16, false))⟩, ⟨(some 19), (.bin .gtr (.t 18) (.k (.int .i64 20))), (some (16, false))⟩, ⟨(some 20), (.pick (.t 16) (.k (.bool true)) (.t 19)), none⟩, ⟨(some 21), (.mov (.t 20)), none⟩, ⟨(some 22), (.fad 2 (.t 1)), (some (21, false))⟩, ⟨(some 23), (.load false 1 (.t 22)), (some (21, false))⟩, ⟨(some 24), (.bin .lss (.t 23) (.k (.int .i64 0))), (some (21, false))⟩, ⟨(some 25), (.pick (.t 21) (.k (.bool true)) (.t 24)), none⟩, ⟨(some 26), (.mov (.t 25)), none⟩, ⟨(some 27), (.fad 2 (.t 1)), (some (26, false))⟩, ⟨(some 28), (.load false 1 (.t 27)), (some (26, false))⟩, ⟨(some 29), (.bin .gtr (.t 28) (.k (.int .i64 20))), (some (26, false))⟩, ⟨(some 30), (.pick (.t 26) (.k (.bool true)) (.t 29)), none⟩]) (.cond 30 (.seq (.region 2 [⟨(some 2), (.mov (.k (.int .i64 2))), none⟩]) .ret) .skip)) (.seq (.region 3 [⟨(some 2), (.mov (.k (.int .i64 0))), none⟩]) .ret))), [(.t 2)], 31⟩ := by kernel_rfl
theorem bfull_code : cfun Try.prog [] 91 = some ⟨(.seq (.region 0 [⟨(some 1), (.box (.t 0)), none⟩, ⟨(some 2), (.mov (.k (.int .i64 0))), none⟩]) (.seq (.region 1 [⟨(some 3), (.fad 2 (.t 1)), none⟩, ⟨(some 4), (.load false 1 (.t 3)), none⟩, ⟨(some 5), (.fad 1 (.t 1)), none⟩, ⟨(some 6), (.load false 1 (.t 5)), none⟩, ⟨(some 7), (.bin .mul (.t 4) (.t 6)), none⟩, ⟨(some 2), (.mov (.t 7)), none⟩]) .ret)), [(.t 2)], 8⟩ := by kernel_rfl
theorem bfill_code : cfun Try.prog [] 58 = some ⟨(.seq (.region 0 [⟨(some 1), (.box (.t 0)), none⟩, ⟨(some 2), (.alloc [(.int .i64 0)]), none⟩, ⟨(some 3), (.mov (.k (.int .i64 0))), none⟩]) (.seq (.seq (.region 1 [⟨(some 5), (.load true 3 (.t 1)), none⟩, ⟨(some 6), (.call 61 [(.t 5)]), none⟩, ⟨(some 4), (.mov (.t 6)), none⟩]) (.seq (.region 2 [⟨(some 7), (.mov (.t 4)), none⟩, ⟨(some 8), (.bin .neq (.t 7) (.k (.int .i64 0))), none⟩]) (.cond 8 (.seq (.region 3 [⟨(some 9), (.build [(.int .i64 0)] []), none⟩, ⟨(some 10), (.mov (.t 4)), none⟩, ⟨none, (.store 1 (.t 2) (.t 9)), none⟩, ⟨(some 3), (.mov (.t 10)), none⟩]) .ret) .skip))) (.seq (.region 4 [⟨(some 11), (.load true 3 (.t 1)), none⟩, ⟨(some 12), (.call 91 [(.t 11)]), none⟩, ⟨(some 13), (.build [(.int .i64 0)] [(0, (1, (.t 12)))]), none⟩, ⟨none, (.store 1 (.t 2) (.t 13)), none⟩, ⟨(some 3), (.mov (.k (.int .i64 0))), none⟩]) .ret))), [(.c 2 true 1), (.t 3)], 14⟩ := by kernel_rfl
theorem bcheck_pf (b : Budget) : PF Try.prog 61 [.agg b.D] (I (if b.Ok then 0 else 2)) := by
  refine PF.of follows_ok bcheck_code (by simp) (by simp [argOk]) (by simp [noV, noC, Budget.D]) fun B hBN hB0 => acode_sound [0, 1, 2, 30] [] _ _ _ ?_
  simp [AK_at, acode_seq, acode_region, acode_draw, acode_cond, ↓CB_t, ↓CB_f, CB_u, acode_block, acode_loop, acode_exit, acode_scope, acode_ret, acode_skip, seqQ_n, seqQ_e, seqQ_r, blockQ_n, blockQ_e, blockQ_r, TK_at, OK_at, SK_at, aops_nil, aops_cons, asch_done, asch_one, asch_two, asch_top, astep, aop_eq, isLoud, aloud, aloud1, isWrite, qv, evS, strip, gof, eget, hget, putO, eput, herase, oks, opnds, gS, afin, afin0, binD, arith, D.cells, takeD, fillD, keep, trim, envOf, Fin, aresl, aresv, resD, argOk, pickV, isP, deq, deqs, boundD, slD, lenD, isT, isSl, ptrIds, chunks, mn_min, mx_max, D.cells, splice_one, splice_more, Rbr_at, Rfr_at, frR, frV, frC, flatC, brwR, brwV, brwC, omap, leR, leV, leC, leL, leVL, Budget.D]
  by_cases h : b.Ok
  · have h' := h
    unfold Budget.Ok at h'
    simp [h, h']
  · have h' := h
    unfold Budget.Ok at h'
    simp only [h, h', if_false]
    simp
    omega
theorem bfull_pf (b : Budget) (h : b.Ok) : PF Try.prog 91 [.agg b.D] (I b.full) := by
  have hf := h.full
  have hi : InR (b.burst * b.den) := inR (by unfold Budget.full at hf; omega) (by unfold Budget.full at hf; omega)
  refine PF.of follows_ok bfull_code (by simp) (by simp [argOk]) (by simp [noV, noC, Budget.D]) fun B hBN hB0 => acode_sound [0, 1, 2] [] _ _ _ ?_
  simp [AK_at, acode_seq, acode_region, acode_draw, acode_cond, ↓CB_t, ↓CB_f, CB_u, acode_block, acode_loop, acode_exit, acode_scope, acode_ret, acode_skip, seqQ_n, seqQ_e, seqQ_r, blockQ_n, blockQ_e, blockQ_r, TK_at, OK_at, SK_at, aops_nil, aops_cons, asch_done, asch_one, asch_two, asch_top, astep, aop_eq, isLoud, aloud, aloud1, isWrite, qv, evS, strip, gof, eget, hget, putO, eput, herase, oks, opnds, gS, afin, afin0, binD, arith, D.cells, takeD, fillD, keep, trim, envOf, Fin, aresl, aresv, resD, argOk, pickV, isP, deq, deqs, boundD, slD, lenD, isT, isSl, ptrIds, chunks, mn_min, mx_max, D.cells, splice_one, splice_more, Rbr_at, Rfr_at, frR, frV, frC, flatC, brwR, brwV, brwC, omap, leR, leV, leC, leL, leVL, Budget.D, hi, Budget.full]
theorem bfill_pf (b : Budget) (h : b.Ok) : PF Try.prog 58 [.agg b.D] (.tup [.agg [I b.full], I 0]) := by
  refine PF.of follows_ok bfill_code (by simp) (by simp [argOk]) (by simp [noV, noC, Budget.D]) fun B hBN hB0 => acode_sound [0, 1, 2, 3, 4, 8] [] _ _ _ ?_
  simp [AK_at, acode_seq, acode_region, acode_draw, acode_cond, ↓CB_t, ↓CB_f, CB_u, acode_block, acode_loop, acode_exit, acode_scope, acode_ret, acode_skip, seqQ_n, seqQ_e, seqQ_r, blockQ_n, blockQ_e, blockQ_r, TK_at, OK_at, SK_at, aops_nil, aops_cons, asch_done, asch_one, asch_two, asch_top, astep, aop_eq, isLoud, aloud, aloud1, isWrite, qv, evS, strip, gof, eget, hget, putO, eput, herase, oks, opnds, gS, afin, afin0, binD, arith, D.cells, takeD, fillD, keep, trim, envOf, Fin, aresl, aresv, resD, argOk, pickV, isP, deq, deqs, boundD, slD, lenD, isT, isSl, ptrIds, chunks, mn_min, mx_max, D.cells, splice_one, splice_more, Rbr_at, Rfr_at, frR, frV, frC, flatC, brwR, brwV, brwC, omap, leR, leV, leC, leL, leVL, Budget.D]
  refine WCall.pf (bcheck_pf b) (by simp [oks, opnds, gS, gof, eget]) (by simp [omap, brwV, brwC, evS, eget, strip, hget, leVL, leV, leC, leL, Budget.D]) (by simp [noV, noC, flatR, flatV, flatC, evS, eget, strip, Budget.D]) ?_
  simp [AK_at, acode_seq, acode_region, acode_draw, acode_cond, ↓CB_t, ↓CB_f, CB_u, acode_block, acode_loop, acode_exit, acode_scope, acode_ret, acode_skip, seqQ_n, seqQ_e, seqQ_r, blockQ_n, blockQ_e, blockQ_r, TK_at, OK_at, SK_at, aops_nil, aops_cons, asch_done, asch_one, asch_two, asch_top, astep, aop_eq, isLoud, aloud, aloud1, isWrite, qv, evS, strip, gof, eget, hget, putO, eput, herase, oks, opnds, gS, afin, afin0, binD, arith, D.cells, takeD, fillD, keep, trim, envOf, Fin, aresl, aresv, resD, argOk, pickV, isP, deq, deqs, boundD, slD, lenD, isT, isSl, ptrIds, chunks, mn_min, mx_max, D.cells, splice_one, splice_more, Rbr_at, Rfr_at, frR, frV, frC, flatC, brwR, brwV, brwC, omap, leR, leV, leC, leL, leVL, h]
  refine WCall.pf (bfull_pf b h) (by simp [oks, opnds, gS, gof, eget]) (by simp [omap, brwV, brwC, evS, eget, strip, hget, leVL, leV, leC, leL, Budget.D]) (by simp [noV, noC, flatR, flatV, flatC, evS, eget, strip, Budget.D]) ?_
  simp [AK_at, acode_seq, acode_region, acode_draw, acode_cond, ↓CB_t, ↓CB_f, CB_u, acode_block, acode_loop, acode_exit, acode_scope, acode_ret, acode_skip, seqQ_n, seqQ_e, seqQ_r, blockQ_n, blockQ_e, blockQ_r, TK_at, OK_at, SK_at, aops_nil, aops_cons, asch_done, asch_one, asch_two, asch_top, astep, aop_eq, isLoud, aloud, aloud1, isWrite, qv, evS, strip, gof, eget, hget, putO, eput, herase, oks, opnds, gS, afin, afin0, binD, arith, D.cells, takeD, fillD, keep, trim, envOf, Fin, aresl, aresv, resD, argOk, pickV, isP, deq, deqs, boundD, slD, lenD, isT, isSl, ptrIds, chunks, mn_min, mx_max, D.cells, splice_one, splice_more, Rbr_at, Rfr_at, frR, frV, frC, flatC, brwR, brwV, brwC, omap, leR, leV, leC, leL, leVL]
theorem budget_code : cfun Try.prog [] 55 = some ⟨(.seq (.region 0 [⟨(some 6), (.alloc [(.int .i64 0), (.int .i64 0), (.int .i64 0)]), none⟩]) (.seq (.region 1 [⟨(some 7), (.mov (.t 0)), none⟩, ⟨(some 8), (.call 25 [(.t 7), (.k (.int .i64 21))]), none⟩, ⟨(some 9), (.mov (.t 1)), none⟩, ⟨(some 10), (.call 25 [(.t 9), (.k (.int .i64 20))]), none⟩, ⟨(some 11), (.bin .add (.k (.int .i64 1)) (.t 10)), none⟩, ⟨(some 12), (.mov (.t 2)), none⟩, ⟨(some 13), (.call 25 [(.t 12), (.k (.int .i64 21))]), none⟩, ⟨(some 14), (.build [(.int .i64 0), (.int .i64 0), (.int .i64 0)] [(0, (1, (.t 8))), (1, (1, (.t 11))), (2, (1, (.t 13)))]), none⟩, ⟨none, (.store 3 (.t 6) (.t 14)), none⟩]) .ret)), [(.c 6 true 3)], 15⟩ := by kernel_rfl
def budgetOf (num den burst : Int) : Budget := ⟨pickedZ num 21, 1 + pickedZ den 20, pickedZ burst 21⟩
theorem budgetOf_ok (num den burst : Int) : (budgetOf num den burst).Ok := by
  have h1 := pickedZ_range num 21 (by omega)
  have h2 := pickedZ_range den 20 (by omega)
  have h3 := pickedZ_range burst 21 (by omega)
  unfold Budget.Ok budgetOf
  simp only
  omega
theorem budget_pf (num den burst : Int) (h1 : InR num) (h2 : InR den) (h3 : InR burst) : PF Try.prog 55 [I num, I den, I burst] (.agg (budgetOf num den burst).D) := by
  refine PF.of follows_ok budget_code (by simp) (by simp [argOk]) (by simp [noV, noC]) fun B hBN hB0 => acode_sound [0, 1, 2, 6] [] _ _ _ ?_
  simp [AK_at, acode_seq, acode_region, acode_draw, acode_cond, ↓CB_t, ↓CB_f, CB_u, acode_block, acode_loop, acode_exit, acode_scope, acode_ret, acode_skip, seqQ_n, seqQ_e, seqQ_r, blockQ_n, blockQ_e, blockQ_r, TK_at, OK_at, SK_at, aops_nil, aops_cons, asch_done, asch_one, asch_two, asch_top, astep, aop_eq, isLoud, aloud, aloud1, isWrite, qv, evS, strip, gof, eget, hget, putO, eput, herase, oks, opnds, gS, afin, afin0, binD, arith, D.cells, takeD, fillD, keep, trim, envOf, Fin, aresl, aresv, resD, argOk, pickV, isP, deq, deqs, boundD, slD, lenD, isT, isSl, ptrIds, chunks, mn_min, mx_max, D.cells, splice_one, splice_more, Rbr_at, Rfr_at, frR, frV, frC, flatC, brwR, brwV, brwC, omap, leR, leV, leC, leL, leVL]
  refine WCall.pf (picked_pf num 21 h1 (by omega)) (by simp [oks, opnds, gS, gof, eget]) (by simp [omap, brwV, brwC, evS, eget, strip, hget, leVL, leV, leC, leL]) (by simp [noV, noC, flatR, flatV, flatC, evS, eget, strip]) ?_
  simp [AK_at, acode_seq, acode_region, acode_draw, acode_cond, ↓CB_t, ↓CB_f, CB_u, acode_block, acode_loop, acode_exit, acode_scope, acode_ret, acode_skip, seqQ_n, seqQ_e, seqQ_r, blockQ_n, blockQ_e, blockQ_r, TK_at, OK_at, SK_at, aops_nil, aops_cons, asch_done, asch_one, asch_two, asch_top, astep, aop_eq, isLoud, aloud, aloud1, isWrite, qv, evS, strip, gof, eget, hget, putO, eput, herase, oks, opnds, gS, afin, afin0, binD, arith, D.cells, takeD, fillD, keep, trim, envOf, Fin, aresl, aresv, resD, argOk, pickV, isP, deq, deqs, boundD, slD, lenD, isT, isSl, ptrIds, chunks, mn_min, mx_max, D.cells, splice_one, splice_more, Rbr_at, Rfr_at, frR, frV, frC, flatC, brwR, brwV, brwC, omap, leR, leV, leC, leL, leVL]
  refine WCall.pf (picked_pf den 20 h2 (by omega)) (by simp [oks, opnds, gS, gof, eget]) (by simp [omap, brwV, brwC, evS, eget, strip, hget, leVL, leV, leC, leL]) (by simp [noV, noC, flatR, flatV, flatC, evS, eget, strip]) ?_
  have hr := pickedZ_range den 20 (by omega)
  have hi : InR (1 + pickedZ den 20) := inR (by omega) (by omega)
  simp [AK_at, acode_seq, acode_region, acode_draw, acode_cond, ↓CB_t, ↓CB_f, CB_u, acode_block, acode_loop, acode_exit, acode_scope, acode_ret, acode_skip, seqQ_n, seqQ_e, seqQ_r, blockQ_n, blockQ_e, blockQ_r, TK_at, OK_at, SK_at, aops_nil, aops_cons, asch_done, asch_one, asch_two, asch_top, astep, aop_eq, isLoud, aloud, aloud1, isWrite, qv, evS, strip, gof, eget, hget, putO, eput, herase, oks, opnds, gS, afin, afin0, binD, arith, D.cells, takeD, fillD, keep, trim, envOf, Fin, aresl, aresv, resD, argOk, pickV, isP, deq, deqs, boundD, slD, lenD, isT, isSl, ptrIds, chunks, mn_min, mx_max, D.cells, splice_one, splice_more, Rbr_at, Rfr_at, frR, frV, frC, flatC, brwR, brwV, brwC, omap, leR, leV, leC, leL, leVL, hi]
  refine WCall.pf (picked_pf burst 21 h3 (by omega)) (by simp [oks, opnds, gS, gof, eget]) (by simp [omap, brwV, brwC, evS, eget, strip, hget, leVL, leV, leC, leL]) (by simp [noV, noC, flatR, flatV, flatC, evS, eget, strip]) ?_
  simp [AK_at, acode_seq, acode_region, acode_draw, acode_cond, ↓CB_t, ↓CB_f, CB_u, acode_block, acode_loop, acode_exit, acode_scope, acode_ret, acode_skip, seqQ_n, seqQ_e, seqQ_r, blockQ_n, blockQ_e, blockQ_r, TK_at, OK_at, SK_at, aops_nil, aops_cons, asch_done, asch_one, asch_two, asch_top, astep, aop_eq, isLoud, aloud, aloud1, isWrite, qv, evS, strip, gof, eget, hget, putO, eput, herase, oks, opnds, gS, afin, afin0, binD, arith, D.cells, takeD, fillD, keep, trim, envOf, Fin, aresl, aresv, resD, argOk, pickV, isP, deq, deqs, boundD, slD, lenD, isT, isSl, ptrIds, chunks, mn_min, mx_max, D.cells, splice_one, splice_more, Rbr_at, Rfr_at, frR, frV, frC, flatC, brwR, brwV, brwC, omap, leR, leV, leC, leL, leVL, Budget.D, budgetOf]
structure Wtch where
  window : Int
  fails : Int
  hold : Int
def Wtch.D (w : Wtch) : List D := [I w.window, I w.fails, I w.hold]
def Wtch.Ok (w : Wtch) : Prop := 1 ≤ w.window ∧ w.window ≤ 16 ∧ 1 ≤ w.fails ∧ w.fails ≤ w.window ∧ 1 ≤ w.hold ∧ w.hold ≤ 500
theorem inH {z : Int} (h1 : -9223372036854775808 ≤ z) (h2 : z ≤ 9223372036854775807) : InR z := ⟨h1, h2⟩
theorem hcheck_code : cfun Try.prog [] 62 = some ⟨(.seq (.region 0 [⟨(some 1), (.box (.t 0)), none⟩, ⟨(some 2), (.mov (.k (.int .i64 0))), none⟩]) (.seq (.seq (.region 1 [⟨(some 3), (.fad 0 (.t 1)), none⟩, ⟨(some 4), (.load false 1 (.t 3)), none⟩, ⟨(some 5), (.bin .lss (.t 4) (.k (.int .i64 1))), none⟩, ⟨(some 6), (.mov (.t 5)), none⟩, ⟨(some 7), (.fad 0 (.t 1)), (some (6, false))⟩, ⟨(some 8), (.load false 1 (.t 7)), (some (6, false))⟩, ⟨(some 9), (.bin .gtr (.t 8) (.k (.int .i64 16))), (some (6, false))⟩, ⟨(some 10), (.pick (.t 6) (.k (.bool true)) (.t 9)), none⟩, ⟨(some 11), (.mov (.t 10)), none⟩, ⟨(some 12), (.fad 1 (.t 1)), (some (11, false))⟩, ⟨(some 13), (.load false 1 (.t 12)), (some (11, false))⟩, ⟨(some 14), (.bin .lss (.t 13) (.k (.int .i64 1))), (some (11, false))⟩, ⟨(some 15), (.pick (.t 11) (.k (.bool true)) (.t 14)), none⟩, ⟨(some 16), (.mov (.t 15)), none⟩, ⟨(some 17), (.fad 1 (.t 1)), (some (16, false))⟩, ⟨(some 18), (.load false 1 (.t 17)), (some (16, false))⟩, ⟨(some 19), (.fad 0 (.t 1)), (some (16, false))⟩, ⟨(some 20), (.load false 1 (.t 19)), (some (16, false))⟩, ⟨(some 21), (.bin .gtr (.t 18) (.t 20)), (some (16, false))⟩, ⟨(some 22), (.pick (.t 16) (.k (.bool true)) (.t 21)), none⟩, ⟨(some 23), (.mov (.t 22)), none⟩, ⟨(some 24), (.fad 2 (.t 1)), (some (23, false))⟩, ⟨(some 25), (.load false 1 (.t 24)), (some (23, false))⟩, ⟨(some 26), (.bin .lss (.t 25) (.k (.int .i64 1))), (some (23, false))⟩, ⟨(some 27), (.pick (.t 23) (.k (.bool true)) (.t 26)), none⟩, ⟨(some 28), (.mov (.t 27)), none⟩, ⟨(some 29), (.fad 2 (.t 1)), (some (28, false))⟩, ⟨(some 30), (.load false 1 (.t 29)), (some (28, false))⟩, ⟨(some 31), (.bin .gtr (.t 30) (.k (.int .i64 500))), (some (28, false))⟩, ⟨(some 32), (.pick (.t 28) (.k (.bool true)) (.t 31)), none⟩]) (.cond 32 (.seq (.region 2 [⟨(some 2), (.mov (.k (.int .i64 2))), none⟩]) .ret) .skip)) (.seq (.region 3 [⟨(some 2), (.mov (.k (.int .i64 0))), none⟩]) .ret))), [(.t 2)], 33⟩ := by kernel_rfl
theorem hcheck_pf (w : Wtch) (hw : w.Ok) : PF Try.prog 62 [.agg w.D] (I 0) := by
  obtain ⟨a1, a2, a3, a4, a5, a6⟩ := hw
  have c1 : ¬ w.window < 1 := by omega
  have c2 : ¬ 16 < w.window := by omega
  have c3 : ¬ w.fails < 1 := by omega
  have c4 : ¬ w.window < w.fails := by omega
  have c5 : ¬ w.hold < 1 := by omega
  have c6 : ¬ 500 < w.hold := by omega
  refine PF.of follows_ok hcheck_code (by simp) (by simp [argOk]) (by simp [noV, noC, Wtch.D]) fun B hBN hB0 => acode_sound [0, 1, 2, 32] [] _ _ _ ?_
  simp [AK_at, acode_seq, acode_region, acode_draw, acode_cond, ↓CB_t, ↓CB_f, CB_u, acode_block, acode_loop, acode_exit, acode_scope, acode_ret, acode_skip, seqQ_n, seqQ_e, seqQ_r, blockQ_n, blockQ_e, blockQ_r, TK_at, OK_at, SK_at, aops_nil, aops_cons, asch_done, asch_one, asch_two, asch_top, astep, aop_eq, isLoud, aloud, aloud1, isWrite, qv, evS, strip, gof, eget, hget, putO, eput, herase, oks, opnds, gS, afin, afin0, binD, arith, D.cells, takeD, fillD, keep, trim, envOf, Fin, aresl, aresv, resD, argOk, pickV, isP, deq, deqs, boundD, slD, lenD, isT, isSl, ptrIds, chunks, mn_min, mx_max, D.cells, splice_one, splice_more, Rbr_at, Rfr_at, frR, frV, frC, flatC, brwR, brwV, brwC, omap, leR, leV, leC, leL, leVL, Wtch.D, c1, c2, c3, c4, c5, c6]
theorem hcheck0_pf : PF Try.prog 62 [.agg [I 0, I 0, I 0]] (I 2) := by
  refine PF.of follows_ok hcheck_code (by simp) (by simp [argOk]) (by simp [noV, noC]) fun B hBN hB0 => acode_sound [0, 1, 2, 32] [] _ _ _ ?_
  simp [AK_at, acode_seq, acode_region, acode_draw, acode_cond, ↓CB_t, ↓CB_f, CB_u, acode_block, acode_loop, acode_exit, acode_scope, acode_ret, acode_skip, seqQ_n, seqQ_e, seqQ_r, blockQ_n, blockQ_e, blockQ_r, TK_at, OK_at, SK_at, aops_nil, aops_cons, asch_done, asch_one, asch_two, asch_top, astep, aop_eq, isLoud, aloud, aloud1, isWrite, qv, evS, strip, gof, eget, hget, putO, eput, herase, oks, opnds, gS, afin, afin0, binD, arith, D.cells, takeD, fillD, keep, trim, envOf, Fin, aresl, aresv, resD, argOk, pickV, isP, deq, deqs, boundD, slD, lenD, isT, isSl, ptrIds, chunks, mn_min, mx_max, D.cells, splice_one, splice_more, Rbr_at, Rfr_at, frR, frV, frC, flatC, brwR, brwV, brwC, omap, leR, leV, leC, leL, leVL]
theorem watch_code : cfun Try.prog [] 56 = some ⟨(.seq (.region 0 [⟨(some 6), (.alloc [(.int .i64 0), (.int .i64 0), (.int .i64 0)]), none⟩]) (.seq (.region 1 [⟨(some 8), (.mov (.t 0)), none⟩, ⟨(some 9), (.call 25 [(.t 8), (.k (.int .i64 16))]), none⟩, ⟨(some 10), (.bin .add (.k (.int .i64 1)) (.t 9)), none⟩, ⟨(some 7), (.mov (.t 10)), none⟩]) (.seq (.region 2 [⟨(some 11), (.mov (.t 7)), none⟩, ⟨(some 12), (.mov (.t 1)), none⟩, ⟨(some 13), (.mov (.t 7)), none⟩, ⟨(some 14), (.call 25 [(.t 12), (.t 13)]), none⟩, ⟨(some 15), (.bin .add (.k (.int .i64 1)) (.t 14)), none⟩, ⟨(some 16), (.mov (.t 2)), none⟩, ⟨(some 17), (.call 25 [(.t 16), (.k (.int .i64 500))]), none⟩, ⟨(some 18), (.bin .add (.k (.int .i64 1)) (.t 17)), none⟩, ⟨(some 19), (.build [(.int .i64 0), (.int .i64 0), (.int .i64 0)] [(0, (1, (.t 11))), (1, (1, (.t 15))), (2, (1, (.t 18)))]), none⟩, ⟨none, (.store 3 (.t 6) (.t 19)), none⟩]) .ret))), [(.c 6 true 3)], 20⟩ := by kernel_rfl
def watchOf (window fails hold : Int) : Wtch := ⟨1 + pickedZ window 16, 1 + pickedZ fails (1 + pickedZ window 16), 1 + pickedZ hold 500⟩
theorem watchOf_ok (window fails hold : Int) : (watchOf window fails hold).Ok := by
  have h1 := pickedZ_range window 16 (by omega)
  have h2 := pickedZ_range fails (1 + pickedZ window 16) (by omega)
  have h3 := pickedZ_range hold 500 (by omega)
  unfold Wtch.Ok watchOf
  simp only
  omega
theorem watch_pf (window fails hold : Int) (h1 : InR window) (h2 : InR fails) (h3 : InR hold) : PF Try.prog 56 [I window, I fails, I hold] (.agg (watchOf window fails hold).D) := by
  have r1 := pickedZ_range window 16 (by omega)
  obtain ⟨n, hn⟩ : ∃ n, n = 1 + pickedZ window 16 := ⟨_, rfl⟩
  have r2 := pickedZ_range fails n (by omega)
  have r3 := pickedZ_range hold 500 (by omega)
  have i1 : InR n := inH (by omega) (by omega)
  have i2 : InR (1 + pickedZ fails n) := inH (by omega) (by omega)
  have i3 : InR (1 + pickedZ hold 500) := inH (by omega) (by omega)
  refine PF.of follows_ok watch_code (by simp) (by simp [argOk]) (by simp [noV, noC]) fun B hBN hB0 => acode_sound [0, 1, 2, 6, 7] [] _ _ _ ?_
  simp [AK_at, acode_seq, acode_region, acode_draw, acode_cond, ↓CB_t, ↓CB_f, CB_u, acode_block, acode_loop, acode_exit, acode_scope, acode_ret, acode_skip, seqQ_n, seqQ_e, seqQ_r, blockQ_n, blockQ_e, blockQ_r, TK_at, OK_at, SK_at, aops_nil, aops_cons, asch_done, asch_one, asch_two, asch_top, astep, aop_eq, isLoud, aloud, aloud1, isWrite, qv, evS, strip, gof, eget, hget, putO, eput, herase, oks, opnds, gS, afin, afin0, binD, arith, D.cells, takeD, fillD, keep, trim, envOf, Fin, aresl, aresv, resD, argOk, pickV, isP, deq, deqs, boundD, slD, lenD, isT, isSl, ptrIds, chunks, mn_min, mx_max, D.cells, splice_one, splice_more, Rbr_at, Rfr_at, frR, frV, frC, flatC, brwR, brwV, brwC, omap, leR, leV, leC, leL, leVL]
  repeat' (first
    | simp [AK_at, acode_seq, acode_region, acode_draw, acode_cond, ↓CB_t, ↓CB_f, CB_u, acode_block, acode_loop, acode_exit, acode_scope, acode_ret, acode_skip, seqQ_n, seqQ_e, seqQ_r, blockQ_n, blockQ_e, blockQ_r, TK_at, OK_at, SK_at, aops_nil, aops_cons, asch_done, asch_one, asch_two, asch_top, astep, aop_eq, isLoud, aloud, aloud1, isWrite, qv, evS, strip, gof, eget, hget, putO, eput, herase, oks, opnds, gS, afin, afin0, binD, arith, D.cells, takeD, fillD, keep, trim, envOf, Fin, aresl, aresv, resD, argOk, pickV, isP, deq, deqs, boundD, slD, lenD, isT, isSl, ptrIds, chunks, mn_min, mx_max, D.cells, splice_one, splice_more, Rbr_at, Rfr_at, frR, frV, frC, flatC, brwR, brwV, brwC, omap, leR, leV, leC, leL, leVL, ← hn, i1]
    | (refine WCall.pf (picked_pf window 16 h1 (by omega)) ?_ ?_ ?_ ?_; (focus (simp [oks, opnds, gS, gof, eget]; done)); (focus (simp [omap, brwV, brwC, evS, eget, strip, hget, leVL, leV, leC, leL, ← hn, i1]; done)); (focus (simp [noV, noC, flatR, flatV, flatC, evS, eget, strip, ← hn, i1]; done)))
    | (refine ⟨WCall.pf (picked_pf window 16 h1 (by omega)) ?_ ?_ ?_ ?_, ?_⟩; (focus (simp [oks, opnds, gS, gof, eget]; done)); (focus (simp [omap, brwV, brwC, evS, eget, strip, hget, leVL, leV, leC, leL, ← hn, i1]; done)); (focus (simp [noV, noC, flatR, flatV, flatC, evS, eget, strip, ← hn, i1]; done)))
    | (with_reducible refine And.intro (And.intro ?_ ?_) ?_)
    | fail)
  repeat' (first
    | simp [AK_at, acode_seq, acode_region, acode_draw, acode_cond, ↓CB_t, ↓CB_f, CB_u, acode_block, acode_loop, acode_exit, acode_scope, acode_ret, acode_skip, seqQ_n, seqQ_e, seqQ_r, blockQ_n, blockQ_e, blockQ_r, TK_at, OK_at, SK_at, aops_nil, aops_cons, asch_done, asch_one, asch_two, asch_top, astep, aop_eq, isLoud, aloud, aloud1, isWrite, qv, evS, strip, gof, eget, hget, putO, eput, herase, oks, opnds, gS, afin, afin0, binD, arith, D.cells, takeD, fillD, keep, trim, envOf, Fin, aresl, aresv, resD, argOk, pickV, isP, deq, deqs, boundD, slD, lenD, isT, isSl, ptrIds, chunks, mn_min, mx_max, D.cells, splice_one, splice_more, Rbr_at, Rfr_at, frR, frV, frC, flatC, brwR, brwV, brwC, omap, leR, leV, leC, leL, leVL, i2, i3, watchOf, ← hn, Wtch.D]
    | (refine WCall.pf (picked_pf fails n h2 (by omega)) ?_ ?_ ?_ ?_; (focus (simp [oks, opnds, gS, gof, eget]; done)); (focus (simp [omap, brwV, brwC, evS, eget, strip, hget, leVL, leV, leC, leL, i2, i3, watchOf, ← hn, Wtch.D]; done)); (focus (simp [noV, noC, flatR, flatV, flatC, evS, eget, strip, i2, i3, watchOf, ← hn, Wtch.D]; done)))
    | (refine ⟨WCall.pf (picked_pf fails n h2 (by omega)) ?_ ?_ ?_ ?_, ?_⟩; (focus (simp [oks, opnds, gS, gof, eget]; done)); (focus (simp [omap, brwV, brwC, evS, eget, strip, hget, leVL, leV, leC, leL, i2, i3, watchOf, ← hn, Wtch.D]; done)); (focus (simp [noV, noC, flatR, flatV, flatC, evS, eget, strip, i2, i3, watchOf, ← hn, Wtch.D]; done)))
    | (refine WCall.pf (picked_pf hold 500 h3 (by omega)) ?_ ?_ ?_ ?_; (focus (simp [oks, opnds, gS, gof, eget]; done)); (focus (simp [omap, brwV, brwC, evS, eget, strip, hget, leVL, leV, leC, leL, i2, i3, watchOf, ← hn, Wtch.D]; done)); (focus (simp [noV, noC, flatR, flatV, flatC, evS, eget, strip, i2, i3, watchOf, ← hn, Wtch.D]; done)))
    | (refine ⟨WCall.pf (picked_pf hold 500 h3 (by omega)) ?_ ?_ ?_ ?_, ?_⟩; (focus (simp [oks, opnds, gS, gof, eget]; done)); (focus (simp [omap, brwV, brwC, evS, eget, strip, hget, leVL, leV, leC, leL, i2, i3, watchOf, ← hn, Wtch.D]; done)); (focus (simp [noV, noC, flatR, flatV, flatC, evS, eget, strip, i2, i3, watchOf, ← hn, Wtch.D]; done)))
    | (with_reducible refine And.intro (And.intro ?_ ?_) ?_)
    | fail)
def factorB (num den : Int) : Bool := decide (1 ≤ den ∧ den ≤ num ∧ num ≤ 20)
theorem factor_code : cfun Try.prog [] 93 = some ⟨(.seq (.region 0 [⟨(some 4), (.mov (.k (.bool false))), none⟩]) (.seq (.region 1 [⟨(some 5), (.mov (.t 1)), none⟩, ⟨(some 6), (.bin .geq (.t 5) (.k (.int .i64 1))), none⟩, ⟨(some 7), (.mov (.t 6)), none⟩, ⟨(some 8), (.mov (.t 0)), (some (7, true))⟩, ⟨(some 9), (.mov (.t 1)), (some (7, true))⟩, ⟨(some 10), (.bin .geq (.t 8) (.t 9)), (some (7, true))⟩, ⟨(some 11), (.pick (.t 7) (.t 10) (.k (.bool false))), none⟩, ⟨(some 12), (.mov (.t 11)), none⟩, ⟨(some 13), (.mov (.t 0)), (some (12, true))⟩, ⟨(some 14), (.bin .leq (.t 13) (.k (.int .i64 20))), (some (12, true))⟩, ⟨(some 15), (.pick (.t 12) (.t 14) (.k (.bool false))), none⟩, ⟨(some 4), (.mov (.t 15)), none⟩]) .ret)), [(.t 4)], 16⟩ := by kernel_rfl
theorem factor_pf (num den : Int) : PF Try.prog 93 [I num, I den] (.bool (factorB num den)) := by
  refine PF.of follows_ok factor_code (by simp) (by simp [argOk]) (by simp [noV, noC]) fun B hBN hB0 => acode_sound [0, 1, 4] [] _ _ _ ?_
  simp [AK_at, acode_seq, acode_region, acode_draw, acode_cond, ↓CB_t, ↓CB_f, CB_u, acode_block, acode_loop, acode_exit, acode_scope, acode_ret, acode_skip, seqQ_n, seqQ_e, seqQ_r, blockQ_n, blockQ_e, blockQ_r, TK_at, OK_at, SK_at, aops_nil, aops_cons, asch_done, asch_one, asch_two, asch_top, astep, aop_eq, isLoud, aloud, aloud1, isWrite, qv, evS, strip, gof, eget, hget, putO, eput, herase, oks, opnds, gS, afin, afin0, binD, arith, D.cells, takeD, fillD, keep, trim, envOf, Fin, aresl, aresv, resD, argOk, pickV, isP, deq, deqs, boundD, slD, lenD, isT, isSl, ptrIds, chunks, mn_min, mx_max, D.cells, splice_one, splice_more, Rbr_at, Rfr_at, frR, frV, frC, flatC, brwR, brwV, brwC, omap, leR, leV, leC, leL, leVL, factorB]
  by_cases h1 : 1 ≤ den <;> by_cases h2 : den ≤ num <;> by_cases h3 : num ≤ 20 <;> simp [h1, h2, h3]
theorem may_code : cfun Try.prog [] 92 = some ⟨(.seq (.region 0 [⟨(some 2), (.mov (.k (.bool false))), none⟩]) (.seq (.seq (.region 1 [⟨(some 6), (.mov (.t 0)), none⟩, ⟨(some 7), (.len (.t 6)), none⟩, ⟨(some 8), (.bin .gtr (.t 7) (.k (.int .i64 12))), none⟩]) (.cond 8 (.seq (.region 2 [⟨(some 2), (.mov (.k (.bool false))), none⟩]) .ret) .skip)) (.seq (.region 3 [⟨(some 3), (.mov (.k (.int .i64 (-1)))), none⟩]) (.seq (.seq (.region 4 [⟨(some 9), (.mov (.t 0)), none⟩, ⟨(some 10), (.len (.t 9)), none⟩, ⟨(some 11), (.mov (.k (.int .i64 0))), none⟩]) (.block 0 (.loop (.seq (.region 5 [⟨(some 12), (.bin .lss (.t 11) (.t 10)), none⟩]) (.seq (.cond 12 .skip (.exit 0)) (.seq (.block 1 (.seq (.region 6 [⟨(some 13), (.iads 3 (.t 9) (.t 11)), none⟩, ⟨(some 14), (.load true 3 (.t 13)), none⟩, ⟨(some 5), (.alloc [(.int .i64 0), (.int .i64 0), (.int .i64 0)]), none⟩, ⟨none, (.store 3 (.t 5) (.t 14)), none⟩]) (.seq (.seq (.region 7 [⟨(some 15), (.fad 0 (.t 5)), none⟩, ⟨(some 16), (.load false 1 (.t 15)), none⟩, ⟨(some 17), (.mov (.t 3)), none⟩, ⟨(some 18), (.bin .leq (.t 16) (.t 17)), none⟩, ⟨(some 19), (.mov (.t 18)), none⟩, ⟨(some 20), (.fad 0 (.t 5)), (some (19, false))⟩, ⟨(some 21), (.load false 1 (.t 20)), (some (19, false))⟩, ⟨(some 22), (.bin .geq (.t 21) (.k (.int .i64 12))), (some (19, false))⟩, ⟨(some 23), (.pick (.t 19) (.k (.bool true)) (.t 22)), none⟩, ⟨(some 24), (.mov (.t 23)), none⟩, ⟨(some 25), (.fad 1 (.t 5)), (some (24, false))⟩, ⟨(some 26), (.load false 1 (.t 25)), (some (24, false))⟩, ⟨(some 27), (.bin .lss (.t 26) (.k (.int .i64 0))), (some (24, false))⟩, ⟨(some 28), (.pick (.t 24) (.k (.bool true)) (.t 27)), none⟩, ⟨(some 29), (.mov (.t 28)), none⟩, ⟨(some 30), (.fad 1 (.t 5)), (some (29, false))⟩, ⟨(some 31), (.load false 1 (.t 30)), (some (29, false))⟩, ⟨(some 32), (.bin .gtr (.t 31) (.k (.int .i64 8))), (some (29, false))⟩, ⟨(some 33), (.pick (.t 29) (.k (.bool true)) (.t 32)), none⟩, ⟨(some 34), (.mov (.t 33)), none⟩, ⟨(some 35), (.fad 2 (.t 5)), (some (34, false))⟩, ⟨(some 36), (.load false 1 (.t 35)), (some (34, false))⟩, ⟨(some 37), (.bin .lss (.t 36) (.k (.int .i64 0))), (some (34, false))⟩, ⟨(some 38), (.pick (.t 34) (.k (.bool true)) (.t 37)), none⟩, ⟨(some 39), (.mov (.t 38)), none⟩, ⟨(some 40), (.fad 2 (.t 5)), (some (39, false))⟩, ⟨(some 41), (.load false 1 (.t 40)), (some (39, false))⟩, ⟨(some 42), (.bin .gtr (.t 41) (.k (.int .i64 40))), (some (39, false))⟩, ⟨(some 43), (.pick (.t 39) (.k (.bool true)) (.t 42)), none⟩]) (.cond 43 (.seq (.region 8 [⟨(some 2), (.mov (.k (.bool false))), none⟩]) .ret) .skip)) (.region 9 [⟨(some 44), (.fad 0 (.t 5)), none⟩, ⟨(some 45), (.load false 1 (.t 44)), none⟩, ⟨(some 3), (.mov (.t 45)), none⟩])))) (.region 10 [⟨(some 46), (.bin .add (.t 11) (.k (.int .i64 1))), none⟩, ⟨(some 11), (.mov (.t 46)), none⟩]))))))) (.seq (.region 11 [⟨(some 2), (.mov (.k (.bool true))), none⟩]) .ret))))), [(.t 2)], 47⟩ := by kernel_rfl
theorem may0_pf : PF Try.prog 92 [.nil0] (.bool true) := by
  refine PF.of follows_ok may_code (by simp) (by simp [argOk]) (by simp [noV, noC]) fun B hBN hB0 => acode_sound [0, 2, 3, 5, 8, 9, 10, 11, 12, 43] [] _ _ _ ?_
  simp [AK_at, acode_seq, acode_region, acode_draw, acode_cond, ↓CB_t, ↓CB_f, CB_u, acode_block, acode_loop, acode_exit, acode_scope, acode_ret, acode_skip, seqQ_n, seqQ_e, seqQ_r, blockQ_n, blockQ_e, blockQ_r, TK_at, OK_at, SK_at, aops_nil, aops_cons, asch_done, asch_one, asch_two, asch_top, astep, aop_eq, isLoud, aloud, aloud1, isWrite, qv, evS, strip, gof, eget, hget, putO, eput, herase, oks, opnds, gS, afin, afin0, binD, arith, D.cells, takeD, fillD, keep, trim, envOf, Fin, aresl, aresv, resD, argOk, pickV, isP, deq, deqs, boundD, slD, lenD, isT, isSl, ptrIds, chunks, mn_min, mx_max, D.cells, splice_one, splice_more]
  refine W.loopS (fun y : Nat => ⟨[(11, I 0), (10, I 0), (9, .nil0), (3, I (-1)), (2, .bool false), (0, .nil0)], [], 0⟩)
    (fun n y => n = 0 ∧ y = 0) ?_ ?_
  · exact ⟨_, 0, (Gh.ren [] (by simp [hB0]) (by simp [hB0] <;> decide) (by simp [eget, rnS, rnR, rnV, rnC, LtS, LtR, LtV, LtC, lget]) (by simp [hget, rnO, rnC, LtO, LtC, lget]) (.inr rfl)), rfl, rfl⟩
  · rintro n i ⟨rfl, rfl⟩
    refine acode_sound [0, 2, 3, 5, 8, 9, 10, 11, 12, 43] [] _ _ _ ?_
    simp [AK_at, acode_seq, acode_region, acode_draw, acode_cond, ↓CB_t, ↓CB_f, CB_u, acode_block, acode_loop, acode_exit, acode_scope, acode_ret, acode_skip, seqQ_n, seqQ_e, seqQ_r, blockQ_n, blockQ_e, blockQ_r, TK_at, OK_at, SK_at, aops_nil, aops_cons, asch_done, asch_one, asch_two, asch_top, astep, aop_eq, isLoud, aloud, aloud1, isWrite, qv, evS, strip, gof, eget, hget, putO, eput, herase, oks, opnds, gS, afin, afin0, binD, arith, D.cells, takeD, fillD, keep, trim, envOf, Fin, aresl, aresv, resD, argOk, pickV, isP, deq, deqs, boundD, slD, lenD, isT, isSl, ptrIds, chunks, mn_min, mx_max, D.cells, splice_one, splice_more, Rbr_at, Rfr_at, frR, frV, frC, flatC, brwR, brwV, brwC, omap, leR, leV, leC, leL, leVL]
theorem caps_code : cfun Try.prog [] 60 = some ⟨(.seq (.region 0 [⟨(some 8), (.mov (.k .nil0)), none⟩, ⟨(some 9), (.mov (.k (.int .i64 0))), none⟩]) (.seq (.seq (.region 1 [⟨(some 16), (.mov (.t 0)), none⟩, ⟨(some 17), (.call 92 [(.t 16)]), none⟩, ⟨(some 18), (.not (.t 17)), none⟩]) (.cond 18 (.seq (.region 2 [⟨(some 8), (.mov (.k .nil0)), none⟩, ⟨(some 9), (.mov (.k (.int .i64 6))), none⟩]) .ret) .skip)) (.seq (.seq (.region 3 [⟨(some 19), (.mov (.t 1)), none⟩, ⟨(some 20), (.mov (.t 2)), none⟩, ⟨(some 21), (.call 93 [(.t 19), (.t 20)]), none⟩, ⟨(some 22), (.not (.t 21)), none⟩, ⟨(some 23), (.mov (.t 22)), none⟩, ⟨(some 24), (.mov (.t 3)), (some (23, false))⟩, ⟨(some 25), (.bin .lss (.t 24) (.k (.int .i64 0))), (some (23, false))⟩, ⟨(some 26), (.pick (.t 23) (.k (.bool true)) (.t 25)), none⟩, ⟨(some 27), (.mov (.t 26)), none⟩, ⟨(some 28), (.mov (.t 3)), (some (27, false))⟩, ⟨(some 29), (.bin .gtr (.t 28) (.k (.int .i64 40))), (some (27, false))⟩, ⟨(some 30), (.pick (.t 27) (.k (.bool true)) (.t 29)), none⟩]) (.cond 30 (.seq (.region 4 [⟨(some 8), (.mov (.k .nil0)), none⟩, ⟨(some 9), (.mov (.k (.int .i64 2))), none⟩]) .ret) .skip)) (.seq (.region 5 [⟨(some 10), (.mov (.k (.int .i64 0))), none⟩]) (.seq (.seq (.region 6 [⟨(some 31), (.mov (.t 0)), none⟩, ⟨(some 32), (.len (.t 31)), none⟩, ⟨(some 33), (.mov (.k (.int .i64 0))), none⟩]) (.block 0 (.loop (.seq (.region 7 [⟨(some 34), (.bin .lss (.t 33) (.t 32)), none⟩]) (.seq (.cond 34 .skip (.exit 0)) (.seq (.block 1 (.seq (.region 8 [⟨(some 35), (.iads 3 (.t 31) (.t 33)), none⟩, ⟨(some 36), (.load true 3 (.t 35)), none⟩, ⟨(some 12), (.alloc [(.int .i64 0), (.int .i64 0), (.int .i64 0)]), none⟩, ⟨none, (.store 3 (.t 12) (.t 36)), none⟩]) (.region 9 [⟨(some 37), (.mov (.t 10)), none⟩, ⟨(some 38), (.fad 1 (.t 12)), none⟩, ⟨(some 39), (.load false 1 (.t 38)), none⟩, ⟨(some 40), (.bin .add (.t 37) (.t 39)), none⟩, ⟨(some 10), (.mov (.t 40)), none⟩]))) (.region 10 [⟨(some 41), (.bin .add (.t 33) (.k (.int .i64 1))), none⟩, ⟨(some 33), (.mov (.t 41)), none⟩]))))))) (.seq (.region 11 [⟨(some 42), (.mov (.t 0)), none⟩, ⟨(some 43), (.len (.t 42)), none⟩, ⟨(some 44), (.mks 1 8 [(.int .i64 0)] (.t 43) (.t 43)), none⟩, ⟨(some 13), (.mov (.t 44)), none⟩]) (.seq (.seq (.region 12 [⟨(some 45), (.mov (.t 0)), none⟩, ⟨(some 46), (.len (.t 45)), none⟩, ⟨(some 47), (.mov (.k (.int .i64 0))), none⟩]) (.block 2 (.loop (.seq (.region 13 [⟨(some 48), (.bin .lss (.t 47) (.t 46)), none⟩]) (.seq (.cond 48 .skip (.exit 2)) (.seq (.block 3 (.seq (.region 14 [⟨(some 49), (.mov (.t 47)), none⟩, ⟨(some 50), (.iads 3 (.t 45) (.t 47)), none⟩, ⟨(some 51), (.load true 3 (.t 50)), none⟩, ⟨(some 15), (.alloc [(.int .i64 0), (.int .i64 0), (.int .i64 0)]), none⟩, ⟨(some 14), (.mov (.t 49)), none⟩, ⟨none, (.store 3 (.t 15) (.t 51)), none⟩]) (.seq (.region 15 [⟨(some 52), (.fad 1 (.t 15)), none⟩, ⟨(some 53), (.load false 1 (.t 52)), none⟩, ⟨(some 54), (.bin .gtr (.t 53) (.k (.int .i64 0))), none⟩]) (.cond 54 (.region 16 [⟨(some 56), (.mov (.t 13)), none⟩, ⟨(some 57), (.mov (.t 14)), none⟩, ⟨(some 58), (.mov (.t 1)), none⟩, ⟨(some 59), (.mov (.t 2)), none⟩, ⟨(some 60), (.mov (.t 3)), none⟩, ⟨(some 61), (.fad 1 (.t 15)), none⟩, ⟨(some 62), (.load false 1 (.t 61)), none⟩, ⟨(some 63), (.mov (.t 10)), none⟩, ⟨(some 64), (.call 94 [(.t 58), (.t 59), (.t 60), (.t 62), (.t 63)]), none⟩, ⟨(some 55), (.mov (.t 64)), none⟩, ⟨(some 65), (.ext (.t 55) 0), none⟩, ⟨(some 66), (.ext (.t 55) 1), none⟩, ⟨(some 67), (.iads 1 (.t 56) (.t 57)), none⟩, ⟨none, (.store 1 (.t 67) (.t 65)), none⟩]) .skip)))) (.region 17 [⟨(some 68), (.bin .add (.t 47) (.k (.int .i64 1))), none⟩, ⟨(some 47), (.mov (.t 68)), none⟩]))))))) (.seq (.region 18 [⟨(some 69), (.mov (.t 13)), none⟩, ⟨(some 8), (.mov (.t 69)), none⟩, ⟨(some 9), (.mov (.k (.int .i64 0))), none⟩]) .ret)))))))), [(.t 8), (.t 9)], 70⟩ := by kernel_rfl
theorem caps0_pf (num den : Int) : PF Try.prog 60 [.nil0, I num, I den, I 0] (.tup (if factorB num den = true then [.rows 1 [], I 0] else [.nil0, I 2])) := by
  have h1 := may0_pf
  have h2 := factor_pf num den
  by_cases hf : factorB num den = true
  · rw [hf] at h2
    refine PF.of follows_ok caps_code (by simp) (by simp [argOk]) (by simp [noV, noC]) fun B hBN hB0 => acode_sound [0, 1, 2, 3, 8, 9, 10, 12, 13, 14, 15, 18, 30, 31, 32, 33, 34, 45, 46, 47, 48, 54] [] _ _ _ ?_
    repeat' (first
      | simp [AK_at, acode_seq, acode_region, acode_draw, acode_cond, ↓CB_t, ↓CB_f, CB_u, acode_block, acode_loop, acode_exit, acode_scope, acode_ret, acode_skip, seqQ_n, seqQ_e, seqQ_r, blockQ_n, blockQ_e, blockQ_r, TK_at, OK_at, SK_at, aops_nil, aops_cons, asch_done, asch_one, asch_two, asch_top, astep, aop_eq, isLoud, aloud, aloud1, isWrite, qv, evS, strip, gof, eget, hget, putO, eput, herase, oks, opnds, gS, afin, afin0, binD, arith, D.cells, takeD, fillD, keep, trim, envOf, Fin, aresl, aresv, resD, argOk, pickV, isP, deq, deqs, boundD, slD, lenD, isT, isSl, ptrIds, chunks, mn_min, mx_max, D.cells, splice_one, splice_more, Rbr_at, Rfr_at, frR, frV, frC, flatC, brwR, brwV, brwC, omap, leR, leV, leC, leL, leVL, hf]
      | (refine WCall.pf (h1) ?_ ?_ ?_ ?_; (focus (simp [oks, opnds, gS, gof, eget]; done)); (focus (simp [omap, brwV, brwC, evS, eget, strip, hget, leVL, leV, leC, leL, hf]; done)); (focus (simp [noV, noC, flatR, flatV, flatC, evS, eget, strip, hf]; done)))
      | (refine ⟨WCall.pf (h1) ?_ ?_ ?_ ?_, ?_⟩; (focus (simp [oks, opnds, gS, gof, eget]; done)); (focus (simp [omap, brwV, brwC, evS, eget, strip, hget, leVL, leV, leC, leL, hf]; done)); (focus (simp [noV, noC, flatR, flatV, flatC, evS, eget, strip, hf]; done)))
      | (refine WCall.pf (h2) ?_ ?_ ?_ ?_; (focus (simp [oks, opnds, gS, gof, eget]; done)); (focus (simp [omap, brwV, brwC, evS, eget, strip, hget, leVL, leV, leC, leL, hf]; done)); (focus (simp [noV, noC, flatR, flatV, flatC, evS, eget, strip, hf]; done)))
      | (refine ⟨WCall.pf (h2) ?_ ?_ ?_ ?_, ?_⟩; (focus (simp [oks, opnds, gS, gof, eget]; done)); (focus (simp [omap, brwV, brwC, evS, eget, strip, hget, leVL, leV, leC, leL, hf]; done)); (focus (simp [noV, noC, flatR, flatV, flatC, evS, eget, strip, hf]; done)))
      | (with_reducible refine And.intro (And.intro ?_ ?_) ?_)
      | fail)
    refine W.loopS (fun y : Nat => ⟨[(33, I 0), (32, I 0), (31, .nil0), (10, I 0), (9, I 0), (8, .nil0), (3, I 0), (2, I den), (1, I num), (0, .nil0)], [], 0⟩)
      (fun n y => n = 0 ∧ y = 0) ?_ ?_
    · exact ⟨_, 0, (Gh.ren [] (by simp [hB0]) (by simp [hB0] <;> decide) (by simp [eget, rnS, rnR, rnV, rnC, LtS, LtR, LtV, LtC, lget]) (by simp [hget, rnO, rnC, LtO, LtC, lget]) (.inr rfl)), rfl, rfl⟩
    rintro n i ⟨rfl, rfl⟩
    refine acode_sound [0, 1, 2, 3, 8, 9, 10, 12, 13, 14, 15, 18, 30, 31, 32, 33, 34, 45, 46, 47, 48, 54] [] _ _ _ ?_
    repeat' (first
      | simp [AK_at, acode_seq, acode_region, acode_draw, acode_cond, ↓CB_t, ↓CB_f, CB_u, acode_block, acode_loop, acode_exit, acode_scope, acode_ret, acode_skip, seqQ_n, seqQ_e, seqQ_r, blockQ_n, blockQ_e, blockQ_r, TK_at, OK_at, SK_at, aops_nil, aops_cons, asch_done, asch_one, asch_two, asch_top, astep, aop_eq, isLoud, aloud, aloud1, isWrite, qv, evS, strip, gof, eget, hget, putO, eput, herase, oks, opnds, gS, afin, afin0, binD, arith, D.cells, takeD, fillD, keep, trim, envOf, Fin, aresl, aresv, resD, argOk, pickV, isP, deq, deqs, boundD, slD, lenD, isT, isSl, ptrIds, chunks, mn_min, mx_max, D.cells, splice_one, splice_more, Rbr_at, Rfr_at, frR, frV, frC, flatC, brwR, brwV, brwC, omap, leR, leV, leC, leL, leVL, ]
      | (refine WCall.pf (h1) ?_ ?_ ?_ ?_; (focus (simp [oks, opnds, gS, gof, eget]; done)); (focus (simp [omap, brwV, brwC, evS, eget, strip, hget, leVL, leV, leC, leL, ]; done)); (focus (simp [noV, noC, flatR, flatV, flatC, evS, eget, strip, ]; done)))
      | (refine ⟨WCall.pf (h1) ?_ ?_ ?_ ?_, ?_⟩; (focus (simp [oks, opnds, gS, gof, eget]; done)); (focus (simp [omap, brwV, brwC, evS, eget, strip, hget, leVL, leV, leC, leL, ]; done)); (focus (simp [noV, noC, flatR, flatV, flatC, evS, eget, strip, ]; done)))
      | (with_reducible refine And.intro (And.intro ?_ ?_) ?_)
      | fail)
    refine W.loopS (fun y : Nat => ⟨[(47, I 0), (46, I 0), (45, .nil0), (13, .own 0), (10, I 0), (9, I 0), (8, .nil0), (3, I 0), (2, I den), (1, I num), (0, .nil0)], [(0, .row 1 [])], 1⟩)
      (fun n y => n = 0 ∧ y = 0) ?_ ?_
    · exact ⟨_, 0, (Gh.ren [] (by simp [hB0]) (by simp [hB0] <;> decide) (by simp [eget, rnS, rnR, rnV, rnC, LtS, LtR, LtV, LtC, lget]) (by simp [hget, rnO, rnC, LtO, LtC, lget]) (.inr rfl)), rfl, rfl⟩
    rintro n i ⟨rfl, rfl⟩
    refine acode_sound [0, 1, 2, 3, 8, 9, 10, 12, 13, 14, 15, 18, 30, 31, 32, 33, 34, 45, 46, 47, 48, 54] [] _ _ _ ?_
    repeat' (first
      | simp [AK_at, acode_seq, acode_region, acode_draw, acode_cond, ↓CB_t, ↓CB_f, CB_u, acode_block, acode_loop, acode_exit, acode_scope, acode_ret, acode_skip, seqQ_n, seqQ_e, seqQ_r, blockQ_n, blockQ_e, blockQ_r, TK_at, OK_at, SK_at, aops_nil, aops_cons, asch_done, asch_one, asch_two, asch_top, astep, aop_eq, isLoud, aloud, aloud1, isWrite, qv, evS, strip, gof, eget, hget, putO, eput, herase, oks, opnds, gS, afin, afin0, binD, arith, D.cells, takeD, fillD, keep, trim, envOf, Fin, aresl, aresv, resD, argOk, pickV, isP, deq, deqs, boundD, slD, lenD, isT, isSl, ptrIds, chunks, mn_min, mx_max, D.cells, splice_one, splice_more, Rbr_at, Rfr_at, frR, frV, frC, flatC, brwR, brwV, brwC, omap, leR, leV, leC, leL, leVL, ]
      | (refine WCall.pf (h1) ?_ ?_ ?_ ?_; (focus (simp [oks, opnds, gS, gof, eget]; done)); (focus (simp [omap, brwV, brwC, evS, eget, strip, hget, leVL, leV, leC, leL, ]; done)); (focus (simp [noV, noC, flatR, flatV, flatC, evS, eget, strip, ]; done)))
      | (refine ⟨WCall.pf (h1) ?_ ?_ ?_ ?_, ?_⟩; (focus (simp [oks, opnds, gS, gof, eget]; done)); (focus (simp [omap, brwV, brwC, evS, eget, strip, hget, leVL, leV, leC, leL, ]; done)); (focus (simp [noV, noC, flatR, flatV, flatC, evS, eget, strip, ]; done)))
      | (with_reducible refine And.intro (And.intro ?_ ?_) ?_)
      | fail)
  · rw [Bool.not_eq_true] at hf
    rw [hf] at h2
    refine PF.of follows_ok caps_code (by simp) (by simp [argOk]) (by simp [noV, noC]) fun B hBN hB0 => acode_sound [0, 1, 2, 3, 8, 9, 10, 12, 13, 14, 15, 18, 30, 31, 32, 33, 34, 45, 46, 47, 48, 54] [] _ _ _ ?_
    repeat' (first
      | simp [AK_at, acode_seq, acode_region, acode_draw, acode_cond, ↓CB_t, ↓CB_f, CB_u, acode_block, acode_loop, acode_exit, acode_scope, acode_ret, acode_skip, seqQ_n, seqQ_e, seqQ_r, blockQ_n, blockQ_e, blockQ_r, TK_at, OK_at, SK_at, aops_nil, aops_cons, asch_done, asch_one, asch_two, asch_top, astep, aop_eq, isLoud, aloud, aloud1, isWrite, qv, evS, strip, gof, eget, hget, putO, eput, herase, oks, opnds, gS, afin, afin0, binD, arith, D.cells, takeD, fillD, keep, trim, envOf, Fin, aresl, aresv, resD, argOk, pickV, isP, deq, deqs, boundD, slD, lenD, isT, isSl, ptrIds, chunks, mn_min, mx_max, D.cells, splice_one, splice_more, Rbr_at, Rfr_at, frR, frV, frC, flatC, brwR, brwV, brwC, omap, leR, leV, leC, leL, leVL, hf]
      | (refine WCall.pf (h1) ?_ ?_ ?_ ?_; (focus (simp [oks, opnds, gS, gof, eget]; done)); (focus (simp [omap, brwV, brwC, evS, eget, strip, hget, leVL, leV, leC, leL, hf]; done)); (focus (simp [noV, noC, flatR, flatV, flatC, evS, eget, strip, hf]; done)))
      | (refine ⟨WCall.pf (h1) ?_ ?_ ?_ ?_, ?_⟩; (focus (simp [oks, opnds, gS, gof, eget]; done)); (focus (simp [omap, brwV, brwC, evS, eget, strip, hget, leVL, leV, leC, leL, hf]; done)); (focus (simp [noV, noC, flatR, flatV, flatC, evS, eget, strip, hf]; done)))
      | (refine WCall.pf (h2) ?_ ?_ ?_ ?_; (focus (simp [oks, opnds, gS, gof, eget]; done)); (focus (simp [omap, brwV, brwC, evS, eget, strip, hget, leVL, leV, leC, leL, hf]; done)); (focus (simp [noV, noC, flatR, flatV, flatC, evS, eget, strip, hf]; done)))
      | (refine ⟨WCall.pf (h2) ?_ ?_ ?_ ?_, ?_⟩; (focus (simp [oks, opnds, gS, gof, eget]; done)); (focus (simp [omap, brwV, brwC, evS, eget, strip, hget, leVL, leV, leC, leL, hf]; done)); (focus (simp [noV, noC, flatR, flatV, flatC, evS, eget, strip, hf]; done)))
      | (with_reducible refine And.intro (And.intro ?_ ?_) ?_)
      | fail)
theorem tmake_code : cfun Try.prog [] 57 = some ⟨(.seq (.region 0 [⟨(some 2), (.alloc [.nil0]), none⟩, ⟨(some 3), (.mov (.k (.int .i64 0))), none⟩]) (.seq (.seq (.region 1 [⟨(some 4), (.mov (.t 0)), none⟩, ⟨(some 5), (.bin .lss (.t 4) (.k (.int .i64 1))), none⟩, ⟨(some 6), (.mov (.t 5)), none⟩, ⟨(some 7), (.mov (.t 0)), (some (6, false))⟩, ⟨(some 8), (.bin .gtr (.t 7) (.k (.int .i64 40))), (some (6, false))⟩, ⟨(some 9), (.pick (.t 6) (.k (.bool true)) (.t 8)), none⟩]) (.cond 9 (.seq (.region 2 [⟨(some 10), (.build [.nil0] []), none⟩, ⟨none, (.store 1 (.t 2) (.t 10)), none⟩, ⟨(some 3), (.mov (.k (.int .i64 2))), none⟩]) .ret) .skip)) (.seq (.region 3 [⟨(some 11), (.mov (.t 0)), none⟩, ⟨(some 12), (.mks 4 32 [(.int .i64 0), (.bool false), (.int .i64 0), (.int .i64 0)] (.t 11) (.t 11)), none⟩, ⟨(some 13), (.build [.nil0] [(0, (1, (.t 12)))]), none⟩, ⟨none, (.store 1 (.t 2) (.t 13)), none⟩, ⟨(some 3), (.mov (.k (.int .i64 0))), none⟩]) .ret))), [(.c 2 true 1), (.t 3)], 14⟩ := by kernel_rfl
theorem tmake_pf (n : Int) (h1 : 1 ≤ n) (h2 : n ≤ 40) : PF Try.prog 57 [I n] (.tup [.agg [.rows 4 (List.replicate n.toNat [I 0, .bool false, I 0, I 0])], I 0]) := by
  have c1 : ¬ n < 1 := by omega
  have c2 : ¬ 40 < n := by omega
  have c3 : 0 ≤ n := by omega
  have c4 : 32 * n ≤ 281474976710656 := by omega
  have c5 : n ≤ 9223372036854775807 := by omega
  refine PF.of follows_ok tmake_code (by simp) (by simp [argOk]) (by simp [noV, noC]) fun B hBN hB0 => acode_sound [0, 2, 3, 9] [] _ _ _ ?_
  simp [AK_at, acode_seq, acode_region, acode_draw, acode_cond, ↓CB_t, ↓CB_f, CB_u, acode_block, acode_loop, acode_exit, acode_scope, acode_ret, acode_skip, seqQ_n, seqQ_e, seqQ_r, blockQ_n, blockQ_e, blockQ_r, TK_at, OK_at, SK_at, aops_nil, aops_cons, asch_done, asch_one, asch_two, asch_top, astep, aop_eq, isLoud, aloud, aloud1, isWrite, qv, evS, strip, gof, eget, hget, putO, eput, herase, oks, opnds, gS, afin, afin0, binD, arith, D.cells, takeD, fillD, keep, trim, envOf, Fin, aresl, aresv, resD, argOk, pickV, isP, deq, deqs, boundD, slD, lenD, isT, isSl, ptrIds, chunks, mn_min, mx_max, D.cells, splice_one, splice_more, Rbr_at, Rfr_at, frR, frV, frC, flatC, brwR, brwV, brwC, omap, leR, leV, leC, leL, leVL, c1, c2, c3, c4, c5]
theorem wnew_code : cfun Try.prog [] 45 = some ⟨(.seq (.region 0 [⟨(some 2), (.alloc [(.int .i64 0), .nil0]), none⟩, ⟨(some 3), (.mov (.k (.int .i64 0))), none⟩]) (.seq (.seq (.region 1 [⟨(some 4), (.mov (.t 0)), none⟩, ⟨(some 5), (.bin .lss (.t 4) (.k (.int .i64 0))), none⟩, ⟨(some 6), (.mov (.t 5)), none⟩, ⟨(some 7), (.mov (.t 0)), (some (6, false))⟩, ⟨(some 8), (.bin .gtr (.t 7) (.k (.int .i64 1099511627776))), (some (6, false))⟩, ⟨(some 9), (.pick (.t 6) (.k (.bool true)) (.t 8)), none⟩]) (.cond 9 (.seq (.region 2 [⟨(some 10), (.build [(.int .i64 0), .nil0] []), none⟩, ⟨none, (.store 2 (.t 2) (.t 10)), none⟩, ⟨(some 3), (.mov (.k (.int .i64 2))), none⟩]) .ret) .skip)) (.seq (.region 3 [⟨(some 11), (.mov (.t 0)), none⟩, ⟨(some 12), (.mks 1 24 [.nil0] (.k (.int .i64 25)) (.k (.int .i64 25))), none⟩, ⟨(some 13), (.build [(.int .i64 0), .nil0] [(0, (1, (.t 11))), (1, (1, (.t 12)))]), none⟩, ⟨none, (.store 2 (.t 2) (.t 13)), none⟩, ⟨(some 3), (.mov (.k (.int .i64 0))), none⟩]) .ret))), [(.c 2 true 2), (.t 3)], 14⟩ := by kernel_rfl
theorem wnew_pf : PF Try.prog 45 [I 0] (.tup [.agg [I 0, .rows 1 (List.replicate 25 [.nil0])], I 0]) := by
  refine PF.of follows_ok wnew_code (by simp) (by simp [argOk]) (by simp [noV, noC]) fun B hBN hB0 => acode_sound [0, 2, 3, 9] [] _ _ _ ?_
  simp [AK_at, acode_seq, acode_region, acode_draw, acode_cond, ↓CB_t, ↓CB_f, CB_u, acode_block, acode_loop, acode_exit, acode_scope, acode_ret, acode_skip, seqQ_n, seqQ_e, seqQ_r, blockQ_n, blockQ_e, blockQ_r, TK_at, OK_at, SK_at, aops_nil, aops_cons, asch_done, asch_one, asch_two, asch_top, astep, aop_eq, isLoud, aloud, aloud1, isWrite, qv, evS, strip, gof, eget, hget, putO, eput, herase, oks, opnds, gS, afin, afin0, binD, arith, D.cells, takeD, fillD, keep, trim, envOf, Fin, aresl, aresv, resD, argOk, pickV, isP, deq, deqs, boundD, slD, lenD, isT, isSl, ptrIds, chunks, mn_min, mx_max, D.cells, splice_one, splice_more, Rbr_at, Rfr_at, frR, frV, frC, flatC, brwR, brwV, brwC, omap, leR, leV, leC, leL, leVL]
theorem cwithin_code : cfun Try.prog [] 59 = some ⟨(.seq (.region 0 [⟨(some 6), (.mov (.k (.bool false))), none⟩]) (.seq (.region 1 [⟨(some 7), (.mov (.t 0)), none⟩, ⟨(some 8), (.mov (.t 1)), none⟩, ⟨(some 9), (.bin .geq (.t 7) (.t 8)), none⟩, ⟨(some 10), (.mov (.t 9)), none⟩, ⟨(some 11), (.mov (.t 0)), (some (10, true))⟩, ⟨(some 12), (.mov (.t 2)), (some (10, true))⟩, ⟨(some 13), (.bin .leq (.t 11) (.t 12)), (some (10, true))⟩, ⟨(some 14), (.pick (.t 10) (.t 13) (.k (.bool false))), none⟩, ⟨(some 6), (.mov (.t 14)), none⟩]) .ret)), [(.t 6)], 15⟩ := by kernel_rfl
def withinB (x lo hi : Int) : Bool := decide (lo ≤ x ∧ x ≤ hi)
theorem cwithin_pf (x lo hi : Int) : PF Try.prog 59 [I x, I lo, I hi] (.bool (withinB x lo hi)) := by
  refine PF.of follows_ok cwithin_code (by simp) (by simp [argOk]) (by simp [noV, noC]) fun B hBN hB0 => acode_sound [0, 1, 2, 6] [] _ _ _ ?_
  simp [AK_at, acode_seq, acode_region, acode_draw, acode_cond, ↓CB_t, ↓CB_f, CB_u, acode_block, acode_loop, acode_exit, acode_scope, acode_ret, acode_skip, seqQ_n, seqQ_e, seqQ_r, blockQ_n, blockQ_e, blockQ_r, TK_at, OK_at, SK_at, aops_nil, aops_cons, asch_done, asch_one, asch_two, asch_top, astep, aop_eq, isLoud, aloud, aloud1, isWrite, qv, evS, strip, gof, eget, hget, putO, eput, herase, oks, opnds, gS, afin, afin0, binD, arith, D.cells, takeD, fillD, keep, trim, envOf, Fin, aresl, aresv, resD, argOk, pickV, isP, deq, deqs, boundD, slD, lenD, isT, isSl, ptrIds, chunks, mn_min, mx_max, D.cells, splice_one, splice_more, Rbr_at, Rfr_at, frR, frV, frC, flatC, brwR, brwV, brwC, omap, leR, leV, leC, leL, leVL, withinB]
theorem withinB_t {x lo hi : Int} (h : lo ≤ x ∧ x ≤ hi) : withinB x lo hi = true := decide_eq_true h
structure Cfg where
  slots : Int
  num : Int
  den : Int
  tries : Int
  c4 : Int
  c5 : Int
  c6 : Int
  c7 : Int
  c8 : Int
  c9 : Int
  bud : Budget
  wat : Wtch
def Cfg.D (c : Cfg) : List D := [I c.slots, I c.num, I c.den, I c.tries, I c.c4, I c.c5, I c.c6, I c.c7, I c.c8, I c.c9, I c.bud.num, I c.bud.den, I c.bud.burst, I c.wat.window, I c.wat.fails, I c.wat.hold]
structure Cfg.Ok (c : Cfg) : Prop where
  f : factorB c.num c.den = true
  w0 : 1 ≤ c.slots ∧ c.slots ≤ 40
  w3 : 0 ≤ c.tries ∧ c.tries ≤ 12
  w4 : 0 ≤ c.c4 ∧ c.c4 ≤ 500
  w5 : 1 ≤ c.c5 ∧ c.c5 ≤ 500
  w6 : 1 ≤ c.c6 ∧ c.c6 ≤ 500
  w7 : 1 ≤ c.c7 ∧ c.c7 ≤ 500
  w8 : 0 ≤ c.c8 ∧ c.c8 ≤ 20
  w9 : 0 ≤ c.c9 ∧ c.c9 ≤ 100
  b : c.bud.Ok
  w : c.wat.Ok
theorem ccheck_code : cfun Try.prog [] 29 = some ⟨(.seq (.region 0 [⟨(some 1), (.box (.t 0)), none⟩, ⟨(some 2), (.mov (.k (.int .i64 0))), none⟩]) (.seq (.region 1 [⟨(some 7), (.fad 4 (.t 1)), none⟩, ⟨(some 8), (.load false 1 (.t 7)), none⟩, ⟨(some 9), (.call 59 [(.t 8), (.k (.int .i64 0)), (.k (.int .i64 500))]), none⟩, ⟨(some 10), (.mov (.t 9)), none⟩, ⟨(some 11), (.fad 5 (.t 1)), (some (10, true))⟩, ⟨(some 12), (.load false 1 (.t 11)), (some (10, true))⟩, ⟨(some 13), (.call 59 [(.t 12), (.k (.int .i64 1)), (.k (.int .i64 500))]), (some (10, true))⟩, ⟨(some 14), (.pick (.t 10) (.t 13) (.k (.bool false))), none⟩, ⟨(some 15), (.mov (.t 14)), none⟩, ⟨(some 16), (.fad 6 (.t 1)), (some (15, true))⟩, ⟨(some 17), (.load false 1 (.t 16)), (some (15, true))⟩, ⟨(some 18), (.call 59 [(.t 17), (.k (.int .i64 1)), (.k (.int .i64 500))]), (some (15, true))⟩, ⟨(some 19), (.pick (.t 15) (.t 18) (.k (.bool false))), none⟩, ⟨(some 20), (.mov (.t 19)), none⟩, ⟨(some 21), (.fad 7 (.t 1)), (some (20, true))⟩, ⟨(some 22), (.load false 1 (.t 21)), (some (20, true))⟩, ⟨(some 23), (.call 59 [(.t 22), (.k (.int .i64 1)), (.k (.int .i64 500))]), (some (20, true))⟩, ⟨(some 24), (.pick (.t 20) (.t 23) (.k (.bool false))), none⟩, ⟨(some 3), (.mov (.t 24)), none⟩]) (.seq (.region 2 [⟨(some 26), (.fad 1 (.t 1)), none⟩, ⟨(some 27), (.load false 1 (.t 26)), none⟩, ⟨(some 28), (.fad 2 (.t 1)), none⟩, ⟨(some 29), (.load false 1 (.t 28)), none⟩, ⟨(some 30), (.call 60 [(.k .nil0), (.t 27), (.t 29), (.k (.int .i64 0))]), none⟩, ⟨(some 25), (.mov (.t 30)), none⟩, ⟨(some 31), (.ext (.t 25) 0), none⟩, ⟨(some 32), (.ext (.t 25) 1), none⟩, ⟨(some 4), (.mov (.t 31)), none⟩, ⟨(some 5), (.mov (.t 32)), none⟩]) (.seq (.seq (.region 3 [⟨(some 33), (.mov (.t 3)), none⟩, ⟨(some 34), (.not (.t 33)), none⟩, ⟨(some 35), (.mov (.t 34)), none⟩, ⟨(some 36), (.mov (.t 5)), (some (35, false))⟩, ⟨(some 37), (.bin .neq (.t 36) (.k (.int .i64 0))), (some (35, false))⟩, ⟨(some 38), (.pick (.t 35) (.k (.bool true)) (.t 37)), none⟩, ⟨(some 39), (.mov (.t 38)), none⟩, ⟨(some 40), (.fad 0 (.t 1)), (some (39, false))⟩, ⟨(some 41), (.load false 1 (.t 40)), (some (39, false))⟩, ⟨(some 42), (.call 59 [(.t 41), (.k (.int .i64 1)), (.k (.int .i64 40))]), (some (39, false))⟩, ⟨(some 43), (.not (.t 42)), (some (39, false))⟩, ⟨(some 44), (.pick (.t 39) (.k (.bool true)) (.t 43)), none⟩, ⟨(some 45), (.mov (.t 44)), none⟩, ⟨(some 46), (.fad 3 (.t 1)), (some (45, false))⟩, ⟨(some 47), (.load false 1 (.t 46)), (some (45, false))⟩, ⟨(some 48), (.call 59 [(.t 47), (.k (.int .i64 0)), (.k (.int .i64 12))]), (some (45, false))⟩, ⟨(some 49), (.not (.t 48)), (some (45, false))⟩, ⟨(some 50), (.pick (.t 45) (.k (.bool true)) (.t 49)), none⟩, ⟨(some 51), (.mov (.t 50)), none⟩, ⟨(some 52), (.fad 8 (.t 1)), (some (51, false))⟩, ⟨(some 53), (.load false 1 (.t 52)), (some (51, false))⟩, ⟨(some 54), (.call 59 [(.t 53), (.k (.int .i64 0)), (.k (.int .i64 20))]), (some (51, false))⟩, ⟨(some 55), (.not (.t 54)), (some (51, false))⟩, ⟨(some 56), (.pick (.t 51) (.k (.bool true)) (.t 55)), none⟩, ⟨(some 57), (.mov (.t 56)), none⟩, ⟨(some 58), (.fad 9 (.t 1)), (some (57, false))⟩, ⟨(some 59), (.load false 1 (.t 58)), (some (57, false))⟩, ⟨(some 60), (.call 59 [(.t 59), (.k (.int .i64 0)), (.k (.int .i64 100))]), (some (57, false))⟩, ⟨(some 61), (.not (.t 60)), (some (57, false))⟩, ⟨(some 62), (.pick (.t 57) (.k (.bool true)) (.t 61)), none⟩]) (.cond 62 (.seq (.region 4 [⟨(some 2), (.mov (.k (.int .i64 2))), none⟩]) .ret) .skip)) (.seq (.seq (.region 5 [⟨(some 63), (.fad 10 (.t 1)), none⟩, ⟨(some 64), (.load true 3 (.t 63)), none⟩, ⟨(some 65), (.call 61 [(.t 64)]), none⟩, ⟨(some 6), (.mov (.t 65)), none⟩]) (.seq (.region 6 [⟨(some 66), (.mov (.t 6)), none⟩, ⟨(some 67), (.bin .neq (.t 66) (.k (.int .i64 0))), none⟩]) (.cond 67 (.seq (.region 7 [⟨(some 68), (.mov (.t 6)), none⟩, ⟨(some 2), (.mov (.t 68)), none⟩]) .ret) .skip))) (.seq (.region 8 [⟨(some 69), (.fad 13 (.t 1)), none⟩, ⟨(some 70), (.load true 3 (.t 69)), none⟩, ⟨(some 71), (.call 62 [(.t 70)]), none⟩, ⟨(some 2), (.mov (.t 71)), none⟩]) .ret)))))), [(.t 2)], 72⟩ := by kernel_rfl
theorem ccheck_pf (c : Cfg) (h : c.Ok) : PF Try.prog 29 [.agg c.D] (I 0) := by
  have e1 := cwithin_pf c.c4 0 500
  have e2 := cwithin_pf c.c5 1 500
  have e3 := cwithin_pf c.c6 1 500
  have e4 := cwithin_pf c.c7 1 500
  have e5 := cwithin_pf c.slots 1 40
  have e6 := cwithin_pf c.tries 0 12
  have e7 := cwithin_pf c.c8 0 20
  have e8 := cwithin_pf c.c9 0 100
  rw [withinB_t h.w4] at e1
  rw [withinB_t h.w5] at e2
  rw [withinB_t h.w6] at e3
  rw [withinB_t h.w7] at e4
  rw [withinB_t h.w0] at e5
  rw [withinB_t h.w3] at e6
  rw [withinB_t h.w8] at e7
  rw [withinB_t h.w9] at e8
  have hc := caps0_pf c.num c.den
  rw [if_pos h.f] at hc
  have hb := bcheck_pf c.bud
  rw [if_pos h.b] at hb
  have hw := hcheck_pf c.wat h.w
  unfold Budget.D at hb
  unfold Wtch.D at hw
  refine PF.of follows_ok ccheck_code (by simp) (by simp [argOk]) (by simp [noV, noC, Cfg.D]) fun B hBN hB0 => acode_sound [0, 1, 2, 3, 5, 6, 62, 67] [] _ _ _ ?_
  repeat' (first
    | simp [AK_at, acode_seq, acode_region, acode_draw, acode_cond, ↓CB_t, ↓CB_f, CB_u, acode_block, acode_loop, acode_exit, acode_scope, acode_ret, acode_skip, seqQ_n, seqQ_e, seqQ_r, blockQ_n, blockQ_e, blockQ_r, TK_at, OK_at, SK_at, aops_nil, aops_cons, asch_done, asch_one, asch_two, asch_top, astep, aop_eq, isLoud, aloud, aloud1, isWrite, qv, evS, strip, gof, eget, hget, putO, eput, herase, oks, opnds, gS, afin, afin0, binD, arith, D.cells, takeD, fillD, keep, trim, envOf, Fin, aresl, aresv, resD, argOk, pickV, isP, deq, deqs, boundD, slD, lenD, isT, isSl, ptrIds, chunks, mn_min, mx_max, D.cells, splice_one, splice_more, Rbr_at, Rfr_at, frR, frV, frC, flatC, brwR, brwV, brwC, omap, leR, leV, leC, leL, leVL, Cfg.D]
    | (refine WCall.pf (e1) ?_ ?_ ?_ ?_; (focus (simp [oks, opnds, gS, gof, eget]; done)); (focus (simp [omap, brwV, brwC, evS, eget, strip, hget, leVL, leV, leC, leL, Cfg.D]; done)); (focus (simp [noV, noC, flatR, flatV, flatC, evS, eget, strip, Cfg.D]; done)))
    | (refine ⟨WCall.pf (e1) ?_ ?_ ?_ ?_, ?_⟩; (focus (simp [oks, opnds, gS, gof, eget]; done)); (focus (simp [omap, brwV, brwC, evS, eget, strip, hget, leVL, leV, leC, leL, Cfg.D]; done)); (focus (simp [noV, noC, flatR, flatV, flatC, evS, eget, strip, Cfg.D]; done)))
    | (refine WCall.pf (e2) ?_ ?_ ?_ ?_; (focus (simp [oks, opnds, gS, gof, eget]; done)); (focus (simp [omap, brwV, brwC, evS, eget, strip, hget, leVL, leV, leC, leL, Cfg.D]; done)); (focus (simp [noV, noC, flatR, flatV, flatC, evS, eget, strip, Cfg.D]; done)))
    | (refine ⟨WCall.pf (e2) ?_ ?_ ?_ ?_, ?_⟩; (focus (simp [oks, opnds, gS, gof, eget]; done)); (focus (simp [omap, brwV, brwC, evS, eget, strip, hget, leVL, leV, leC, leL, Cfg.D]; done)); (focus (simp [noV, noC, flatR, flatV, flatC, evS, eget, strip, Cfg.D]; done)))
    | (refine WCall.pf (e3) ?_ ?_ ?_ ?_; (focus (simp [oks, opnds, gS, gof, eget]; done)); (focus (simp [omap, brwV, brwC, evS, eget, strip, hget, leVL, leV, leC, leL, Cfg.D]; done)); (focus (simp [noV, noC, flatR, flatV, flatC, evS, eget, strip, Cfg.D]; done)))
    | (refine ⟨WCall.pf (e3) ?_ ?_ ?_ ?_, ?_⟩; (focus (simp [oks, opnds, gS, gof, eget]; done)); (focus (simp [omap, brwV, brwC, evS, eget, strip, hget, leVL, leV, leC, leL, Cfg.D]; done)); (focus (simp [noV, noC, flatR, flatV, flatC, evS, eget, strip, Cfg.D]; done)))
    | (refine WCall.pf (e4) ?_ ?_ ?_ ?_; (focus (simp [oks, opnds, gS, gof, eget]; done)); (focus (simp [omap, brwV, brwC, evS, eget, strip, hget, leVL, leV, leC, leL, Cfg.D]; done)); (focus (simp [noV, noC, flatR, flatV, flatC, evS, eget, strip, Cfg.D]; done)))
    | (refine ⟨WCall.pf (e4) ?_ ?_ ?_ ?_, ?_⟩; (focus (simp [oks, opnds, gS, gof, eget]; done)); (focus (simp [omap, brwV, brwC, evS, eget, strip, hget, leVL, leV, leC, leL, Cfg.D]; done)); (focus (simp [noV, noC, flatR, flatV, flatC, evS, eget, strip, Cfg.D]; done)))
    | (refine WCall.pf (e5) ?_ ?_ ?_ ?_; (focus (simp [oks, opnds, gS, gof, eget]; done)); (focus (simp [omap, brwV, brwC, evS, eget, strip, hget, leVL, leV, leC, leL, Cfg.D]; done)); (focus (simp [noV, noC, flatR, flatV, flatC, evS, eget, strip, Cfg.D]; done)))
    | (refine ⟨WCall.pf (e5) ?_ ?_ ?_ ?_, ?_⟩; (focus (simp [oks, opnds, gS, gof, eget]; done)); (focus (simp [omap, brwV, brwC, evS, eget, strip, hget, leVL, leV, leC, leL, Cfg.D]; done)); (focus (simp [noV, noC, flatR, flatV, flatC, evS, eget, strip, Cfg.D]; done)))
    | (refine WCall.pf (e6) ?_ ?_ ?_ ?_; (focus (simp [oks, opnds, gS, gof, eget]; done)); (focus (simp [omap, brwV, brwC, evS, eget, strip, hget, leVL, leV, leC, leL, Cfg.D]; done)); (focus (simp [noV, noC, flatR, flatV, flatC, evS, eget, strip, Cfg.D]; done)))
    | (refine ⟨WCall.pf (e6) ?_ ?_ ?_ ?_, ?_⟩; (focus (simp [oks, opnds, gS, gof, eget]; done)); (focus (simp [omap, brwV, brwC, evS, eget, strip, hget, leVL, leV, leC, leL, Cfg.D]; done)); (focus (simp [noV, noC, flatR, flatV, flatC, evS, eget, strip, Cfg.D]; done)))
    | (refine WCall.pf (e7) ?_ ?_ ?_ ?_; (focus (simp [oks, opnds, gS, gof, eget]; done)); (focus (simp [omap, brwV, brwC, evS, eget, strip, hget, leVL, leV, leC, leL, Cfg.D]; done)); (focus (simp [noV, noC, flatR, flatV, flatC, evS, eget, strip, Cfg.D]; done)))
    | (refine ⟨WCall.pf (e7) ?_ ?_ ?_ ?_, ?_⟩; (focus (simp [oks, opnds, gS, gof, eget]; done)); (focus (simp [omap, brwV, brwC, evS, eget, strip, hget, leVL, leV, leC, leL, Cfg.D]; done)); (focus (simp [noV, noC, flatR, flatV, flatC, evS, eget, strip, Cfg.D]; done)))
    | (refine WCall.pf (e8) ?_ ?_ ?_ ?_; (focus (simp [oks, opnds, gS, gof, eget]; done)); (focus (simp [omap, brwV, brwC, evS, eget, strip, hget, leVL, leV, leC, leL, Cfg.D]; done)); (focus (simp [noV, noC, flatR, flatV, flatC, evS, eget, strip, Cfg.D]; done)))
    | (refine ⟨WCall.pf (e8) ?_ ?_ ?_ ?_, ?_⟩; (focus (simp [oks, opnds, gS, gof, eget]; done)); (focus (simp [omap, brwV, brwC, evS, eget, strip, hget, leVL, leV, leC, leL, Cfg.D]; done)); (focus (simp [noV, noC, flatR, flatV, flatC, evS, eget, strip, Cfg.D]; done)))
    | (refine WCall.pf (hc) ?_ ?_ ?_ ?_; (focus (simp [oks, opnds, gS, gof, eget]; done)); (focus (simp [omap, brwV, brwC, evS, eget, strip, hget, leVL, leV, leC, leL, Cfg.D]; done)); (focus (simp [noV, noC, flatR, flatV, flatC, evS, eget, strip, Cfg.D]; done)))
    | (refine ⟨WCall.pf (hc) ?_ ?_ ?_ ?_, ?_⟩; (focus (simp [oks, opnds, gS, gof, eget]; done)); (focus (simp [omap, brwV, brwC, evS, eget, strip, hget, leVL, leV, leC, leL, Cfg.D]; done)); (focus (simp [noV, noC, flatR, flatV, flatC, evS, eget, strip, Cfg.D]; done)))
    | (refine WCall.pf (hb) ?_ ?_ ?_ ?_; (focus (simp [oks, opnds, gS, gof, eget]; done)); (focus (simp [omap, brwV, brwC, evS, eget, strip, hget, leVL, leV, leC, leL, Cfg.D]; done)); (focus (simp [noV, noC, flatR, flatV, flatC, evS, eget, strip, Cfg.D]; done)))
    | (refine ⟨WCall.pf (hb) ?_ ?_ ?_ ?_, ?_⟩; (focus (simp [oks, opnds, gS, gof, eget]; done)); (focus (simp [omap, brwV, brwC, evS, eget, strip, hget, leVL, leV, leC, leL, Cfg.D]; done)); (focus (simp [noV, noC, flatR, flatV, flatC, evS, eget, strip, Cfg.D]; done)))
    | (refine WCall.pf (hw) ?_ ?_ ?_ ?_; (focus (simp [oks, opnds, gS, gof, eget]; done)); (focus (simp [omap, brwV, brwC, evS, eget, strip, hget, leVL, leV, leC, leL, Cfg.D]; done)); (focus (simp [noV, noC, flatR, flatV, flatC, evS, eget, strip, Cfg.D]; done)))
    | (refine ⟨WCall.pf (hw) ?_ ?_ ?_ ?_, ?_⟩; (focus (simp [oks, opnds, gS, gof, eget]; done)); (focus (simp [omap, brwV, brwC, evS, eget, strip, hget, leVL, leV, leC, leL, Cfg.D]; done)); (focus (simp [noV, noC, flatR, flatV, flatC, evS, eget, strip, Cfg.D]; done)))
    | (with_reducible refine And.intro (And.intro ?_ ?_) ?_)
    | fail)
theorem ccheck0_pf : PF Try.prog 29 [.agg [I 0, I 0, I 0, I 0, I 0, I 0, I 0, I 0, I 0, I 0, I 0, I 0, I 0, I 0, I 0, I 0]] (I 2) := by
  have e1 := cwithin_pf 0 0 500
  have e2 := cwithin_pf 0 1 500
  have hc := caps0_pf 0 0
  refine PF.of follows_ok ccheck_code (by simp) (by simp [argOk]) (by simp [noV, noC]) fun B hBN hB0 => acode_sound [0, 1, 2, 3, 5, 6, 62, 67] [] _ _ _ ?_
  repeat' (first
    | simp [AK_at, acode_seq, acode_region, acode_draw, acode_cond, ↓CB_t, ↓CB_f, CB_u, acode_block, acode_loop, acode_exit, acode_scope, acode_ret, acode_skip, seqQ_n, seqQ_e, seqQ_r, blockQ_n, blockQ_e, blockQ_r, TK_at, OK_at, SK_at, aops_nil, aops_cons, asch_done, asch_one, asch_two, asch_top, astep, aop_eq, isLoud, aloud, aloud1, isWrite, qv, evS, strip, gof, eget, hget, putO, eput, herase, oks, opnds, gS, afin, afin0, binD, arith, D.cells, takeD, fillD, keep, trim, envOf, Fin, aresl, aresv, resD, argOk, pickV, isP, deq, deqs, boundD, slD, lenD, isT, isSl, ptrIds, chunks, mn_min, mx_max, D.cells, splice_one, splice_more, Rbr_at, Rfr_at, frR, frV, frC, flatC, brwR, brwV, brwC, omap, leR, leV, leC, leL, leVL, withinB, factorB]
    | (refine WCall.pf (e1) ?_ ?_ ?_ ?_; (focus (simp [oks, opnds, gS, gof, eget]; done)); (focus (simp [omap, brwV, brwC, evS, eget, strip, hget, leVL, leV, leC, leL, withinB, factorB]; done)); (focus (simp [noV, noC, flatR, flatV, flatC, evS, eget, strip, withinB, factorB]; done)))
    | (refine ⟨WCall.pf (e1) ?_ ?_ ?_ ?_, ?_⟩; (focus (simp [oks, opnds, gS, gof, eget]; done)); (focus (simp [omap, brwV, brwC, evS, eget, strip, hget, leVL, leV, leC, leL, withinB, factorB]; done)); (focus (simp [noV, noC, flatR, flatV, flatC, evS, eget, strip, withinB, factorB]; done)))
    | (refine WCall.pf (e2) ?_ ?_ ?_ ?_; (focus (simp [oks, opnds, gS, gof, eget]; done)); (focus (simp [omap, brwV, brwC, evS, eget, strip, hget, leVL, leV, leC, leL, withinB, factorB]; done)); (focus (simp [noV, noC, flatR, flatV, flatC, evS, eget, strip, withinB, factorB]; done)))
    | (refine ⟨WCall.pf (e2) ?_ ?_ ?_ ?_, ?_⟩; (focus (simp [oks, opnds, gS, gof, eget]; done)); (focus (simp [omap, brwV, brwC, evS, eget, strip, hget, leVL, leV, leC, leL, withinB, factorB]; done)); (focus (simp [noV, noC, flatR, flatV, flatC, evS, eget, strip, withinB, factorB]; done)))
    | (refine WCall.pf (hc) ?_ ?_ ?_ ?_; (focus (simp [oks, opnds, gS, gof, eget]; done)); (focus (simp [omap, brwV, brwC, evS, eget, strip, hget, leVL, leV, leC, leL, withinB, factorB]; done)); (focus (simp [noV, noC, flatR, flatV, flatC, evS, eget, strip, withinB, factorB]; done)))
    | (refine ⟨WCall.pf (hc) ?_ ?_ ?_ ?_, ?_⟩; (focus (simp [oks, opnds, gS, gof, eget]; done)); (focus (simp [omap, brwV, brwC, evS, eget, strip, hget, leVL, leV, leC, leL, withinB, factorB]; done)); (focus (simp [noV, noC, flatR, flatV, flatC, evS, eget, strip, withinB, factorB]; done)))
    | (with_reducible refine And.intro (And.intro ?_ ?_) ?_)
    | fail)
theorem cbegin_code : cfun Try.prog [] 28 = some ⟨(.seq (.region 0 [⟨(some 1), (.box (.t 0)), none⟩, ⟨(some 2), (.alloc [(.int .i64 0), (.int .i64 0), (.int .i64 0), (.int .i64 0), (.int .i64 0), (.int .i64 0), (.int .i64 0), (.int .i64 0), (.int .i64 0), (.int .i64 0), (.int .i64 0), (.int .i64 0), (.int .i64 0), (.int .i64 0), (.int .i64 0), (.int .i64 0), (.int .i64 0), .nil0, .nil0, .nil0, .nil0, .nil0, .nil0, (.int .i64 0), (.int .i64 0), .nil0]), none⟩, ⟨(some 3), (.mov (.k (.int .i64 0))), none⟩]) (.seq (.seq (.region 1 [⟨(some 6), (.load true 16 (.t 1)), none⟩, ⟨(some 7), (.call 29 [(.t 6)]), none⟩, ⟨(some 4), (.mov (.t 7)), none⟩]) (.seq (.region 2 [⟨(some 8), (.mov (.t 4)), none⟩, ⟨(some 9), (.bin .neq (.t 8) (.k (.int .i64 0))), none⟩]) (.cond 9 (.seq (.region 3 [⟨(some 10), (.build [(.int .i64 0), (.int .i64 0), (.int .i64 0), (.int .i64 0), (.int .i64 0), (.int .i64 0), (.int .i64 0), (.int .i64 0), (.int .i64 0), (.int .i64 0), (.int .i64 0), (.int .i64 0), (.int .i64 0), (.int .i64 0), (.int .i64 0), (.int .i64 0), (.int .i64 0), .nil0, .nil0, .nil0, .nil0, .nil0, .nil0, (.int .i64 0), (.int .i64 0), .nil0] []), none⟩, ⟨(some 11), (.mov (.t 4)), none⟩, ⟨none, (.store 26 (.t 2) (.t 10)), none⟩, ⟨(some 3), (.mov (.t 11)), none⟩]) .ret) .skip))) (.seq (.draw 4 (.one true ⟨(some 12), (.load true 16 (.t 1)), none⟩ (.two (.one true ⟨(some 13), (.mks 4 48 [.nil0, (.bool false), (.int .i64 0), (.int .i64 0)] (.k (.int .i64 12)) (.k (.int .i64 12))), none⟩ (.one true ⟨(some 14), (.build [(.int .i64 0), (.int .i64 0), (.int .i64 0), (.int .i64 0), (.int .i64 0), (.int .i64 0), (.int .i64 0), (.int .i64 0), (.int .i64 0), (.int .i64 0), (.int .i64 0), (.int .i64 0), (.int .i64 0), (.int .i64 0), (.int .i64 0), (.int .i64 0), (.int .i64 0), .nil0, .nil0, .nil0, .nil0, .nil0, .nil0, (.int .i64 0), (.int .i64 0), .nil0] [(0, (16, (.t 12))), (22, (1, (.t 13)))]), none⟩ (.one true ⟨(some 5), (.alloc [(.int .i64 0), (.int .i64 0), (.int .i64 0), (.int .i64 0), (.int .i64 0), (.int .i64 0), (.int .i64 0), (.int .i64 0), (.int .i64 0), (.int .i64 0), (.int .i64 0), (.int .i64 0), (.int .i64 0), (.int .i64 0), (.int .i64 0), (.int .i64 0), (.int .i64 0), .nil0, .nil0, .nil0, .nil0, .nil0, .nil0, (.int .i64 0), (.int .i64 0), .nil0]), none⟩ (.one false ⟨none, (.store 26 (.t 5) (.t 14)), none⟩ .done)))) (.two (.one true ⟨(some 5), (.alloc [(.int .i64 0), (.int .i64 0), (.int .i64 0), (.int .i64 0), (.int .i64 0), (.int .i64 0), (.int .i64 0), (.int .i64 0), (.int .i64 0), (.int .i64 0), (.int .i64 0), (.int .i64 0), (.int .i64 0), (.int .i64 0), (.int .i64 0), (.int .i64 0), (.int .i64 0), .nil0, .nil0, .nil0, .nil0, .nil0, .nil0, (.int .i64 0), (.int .i64 0), .nil0]), none⟩ (.one true ⟨(some 13), (.mks 4 48 [.nil0, (.bool false), (.int .i64 0), (.int .i64 0)] (.k (.int .i64 12)) (.k (.int .i64 12))), none⟩ (.one true ⟨(some 14), (.build [(.int .i64 0), (.int .i64 0), (.int .i64 0), (.int .i64 0), (.int .i64 0), (.int .i64 0), (.int .i64 0), (.int .i64 0), (.int .i64 0), (.int .i64 0), (.int .i64 0), (.int .i64 0), (.int .i64 0), (.int .i64 0), (.int .i64 0), (.int .i64 0), (.int .i64 0), .nil0, .nil0, .nil0, .nil0, .nil0, .nil0, (.int .i64 0), (.int .i64 0), .nil0] [(0, (16, (.t 12))), (22, (1, (.t 13)))]), none⟩ (.one false ⟨none, (.store 26 (.t 5) (.t 14)), none⟩ .done)))) .top)))) (.seq (.region 5 [⟨(some 16), (.fad 0 (.t 1)), none⟩, ⟨(some 17), (.load false 1 (.t 16)), none⟩, ⟨(some 18), (.call 57 [(.t 17)]), none⟩, ⟨(some 15), (.mov (.t 18)), none⟩, ⟨(some 19), (.ext (.t 15) 0), none⟩, ⟨(some 20), (.ext (.t 15) 1), none⟩, ⟨(some 21), (.fad 17 (.t 5)), none⟩, ⟨none, (.store 1 (.t 21) (.t 19)), none⟩]) (.seq (.region 6 [⟨(some 23), (.fad 10 (.t 1)), none⟩, ⟨(some 24), (.load true 3 (.t 23)), none⟩, ⟨(some 25), (.call 58 [(.t 24)]), none⟩, ⟨(some 22), (.mov (.t 25)), none⟩, ⟨(some 26), (.ext (.t 22) 0), none⟩, ⟨(some 27), (.ext (.t 22) 1), none⟩, ⟨(some 28), (.fad 23 (.t 5)), none⟩, ⟨none, (.store 1 (.t 28) (.t 26)), none⟩]) (.seq (.region 7 [⟨(some 30), (.call 45 [(.k (.int .i64 0))]), none⟩, ⟨(some 29), (.mov (.t 30)), none⟩, ⟨(some 31), (.ext (.t 29) 0), none⟩, ⟨(some 32), (.ext (.t 29) 1), none⟩, ⟨(some 33), (.fad 24 (.t 5)), none⟩, ⟨none, (.store 2 (.t 33) (.t 31)), none⟩]) (.seq (.region 8 [⟨(some 34), (.load true 26 (.t 5)), none⟩, ⟨none, (.store 26 (.t 2) (.t 34)), none⟩, ⟨(some 3), (.mov (.k (.int .i64 0))), none⟩]) .ret))))))), [(.c 2 true 26), (.t 3)], 35⟩ := by kernel_rfl
def worldD (c : Cfg) : List D := c.D ++ [I 0, .rows 4 (List.replicate c.slots.toNat [I 0, .bool false, I 0, I 0]), .nil0, .nil0, .nil0, .nil0, .rows 4 (List.replicate 12 [.nil0, .bool false, I 0, I 0]), I c.bud.full, I 0, .rows 1 (List.replicate 25 [.nil0])]
theorem cbegin_pf (c : Cfg) (h : c.Ok) : PF Try.prog 28 [.agg c.D] (.tup [.agg (worldD c), I 0]) := by
  have h1 := ccheck_pf c h
  have h2 := tmake_pf c.slots h.w0.1 h.w0.2
  have h3 := bfill_pf c.bud h.b
  have h4 := wnew_pf
  unfold Budget.D at h3
  unfold Cfg.D at h1
  refine PF.of follows_ok cbegin_code (by simp) (by simp [argOk]) (by simp [noV, noC, Cfg.D]) fun B hBN hB0 => acode_sound [0, 1, 2, 3, 4, 5, 9] [] _ _ _ ?_
  repeat' (first
    | simp [AK_at, acode_seq, acode_region, acode_draw, acode_cond, ↓CB_t, ↓CB_f, CB_u, acode_block, acode_loop, acode_exit, acode_scope, acode_ret, acode_skip, seqQ_n, seqQ_e, seqQ_r, blockQ_n, blockQ_e, blockQ_r, TK_at, OK_at, SK_at, aops_nil, aops_cons, asch_done, asch_one, asch_two, asch_top, astep, aop_eq, isLoud, aloud, aloud1, isWrite, qv, evS, strip, gof, eget, hget, putO, eput, herase, oks, opnds, gS, afin, afin0, binD, arith, D.cells, takeD, fillD, keep, trim, envOf, Fin, aresl, aresv, resD, argOk, pickV, isP, deq, deqs, boundD, slD, lenD, isT, isSl, ptrIds, chunks, mn_min, mx_max, D.cells, splice_one, splice_more, Rbr_at, Rfr_at, frR, frV, frC, flatC, brwR, brwV, brwC, omap, leR, leV, leC, leL, leVL, Cfg.D, worldD]
    | (refine WCall.pf (h1) ?_ ?_ ?_ ?_; (focus (simp [oks, opnds, gS, gof, eget]; done)); (focus (simp [omap, brwV, brwC, evS, eget, strip, hget, leVL, leV, leC, leL, Cfg.D, worldD]; done)); (focus (simp [noV, noC, flatR, flatV, flatC, evS, eget, strip, Cfg.D, worldD]; done)))
    | (refine ⟨WCall.pf (h1) ?_ ?_ ?_ ?_, ?_⟩; (focus (simp [oks, opnds, gS, gof, eget]; done)); (focus (simp [omap, brwV, brwC, evS, eget, strip, hget, leVL, leV, leC, leL, Cfg.D, worldD]; done)); (focus (simp [noV, noC, flatR, flatV, flatC, evS, eget, strip, Cfg.D, worldD]; done)))
    | (refine WCall.pf (h2) ?_ ?_ ?_ ?_; (focus (simp [oks, opnds, gS, gof, eget]; done)); (focus (simp [omap, brwV, brwC, evS, eget, strip, hget, leVL, leV, leC, leL, Cfg.D, worldD]; done)); (focus (simp [noV, noC, flatR, flatV, flatC, evS, eget, strip, Cfg.D, worldD]; done)))
    | (refine ⟨WCall.pf (h2) ?_ ?_ ?_ ?_, ?_⟩; (focus (simp [oks, opnds, gS, gof, eget]; done)); (focus (simp [omap, brwV, brwC, evS, eget, strip, hget, leVL, leV, leC, leL, Cfg.D, worldD]; done)); (focus (simp [noV, noC, flatR, flatV, flatC, evS, eget, strip, Cfg.D, worldD]; done)))
    | (refine WCall.pf (h3) ?_ ?_ ?_ ?_; (focus (simp [oks, opnds, gS, gof, eget]; done)); (focus (simp [omap, brwV, brwC, evS, eget, strip, hget, leVL, leV, leC, leL, Cfg.D, worldD]; done)); (focus (simp [noV, noC, flatR, flatV, flatC, evS, eget, strip, Cfg.D, worldD]; done)))
    | (refine ⟨WCall.pf (h3) ?_ ?_ ?_ ?_, ?_⟩; (focus (simp [oks, opnds, gS, gof, eget]; done)); (focus (simp [omap, brwV, brwC, evS, eget, strip, hget, leVL, leV, leC, leL, Cfg.D, worldD]; done)); (focus (simp [noV, noC, flatR, flatV, flatC, evS, eget, strip, Cfg.D, worldD]; done)))
    | (refine WCall.pf (h4) ?_ ?_ ?_ ?_; (focus (simp [oks, opnds, gS, gof, eget]; done)); (focus (simp [omap, brwV, brwC, evS, eget, strip, hget, leVL, leV, leC, leL, Cfg.D, worldD]; done)); (focus (simp [noV, noC, flatR, flatV, flatC, evS, eget, strip, Cfg.D, worldD]; done)))
    | (refine ⟨WCall.pf (h4) ?_ ?_ ?_ ?_, ?_⟩; (focus (simp [oks, opnds, gS, gof, eget]; done)); (focus (simp [omap, brwV, brwC, evS, eget, strip, hget, leVL, leV, leC, leL, Cfg.D, worldD]; done)); (focus (simp [noV, noC, flatR, flatV, flatC, evS, eget, strip, Cfg.D, worldD]; done)))
    | (with_reducible refine And.intro (And.intro ?_ ?_) ?_)
    | fail)
theorem config_code : cfun Try.prog [] 27 = some ⟨(.seq (.region 0 [⟨(some 1), (.box (.t 0)), none⟩, ⟨(some 2), (.alloc [(.int .i64 0), (.int .i64 0), (.int .i64 0), (.int .i64 0), (.int .i64 0), (.int .i64 0), (.int .i64 0), (.int .i64 0), (.int .i64 0), (.int .i64 0), (.int .i64 0), (.int .i64 0), (.int .i64 0), (.int .i64 0), (.int .i64 0), (.int .i64 0)]), none⟩]) (.seq (.region 1 [⟨(some 4), (.fad 2 (.t 1)), none⟩, ⟨(some 5), (.load false 1 (.t 4)), none⟩, ⟨(some 6), (.call 25 [(.t 5), (.k (.int .i64 20))]), none⟩, ⟨(some 7), (.bin .add (.k (.int .i64 1)) (.t 6)), none⟩, ⟨(some 3), (.mov (.t 7)), none⟩]) (.seq (.draw 2 (.one true ⟨(some 8), (.fad 0 (.t 1)), none⟩ (.one true ⟨(some 9), (.load false 1 (.t 8)), none⟩ (.one true ⟨(some 12), (.mov (.t 3)), none⟩ (.one true ⟨(some 13), (.fad 1 (.t 1)), none⟩ (.one true ⟨(some 14), (.load false 1 (.t 13)), none⟩ (.one true ⟨(some 15), (.mov (.t 3)), none⟩ (.one true ⟨(some 16), (.bin .sub (.k (.int .i64 20)) (.t 15)), none⟩ (.one true ⟨(some 17), (.bin .add (.t 16) (.k (.int .i64 1))), none⟩ (.one true ⟨(some 20), (.mov (.t 3)), none⟩ (.one true ⟨(some 21), (.fad 3 (.t 1)), none⟩ (.one true ⟨(some 22), (.load false 1 (.t 21)), none⟩ (.one true ⟨(some 24), (.fad 4 (.t 1)), none⟩ (.one true ⟨(some 25), (.load false 1 (.t 24)), none⟩ (.one true ⟨(some 27), (.fad 5 (.t 1)), none⟩ (.one true ⟨(some 28), (.load false 1 (.t 27)), none⟩ (.one true ⟨(some 31), (.fad 6 (.t 1)), none⟩ (.one true ⟨(some 32), (.load false 1 (.t 31)), none⟩ (.one true ⟨(some 35), (.fad 7 (.t 1)), none⟩ (.one true ⟨(some 36), (.load false 1 (.t 35)), none⟩ (.one true ⟨(some 39), (.fad 8 (.t 1)), none⟩ (.one true ⟨(some 40), (.load false 1 (.t 39)), none⟩ (.one true ⟨(some 42), (.fad 9 (.t 1)), none⟩ (.one true ⟨(some 43), (.load false 1 (.t 42)), none⟩ (.one true ⟨(some 45), (.fad 10 (.t 1)), none⟩ (.one true ⟨(some 46), (.iada 3 1 (.t 45) (.k (.int .i64 0))), none⟩ (.one true ⟨(some 47), (.load false 1 (.t 46)), none⟩ (.one true ⟨(some 48), (.fad 10 (.t 1)), none⟩ (.one true ⟨(some 49), (.iada 3 1 (.t 48) (.k (.int .i64 1))), none⟩ (.one true ⟨(some 50), (.load false 1 (.t 49)), none⟩ (.one true ⟨(some 51), (.fad 10 (.t 1)), none⟩ (.one true ⟨(some 52), (.iada 3 1 (.t 51) (.k (.int .i64 2))), none⟩ (.one true ⟨(some 53), (.load false 1 (.t 52)), none⟩ (.one true ⟨(some 55), (.fad 13 (.t 1)), none⟩ (.one true ⟨(some 56), (.iada 3 1 (.t 55) (.k (.int .i64 0))), none⟩ (.one true ⟨(some 57), (.load false 1 (.t 56)), none⟩ (.one true ⟨(some 58), (.fad 13 (.t 1)), none⟩ (.one true ⟨(some 59), (.iada 3 1 (.t 58) (.k (.int .i64 1))), none⟩ (.one true ⟨(some 60), (.load false 1 (.t 59)), none⟩ (.one true ⟨(some 61), (.fad 13 (.t 1)), none⟩ (.one true ⟨(some 62), (.iada 3 1 (.t 61) (.k (.int .i64 2))), none⟩ (.one true ⟨(some 63), (.load false 1 (.t 62)), none⟩ (.one true ⟨(some 64), (.bin .rem (.t 63) (.k (.int .i64 20))), none⟩ (.one true ⟨(some 10), (.call 25 [(.t 9), (.k (.int .i64 8))]), none⟩ (.one true ⟨(some 11), (.bin .add (.k (.int .i64 1)) (.t 10)), none⟩ (.one true ⟨(some 18), (.call 25 [(.t 14), (.t 17)]), none⟩ (.one true ⟨(some 19), (.bin .add (.t 12) (.t 18)), none⟩ (.one true ⟨(some 23), (.call 25 [(.t 22), (.k (.int .i64 4))]), none⟩ (.one true ⟨(some 26), (.call 25 [(.t 25), (.k (.int .i64 6))]), none⟩ (.one true ⟨(some 29), (.call 25 [(.t 28), (.k (.int .i64 5))]), none⟩ (.one true ⟨(some 30), (.bin .add (.k (.int .i64 1)) (.t 29)), none⟩ (.one true ⟨(some 33), (.call 25 [(.t 32), (.k (.int .i64 6))]), none⟩ (.one true ⟨(some 34), (.bin .add (.k (.int .i64 1)) (.t 33)), none⟩ (.one true ⟨(some 37), (.call 25 [(.t 36), (.k (.int .i64 4))]), none⟩ (.one true ⟨(some 38), (.bin .add (.k (.int .i64 1)) (.t 37)), none⟩ (.one true ⟨(some 41), (.call 25 [(.t 40), (.k (.int .i64 4))]), none⟩ (.one true ⟨(some 44), (.call 25 [(.t 43), (.k (.int .i64 101))]), none⟩ (.one true ⟨(some 54), (.call 55 [(.t 47), (.t 50), (.t 53)]), none⟩ (.one true ⟨(some 65), (.call 56 [(.t 57), (.t 60), (.t 64)]), none⟩ (.one true ⟨(some 66), (.build [(.int .i64 0), (.int .i64 0), (.int .i64 0), (.int .i64 0), (.int .i64 0), (.int .i64 0), (.int .i64 0), (.int .i64 0), (.int .i64 0), (.int .i64 0), (.int .i64 0), (.int .i64 0), (.int .i64 0), (.int .i64 0), (.int .i64 0), (.int .i64 0)] [(0, (1, (.t 11))), (1, (1, (.t 19))), (2, (1, (.t 20))), (3, (1, (.t 23))), (4, (1, (.t 26))), (5, (1, (.t 30))), (6, (1, (.t 34))), (7, (1, (.t 38))), (8, (1, (.t 41))), (9, (1, (.t 44))), (10, (3, (.t 54))), (13, (3, (.t 65)))]), none⟩ (.one false ⟨none, (.store 16 (.t 2) (.t 66)), none⟩ .done))))))))))))))))))))))))))))))))))))))))))))))))))))))))))))) .ret))), [(.c 2 true 16)], 67⟩ := by kernel_rfl
def remZ (z : Int) : Int := if 0 ≤ z then z % 20 else -(-z % 20)
def cfgOf (a0 a1 a2 a3 a4 a5 a6 a7 a8 a9 a10 a11 a12 a13 a14 a15 : Int) : Cfg :=
  ⟨1 + pickedZ a0 8, (1 + pickedZ a2 20) + pickedZ a1 (20 - (1 + pickedZ a2 20) + 1), 1 + pickedZ a2 20, pickedZ a3 4, pickedZ a4 6, 1 + pickedZ a5 5, 1 + pickedZ a6 6, 1 + pickedZ a7 4, pickedZ a8 4, pickedZ a9 101, budgetOf a10 a11 a12, watchOf a13 a14 (remZ a15)⟩
theorem cfgOf_ok (a0 a1 a2 a3 a4 a5 a6 a7 a8 a9 a10 a11 a12 a13 a14 a15 : Int) : (cfgOf a0 a1 a2 a3 a4 a5 a6 a7 a8 a9 a10 a11 a12 a13 a14 a15).Ok := by
  have h0 := pickedZ_range a0 8 (by omega)
  have h2 := pickedZ_range a2 20 (by omega)
  have h1 := pickedZ_range a1 (20 - (1 + pickedZ a2 20) + 1) (by omega)
  have h3 := pickedZ_range a3 4 (by omega)
  have h4 := pickedZ_range a4 6 (by omega)
  have h5 := pickedZ_range a5 5 (by omega)
  have h6 := pickedZ_range a6 6 (by omega)
  have h7 := pickedZ_range a7 4 (by omega)
  have h8 := pickedZ_range a8 4 (by omega)
  have h9 := pickedZ_range a9 101 (by omega)
  exact ⟨decide_eq_true (by simp only [cfgOf]; omega), by simp only [cfgOf]; omega, by simp only [cfgOf]; omega, by simp only [cfgOf]; omega, by simp only [cfgOf]; omega, by simp only [cfgOf]; omega, by simp only [cfgOf]; omega, by simp only [cfgOf]; omega, by simp only [cfgOf]; omega, budgetOf_ok _ _ _, watchOf_ok _ _ _⟩
theorem config_pf (a0 a1 a2 a3 a4 a5 a6 a7 a8 a9 a10 a11 a12 a13 a14 a15 : Int) (i0 : InR a0) (i1 : InR a1) (i2 : InR a2) (i3 : InR a3) (i4 : InR a4) (i5 : InR a5) (i6 : InR a6) (i7 : InR a7) (i8 : InR a8) (i9 : InR a9) (i10 : InR a10) (i11 : InR a11) (i12 : InR a12) (i13 : InR a13) (i14 : InR a14) (i15 : InR a15) :
    PF Try.prog 27 [.agg [I a0, I a1, I a2, I a3, I a4, I a5, I a6, I a7, I a8, I a9, I a10, I a11, I a12, I a13, I a14, I a15]] (.agg (cfgOf a0 a1 a2 a3 a4 a5 a6 a7 a8 a9 a10 a11 a12 a13 a14 a15).D) := by
  have h0 := pickedZ_range a0 8 (by omega)
  have h2 := pickedZ_range a2 20 (by omega)
  have h3 := pickedZ_range a3 4 (by omega)
  have h4 := pickedZ_range a4 6 (by omega)
  have h5 := pickedZ_range a5 5 (by omega)
  have h6 := pickedZ_range a6 6 (by omega)
  have h7 := pickedZ_range a7 4 (by omega)
  have h8 := pickedZ_range a8 4 (by omega)
  have h9 := pickedZ_range a9 101 (by omega)
  have hr : (if 0 ≤ a15 then a15 % 20 else -(-a15 % 20)) = remZ a15 := rfl
  have ht : InR (remZ a15) := by unfold remZ; split <;> exact inR (by omega) (by omega)
  have p0 := picked_pf a0 8 i0 (by omega)
  have p2 := picked_pf a2 20 i2 (by omega)
  have p3 := picked_pf a3 4 i3 (by omega)
  have p4 := picked_pf a4 6 i4 (by omega)
  have p5 := picked_pf a5 5 i5 (by omega)
  have p6 := picked_pf a6 6 i6 (by omega)
  have p7 := picked_pf a7 4 i7 (by omega)
  have p8 := picked_pf a8 4 i8 (by omega)
  have p9 := picked_pf a9 101 i9 (by omega)
  have pb := budget_pf a10 a11 a12 i10 i11 i12
  have pw := watch_pf a13 a14 (remZ a15) i13 i14 ht
  unfold cfgOf
  generalize pickedZ a0 8 = b0 at *
  generalize pickedZ a2 20 = b2 at *
  generalize pickedZ a3 4 = b3 at *
  generalize pickedZ a4 6 = b4 at *
  generalize pickedZ a5 5 = b5 at *
  generalize pickedZ a6 6 = b6 at *
  generalize pickedZ a7 4 = b7 at *
  generalize pickedZ a8 4 = b8 at *
  generalize pickedZ a9 101 = b9 at *
  generalize budgetOf a10 a11 a12 = bb at *
  generalize watchOf a13 a14 (remZ a15) = ww at *
  obtain ⟨d, hd⟩ : ∃ d, d = 1 + b2 := ⟨_, rfl⟩
  have h1 := pickedZ_range a1 (20 - d + 1) (by omega)
  have p1 := picked_pf a1 (20 - d + 1) i1 (by omega)
  rw [← hd]
  generalize pickedZ a1 (20 - d + 1) = b1 at *
  have j0 : InR (1 + b0) := inR (by omega) (by omega)
  have j1 : InR (d + b1) := inR (by omega) (by omega)
  have j2 : InR d := inR (by omega) (by omega)
  have j3 : InR (20 - d) := inR (by omega) (by omega)
  have j4 : InR (20 - d + 1) := inR (by omega) (by omega)
  have j5 : InR (1 + b5) := inR (by omega) (by omega)
  have j6 : InR (1 + b6) := inR (by omega) (by omega)
  have j7 : InR (1 + b7) := inR (by omega) (by omega)
  unfold Budget.D at pb
  unfold Wtch.D at pw
  refine PF.of follows_ok config_code (by simp) (by simp [argOk]) (by simp [noV, noC]) fun B hBN hB0 => acode_sound [0, 1, 2, 3] [] _ _ _ ?_
  repeat' (first
    | simp [AK_at, acode_seq, acode_region, acode_draw, acode_cond, ↓CB_t, ↓CB_f, CB_u, acode_block, acode_loop, acode_exit, acode_scope, acode_ret, acode_skip, seqQ_n, seqQ_e, seqQ_r, blockQ_n, blockQ_e, blockQ_r, TK_at, OK_at, SK_at, aops_nil, aops_cons, asch_done, asch_one, asch_two, asch_top, astep, aop_eq, isLoud, aloud, aloud1, isWrite, qv, evS, strip, gof, eget, hget, putO, eput, herase, oks, opnds, gS, afin, afin0, binD, arith, D.cells, takeD, fillD, keep, trim, envOf, Fin, aresl, aresv, resD, argOk, pickV, isP, deq, deqs, boundD, slD, lenD, isT, isSl, ptrIds, chunks, mn_min, mx_max, D.cells, splice_one, splice_more, Rbr_at, Rfr_at, frR, frV, frC, flatC, brwR, brwV, brwC, omap, leR, leV, leC, leL, leVL, Cfg.D, ← hd, j0, j1, j2, j3, j4, j5, j6, j7, ht, hr]
    | (refine WCall.pf (p0) ?_ ?_ ?_ ?_; (focus (simp [oks, opnds, gS, gof, eget]; done)); (focus (simp [omap, brwV, brwC, evS, eget, strip, hget, leVL, leV, leC, leL, Cfg.D, ← hd, j0, j1, j2, j3, j4, j5, j6, j7, ht, hr]; done)); (focus (simp [noV, noC, flatR, flatV, flatC, evS, eget, strip, Cfg.D, ← hd, j0, j1, j2, j3, j4, j5, j6, j7, ht, hr]; done)))
    | (refine ⟨WCall.pf (p0) ?_ ?_ ?_ ?_, ?_⟩; (focus (simp [oks, opnds, gS, gof, eget]; done)); (focus (simp [omap, brwV, brwC, evS, eget, strip, hget, leVL, leV, leC, leL, Cfg.D, ← hd, j0, j1, j2, j3, j4, j5, j6, j7, ht, hr]; done)); (focus (simp [noV, noC, flatR, flatV, flatC, evS, eget, strip, Cfg.D, ← hd, j0, j1, j2, j3, j4, j5, j6, j7, ht, hr]; done)))
    | (refine WCall.pf (p1) ?_ ?_ ?_ ?_; (focus (simp [oks, opnds, gS, gof, eget]; done)); (focus (simp [omap, brwV, brwC, evS, eget, strip, hget, leVL, leV, leC, leL, Cfg.D, ← hd, j0, j1, j2, j3, j4, j5, j6, j7, ht, hr]; done)); (focus (simp [noV, noC, flatR, flatV, flatC, evS, eget, strip, Cfg.D, ← hd, j0, j1, j2, j3, j4, j5, j6, j7, ht, hr]; done)))
    | (refine ⟨WCall.pf (p1) ?_ ?_ ?_ ?_, ?_⟩; (focus (simp [oks, opnds, gS, gof, eget]; done)); (focus (simp [omap, brwV, brwC, evS, eget, strip, hget, leVL, leV, leC, leL, Cfg.D, ← hd, j0, j1, j2, j3, j4, j5, j6, j7, ht, hr]; done)); (focus (simp [noV, noC, flatR, flatV, flatC, evS, eget, strip, Cfg.D, ← hd, j0, j1, j2, j3, j4, j5, j6, j7, ht, hr]; done)))
    | (refine WCall.pf (p2) ?_ ?_ ?_ ?_; (focus (simp [oks, opnds, gS, gof, eget]; done)); (focus (simp [omap, brwV, brwC, evS, eget, strip, hget, leVL, leV, leC, leL, Cfg.D, ← hd, j0, j1, j2, j3, j4, j5, j6, j7, ht, hr]; done)); (focus (simp [noV, noC, flatR, flatV, flatC, evS, eget, strip, Cfg.D, ← hd, j0, j1, j2, j3, j4, j5, j6, j7, ht, hr]; done)))
    | (refine ⟨WCall.pf (p2) ?_ ?_ ?_ ?_, ?_⟩; (focus (simp [oks, opnds, gS, gof, eget]; done)); (focus (simp [omap, brwV, brwC, evS, eget, strip, hget, leVL, leV, leC, leL, Cfg.D, ← hd, j0, j1, j2, j3, j4, j5, j6, j7, ht, hr]; done)); (focus (simp [noV, noC, flatR, flatV, flatC, evS, eget, strip, Cfg.D, ← hd, j0, j1, j2, j3, j4, j5, j6, j7, ht, hr]; done)))
    | (refine WCall.pf (p3) ?_ ?_ ?_ ?_; (focus (simp [oks, opnds, gS, gof, eget]; done)); (focus (simp [omap, brwV, brwC, evS, eget, strip, hget, leVL, leV, leC, leL, Cfg.D, ← hd, j0, j1, j2, j3, j4, j5, j6, j7, ht, hr]; done)); (focus (simp [noV, noC, flatR, flatV, flatC, evS, eget, strip, Cfg.D, ← hd, j0, j1, j2, j3, j4, j5, j6, j7, ht, hr]; done)))
    | (refine ⟨WCall.pf (p3) ?_ ?_ ?_ ?_, ?_⟩; (focus (simp [oks, opnds, gS, gof, eget]; done)); (focus (simp [omap, brwV, brwC, evS, eget, strip, hget, leVL, leV, leC, leL, Cfg.D, ← hd, j0, j1, j2, j3, j4, j5, j6, j7, ht, hr]; done)); (focus (simp [noV, noC, flatR, flatV, flatC, evS, eget, strip, Cfg.D, ← hd, j0, j1, j2, j3, j4, j5, j6, j7, ht, hr]; done)))
    | (refine WCall.pf (p4) ?_ ?_ ?_ ?_; (focus (simp [oks, opnds, gS, gof, eget]; done)); (focus (simp [omap, brwV, brwC, evS, eget, strip, hget, leVL, leV, leC, leL, Cfg.D, ← hd, j0, j1, j2, j3, j4, j5, j6, j7, ht, hr]; done)); (focus (simp [noV, noC, flatR, flatV, flatC, evS, eget, strip, Cfg.D, ← hd, j0, j1, j2, j3, j4, j5, j6, j7, ht, hr]; done)))
    | (refine ⟨WCall.pf (p4) ?_ ?_ ?_ ?_, ?_⟩; (focus (simp [oks, opnds, gS, gof, eget]; done)); (focus (simp [omap, brwV, brwC, evS, eget, strip, hget, leVL, leV, leC, leL, Cfg.D, ← hd, j0, j1, j2, j3, j4, j5, j6, j7, ht, hr]; done)); (focus (simp [noV, noC, flatR, flatV, flatC, evS, eget, strip, Cfg.D, ← hd, j0, j1, j2, j3, j4, j5, j6, j7, ht, hr]; done)))
    | (refine WCall.pf (p5) ?_ ?_ ?_ ?_; (focus (simp [oks, opnds, gS, gof, eget]; done)); (focus (simp [omap, brwV, brwC, evS, eget, strip, hget, leVL, leV, leC, leL, Cfg.D, ← hd, j0, j1, j2, j3, j4, j5, j6, j7, ht, hr]; done)); (focus (simp [noV, noC, flatR, flatV, flatC, evS, eget, strip, Cfg.D, ← hd, j0, j1, j2, j3, j4, j5, j6, j7, ht, hr]; done)))
    | (refine ⟨WCall.pf (p5) ?_ ?_ ?_ ?_, ?_⟩; (focus (simp [oks, opnds, gS, gof, eget]; done)); (focus (simp [omap, brwV, brwC, evS, eget, strip, hget, leVL, leV, leC, leL, Cfg.D, ← hd, j0, j1, j2, j3, j4, j5, j6, j7, ht, hr]; done)); (focus (simp [noV, noC, flatR, flatV, flatC, evS, eget, strip, Cfg.D, ← hd, j0, j1, j2, j3, j4, j5, j6, j7, ht, hr]; done)))
    | (refine WCall.pf (p6) ?_ ?_ ?_ ?_; (focus (simp [oks, opnds, gS, gof, eget]; done)); (focus (simp [omap, brwV, brwC, evS, eget, strip, hget, leVL, leV, leC, leL, Cfg.D, ← hd, j0, j1, j2, j3, j4, j5, j6, j7, ht, hr]; done)); (focus (simp [noV, noC, flatR, flatV, flatC, evS, eget, strip, Cfg.D, ← hd, j0, j1, j2, j3, j4, j5, j6, j7, ht, hr]; done)))
    | (refine ⟨WCall.pf (p6) ?_ ?_ ?_ ?_, ?_⟩; (focus (simp [oks, opnds, gS, gof, eget]; done)); (focus (simp [omap, brwV, brwC, evS, eget, strip, hget, leVL, leV, leC, leL, Cfg.D, ← hd, j0, j1, j2, j3, j4, j5, j6, j7, ht, hr]; done)); (focus (simp [noV, noC, flatR, flatV, flatC, evS, eget, strip, Cfg.D, ← hd, j0, j1, j2, j3, j4, j5, j6, j7, ht, hr]; done)))
    | (refine WCall.pf (p7) ?_ ?_ ?_ ?_; (focus (simp [oks, opnds, gS, gof, eget]; done)); (focus (simp [omap, brwV, brwC, evS, eget, strip, hget, leVL, leV, leC, leL, Cfg.D, ← hd, j0, j1, j2, j3, j4, j5, j6, j7, ht, hr]; done)); (focus (simp [noV, noC, flatR, flatV, flatC, evS, eget, strip, Cfg.D, ← hd, j0, j1, j2, j3, j4, j5, j6, j7, ht, hr]; done)))
    | (refine ⟨WCall.pf (p7) ?_ ?_ ?_ ?_, ?_⟩; (focus (simp [oks, opnds, gS, gof, eget]; done)); (focus (simp [omap, brwV, brwC, evS, eget, strip, hget, leVL, leV, leC, leL, Cfg.D, ← hd, j0, j1, j2, j3, j4, j5, j6, j7, ht, hr]; done)); (focus (simp [noV, noC, flatR, flatV, flatC, evS, eget, strip, Cfg.D, ← hd, j0, j1, j2, j3, j4, j5, j6, j7, ht, hr]; done)))
    | (refine WCall.pf (p8) ?_ ?_ ?_ ?_; (focus (simp [oks, opnds, gS, gof, eget]; done)); (focus (simp [omap, brwV, brwC, evS, eget, strip, hget, leVL, leV, leC, leL, Cfg.D, ← hd, j0, j1, j2, j3, j4, j5, j6, j7, ht, hr]; done)); (focus (simp [noV, noC, flatR, flatV, flatC, evS, eget, strip, Cfg.D, ← hd, j0, j1, j2, j3, j4, j5, j6, j7, ht, hr]; done)))
    | (refine ⟨WCall.pf (p8) ?_ ?_ ?_ ?_, ?_⟩; (focus (simp [oks, opnds, gS, gof, eget]; done)); (focus (simp [omap, brwV, brwC, evS, eget, strip, hget, leVL, leV, leC, leL, Cfg.D, ← hd, j0, j1, j2, j3, j4, j5, j6, j7, ht, hr]; done)); (focus (simp [noV, noC, flatR, flatV, flatC, evS, eget, strip, Cfg.D, ← hd, j0, j1, j2, j3, j4, j5, j6, j7, ht, hr]; done)))
    | (refine WCall.pf (p9) ?_ ?_ ?_ ?_; (focus (simp [oks, opnds, gS, gof, eget]; done)); (focus (simp [omap, brwV, brwC, evS, eget, strip, hget, leVL, leV, leC, leL, Cfg.D, ← hd, j0, j1, j2, j3, j4, j5, j6, j7, ht, hr]; done)); (focus (simp [noV, noC, flatR, flatV, flatC, evS, eget, strip, Cfg.D, ← hd, j0, j1, j2, j3, j4, j5, j6, j7, ht, hr]; done)))
    | (refine ⟨WCall.pf (p9) ?_ ?_ ?_ ?_, ?_⟩; (focus (simp [oks, opnds, gS, gof, eget]; done)); (focus (simp [omap, brwV, brwC, evS, eget, strip, hget, leVL, leV, leC, leL, Cfg.D, ← hd, j0, j1, j2, j3, j4, j5, j6, j7, ht, hr]; done)); (focus (simp [noV, noC, flatR, flatV, flatC, evS, eget, strip, Cfg.D, ← hd, j0, j1, j2, j3, j4, j5, j6, j7, ht, hr]; done)))
    | (refine WCall.pf (pb) ?_ ?_ ?_ ?_; (focus (simp [oks, opnds, gS, gof, eget]; done)); (focus (simp [omap, brwV, brwC, evS, eget, strip, hget, leVL, leV, leC, leL, Cfg.D, ← hd, j0, j1, j2, j3, j4, j5, j6, j7, ht, hr]; done)); (focus (simp [noV, noC, flatR, flatV, flatC, evS, eget, strip, Cfg.D, ← hd, j0, j1, j2, j3, j4, j5, j6, j7, ht, hr]; done)))
    | (refine ⟨WCall.pf (pb) ?_ ?_ ?_ ?_, ?_⟩; (focus (simp [oks, opnds, gS, gof, eget]; done)); (focus (simp [omap, brwV, brwC, evS, eget, strip, hget, leVL, leV, leC, leL, Cfg.D, ← hd, j0, j1, j2, j3, j4, j5, j6, j7, ht, hr]; done)); (focus (simp [noV, noC, flatR, flatV, flatC, evS, eget, strip, Cfg.D, ← hd, j0, j1, j2, j3, j4, j5, j6, j7, ht, hr]; done)))
    | (refine WCall.pf (pw) ?_ ?_ ?_ ?_; (focus (simp [oks, opnds, gS, gof, eget]; done)); (focus (simp [omap, brwV, brwC, evS, eget, strip, hget, leVL, leV, leC, leL, Cfg.D, ← hd, j0, j1, j2, j3, j4, j5, j6, j7, ht, hr]; done)); (focus (simp [noV, noC, flatR, flatV, flatC, evS, eget, strip, Cfg.D, ← hd, j0, j1, j2, j3, j4, j5, j6, j7, ht, hr]; done)))
    | (refine ⟨WCall.pf (pw) ?_ ?_ ?_ ?_, ?_⟩; (focus (simp [oks, opnds, gS, gof, eget]; done)); (focus (simp [omap, brwV, brwC, evS, eget, strip, hget, leVL, leV, leC, leL, Cfg.D, ← hd, j0, j1, j2, j3, j4, j5, j6, j7, ht, hr]; done)); (focus (simp [noV, noC, flatR, flatV, flatC, evS, eget, strip, Cfg.D, ← hd, j0, j1, j2, j3, j4, j5, j6, j7, ht, hr]; done)))
    | (with_reducible refine And.intro (And.intro ?_ ?_) ?_)
    | fail)
theorem cobeg_code : cfun Try.prog [] 5 = some ⟨(.seq (.region 0 [⟨(some 1), (.box (.t 0)), none⟩, ⟨(some 2), (.mov (.k (.bool false))), none⟩]) (.seq (.region 1 [⟨(some 6), (.load true 16 (.t 1)), none⟩, ⟨(some 7), (.call 27 [(.t 6)]), none⟩, ⟨(some 3), (.alloc [(.int .i64 0), (.int .i64 0), (.int .i64 0), (.int .i64 0), (.int .i64 0), (.int .i64 0), (.int .i64 0), (.int .i64 0), (.int .i64 0), (.int .i64 0), (.int .i64 0), (.int .i64 0), (.int .i64 0), (.int .i64 0), (.int .i64 0), (.int .i64 0)]), none⟩, ⟨none, (.store 16 (.t 3) (.t 7)), none⟩]) (.seq (.region 2 [⟨(some 9), (.load true 16 (.t 3)), none⟩, ⟨(some 10), (.call 28 [(.t 9)]), none⟩, ⟨(some 8), (.mov (.t 10)), none⟩, ⟨(some 11), (.ext (.t 8) 0), none⟩, ⟨(some 12), (.ext (.t 8) 1), none⟩, ⟨(some 4), (.alloc [(.int .i64 0), (.int .i64 0), (.int .i64 0), (.int .i64 0), (.int .i64 0), (.int .i64 0), (.int .i64 0), (.int .i64 0), (.int .i64 0), (.int .i64 0), (.int .i64 0), (.int .i64 0), (.int .i64 0), (.int .i64 0), (.int .i64 0), (.int .i64 0), (.int .i64 0), .nil0, .nil0, .nil0, .nil0, .nil0, .nil0, (.int .i64 0), (.int .i64 0), .nil0]), none⟩, ⟨none, (.store 26 (.t 4) (.t 11)), none⟩, ⟨(some 5), (.mov (.t 12)), none⟩]) (.seq (.region 3 [⟨(some 13), (.load true 16 (.t 3)), none⟩, ⟨(some 14), (.call 29 [(.t 13)]), none⟩, ⟨(some 15), (.bin .eql (.t 14) (.k (.int .i64 0))), none⟩, ⟨(some 16), (.mov (.t 15)), none⟩, ⟨(some 17), (.mov (.t 5)), (some (16, true))⟩, ⟨(some 18), (.bin .eql (.t 17) (.k (.int .i64 0))), (some (16, true))⟩, ⟨(some 19), (.pick (.t 16) (.t 18) (.k (.bool false))), none⟩, ⟨(some 20), (.mov (.t 19)), none⟩, ⟨(some 21), (.fad 0 (.t 4)), (some (20, true))⟩, ⟨(some 22), (.load true 16 (.t 21)), (some (20, true))⟩, ⟨(some 23), (.load true 16 (.t 3)), (some (20, true))⟩, ⟨(some 24), (.eqa false [.i, .i, .i, .i, .i, .i, .i, .i, .i, .i, .i, .i, .i, .i, .i, .i] (.t 22) (.t 23)), (some (20, true))⟩, ⟨(some 25), (.pick (.t 20) (.t 24) (.k (.bool false))), none⟩, ⟨(some 26), (.mov (.t 25)), none⟩, ⟨(some 27), (.fad 16 (.t 4)), (some (26, true))⟩, ⟨(some 28), (.load false 1 (.t 27)), (some (26, true))⟩, ⟨(some 29), (.bin .eql (.t 28) (.k (.int .i64 0))), (some (26, true))⟩, ⟨(some 30), (.pick (.t 26) (.t 29) (.k (.bool false))), none⟩, ⟨(some 31), (.mov (.t 30)), none⟩, ⟨(some 32), (.fad 18 (.t 4)), (some (31, true))⟩, ⟨(some 33), (.load false 1 (.t 32)), (some (31, true))⟩, ⟨(some 34), (.len (.t 33)), (some (31, true))⟩, ⟨(some 35), (.bin .eql (.t 34) (.k (.int .i64 0))), (some (31, true))⟩, ⟨(some 36), (.pick (.t 31) (.t 35) (.k (.bool false))), none⟩, ⟨(some 37), (.mov (.t 36)), none⟩, ⟨(some 38), (.fad 17 (.t 4)), (some (37, true))⟩, ⟨(some 39), (.fad 0 (.t 38)), (some (37, true))⟩, ⟨(some 40), (.load false 1 (.t 39)), (some (37, true))⟩, ⟨(some 41), (.len (.t 40)), (some (37, true))⟩, ⟨(some 42), (.fad 0 (.t 3)), (some (37, true))⟩, ⟨(some 43), (.load false 1 (.t 42)), (some (37, true))⟩, ⟨(some 44), (.bin .eql (.t 41) (.t 43)), (some (37, true))⟩, ⟨(some 45), (.pick (.t 37) (.t 44) (.k (.bool false))), none⟩, ⟨(some 46), (.mov (.t 45)), none⟩, ⟨(some 47), (.fad 22 (.t 4)), (some (46, true))⟩, ⟨(some 48), (.load false 1 (.t 47)), (some (46, true))⟩, ⟨(some 49), (.len (.t 48)), (some (46, true))⟩, ⟨(some 50), (.bin .eql (.t 49) (.k (.int .i64 12))), (some (46, true))⟩, ⟨(some 51), (.pick (.t 46) (.t 50) (.k (.bool false))), none⟩, ⟨(some 52), (.mov (.t 51)), none⟩, ⟨(some 53), (.fad 23 (.t 4)), (some (52, true))⟩, ⟨(some 54), (.fad 0 (.t 53)), (some (52, true))⟩, ⟨(some 55), (.load false 1 (.t 54)), (some (52, true))⟩, ⟨(some 56), (.fad 10 (.t 3)), (some (52, true))⟩, ⟨(some 57), (.fad 2 (.t 56)), (some (52, true))⟩, ⟨(some 58), (.load false 1 (.t 57)), (some (52, true))⟩, ⟨(some 59), (.fad 10 (.t 3)), (some (52, true))⟩, ⟨(some 60), (.fad 1 (.t 59)), (some (52, true))⟩, ⟨(some 61), (.load false 1 (.t 60)), (some (52, true))⟩, ⟨(some 62), (.bin .mul (.t 58) (.t 61)), (some (52, true))⟩, ⟨(some 63), (.bin .eql (.t 55) (.t 62)), (some (52, true))⟩, ⟨(some 64), (.pick (.t 52) (.t 63) (.k (.bool false))), none⟩, ⟨(some 65), (.mov (.t 64)), none⟩, ⟨(some 66), (.build [(.int .i64 0), (.int .i64 0), (.int .i64 0), (.int .i64 0), (.int .i64 0), (.int .i64 0), (.int .i64 0), (.int .i64 0), (.int .i64 0), (.int .i64 0), (.int .i64 0), (.int .i64 0), (.int .i64 0), (.int .i64 0), (.int .i64 0), (.int .i64 0)] []), (some (65, true))⟩, ⟨(some 67), (.call 29 [(.t 66)]), (some (65, true))⟩, ⟨(some 68), (.bin .eql (.t 67) (.k (.int .i64 2))), (some (65, true))⟩, ⟨(some 69), (.pick (.t 65) (.t 68) (.k (.bool false))), none⟩, ⟨(some 2), (.mov (.t 69)), none⟩]) .ret)))), [(.t 2)], 70⟩ := by kernel_rfl
theorem sixteen {r : List Int} (h : r.length = 16) : ∃ a0 a1 a2 a3 a4 a5 a6 a7 a8 a9 a10 a11 a12 a13 a14 a15, r = [a0, a1, a2, a3, a4, a5, a6, a7, a8, a9, a10, a11, a12, a13, a14, a15] := by
  match r, h with
  | [a0, a1, a2, a3, a4, a5, a6, a7, a8, a9, a10, a11, a12, a13, a14, a15], _ => exact ⟨_, _, _, _, _, _, _, _, _, _, _, _, _, _, _, _, rfl⟩
theorem cobeg_pf (l : List Int) (hl : l.length = 16 ∧ ∀ z ∈ l, InR z) : PF Try.prog 5 [.agg (l.map I)] (.bool true) := by
  obtain ⟨hl, hz⟩ := hl
  obtain ⟨a0, a1, a2, a3, a4, a5, a6, a7, a8, a9, a10, a11, a12, a13, a14, a15, rfl⟩ := sixteen hl
  have h1 := config_pf a0 a1 a2 a3 a4 a5 a6 a7 a8 a9 a10 a11 a12 a13 a14 a15 (hz _ (by simp)) (hz _ (by simp)) (hz _ (by simp)) (hz _ (by simp)) (hz _ (by simp)) (hz _ (by simp)) (hz _ (by simp)) (hz _ (by simp)) (hz _ (by simp)) (hz _ (by simp)) (hz _ (by simp)) (hz _ (by simp)) (hz _ (by simp)) (hz _ (by simp)) (hz _ (by simp)) (hz _ (by simp))
  have ok := cfgOf_ok a0 a1 a2 a3 a4 a5 a6 a7 a8 a9 a10 a11 a12 a13 a14 a15
  generalize cfgOf a0 a1 a2 a3 a4 a5 a6 a7 a8 a9 a10 a11 a12 a13 a14 a15 = c at h1 ok
  have h2 := cbegin_pf c ok
  have h3 := ccheck_pf c ok
  have h4 := ccheck0_pf
  have hf := ok.b.full
  have ir : InR (c.bud.burst * c.bud.den) := inR (by unfold Budget.full at hf; omega) (by unfold Budget.full at hf; omega)
  have hs := ok.w0
  have hs1 : ((c.slots.toNat : Nat) : Int) = c.slots := by omega
  unfold worldD at h2
  unfold Cfg.D at h1 h2 h3
  refine PF.of follows_ok cobeg_code (by simp) (by simp [argOk]) (by simp [noV, noC]) fun B hBN hB0 => acode_sound [0, 1, 2, 3, 4, 5] [] _ _ _ ?_
  repeat' (first
    | simp [AK_at, acode_seq, acode_region, acode_draw, acode_cond, ↓CB_t, ↓CB_f, CB_u, acode_block, acode_loop, acode_exit, acode_scope, acode_ret, acode_skip, seqQ_n, seqQ_e, seqQ_r, blockQ_n, blockQ_e, blockQ_r, TK_at, OK_at, SK_at, aops_nil, aops_cons, asch_done, asch_one, asch_two, asch_top, astep, aop_eq, isLoud, aloud, aloud1, isWrite, qv, evS, strip, gof, eget, hget, putO, eput, herase, oks, opnds, gS, afin, afin0, binD, arith, D.cells, takeD, fillD, keep, trim, envOf, Fin, aresl, aresv, resD, argOk, pickV, isP, deq, deqs, boundD, slD, lenD, isT, isSl, ptrIds, chunks, mn_min, mx_max, D.cells, splice_one, splice_more, Rbr_at, Rfr_at, frR, frV, frC, flatC, brwR, brwV, brwC, omap, leR, leV, leC, leL, leVL, ir, hs1, Budget.full]
    | (refine WCall.pf (h1) ?_ ?_ ?_ ?_; (focus (simp [oks, opnds, gS, gof, eget]; done)); (focus (simp [omap, brwV, brwC, evS, eget, strip, hget, leVL, leV, leC, leL, ir, hs1, Budget.full]; done)); (focus (simp [noV, noC, flatR, flatV, flatC, evS, eget, strip, ir, hs1, Budget.full]; done)))
    | (refine ⟨WCall.pf (h1) ?_ ?_ ?_ ?_, ?_⟩; (focus (simp [oks, opnds, gS, gof, eget]; done)); (focus (simp [omap, brwV, brwC, evS, eget, strip, hget, leVL, leV, leC, leL, ir, hs1, Budget.full]; done)); (focus (simp [noV, noC, flatR, flatV, flatC, evS, eget, strip, ir, hs1, Budget.full]; done)))
    | (refine WCall.pf (h2) ?_ ?_ ?_ ?_; (focus (simp [oks, opnds, gS, gof, eget]; done)); (focus (simp [omap, brwV, brwC, evS, eget, strip, hget, leVL, leV, leC, leL, ir, hs1, Budget.full]; done)); (focus (simp [noV, noC, flatR, flatV, flatC, evS, eget, strip, ir, hs1, Budget.full]; done)))
    | (refine ⟨WCall.pf (h2) ?_ ?_ ?_ ?_, ?_⟩; (focus (simp [oks, opnds, gS, gof, eget]; done)); (focus (simp [omap, brwV, brwC, evS, eget, strip, hget, leVL, leV, leC, leL, ir, hs1, Budget.full]; done)); (focus (simp [noV, noC, flatR, flatV, flatC, evS, eget, strip, ir, hs1, Budget.full]; done)))
    | (refine WCall.pf (h3) ?_ ?_ ?_ ?_; (focus (simp [oks, opnds, gS, gof, eget]; done)); (focus (simp [omap, brwV, brwC, evS, eget, strip, hget, leVL, leV, leC, leL, ir, hs1, Budget.full]; done)); (focus (simp [noV, noC, flatR, flatV, flatC, evS, eget, strip, ir, hs1, Budget.full]; done)))
    | (refine ⟨WCall.pf (h3) ?_ ?_ ?_ ?_, ?_⟩; (focus (simp [oks, opnds, gS, gof, eget]; done)); (focus (simp [omap, brwV, brwC, evS, eget, strip, hget, leVL, leV, leC, leL, ir, hs1, Budget.full]; done)); (focus (simp [noV, noC, flatR, flatV, flatC, evS, eget, strip, ir, hs1, Budget.full]; done)))
    | (refine WCall.pf (h4) ?_ ?_ ?_ ?_; (focus (simp [oks, opnds, gS, gof, eget]; done)); (focus (simp [omap, brwV, brwC, evS, eget, strip, hget, leVL, leV, leC, leL, ir, hs1, Budget.full]; done)); (focus (simp [noV, noC, flatR, flatV, flatC, evS, eget, strip, ir, hs1, Budget.full]; done)))
    | (refine ⟨WCall.pf (h4) ?_ ?_ ?_ ?_, ?_⟩; (focus (simp [oks, opnds, gS, gof, eget]; done)); (focus (simp [omap, brwV, brwC, evS, eget, strip, hget, leVL, leV, leC, leL, ir, hs1, Budget.full]; done)); (focus (simp [noV, noC, flatR, flatV, flatC, evS, eget, strip, ir, hs1, Budget.full]; done)))
    | (with_reducible refine And.intro (And.intro ?_ ?_) ?_)
    | fail)
end Go.Proofs.Ytfkeddefajkobaa

set_option linter.unusedSimpArgs false
set_option linter.unusedVariables false
namespace Go.Proofs.Ytfkeddefajkobaa
open Go.ChangeShapes Go.WideShapes Go.ChangeAt Go.RowKit

def numsE (r : List Int) : List Value := r.map (Value.int .i64)
def NumsOk (r : List Int) : Prop := ∀ z ∈ r, (Lit.int .i64 z).wf = true
/-- a type of n numbers in n cells -/
def Nums (P : Program) (t : TypeId) (n : Nat) : Prop :=
  ∀ {H : Type} {enc : TypeId × Value → H} {w : World} {base : Nat} {spare : Nat → Bool} {held : Bool} {fuel : Nat} {cs : List Value} {x : DataW H × List MemPlace},
    DataW.trod enc P w base spare held fuel t cs = some x → ∃ r : List Int, cs = numsE r ∧ r.length = n ∧ NumsOk r
theorem nums_of_cells (cs : List Value) (h : ∀ i, i < cs.length → ∃ z, cs[i]? = some (.int .i64 z) ∧ (Lit.int .i64 z).wf = true) : ∃ r : List Int, cs = numsE r ∧ NumsOk r := by
  induction cs with
  | nil => exact ⟨[], rfl, fun z hz => by cases hz⟩
  | cons v cs ih =>
    obtain ⟨z, hz, hw⟩ := h 0 (by simp)
    obtain ⟨r, rfl, hr⟩ := ih fun i hi => by have := h (i + 1) (by simpa using hi); simpa using this
    simp only [List.getElem?_cons_zero, Option.some.injEq] at hz
    subst hz
    refine ⟨z :: r, rfl, fun y hy => ?_⟩
    rcases List.mem_cons.1 hy with rfl | hy
    · exact hw
    · exact hr y hy
theorem Nums.struct {P : Program} {t : TypeId} {fs : Array Field} (ht : P.underlying t = some (.struct fs)) (hc : P.cellsOf t = fs.size)
    (hf : ∀ (i : Nat) (f : Field), fs[i]? = some f → f.offset = i ∧ P.cellsOf f.type = 1 ∧ P.underlying f.type = some (.int .i64)) : Nums P t fs.size := by
  intro H enc w base spare held fuel cs x h
  obtain ⟨xs, n, _, _, hl, hlen, hx⟩ := DataW.trod_struct ht h
  rw [hc] at hl
  obtain ⟨r, rfl, hr⟩ := nums_of_cells cs fun i hi => by
    rw [hl] at hi
    have hi' : i < xs.length := by omega
    have h1 := hx i fs[i] (by simp [hi])
    obtain ⟨h2, h3, h4⟩ := hf i fs[i] (by simp [hi])
    rw [h2, h3, List.getElem?_eq_getElem hi'] at h1
    obtain ⟨z, hz, _, hw⟩ := DataW.trod_int h4 h1
    refine ⟨z, ?_, hw⟩
    have := congrArg (fun l => l[0]?) hz
    simpa [List.getElem?_take, List.getElem?_drop] using this
  exact ⟨r, rfl, by simpa [numsE] using hl, hr⟩
theorem open_nums {H : Type} {enc : TypeId × Value → H} {P : Program} {w : World} {base : Nat} {spare : Nat → Bool} {held : Bool} {r0 : Reach} {b0 : Nat} {t e : TypeId} {n : Nat} {v : Value} {d : DataW H} {ps : List MemPlace}
    (ht : P.underlying t = some (.slice e)) (hc : P.cellsOf e = n) (hn0 : 0 < n) (hI : Nums P e n) (hv : Value.okWide P w r0 b0 t v) (h : DataW.Trod enc P w base spare held t v d ps) :
    ∃ rows : List (List Int), rows.length ≤ maxLen ∧ (∀ r ∈ rows, r.length = n ∧ NumsOk r) ∧ Sl w n numsE v rows := by
  obtain ⟨a0, len0, cap0, rfl⟩ := okWide_slice ht hv
  obtain ⟨fuel, hf⟩ := h
  rcases Go.Deep.open_slice ht hf with ⟨h0, _⟩ | ⟨a, len, cap, m, k, D, Pl, hcs, hb, hl, hm, hmm, _, hx⟩
  · simp only [Value.cells, List.cons.injEq, Value.slice.injEq, and_true] at h0
    obtain ⟨rfl, rfl, rfl⟩ := h0
    exact ⟨[], by simp, by simp, Sl.nil _ _ _⟩
  · simp only [Value.cells, List.cons.injEq, Value.slice.injEq, and_true] at hcs
    obtain ⟨e0, e1, e2⟩ := hcs
    subst e0 e1 e2
    rw [hc] at hx
    have hlm : len0 ≤ m := by rw [hmm]; split <;> omega
    have hrow : ∀ i, i < len0 → ∃ r : List Int, (r.length = n ∧ NumsOk r) ∧ ∀ j, j < n → w.cell? ((a.add (i * n)).add j) = (numsE r)[j]? := fun i hi => by
      obtain ⟨cs', h1, h2⟩ := hx i (by omega)
      obtain ⟨r, rfl, hr, hk⟩ := hI h2
      exact ⟨r, ⟨hr, hk⟩, (World.cells?_some h1).2.2⟩
    obtain ⟨f, hf'⟩ := Go.Deep.choose_lt hrow
    have hlen : ((List.range len0).map f).length = len0 := by simp
    refine ⟨(List.range len0).map f, by rw [hlen]; omega, fun r hr => ?_, some a, cap0, by rw [hlen], by rw [hlen]; exact hl, (fun h => by cases h), fun hne => ?_⟩
    · obtain ⟨i, hi, rfl⟩ := List.mem_map.1 hr
      exact (hf' i (List.mem_range.1 hi)).1
    · have h0 : 0 < len0 := by
        rcases Nat.eq_zero_or_pos len0 with rfl | h
        · simp at hne
        · exact h
      have hL : ∀ i, i < len0 → (numsE (f i)).length = n := fun i hi => by simp [numsE, (hf' i hi).1.1]
      have hc0 := (hf' 0 h0).2 0 hn0
      rw [List.getElem?_eq_getElem (by rw [hL 0 h0]; exact hn0)] at hc0
      obtain ⟨b, off, spot⟩ := a
      have hspot : spot = none := by simpa [Addr.add] using World.cell?_spot hc0
      subst hspot
      refine ⟨b, off, rfl, ?_, fun i x j u hxx hu => ?_⟩
      · obtain ⟨cs0, g1, _⟩ := hx 0 (by omega)
        simpa [Addr.add] using World.cells?_block g1 (by omega)
      · have hi : i < len0 := by
          have := (List.getElem?_eq_some_iff.1 hxx).1
          rwa [hlen] at this
        rw [List.getElem?_map, List.getElem?_range hi] at hxx
        simp only [Option.map_some, Option.some.injEq] at hxx
        subst hxx
        have hj : j < n := by
          have := (List.getElem?_eq_some_iff.1 hu).1
          rwa [hL i hi] at this
        rw [← hu, ← (hf' i hi).2 j hj, Go.Deep.add_add]
        congr 1
        unfold Addr.add
        split
        · rename_i hz
          obtain ⟨h1, h2⟩ : i * n = 0 ∧ j = 0 := by omega
          rw [h1, h2]; rfl
        · rw [Nat.add_assoc]
theorem Sl.map {α β : Type} {w : World} {sz : Nat} {E : α → List Value} {F : β → List Value} {v : Value} {xs : List α} (g : α → β) (h : Sl w sz E v xs) (hg : ∀ x ∈ xs, F (g x) = E x) : Sl w sz F v (xs.map g) := by
  obtain ⟨a, cap, h1, h2, h0, h3⟩ := h
  refine ⟨a, cap, by rw [h1, List.length_map], by rw [List.length_map]; exact h2, h0, fun hne => ?_⟩
  obtain ⟨b, off, h4, h5, h6⟩ := h3 (by simpa using hne)
  refine ⟨b, off, h4, h5, fun i x j u hx hu => ?_⟩
  rw [List.getElem?_map] at hx
  cases hxi : xs[i]? with
  | none => rw [hxi] at hx; cases hx
  | some y =>
    rw [hxi] at hx
    simp only [Option.map_some, Option.some.injEq] at hx
    subst hx
    exact h6 i y j u hxi (by rw [← hg y (List.mem_of_getElem? hxi)]; exact hu)
theorem nums_wf {z : Int} (h : (Lit.int .i64 z).wf = true) : -9223372036854775808 ≤ z ∧ z ≤ 9223372036854775807 := by
  have h1 : IntKind.i64.min = -9223372036854775808 := rfl
  have h2 : IntKind.i64.max = 9223372036854775807 := rfl
  simp only [Lit.wf, Bool.and_eq_true, decide_eq_true_eq] at h
  omega
end Go.Proofs.Ytfkeddefajkobaa

set_option linter.unusedSimpArgs false
set_option linter.unusedVariables false
set_option maxRecDepth 100000
namespace Go.Proofs.Ytfkeddefajkobaa
open Go.ChangeShapes Go.WideShapes Go.ChangeAt Go.RowKit

/-- what a type's cells may be -/
def Elt (P : Program) (t : TypeId) (n : Nat) {α : Type} (E : α → List Value) (ok : α → Prop) : Prop :=
  ∀ {H : Type} {enc : TypeId × Value → H} {w : World} {base : Nat} {spare : Nat → Bool} {held : Bool} {fuel : Nat} {cs : List Value} {x : DataW H × List MemPlace},
    DataW.trod enc P w base spare held fuel t cs = some x → ∃ r : α, cs = E r ∧ (E r).length = n ∧ ok r
theorem Elt.bool {P : Program} {t : TypeId} (ht : P.underlying t = some .bool) : Elt P t 1 (fun b : Bool => [Value.bool b]) (fun _ => True) := fun h => by
  obtain ⟨b, rfl, _⟩ := DataW.trod_bool ht h
  exact ⟨b, rfl, rfl, trivial⟩
theorem Elt.int {P : Program} {t : TypeId} (ht : P.underlying t = some (.int .i64)) : Elt P t 1 (fun z : Int => [Value.int .i64 z]) InR := fun h => by
  obtain ⟨z, rfl, _, hw⟩ := DataW.trod_int ht h
  exact ⟨z, rfl, rfl, nums_wf hw⟩
theorem Elt.nums {P : Program} {t : TypeId} {n : Nat} (h : Nums P t n) : Elt P t n numsE (fun r => r.length = n ∧ ∀ z ∈ r, InR z) := fun hx => by
  obtain ⟨r, rfl, hl, hk⟩ := h hx
  exact ⟨r, rfl, by simpa [numsE] using hl, hl, fun z hz => nums_wf (hk z hz)⟩
theorem open_elts {α : Type} [Inhabited α] {E : α → List Value} {ok : α → Prop} {H : Type} {enc : TypeId × Value → H} {P : Program} {w : World} {base : Nat} {spare : Nat → Bool} {held : Bool} {r0 : Reach} {b0 : Nat} {t e : TypeId} {n : Nat} {v : Value} {d : DataW H} {ps : List MemPlace}
    (ht : P.underlying t = some (.slice e)) (hc : P.cellsOf e = n) (hn0 : 0 < n) (hI : Elt P e n E ok) (hv : Value.okWide P w r0 b0 t v) (h : DataW.Trod enc P w base spare held t v d ps) :
    ∃ rows : List α, rows.length ≤ maxLen ∧ (∀ r ∈ rows, (E r).length = n ∧ ok r) ∧ Sl w n E v rows := by
  obtain ⟨a0, len0, cap0, rfl⟩ := okWide_slice ht hv
  obtain ⟨fuel, hf⟩ := h
  rcases Go.Deep.open_slice ht hf with ⟨h0, _⟩ | ⟨a, len, cap, m, k, D, Pl, hcs, hb, hl, hm, hmm, _, hx⟩
  · simp only [Value.cells, List.cons.injEq, Value.slice.injEq, and_true] at h0
    obtain ⟨rfl, rfl, rfl⟩ := h0
    exact ⟨[], by simp, by simp, Sl.nil _ _ _⟩
  · simp only [Value.cells, List.cons.injEq, Value.slice.injEq, and_true] at hcs
    obtain ⟨e0, e1, e2⟩ := hcs
    subst e0 e1 e2
    rw [hc] at hx
    have hlm : len0 ≤ m := by rw [hmm]; split <;> omega
    have hrow : ∀ i, i < len0 → ∃ r : α, ((E r).length = n ∧ ok r) ∧ ∀ j, j < n → w.cell? ((a.add (i * n)).add j) = (E r)[j]? := fun i hi => by
      obtain ⟨cs', h1, h2⟩ := hx i (by omega)
      obtain ⟨r, rfl, hr, hk⟩ := hI h2
      exact ⟨r, ⟨hr, hk⟩, (World.cells?_some h1).2.2⟩
    obtain ⟨f, hf'⟩ := Go.Deep.choose_lt hrow
    have hlen : ((List.range len0).map f).length = len0 := by simp
    refine ⟨(List.range len0).map f, by rw [hlen]; omega, fun r hr => ?_, some a, cap0, by rw [hlen], by rw [hlen]; exact hl, (fun h => by cases h), fun hne => ?_⟩
    · obtain ⟨i, hi, rfl⟩ := List.mem_map.1 hr
      exact (hf' i (List.mem_range.1 hi)).1
    · have h0 : 0 < len0 := by
        rcases Nat.eq_zero_or_pos len0 with rfl | h
        · simp at hne
        · exact h
      have hL : ∀ i, i < len0 → (E (f i)).length = n := fun i hi => (hf' i hi).1.1
      have hc0 := (hf' 0 h0).2 0 hn0
      rw [List.getElem?_eq_getElem (by rw [hL 0 h0]; exact hn0)] at hc0
      obtain ⟨b, off, spot⟩ := a
      have hspot : spot = none := by simpa [Addr.add] using World.cell?_spot hc0
      subst hspot
      refine ⟨b, off, rfl, ?_, fun i x j u hxx hu => ?_⟩
      · obtain ⟨cs0, g1, _⟩ := hx 0 (by omega)
        simpa [Addr.add] using World.cells?_block g1 (by omega)
      · have hi : i < len0 := by
          have := (List.getElem?_eq_some_iff.1 hxx).1
          rwa [hlen] at this
        rw [List.getElem?_map, List.getElem?_range hi] at hxx
        simp only [Option.map_some, Option.some.injEq] at hxx
        subst hxx
        have hj : j < n := by
          have := (List.getElem?_eq_some_iff.1 hu).1
          rwa [hL i hi] at this
        rw [← hu, ← (hf' i hi).2 j hj, Go.Deep.add_add]
        congr 1
        unfold Addr.add
        split
        · rename_i hz
          obtain ⟨h1, h2⟩ : i * n = 0 ∧ j = 0 := by omega
          rw [h1, h2]; rfl
        · rw [Nat.add_assoc]

theorem vt_bools {W : World} {v : Value} {l : List Bool} (h : Sl W 1 (fun b : Bool => [Value.bool b]) v l) : VT (allZ W) (.rows 1 (l.map fun b => [D.bool b])) v :=
  h.rows fun b _ => ⟨rfl, rfl, fun j d hd => by
    cases j with
    | zero => simp at hd; subst hd; exact ⟨_, rfl, fun Z => VT.bool b⟩
    | succ j => simp at hd⟩
theorem vt_ints {W : World} {v : Value} {l : List Int} (h : Sl W 1 (fun z : Int => [Value.int .i64 z]) v l) : VT (allZ W) (.rows 1 (l.map fun z => [I z])) v :=
  h.rows fun z _ => ⟨rfl, rfl, fun j d hd => by
    cases j with
    | zero => simp at hd; subst hd; exact ⟨_, rfl, fun Z => VT.int .i64 z⟩
    | succ j => simp at hd⟩
theorem vt_nums {W : World} {v : Value} {n : Nat} {l : List (List Int)} (h : Sl W n numsE v l) (hl : ∀ r ∈ l, r.length = n) : VT (allZ W) (.rows n (l.map fun r => r.map I)) v :=
  h.rows fun r hr => ⟨by simp [numsE, hl r hr], by simp [hl r hr], fun j d hd => by
    obtain ⟨z, hz, rfl⟩ := (map_get _ _ _ _).1 hd
    exact ⟨_, (map_get _ _ _ _).2 ⟨z, hz, rfl⟩, fun Z => VT.int .i64 z⟩⟩
theorem open_bools {H : Type} {enc : TypeId × Value → H} {w : World} {base : Nat} {spare : Nat → Bool} {held : Bool} {r0 : Reach} {b0 : Nat} {t e : TypeId} {v : Value} {d : DataW H} {ps : List MemPlace}
    (ht : Try.prog.underlying t = some (.slice e)) (hc : Try.prog.cellsOf e = 1) (he : Try.prog.underlying e = some .bool) (hv : Value.okWide Try.prog w r0 b0 t v) (h : DataW.Trod enc Try.prog w base spare held t v d ps) :
    ∃ l : List Bool, l.length ≤ maxLen ∧ VV s0 (allZ w) (.rows 1 (l.map fun b => [D.bool b])) v ∧ True := by
  obtain ⟨l, h1, _, h3⟩ := open_elts ht hc (by omega) (Elt.bool he) hv h
  exact ⟨l, h1, vt_bools h3, trivial⟩
theorem open_ints {H : Type} {enc : TypeId × Value → H} {w : World} {base : Nat} {spare : Nat → Bool} {held : Bool} {r0 : Reach} {b0 : Nat} {t e : TypeId} {v : Value} {d : DataW H} {ps : List MemPlace}
    (ht : Try.prog.underlying t = some (.slice e)) (hc : Try.prog.cellsOf e = 1) (he : Try.prog.underlying e = some (.int .i64)) (hv : Value.okWide Try.prog w r0 b0 t v) (h : DataW.Trod enc Try.prog w base spare held t v d ps) :
    ∃ l : List Int, l.length ≤ maxLen ∧ VV s0 (allZ w) (.rows 1 (l.map fun z => [I z])) v ∧ ∀ z ∈ l, InR z := by
  obtain ⟨l, h1, h2, h3⟩ := open_elts ht hc (by omega) (Elt.int he) hv h
  exact ⟨l, h1, vt_ints h3, fun z hz => (h2 z hz).2⟩
theorem open_rows {H : Type} {enc : TypeId × Value → H} {w : World} {base : Nat} {spare : Nat → Bool} {held : Bool} {r0 : Reach} {b0 : Nat} {t e : TypeId} {n : Nat} {v : Value} {d : DataW H} {ps : List MemPlace}
    (ht : Try.prog.underlying t = some (.slice e)) (hc : Try.prog.cellsOf e = n) (h0 : 0 < n) (he : Nums Try.prog e n) (hv : Value.okWide Try.prog w r0 b0 t v) (h : DataW.Trod enc Try.prog w base spare held t v d ps) :
    ∃ l : List (List Int), l.length ≤ maxLen ∧ VV s0 (allZ w) (.rows n (l.map fun r => r.map I)) v ∧ ∀ r ∈ l, r.length = n ∧ ∀ z ∈ r, InR z := by
  obtain ⟨l, h1, h2, h3⟩ := open_elts ht hc h0 (Elt.nums he) hv h
  exact ⟨l, h1, vt_nums h3 (fun r hr => (h2 r hr).2.1), fun r hr => (h2 r hr).2⟩
theorem laidOut : laidOutB Try.prog = true := by kernel_rfl
end Go.Proofs.Ytfkeddefajkobaa

set_option linter.unusedSimpArgs false
set_option linter.unusedVariables false
set_option maxRecDepth 100000
namespace Go.Proofs.Ytfkeddefajkobaa
open Go.ChangeShapes Go.WideShapes Go.ChangeAt Go.RowKit
theorem Nums.int {P : Program} {t : TypeId} (ht : P.underlying t = some (.int .i64)) : Nums P t 1 := by
  intro H enc w base spare held fuel cs x h
  obtain ⟨z, rfl, _, hw⟩ := DataW.trod_int ht h
  exact ⟨[z], rfl, rfl, fun y hy => by obtain rfl := List.mem_singleton.1 hy; exact hw⟩
theorem nums_cells {P : Program} {t : TypeId} {m : Nat} (hI : Nums P t m) {H : Type} {enc : TypeId × Value → H} {w : World} {base : Nat} {spare : Nat → Bool} {held : Bool} {fuel : Nat} {cs : List Value} {x : DataW H × List MemPlace} {off k : Nat}
    (h : DataW.trod enc P w base spare held fuel t ((cs.drop off).take k) = some x) {j : Nat} (h1 : off ≤ j) (h2 : j < off + k) (h3 : j < cs.length) : ∃ z, cs[j]? = some (.int .i64 z) ∧ (Lit.int .i64 z).wf = true := by
  obtain ⟨r, hr, _, hok⟩ := hI h
  have e : cs[j]? = (numsE r)[j - off]? := by
    rw [← hr, List.getElem?_take, if_pos (by omega), List.getElem?_drop]
    congr 1; omega
  have hlt : j - off < r.length := by
    have hl := congrArg List.length hr
    simp [numsE] at hl
    omega
  refine ⟨r[j - off], ?_, hok _ (List.getElem_mem hlt)⟩
  rw [e]
  simp [numsE, List.getElem?_eq_getElem hlt]
theorem Nums.arr {P : Program} {t e : TypeId} {m : Nat} (ht : P.underlying t = some (.array m e)) (he : P.underlying e = some (.int .i64)) (hc : P.cellsOf e = 1) (hn : P.cellsOf t = m) : Nums P t m := by
  intro H enc w base spare held fuel cs x h
  obtain ⟨xs, n, _, _, hl, hlen, hx⟩ := DataW.trod_array ht h
  rw [hn] at hl
  obtain ⟨r, rfl, hr⟩ := nums_of_cells cs fun i hi => by
    have h1 := hx i (by omega)
    rw [List.getElem?_eq_getElem (by omega)] at h1
    exact nums_cells (Nums.int he) h1 (by rw [hc]; omega) (by rw [hc]; omega) hi
  exact ⟨r, rfl, by simpa [numsE] using hl, hr⟩
theorem Nums.structG {P : Program} {t : TypeId} {fs : Array Field} {n : Nat} (ht : P.underlying t = some (.struct fs)) (hc : P.cellsOf t = n)
    (cover : ((List.range n).all fun j => (List.range fs.size).any fun i => match fs[i]? with | some f => decide (f.offset ≤ j) && decide (j < f.offset + P.cellsOf f.type) | none => false) = true)
    (hf : ∀ (i : Nat) (f : Field), fs[i]? = some f → ∃ m, Nums P f.type m) : Nums P t n := by
  intro H enc w base spare held fuel cs x h
  obtain ⟨xs, m, _, _, hl, hlen, hx⟩ := DataW.trod_struct ht h
  rw [hc] at hl
  obtain ⟨r, rfl, hr⟩ := nums_of_cells cs fun j hj => by
    have h0 := List.all_eq_true.1 cover j (List.mem_range.2 (by omega))
    obtain ⟨i, hi, h1⟩ := List.any_eq_true.1 h0
    have hi' := List.mem_range.1 hi
    have hfi : fs[i]? = some fs[i] := by simp [hi']
    rw [hfi] at h1
    simp only [Bool.and_eq_true, decide_eq_true_eq] at h1
    have h2 := hx i fs[i] hfi
    rw [List.getElem?_eq_getElem (by omega)] at h2
    obtain ⟨m', hm⟩ := hf i fs[i] hfi
    exact nums_cells hm h2 h1.1 h1.2 hj
  exact ⟨r, rfl, by simpa [numsE] using hl, hr⟩
end Go.Proofs.Ytfkeddefajkobaa

set_option linter.unusedSimpArgs false
set_option linter.unusedVariables false
namespace Go.Proofs.Ytfkeddefajkobaa
open Go.RowKit
theorem WCall.pfv {P : Program} {sb : Bool} {B : Base} {st : St} {K : St → Prop} {x : Opd} {f : FuncId} {cs : List D} {as_ : List Opd} {es : List D} {d : D} {dst : Option Nat} (hpf : PF P f es d) (hok : oks st.env (.callv x as_) = true) (hf : evS st.env x = .fn f cs)
    (hes : match omap (brwV st.heap) (as_.map (evS st.env) ++ cs) with | some e => leVL e es | none => False) (hno : ((as_.map (evS st.env) ++ cs).all noV || flatR d) = true)
    (hK : K ⟨putO st.env dst d, st.heap, st.nx⟩) : WCall P sb B (.callv x as_) dst st K := WCall.ofv hok hf (CallOk.pf hpf hes hno hK)
end Go.Proofs.Ytfkeddefajkobaa

set_option linter.unusedSimpArgs false
set_option linter.unusedVariables false
set_option maxRecDepth 100000
set_option maxHeartbeats 2000000
namespace Go.Proofs.Ytfkeddefajkobaa
open Go.RowKit
theorem inW {z : Int} (h1 : -9223372036854775808 ≤ z) (h2 : z ≤ 9223372036854775807) : InR z := ⟨h1, h2⟩
def PB (z : Int) : List D := [.int .u8 z]
def Byte (c : Int) : Prop := 0 ≤ c ∧ c < 256
theorem and127 {c : Int} (h : Byte c) : iand .u8 c 127 = c % 128 := by
  have key : ∀ x : _root_.Fin 256, iand .u8 (x.val : Int) 127 = (x.val : Int) % 128 := by decide +kernel
  obtain ⟨h1, h2⟩ := h
  have := key ⟨c.toNat, by omega⟩
  simp only [Int.toNat_of_nonneg h1] at this
  exact this
theorem or128 {m : Int} (h : 0 ≤ m) : ior .u8 (IntKind.u8.wrap m) 128 = m % 128 + 128 := by
  have key : ∀ x : _root_.Fin 256, ior .u8 (x.val : Int) 128 = (x.val : Int) % 128 + 128 := by decide +kernel
  have hw : IntKind.u8.wrap m = m % 256 := by rw [IntKind.wrap_u8]
  have := key ⟨(m % 256).toNat, by omega⟩
  simp only [Int.toNat_of_nonneg (show 0 ≤ m % 256 by omega)] at this
  rw [hw, this]
  omega
theorem or_lo (a b s : Nat) (ha : a < 2 ^ s) (hb : b * 2 ^ s < 9223372036854775808) (hs : 2 ^ s ≤ 9223372036854775808) : ior .i64 (a : Int) ((b : Int) * 2 ^ s) = (a : Int) + (b : Int) * 2 ^ s := by
  have e3 : ((b : Int) * 2 ^ s) = ((b * 2 ^ s : Nat) : Int) := by rw [Int.natCast_mul, Int.natCast_pow]; rfl
  have e4 : b * 2 ^ s ||| a = 2 ^ s * b + a := by rw [Nat.two_pow_add_eq_or_of_lt ha, Nat.mul_comm]
  have hlt : (b * 2 ^ s ||| a) < 2 ^ 63 := Nat.or_lt_two_pow (n := 63) (by omega) (by omega)
  rw [e4, Nat.mul_comm] at hlt
  rw [e3]
  generalize hy : b * 2 ^ s = y at *
  show IntKind.i64.wrap ((BitVec.ofInt 64 (a : Int) ||| BitVec.ofInt 64 (y : Int)).toNat : Int) = _
  rw [BitVec.toNat_or, ofInt_u64 a (by omega), ofInt_u64 y (by omega), IntKind.wrap_i64, Nat.or_comm, e4, Nat.mul_comm, hy]
  omega
def encF : Nat → Int → List Int
  | 0, n => [n]
  | k + 1, n => if n < 128 then [n] else (n % 128 + 128) :: encF k (n / 128)
theorem wput_code : cfun Try.prog [] 66 = some ⟨(.seq (.region 0 [⟨(some 4), (.mov (.k .nil0)), none⟩]) (.seq (.block 0 (.loop (.seq (.seq (.region 1 [⟨(some 5), (.mov (.t 1)), none⟩, ⟨(some 6), (.bin .geq (.t 5) (.k (.int .i64 128))), none⟩]) (.cond 6 .skip (.exit 0))) (.seq (.block 1 (.region 3 [⟨(some 9), (.mov (.t 0)), none⟩, ⟨(some 10), (.mov (.t 1)), none⟩, ⟨(some 11), (.conv .u8 (.t 10)), none⟩, ⟨(some 12), (.bin .or (.t 11) (.k (.int .u8 128))), none⟩, ⟨(some 13), (.bslice 1 1 [(.int .u8 0)] [(0, (.t 12))]), none⟩, ⟨(some 14), (.app 1 1 [(.int .u8 0)] (.t 9) (.t 13)), none⟩, ⟨(some 0), (.mov (.t 14)), none⟩])) (.region 2 [⟨(some 7), (.mov (.t 1)), none⟩, ⟨(some 8), (.bin .shr (.t 7) (.k (.int .u64 7))), none⟩, ⟨(some 1), (.mov (.t 8)), none⟩]))))) (.seq (.region 4 [⟨(some 15), (.mov (.t 0)), none⟩, ⟨(some 16), (.mov (.t 1)), none⟩, ⟨(some 17), (.conv .u8 (.t 16)), none⟩, ⟨(some 18), (.bslice 1 1 [(.int .u8 0)] [(0, (.t 17))]), none⟩, ⟨(some 19), (.app 1 1 [(.int .u8 0)] (.t 15) (.t 18)), none⟩, ⟨(some 4), (.mov (.t 19)), none⟩]) .ret))), [(.t 4)], 20⟩ := by kernel_rfl
theorem wput_hf (b : List Int) (n : Int) (hb : b.length < 1000) (h0 : 0 ≤ n) (h1 : n < 34359738368) :
    HF Try.prog 66 [.own 0, I n] [(0, .row 1 (b.map PB))] 1 (fun d H' nx' => ∃ x, d = .own 3 ∧ H' = [(3, .row 1 ((b ++ encF 4 n).map PB)), (2, .row 1 [x])] ∧ nx' = 4) := by
  refine HF.of follows_ok wput_code (by simp) (by simp [argOk]) (by simp [LtV, LtC]) fun B hBN hB0 => acode_sound [0, 1, 4, 6] [] _ _ _ ?_
  simp [AK_at, acode_seq, acode_region, acode_draw, acode_cond, ↓CB_t, ↓CB_f, CB_u, acode_block, acode_loop, acode_exit, acode_scope, acode_ret, acode_skip, seqQ_n, seqQ_e, seqQ_r, blockQ_n, blockQ_e, blockQ_r, TK_at, OK_at, SK_at, aops_nil, aops_cons, asch_done, asch_one, asch_two, asch_top, astep, aop_eq, isLoud, aloud, aloud1, isWrite, qv, evS, strip, gof, eget, hget, putO, eput, herase, oks, opnds, gS, afin, afin0, binD, arith, D.cells, takeD, fillD, keep, trim, envOf, Fin, aresl, aresv, resD, argOk, pickV, isP, deq, deqs, boundD, slD, lenD, isT, isSl, ptrIds, chunks, mn_min, mx_max, D.cells, splice_one, splice_more, Rbr_at, Rfr_at, frR, frV, frC, flatC, brwR, brwV, brwC, omap, leR, leV, leC, leL, leVL]
  refine W.loopS (fun y : Nat × Int × List Int × Nat => ⟨[(1, I y.2.1), (0, .own y.1)], [(y.1, .row 1 (y.2.2.1.map PB))], 2⟩)
    (fun m y => m = y.2.2.2 ∧ y.1 < 2 ∧ 0 ≤ y.2.1 ∧ y.2.1 < 128 * 128 ^ y.2.2.2 ∧ y.2.2.1.length + y.2.2.2 ≤ b.length + 4 ∧ y.2.2.1 ++ encF y.2.2.2 y.2.1 = b ++ encF 4 n) ?_ ?_
  · exact ⟨_, (0, n, b, 4), (Gh.ren [] (by simp [hB0]) (by simp [hB0] <;> decide) (by simp [eget, rnS, rnR, rnV, rnC, LtS, LtR, LtV, LtC, lget]) (by simp [hget, rnO, rnC, LtO, LtC, lget]) (.inr rfl)), rfl, by simp, h0, by simp only; omega, by simp only; omega, rfl⟩
  rintro k ⟨id, m, out, j⟩ ⟨hk, hid, hm0, hm1, hlen, henc⟩
  simp only at hk hid hm0 hm1 hlen henc
  refine acode_sound [0, 1, 4, 6] [] _ _ _ ?_
  have hor := or128 hm0
  have hcap : out.length + 1 ≤ 140737488355328 := by omega
  have hid2 : id = 0 ∨ id = 1 := by omega
  by_cases hlt : 128 ≤ m
  · have hj : 0 < j := by
      rcases Nat.eq_zero_or_pos j with rfl | h
      · simp at hm1; omega
      · exact h
    obtain ⟨j, rfl⟩ : ∃ i, j = i + 1 := ⟨j - 1, by omega⟩
    have hst : encF (j + 1) m = (m % 128 + 128) :: encF j (m / 128) := by simp only [encF]; rw [if_neg (by omega)]
    rw [hst] at henc
    rw [Int.pow_succ] at hm1
    obtain ⟨p, hp⟩ : ∃ p : Int, p = 128 ^ j := ⟨_, rfl⟩
    rw [← hp] at hm1
    have hm2 : m / 128 < 128 * p := by omega
    rw [hp] at hm2
    have hsh : m / 2 ^ min 7 IntKind.i64.bits = m / 128 := rfl
    rcases hid2 with rfl | rfl
    · simp [AK_at, acode_seq, acode_region, acode_draw, acode_cond, ↓CB_t, ↓CB_f, CB_u, acode_block, acode_loop, acode_exit, acode_scope, acode_ret, acode_skip, seqQ_n, seqQ_e, seqQ_r, blockQ_n, blockQ_e, blockQ_r, TK_at, OK_at, SK_at, aops_nil, aops_cons, asch_done, asch_one, asch_two, asch_top, astep, aop_eq, isLoud, aloud, aloud1, isWrite, qv, evS, strip, gof, eget, hget, putO, eput, herase, oks, opnds, gS, afin, afin0, binD, arith, D.cells, takeD, fillD, keep, trim, envOf, Fin, aresl, aresv, resD, argOk, pickV, isP, deq, deqs, boundD, slD, lenD, isT, isSl, ptrIds, chunks, mn_min, mx_max, D.cells, splice_one, splice_more, Rbr_at, Rfr_at, frR, frV, frC, flatC, brwR, brwV, brwC, omap, leR, leV, leC, leL, leVL, hlt, hor, hcap, PB, hsh]
      exact ⟨_, (1, m / 128, out ++ [m % 128 + 128], j), (Gh.ren [0, 3] (by simp [hB0]) (by simp [hB0] <;> decide) (by simp [eget, rnS, rnR, rnV, rnC, LtS, LtR, LtV, LtC, lget, PB, hsh]) (by simp [hget, rnO, rnC, LtO, LtC, lget, PB, hsh]) (.inl (by simp [lget, PB, hsh]))), (show j < k by omega), rfl, by simp, by simp only; omega, hm2, by simp; omega, by simp only; rw [← henc]; simp⟩
    · simp [AK_at, acode_seq, acode_region, acode_draw, acode_cond, ↓CB_t, ↓CB_f, CB_u, acode_block, acode_loop, acode_exit, acode_scope, acode_ret, acode_skip, seqQ_n, seqQ_e, seqQ_r, blockQ_n, blockQ_e, blockQ_r, TK_at, OK_at, SK_at, aops_nil, aops_cons, asch_done, asch_one, asch_two, asch_top, astep, aop_eq, isLoud, aloud, aloud1, isWrite, qv, evS, strip, gof, eget, hget, putO, eput, herase, oks, opnds, gS, afin, afin0, binD, arith, D.cells, takeD, fillD, keep, trim, envOf, Fin, aresl, aresv, resD, argOk, pickV, isP, deq, deqs, boundD, slD, lenD, isT, isSl, ptrIds, chunks, mn_min, mx_max, D.cells, splice_one, splice_more, Rbr_at, Rfr_at, frR, frV, frC, flatC, brwR, brwV, brwC, omap, leR, leV, leC, leL, leVL, hlt, hor, hcap, PB, hsh]
      exact ⟨_, (1, m / 128, out ++ [m % 128 + 128], j), (Gh.ren [0, 3] (by simp [hB0]) (by simp [hB0] <;> decide) (by simp [eget, rnS, rnR, rnV, rnC, LtS, LtR, LtV, LtC, lget, PB, hsh]) (by simp [hget, rnO, rnC, LtO, LtC, lget, PB, hsh]) (.inl (by simp [lget, PB, hsh]))), (show j < k by omega), rfl, by simp, by simp only; omega, hm2, by simp; omega, by simp only; rw [← henc]; simp⟩
  · have hst : encF j m = [m] := by
      cases j with
      | zero => rfl
      | succ j => simp only [encF]; rw [if_pos (by omega)]
    rw [hst] at henc
    have hmap := congrArg (List.map PB) henc
    simp [PB] at hmap
    have hw : IntKind.u8.wrap m = m := by rw [IntKind.wrap_u8]; omega
    rcases hid2 with rfl | rfl
    · simp [AK_at, acode_seq, acode_region, acode_draw, acode_cond, ↓CB_t, ↓CB_f, CB_u, acode_block, acode_loop, acode_exit, acode_scope, acode_ret, acode_skip, seqQ_n, seqQ_e, seqQ_r, blockQ_n, blockQ_e, blockQ_r, TK_at, OK_at, SK_at, aops_nil, aops_cons, asch_done, asch_one, asch_two, asch_top, astep, aop_eq, isLoud, aloud, aloud1, isWrite, qv, evS, strip, gof, eget, hget, putO, eput, herase, oks, opnds, gS, afin, afin0, binD, arith, D.cells, takeD, fillD, keep, trim, envOf, Fin, aresl, aresv, resD, argOk, pickV, isP, deq, deqs, boundD, slD, lenD, isT, isSl, ptrIds, chunks, mn_min, mx_max, D.cells, splice_one, splice_more, Rbr_at, Rfr_at, frR, frV, frC, flatC, brwR, brwV, brwC, omap, leR, leV, leC, leL, leVL, hlt, hcap, PB, hw]
      exact hmap
    · simp [AK_at, acode_seq, acode_region, acode_draw, acode_cond, ↓CB_t, ↓CB_f, CB_u, acode_block, acode_loop, acode_exit, acode_scope, acode_ret, acode_skip, seqQ_n, seqQ_e, seqQ_r, blockQ_n, blockQ_e, blockQ_r, TK_at, OK_at, SK_at, aops_nil, aops_cons, asch_done, asch_one, asch_two, asch_top, astep, aop_eq, isLoud, aloud, aloud1, isWrite, qv, evS, strip, gof, eget, hget, putO, eput, herase, oks, opnds, gS, afin, afin0, binD, arith, D.cells, takeD, fillD, keep, trim, envOf, Fin, aresl, aresv, resD, argOk, pickV, isP, deq, deqs, boundD, slD, lenD, isT, isSl, ptrIds, chunks, mn_min, mx_max, D.cells, splice_one, splice_more, Rbr_at, Rfr_at, frR, frV, frC, flatC, brwR, brwV, brwC, omap, leR, leV, leC, leL, leVL, hlt, hcap, PB, hw]
      exact hmap
def getM : List Int → Nat → Int → Int × Int × Int
  | [], _, _ => (0, 0, 4)
  | c :: r, i, n => if i = 6 then (0, 0, 2) else if c < 128 then (if c = 0 ∧ 0 < i then (0, 0, 3) else (n + c * 2 ^ (7 * i), (i : Int) + 1, 0)) else getM r (i + 1) (n + c % 128 * 2 ^ (7 * i))
def getD3 (r : Int × Int × Int) : D := .tup [I r.1, I r.2.1, I r.2.2]
theorem wget_code : cfun Try.prog [] 64 = some ⟨(.seq (.region 0 [⟨(some 2), (.mov (.k (.int .i64 0))), none⟩, ⟨(some 3), (.mov (.k (.int .i64 0))), none⟩, ⟨(some 4), (.mov (.k (.int .i64 0))), none⟩]) (.seq (.seq (.region 1 [⟨(some 7), (.mov (.t 0)), none⟩, ⟨(some 8), (.len (.t 7)), none⟩, ⟨(some 9), (.mov (.k (.int .i64 0))), none⟩]) (.block 0 (.loop (.seq (.region 2 [⟨(some 10), (.bin .lss (.t 9) (.t 8)), none⟩]) (.seq (.cond 10 .skip (.exit 0)) (.seq (.block 1 (.seq (.region 3 [⟨(some 11), (.mov (.t 9)), none⟩, ⟨(some 12), (.iads 1 (.t 7) (.t 9)), none⟩, ⟨(some 13), (.load false 1 (.t 12)), none⟩, ⟨(some 5), (.mov (.t 11)), none⟩, ⟨(some 6), (.mov (.t 13)), none⟩]) (.seq (.seq (.region 4 [⟨(some 14), (.mov (.t 5)), none⟩, ⟨(some 15), (.bin .eql (.t 14) (.k (.int .i64 6))), none⟩]) (.cond 15 (.seq (.region 5 [⟨(some 2), (.mov (.k (.int .i64 0))), none⟩, ⟨(some 3), (.mov (.k (.int .i64 0))), none⟩, ⟨(some 4), (.mov (.k (.int .i64 2))), none⟩]) .ret) .skip)) (.seq (.region 6 [⟨(some 16), (.mov (.t 2)), none⟩, ⟨(some 17), (.mov (.t 6)), none⟩, ⟨(some 18), (.bin .and (.t 17) (.k (.int .u8 127))), none⟩, ⟨(some 19), (.conv .i64 (.t 18)), none⟩, ⟨(some 20), (.mov (.t 5)), none⟩, ⟨(some 21), (.bin .mul (.k (.int .i64 7)) (.t 20)), none⟩, ⟨(some 22), (.bin .shl (.t 19) (.t 21)), none⟩, ⟨(some 23), (.bin .or (.t 16) (.t 22)), none⟩, ⟨(some 2), (.mov (.t 23)), none⟩]) (.seq (.region 7 [⟨(some 24), (.mov (.t 6)), none⟩, ⟨(some 25), (.bin .lss (.t 24) (.k (.int .u8 128))), none⟩]) (.cond 25 (.seq (.seq (.region 8 [⟨(some 26), (.mov (.t 6)), none⟩, ⟨(some 27), (.bin .eql (.t 26) (.k (.int .u8 0))), none⟩, ⟨(some 28), (.mov (.t 27)), none⟩, ⟨(some 29), (.mov (.t 5)), (some (28, true))⟩, ⟨(some 30), (.bin .gtr (.t 29) (.k (.int .i64 0))), (some (28, true))⟩, ⟨(some 31), (.pick (.t 28) (.t 30) (.k (.bool false))), none⟩]) (.cond 31 (.seq (.region 9 [⟨(some 2), (.mov (.k (.int .i64 0))), none⟩, ⟨(some 3), (.mov (.k (.int .i64 0))), none⟩, ⟨(some 4), (.mov (.k (.int .i64 3))), none⟩]) .ret) .skip)) (.seq (.region 10 [⟨(some 32), (.mov (.t 2)), none⟩, ⟨(some 33), (.mov (.t 5)), none⟩, ⟨(some 34), (.bin .add (.t 33) (.k (.int .i64 1))), none⟩, ⟨(some 2), (.mov (.t 32)), none⟩, ⟨(some 3), (.mov (.t 34)), none⟩, ⟨(some 4), (.mov (.k (.int .i64 0))), none⟩]) .ret)) .skip)))))) (.region 11 [⟨(some 35), (.bin .add (.t 9) (.k (.int .i64 1))), none⟩, ⟨(some 9), (.mov (.t 35)), none⟩]))))))) (.seq (.region 12 [⟨(some 2), (.mov (.k (.int .i64 0))), none⟩, ⟨(some 3), (.mov (.k (.int .i64 0))), none⟩, ⟨(some 4), (.mov (.k (.int .i64 4))), none⟩]) .ret))), [(.t 2), (.t 3), (.t 4)], 36⟩ := by kernel_rfl
theorem wget_pf (b : List Int) (hb : ∀ c ∈ b, Byte c) (hl : b.length < 1000) : PF Try.prog 64 [.rows 1 (b.map PB)] (getD3 (getM b 0 0)) := by
  refine PF.of follows_ok wget_code (by simp) (by simp [argOk]) (by simp [noV, noC]) fun B hBN hB0 => acode_sound [0, 2, 3, 4, 5, 6, 7, 8, 9, 10, 15, 25, 31] [] _ _ _ ?_
  simp [AK_at, acode_seq, acode_region, acode_draw, acode_cond, ↓CB_t, ↓CB_f, CB_u, acode_block, acode_loop, acode_exit, acode_scope, acode_ret, acode_skip, seqQ_n, seqQ_e, seqQ_r, blockQ_n, blockQ_e, blockQ_r, TK_at, OK_at, SK_at, aops_nil, aops_cons, asch_done, asch_one, asch_two, asch_top, astep, aop_eq, isLoud, aloud, aloud1, isWrite, qv, evS, strip, gof, eget, hget, putO, eput, herase, oks, opnds, gS, afin, afin0, binD, arith, D.cells, takeD, fillD, keep, trim, envOf, Fin, aresl, aresv, resD, argOk, pickV, isP, deq, deqs, boundD, slD, lenD, isT, isSl, ptrIds, chunks, mn_min, mx_max, D.cells, splice_one, splice_more, Rbr_at, Rfr_at, frR, frV, frC, flatC, brwR, brwV, brwC, omap, leR, leV, leC, leL, leVL]
  refine W.loopS (fun y : Nat × Int => ⟨[(9, I y.1), (8, I b.length), (7, D.rows 1 (b.map PB)), (2, I y.2)], [], 0⟩)
    (fun k y => k = b.length - y.1 ∧ y.1 ≤ b.length ∧ y.1 ≤ 6 ∧ 0 ≤ y.2 ∧ y.2 < 2 ^ (7 * y.1) ∧ getM (b.drop y.1) y.1 y.2 = getM b 0 0) ?_ ?_
  · exact ⟨_, (0, 0), (Gh.ren [] (by simp [hB0]) (by simp [hB0] <;> decide) (by simp [eget, rnS, rnR, rnV, rnC, LtS, LtR, LtV, LtC, lget]) (by simp [hget, rnO, rnC, LtO, LtC, lget]) (.inr rfl)), rfl, by omega, by simp, by simp, by simp, by simp⟩
  rintro k ⟨i, n⟩ ⟨hk, hi, hi6, hn0, hn1, hg⟩
  simp only at hk hi hi6 hn0 hn1 hg
  refine acode_sound [0, 2, 3, 4, 5, 6, 7, 8, 9, 10, 15, 25, 31] [] _ _ _ ?_
  by_cases hlt : i < b.length
  · obtain ⟨c, hc⟩ : ∃ c, c = b[i] := ⟨_, rfl⟩
    have hcb : Byte c := hb c (hc ▸ List.getElem_mem hlt)
    have hand := and127 hcb
    obtain ⟨hc0, hc1⟩ := hcb
    have hd : b.drop i = c :: b.drop (i + 1) := by rw [hc]; exact List.drop_eq_getElem_cons hlt
    rw [hd] at hg
    simp only [getM] at hg
    have ii : InR ((i : Int) + 1) := inW (by omega) (by omega)
    by_cases h6 : i = 6
    · subst h6
      rw [if_pos rfl] at hg
      have hltI : (6 : Int) < b.length := by omega
      simp [AK_at, acode_seq, acode_region, acode_draw, acode_cond, ↓CB_t, ↓CB_f, CB_u, acode_block, acode_loop, acode_exit, acode_scope, acode_ret, acode_skip, seqQ_n, seqQ_e, seqQ_r, blockQ_n, blockQ_e, blockQ_r, TK_at, OK_at, SK_at, aops_nil, aops_cons, asch_done, asch_one, asch_two, asch_top, astep, aop_eq, isLoud, aloud, aloud1, isWrite, qv, evS, strip, gof, eget, hget, putO, eput, herase, oks, opnds, gS, afin, afin0, binD, arith, D.cells, takeD, fillD, keep, trim, envOf, Fin, aresl, aresv, resD, argOk, pickV, isP, deq, deqs, boundD, slD, lenD, isT, isSl, ptrIds, chunks, mn_min, mx_max, D.cells, splice_one, splice_more, Rbr_at, Rfr_at, frR, frV, frC, flatC, brwR, brwV, brwC, omap, leR, leV, leC, leL, leVL, hlt, hltI, ← hc, PB, getD3, ← hg]
      done
    · rw [if_neg h6] at hg
      have h6' : ¬ (i : Int) = 6 := by omega
      have hp : (2 : Int) ^ (7 * i) ≤ 2 ^ 35 ∧ (0 : Int) < 2 ^ (7 * i) := by
        have : i = 0 ∨ i = 1 ∨ i = 2 ∨ i = 3 ∨ i = 4 ∨ i = 5 := by omega
        rcases this with rfl | rfl | rfl | rfl | rfl | rfl <;> simp
      have hpn : (2 : Nat) ^ (7 * i) ≤ 2 ^ 35 := Nat.pow_le_pow_right (by omega) (by omega)
      have i7 : InR (7 * (i : Int)) := inW (by omega) (by omega)
      have ic : InR (c % 128) := inW (by omega) (by omega)
      have hmin : min (7 * (i : Int)).toNat IntKind.i64.bits = 7 * i := by show min (7 * (i : Int)).toNat 64 = 7 * i; omega
      have hmul : c % 128 * 2 ^ (7 * i) ≤ 127 * 2 ^ 35 := Int.mul_le_mul (by omega) hp.1 (by omega) (by omega)
      have hmul0 : 0 ≤ c % 128 * 2 ^ (7 * i) := Int.mul_nonneg (by omega) (by omega)
      have is : InR (c % 128 * 2 ^ (7 * i)) := inW (by omega) (by omega)
      have h70 : (0 : Int) ≤ 7 * i := by omega
      have hor : ior .i64 n (c % 128 * 2 ^ (7 * i)) = n + c % 128 * 2 ^ (7 * i) := by
        obtain ⟨n', rfl⟩ := Int.eq_ofNat_of_zero_le hn0
        obtain ⟨c', hc'⟩ := Int.eq_ofNat_of_zero_le (show 0 ≤ c % 128 by omega)
        rw [hc']
        have e : ((c' * 2 ^ (7 * i) : Nat) : Int) = c % 128 * 2 ^ (7 * i) := by rw [hc', Int.natCast_mul, Int.natCast_pow]; rfl
        exact or_lo n' c' (7 * i) (by have : ((2 ^ (7 * i) : Nat) : Int) = 2 ^ (7 * i) := Int.natCast_pow 2 _; omega) (by omega) (by omega)
      by_cases h128 : c < 128
      · rw [if_pos h128] at hg
        by_cases hz : c = 0 ∧ 0 < i
        · rw [if_pos hz] at hg
          obtain ⟨hz1, hz2⟩ := hz
          have iz : InR 0 := inW (by omega) (by omega)
          subst hz1
          have hor0 : ior .i64 n 0 = n := by simpa using hor
          have hz2' : (0 : Int) < i := by omega
          simp [AK_at, acode_seq, acode_region, acode_draw, acode_cond, ↓CB_t, ↓CB_f, CB_u, acode_block, acode_loop, acode_exit, acode_scope, acode_ret, acode_skip, seqQ_n, seqQ_e, seqQ_r, blockQ_n, blockQ_e, blockQ_r, TK_at, OK_at, SK_at, aops_nil, aops_cons, asch_done, asch_one, asch_two, asch_top, astep, aop_eq, isLoud, aloud, aloud1, isWrite, qv, evS, strip, gof, eget, hget, putO, eput, herase, oks, opnds, gS, afin, afin0, binD, arith, D.cells, takeD, fillD, keep, trim, envOf, Fin, aresl, aresv, resD, argOk, pickV, isP, deq, deqs, boundD, slD, lenD, isT, isSl, ptrIds, chunks, mn_min, mx_max, D.cells, splice_one, splice_more, Rbr_at, Rfr_at, frR, frV, frC, flatC, brwR, brwV, brwC, omap, leR, leV, leC, leL, leVL, hlt, ← hc, PB, getD3, ← hg, h6', hand, ic, i7, hmin, is, hor, hz2, h70, iz, hor0, hz2']
          done
        · rw [if_neg hz] at hg
          have hcm : c % 128 = c := by omega
          rw [hcm] at hand ic is hor
          by_cases hc00 : c = 0
          · have hi0 : i = 0 := by omega
            subst hi0 hc00
            have iz : InR 0 := inW (by omega) (by omega)
            have i1 : InR 1 := inW (by omega) (by omega)
            have hor0 : ior .i64 n 0 = n := by simpa using hor
            simp [AK_at, acode_seq, acode_region, acode_draw, acode_cond, ↓CB_t, ↓CB_f, CB_u, acode_block, acode_loop, acode_exit, acode_scope, acode_ret, acode_skip, seqQ_n, seqQ_e, seqQ_r, blockQ_n, blockQ_e, blockQ_r, TK_at, OK_at, SK_at, aops_nil, aops_cons, asch_done, asch_one, asch_two, asch_top, astep, aop_eq, isLoud, aloud, aloud1, isWrite, qv, evS, strip, gof, eget, hget, putO, eput, herase, oks, opnds, gS, afin, afin0, binD, arith, D.cells, takeD, fillD, keep, trim, envOf, Fin, aresl, aresv, resD, argOk, pickV, isP, deq, deqs, boundD, slD, lenD, isT, isSl, ptrIds, chunks, mn_min, mx_max, D.cells, splice_one, splice_more, Rbr_at, Rfr_at, frR, frV, frC, flatC, brwR, brwV, brwC, omap, leR, leV, leC, leL, leVL, hlt, iz, i1, hor0, ← hc, PB, getD3, ← hg, h6', hand, ic, i7, hmin, is, hor, h128, ii, h70]
            done
          · simp [AK_at, acode_seq, acode_region, acode_draw, acode_cond, ↓CB_t, ↓CB_f, CB_u, acode_block, acode_loop, acode_exit, acode_scope, acode_ret, acode_skip, seqQ_n, seqQ_e, seqQ_r, blockQ_n, blockQ_e, blockQ_r, TK_at, OK_at, SK_at, aops_nil, aops_cons, asch_done, asch_one, asch_two, asch_top, astep, aop_eq, isLoud, aloud, aloud1, isWrite, qv, evS, strip, gof, eget, hget, putO, eput, herase, oks, opnds, gS, afin, afin0, binD, arith, D.cells, takeD, fillD, keep, trim, envOf, Fin, aresl, aresv, resD, argOk, pickV, isP, deq, deqs, boundD, slD, lenD, isT, isSl, ptrIds, chunks, mn_min, mx_max, D.cells, splice_one, splice_more, Rbr_at, Rfr_at, frR, frV, frC, flatC, brwR, brwV, brwC, omap, leR, leV, leC, leL, leVL, hlt, ← hc, PB, getD3, ← hg, h6', hand, ic, i7, hmin, is, hor, h128, hc00, ii, h70]
            done
      · rw [if_neg h128] at hg
        simp [AK_at, acode_seq, acode_region, acode_draw, acode_cond, ↓CB_t, ↓CB_f, CB_u, acode_block, acode_loop, acode_exit, acode_scope, acode_ret, acode_skip, seqQ_n, seqQ_e, seqQ_r, blockQ_n, blockQ_e, blockQ_r, TK_at, OK_at, SK_at, aops_nil, aops_cons, asch_done, asch_one, asch_two, asch_top, astep, aop_eq, isLoud, aloud, aloud1, isWrite, qv, evS, strip, gof, eget, hget, putO, eput, herase, oks, opnds, gS, afin, afin0, binD, arith, D.cells, takeD, fillD, keep, trim, envOf, Fin, aresl, aresv, resD, argOk, pickV, isP, deq, deqs, boundD, slD, lenD, isT, isSl, ptrIds, chunks, mn_min, mx_max, D.cells, splice_one, splice_more, Rbr_at, Rfr_at, frR, frV, frC, flatC, brwR, brwV, brwC, omap, leR, leV, leC, leL, leVL, hlt, ← hc, PB, getD3, h6', hand, ic, i7, hmin, is, hor, h128, ii, h70]
        refine ⟨_, (i + 1, n + c % 128 * 2 ^ (7 * i)), (Gh.ren [] (by simp [hB0]) (by simp [hB0] <;> decide) (by simp [eget, rnS, rnR, rnV, rnC, LtS, LtR, LtV, LtC, lget]) (by simp [hget, rnO, rnC, LtO, LtC, lget]) (.inr rfl)), by omega, rfl, by omega, by omega, by simp only; omega, ?_, hg⟩
        simp only
        rw [show 7 * (i + 1) = 7 * i + 7 by omega, Int.pow_add]
        have : c % 128 * 2 ^ (7 * i) ≤ 127 * 2 ^ (7 * i) := Int.mul_le_mul_of_nonneg_right (by omega) (by omega)
        omega
  · have hie : i = b.length := by omega
    subst hie
    simp [getM] at hg
    simp [AK_at, acode_seq, acode_region, acode_draw, acode_cond, ↓CB_t, ↓CB_f, CB_u, acode_block, acode_loop, acode_exit, acode_scope, acode_ret, acode_skip, seqQ_n, seqQ_e, seqQ_r, blockQ_n, blockQ_e, blockQ_r, TK_at, OK_at, SK_at, aops_nil, aops_cons, asch_done, asch_one, asch_two, asch_top, astep, aop_eq, isLoud, aloud, aloud1, isWrite, qv, evS, strip, gof, eget, hget, putO, eput, herase, oks, opnds, gS, afin, afin0, binD, arith, D.cells, takeD, fillD, keep, trim, envOf, Fin, aresl, aresv, resD, argOk, pickV, isP, deq, deqs, boundD, slD, lenD, isT, isSl, ptrIds, chunks, mn_min, mx_max, D.cells, splice_one, splice_more, Rbr_at, Rfr_at, frR, frV, frC, flatC, brwR, brwV, brwC, omap, leR, leV, leC, leL, leVL, getD3, ← hg]
end Go.Proofs.Ytfkeddefajkobaa

set_option linter.unusedSimpArgs false
set_option linter.unusedVariables false
set_option maxRecDepth 100000
namespace Go.Proofs.Ytfkeddefajkobaa
open Go.ChangeShapes Go.WideShapes Go.ChangeAt Go.RowKit
theorem byte_wf {z : Int} (h : (Lit.int .u8 z).wf = true) : Byte z := by
  have h1 : IntKind.u8.min = 0 := rfl
  have h2 : IntKind.u8.max = 255 := rfl
  simp only [Lit.wf, Bool.and_eq_true, decide_eq_true_eq] at h
  exact ⟨by omega, by omega⟩
theorem open_struct {H : Type} {enc : TypeId × Value → H} {w : World} {base : Nat} {spare : Nat → Bool} {held : Bool} {t : TypeId} {n : Nat} {v : Value} {d : DataW H} {ps : List MemPlace}
    (h2 : 2 ≤ n) (he : Nums Try.prog t n) (h : DataW.Trod enc Try.prog w base spare held t v d ps) :
    ∃ r : List Int, VV s0 (allZ w) (.agg (r.map I)) v ∧ r.length = n ∧ ∀ z ∈ r, InR z := by
  obtain ⟨fuel, hf⟩ := h
  obtain ⟨r, hc, hl, hk⟩ := he hf
  refine ⟨r, ?_, hl, fun z hz => nums_wf (hk z hz)⟩
  have hlen : v.cells.toList.length = n := by rw [hc]; simpa [numsE] using hl
  cases v with
  | agg vs =>
    obtain ⟨vs⟩ := vs
    have e : vs = numsE r := by simpa [Value.cells] using hc
    subst e
    refine ⟨_, rfl, by simp [numsE], fun j x hx => ?_⟩
    obtain ⟨z, hz, rfl⟩ := (map_get _ _ _ _).1 hx
    have : (numsE r).toArray.getD j undef = .int .i64 z := by
      have : (numsE r)[j]? = some (.int .i64 z) := (map_get _ _ _ _).2 ⟨z, hz, rfl⟩
      simp [Array.getD_eq_getD_getElem?, this]
    rw [this]
    exact VT.int .i64 z
  | _ => simp [Value.cells] at hlen; omega
theorem Elt.byte {P : Program} {t : TypeId} (ht : P.underlying t = some (.int .u8)) : Elt P t 1 (fun z : Int => [Value.int .u8 z]) Byte := fun h => by
  obtain ⟨z, rfl, _, hw⟩ := DataW.trod_int ht h
  exact ⟨z, rfl, rfl, byte_wf hw⟩
theorem vt_bytes {W : World} {v : Value} {l : List Int} (h : Sl W 1 (fun z : Int => [Value.int .u8 z]) v l) : VT (allZ W) (.rows 1 (l.map PB)) v :=
  h.rows fun z _ => ⟨rfl, rfl, fun j d hd => by
    cases j with
    | zero => simp [PB] at hd; subst hd; exact ⟨_, rfl, fun Z => VT.int .u8 z⟩
    | succ j => simp [PB] at hd⟩
theorem open_bytes {H : Type} {enc : TypeId × Value → H} {w : World} {base : Nat} {spare : Nat → Bool} {held : Bool} {r0 : Reach} {b0 : Nat} {t e : TypeId} {v : Value} {d : DataW H} {ps : List MemPlace}
    (ht : Try.prog.underlying t = some (.slice e)) (hc : Try.prog.cellsOf e = 1) (he : Try.prog.underlying e = some (.int .u8)) (hv : Value.okWide Try.prog w r0 b0 t v) (h : DataW.Trod enc Try.prog w base spare held t v d ps) :
    ∃ l : List Int, l.length ≤ maxLen ∧ VV s0 (allZ w) (.rows 1 (l.map PB)) v ∧ ∀ z ∈ l, Byte z := by
  obtain ⟨l, h1, h2, h3⟩ := open_elts ht hc (by omega) (Elt.byte he) hv h
  exact ⟨l, h1, vt_bytes h3, fun z hz => (h2 z hz).2⟩
end Go.Proofs.Ytfkeddefajkobaa

