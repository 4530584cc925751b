/- This text proves the laws WireLess, WireBack, WireTorn over the small machine. It has no condition of its own. -/
import Derived.Test.YtgjngknkokgpjaaWih
set_option linter.unusedSimpArgs false
set_option linter.unusedVariables false
set_option maxRecDepth 100000
set_option maxHeartbeats 2000000
namespace Go.Proofs.Ytgjngknkokgpjaa
open Go.RowKit
theorem wevent_code : cfun Try.prog [] 31 = some ⟨(.seq (.region 0 [⟨(some 1), (.box (.t 0)), none⟩, ⟨(some 2), (.alloc [(.int .i64 0), (.int .i64 0), (.int .i64 0), (.int .i64 0), (.bool false), (.int .i64 0), (.int .i64 0), (.int .i64 0)]), none⟩]) (.seq (.region 1 [⟨(some 4), (.fad 0 (.t 1)), none⟩, ⟨(some 5), (.load false 1 (.t 4)), none⟩, ⟨(some 6), (.call 19 [(.t 5), (.k (.int .i64 7))]), none⟩, ⟨(some 7), (.bin .add (.k (.int .i64 1)) (.t 6)), none⟩, ⟨(some 8), (.build [(.int .i64 0), (.int .i64 0), (.int .i64 0), (.int .i64 0), (.bool false), (.int .i64 0), (.int .i64 0), (.int .i64 0)] [(0, (1, (.t 7)))]), none⟩, ⟨(some 3), (.alloc [(.int .i64 0), (.int .i64 0), (.int .i64 0), (.int .i64 0), (.bool false), (.int .i64 0), (.int .i64 0), (.int .i64 0)]), none⟩, ⟨none, (.store 8 (.t 3) (.t 8)), none⟩]) (.seq (.seq (.region 2 [⟨(some 9), (.fad 0 (.t 3)), none⟩, ⟨(some 10), (.load false 1 (.t 9)), none⟩]) (.block 0 (.seq (.region 3 [⟨(some 12), (.bin .eql (.t 10) (.k (.int .i64 1))), none⟩, ⟨(some 11), (.mov (.t 12)), none⟩]) (.cond 11 (.region 4 [⟨(some 13), (.fad 1 (.t 1)), none⟩, ⟨(some 14), (.load false 1 (.t 13)), none⟩, ⟨(some 15), (.call 19 [(.t 14), (.k (.int .i64 4294967296))]), none⟩, ⟨(some 16), (.fad 1 (.t 3)), none⟩, ⟨none, (.store 1 (.t 16) (.t 15)), none⟩]) (.seq (.seq (.region 5 [⟨(some 18), (.bin .eql (.t 10) (.k (.int .i64 2))), none⟩, ⟨(some 17), (.mov (.t 18)), none⟩]) (.cond 17 .skip (.seq (.region 6 [⟨(some 19), (.bin .eql (.t 10) (.k (.int .i64 3))), none⟩, ⟨(some 17), (.mov (.t 19)), none⟩]) (.cond 17 .skip (.region 7 [⟨(some 20), (.bin .eql (.t 10) (.k (.int .i64 4))), none⟩, ⟨(some 17), (.mov (.t 20)), none⟩]))))) (.cond 17 (.seq (.region 8 [⟨(some 21), (.fad 1 (.t 1)), none⟩, ⟨(some 22), (.load false 1 (.t 21)), none⟩, ⟨(some 23), (.call 19 [(.t 22), (.k (.int .i64 40))]), none⟩, ⟨(some 24), (.fad 2 (.t 3)), none⟩, ⟨none, (.store 1 (.t 24) (.t 23)), none⟩]) (.seq (.region 9 [⟨(some 25), (.fad 2 (.t 1)), none⟩, ⟨(some 26), (.load false 1 (.t 25)), none⟩, ⟨(some 27), (.call 19 [(.t 26), (.k (.int .i64 1048577))]), none⟩, ⟨(some 28), (.fad 3 (.t 3)), none⟩, ⟨none, (.store 1 (.t 28) (.t 27)), none⟩]) (.region 10 [⟨(some 29), (.fad 0 (.t 3)), none⟩, ⟨(some 30), (.load false 1 (.t 29)), none⟩, ⟨(some 31), (.bin .eql (.t 30) (.k (.int .i64 4))), none⟩, ⟨(some 32), (.mov (.t 31)), none⟩, ⟨(some 33), (.fad 3 (.t 1)), (some (32, true))⟩, ⟨(some 34), (.load false 1 (.t 33)), (some (32, true))⟩, ⟨(some 35), (.call 19 [(.t 34), (.k (.int .i64 2))]), (some (32, true))⟩, ⟨(some 36), (.bin .eql (.t 35) (.k (.int .i64 1))), (some (32, true))⟩, ⟨(some 37), (.pick (.t 32) (.t 36) (.k (.bool false))), none⟩, ⟨(some 38), (.fad 4 (.t 3)), none⟩, ⟨none, (.store 1 (.t 38) (.t 37)), none⟩]))) (.seq (.region 11 [⟨(some 40), (.bin .eql (.t 10) (.k (.int .i64 5))), none⟩, ⟨(some 39), (.mov (.t 40)), none⟩]) (.cond 39 (.seq (.region 12 [⟨(some 41), (.fad 1 (.t 1)), none⟩, ⟨(some 42), (.load false 1 (.t 41)), none⟩, ⟨(some 43), (.call 19 [(.t 42), (.k (.int .i64 1048577))]), none⟩, ⟨(some 44), (.fad 5 (.t 3)), none⟩, ⟨none, (.store 1 (.t 44) (.t 43)), none⟩]) (.seq (.region 13 [⟨(some 45), (.fad 2 (.t 1)), none⟩, ⟨(some 46), (.load false 1 (.t 45)), none⟩, ⟨(some 47), (.call 19 [(.t 46), (.k (.int .i64 12))]), none⟩, ⟨(some 48), (.fad 6 (.t 3)), none⟩, ⟨none, (.store 1 (.t 48) (.t 47)), none⟩]) (.region 14 [⟨(some 49), (.fad 3 (.t 1)), none⟩, ⟨(some 50), (.load false 1 (.t 49)), none⟩, ⟨(some 51), (.call 19 [(.t 50), (.k (.int .i64 8))]), none⟩, ⟨(some 52), (.bin .add (.k (.int .i64 1)) (.t 51)), none⟩, ⟨(some 53), (.fad 7 (.t 3)), none⟩, ⟨none, (.store 1 (.t 53) (.t 52)), none⟩]))) (.seq (.region 15 [⟨(some 55), (.bin .eql (.t 10) (.k (.int .i64 6))), none⟩, ⟨(some 54), (.mov (.t 55)), none⟩]) (.cond 54 (.seq (.region 16 [⟨(some 56), (.fad 1 (.t 1)), none⟩, ⟨(some 57), (.load false 1 (.t 56)), none⟩, ⟨(some 58), (.call 19 [(.t 57), (.k (.int .i64 1048577))]), none⟩, ⟨(some 59), (.fad 5 (.t 3)), none⟩, ⟨none, (.store 1 (.t 59) (.t 58)), none⟩]) (.region 17 [⟨(some 60), (.fad 2 (.t 1)), none⟩, ⟨(some 61), (.load false 1 (.t 60)), none⟩, ⟨(some 62), (.call 19 [(.t 61), (.k (.int .i64 12))]), none⟩, ⟨(some 63), (.fad 6 (.t 3)), none⟩, ⟨none, (.store 1 (.t 63) (.t 62)), none⟩])) .skip)))))))))) (.seq (.region 18 [⟨(some 64), (.load true 8 (.t 3)), none⟩, ⟨none, (.store 8 (.t 2) (.t 64)), none⟩]) .ret)))), [(.c 2 true 8)], 65⟩ := by kernel_rfl
theorem wevent_pf (k a b c : Int) (hk : InR k) (ha : InR a) (hb : InR b) (hc : InR c) : ∃ kd x y z, EK.Ok kd x y z ∧ PF Try.prog 31 [.agg [I k, I a, I b, I c]] (.agg (kd.cells x y z)) := by
  have pk := picked_pf k 7 hk (by omega)
  have rk := pickedZ_range k 7 (by omega)
  obtain ⟨p, hp⟩ : ∃ p, p = pickedZ k 7 := ⟨_, rfl⟩
  rw [← hp] at pk rk
  have a1 := picked_pf a 4294967296 ha (by omega)
  have r1 := pickedZ_range a 4294967296 (by omega)
  have a2 := picked_pf a 40 ha (by omega)
  have r2 := pickedZ_range a 40 (by omega)
  have a3 := picked_pf a 1048577 ha (by omega)
  have r3 := pickedZ_range a 1048577 (by omega)
  have b1 := picked_pf b 1048577 hb (by omega)
  have s1 := pickedZ_range b 1048577 (by omega)
  have b2 := picked_pf b 12 hb (by omega)
  have s2 := pickedZ_range b 12 (by omega)
  have c1 := picked_pf c 2 hc (by omega)
  have t1 := pickedZ_range c 2 (by omega)
  have c2 := picked_pf c 8 hc (by omega)
  have t2 := pickedZ_range c 8 (by omega)
  have i8 : InR (1 + pickedZ c 8) := inW (by omega) (by omega)
  have j1 : InR 1 := inW (by omega) (by omega)
  have j2 : InR 2 := inW (by omega) (by omega)
  have j3 : InR 3 := inW (by omega) (by omega)
  have j4 : InR 4 := inW (by omega) (by omega)
  have j5 : InR 5 := inW (by omega) (by omega)
  have j6 : InR 6 := inW (by omega) (by omega)
  have j7 : InR 7 := inW (by omega) (by omega)
  have hq : p = 0 ∨ p = 1 ∨ p = 2 ∨ p = 3 ∨ p = 4 ∨ p = 5 ∨ p = 6 := by omega
  clear hp
  rcases hq with rfl | rfl | rfl | rfl | rfl | rfl | rfl
  · refine ⟨.op, pickedZ a 4294967296, 0, 0, ⟨by omega, by omega⟩, ?_⟩
    refine PF.of follows_ok wevent_code (by simp) (by simp [argOk]) (by simp [noV, noC]) fun B hBN hB0 => acode_sound [0, 1, 2, 3, 10, 11, 17, 39, 54] [] _ _ _ ?_
    repeat' (first
      | simp [AK_at, acode_seq, acode_region, acode_draw, acode_cond, ↓CB_t, ↓CB_f, CB_u, acode_block, acode_loop, acode_exit, acode_scope, acode_ret, acode_skip, seqQ_n, seqQ_e, seqQ_r, blockQ_n, blockQ_e, blockQ_r, TK_at, OK_at, SK_at, aops_nil, aops_cons, asch_done, asch_one, asch_two, asch_top, astep, aop_eq, isLoud, aloud, aloud1, isWrite, qv, evS, strip, gof, eget, hget, putO, eput, herase, oks, opnds, gS, afin, afin0, binD, arith, D.cells, takeD, fillD, keep, trim, envOf, Fin, aresl, aresv, resD, argOk, pickV, isP, deq, deqs, boundD, slD, lenD, isT, chunks, mn_min, mx_max, D.cells, splice_one, splice_more, Rbr_at, Rfr_at, frR, frV, frC, flatC, brwR, brwV, brwC, omap, leR, leV, leC, leL, leVL, j1, EK.cells]
      | (refine WCall.pf (pk) ?_ ?_ ?_ ?_; (focus (simp [oks, opnds, gS, gof, eget]; done)); (focus (simp [omap, brwV, brwC, evS, eget, strip, hget, leVL, leV, leC, leL, j1, EK.cells]; done)); (focus (simp [noV, noC, flatR, flatV, flatC, evS, eget, strip, j1, EK.cells]; done)))
      | (refine ⟨WCall.pf (pk) ?_ ?_ ?_ ?_, ?_⟩; (focus (simp [oks, opnds, gS, gof, eget]; done)); (focus (simp [omap, brwV, brwC, evS, eget, strip, hget, leVL, leV, leC, leL, j1, EK.cells]; done)); (focus (simp [noV, noC, flatR, flatV, flatC, evS, eget, strip, j1, EK.cells]; done)))
      | (refine WCall.pf (a1) ?_ ?_ ?_ ?_; (focus (simp [oks, opnds, gS, gof, eget]; done)); (focus (simp [omap, brwV, brwC, evS, eget, strip, hget, leVL, leV, leC, leL, j1, EK.cells]; done)); (focus (simp [noV, noC, flatR, flatV, flatC, evS, eget, strip, j1, EK.cells]; done)))
      | (refine ⟨WCall.pf (a1) ?_ ?_ ?_ ?_, ?_⟩; (focus (simp [oks, opnds, gS, gof, eget]; done)); (focus (simp [omap, brwV, brwC, evS, eget, strip, hget, leVL, leV, leC, leL, j1, EK.cells]; done)); (focus (simp [noV, noC, flatR, flatV, flatC, evS, eget, strip, j1, EK.cells]; done)))
      | (with_reducible refine And.intro (And.intro ?_ ?_) ?_)
      | fail)
  · refine ⟨.da, pickedZ a 40, pickedZ b 1048577, 0, ⟨⟨by omega, by omega⟩, by omega, by omega⟩, ?_⟩
    refine PF.of follows_ok wevent_code (by simp) (by simp [argOk]) (by simp [noV, noC]) fun B hBN hB0 => acode_sound [0, 1, 2, 3, 10, 11, 17, 39, 54] [] _ _ _ ?_
    repeat' (first
      | simp [AK_at, acode_seq, acode_region, acode_draw, acode_cond, ↓CB_t, ↓CB_f, CB_u, acode_block, acode_loop, acode_exit, acode_scope, acode_ret, acode_skip, seqQ_n, seqQ_e, seqQ_r, blockQ_n, blockQ_e, blockQ_r, TK_at, OK_at, SK_at, aops_nil, aops_cons, asch_done, asch_one, asch_two, asch_top, astep, aop_eq, isLoud, aloud, aloud1, isWrite, qv, evS, strip, gof, eget, hget, putO, eput, herase, oks, opnds, gS, afin, afin0, binD, arith, D.cells, takeD, fillD, keep, trim, envOf, Fin, aresl, aresv, resD, argOk, pickV, isP, deq, deqs, boundD, slD, lenD, isT, chunks, mn_min, mx_max, D.cells, splice_one, splice_more, Rbr_at, Rfr_at, frR, frV, frC, flatC, brwR, brwV, brwC, omap, leR, leV, leC, leL, leVL, j2, EK.cells]
      | (refine WCall.pf (pk) ?_ ?_ ?_ ?_; (focus (simp [oks, opnds, gS, gof, eget]; done)); (focus (simp [omap, brwV, brwC, evS, eget, strip, hget, leVL, leV, leC, leL, j2, EK.cells]; done)); (focus (simp [noV, noC, flatR, flatV, flatC, evS, eget, strip, j2, EK.cells]; done)))
      | (refine ⟨WCall.pf (pk) ?_ ?_ ?_ ?_, ?_⟩; (focus (simp [oks, opnds, gS, gof, eget]; done)); (focus (simp [omap, brwV, brwC, evS, eget, strip, hget, leVL, leV, leC, leL, j2, EK.cells]; done)); (focus (simp [noV, noC, flatR, flatV, flatC, evS, eget, strip, j2, EK.cells]; done)))
      | (refine WCall.pf (a2) ?_ ?_ ?_ ?_; (focus (simp [oks, opnds, gS, gof, eget]; done)); (focus (simp [omap, brwV, brwC, evS, eget, strip, hget, leVL, leV, leC, leL, j2, EK.cells]; done)); (focus (simp [noV, noC, flatR, flatV, flatC, evS, eget, strip, j2, EK.cells]; done)))
      | (refine ⟨WCall.pf (a2) ?_ ?_ ?_ ?_, ?_⟩; (focus (simp [oks, opnds, gS, gof, eget]; done)); (focus (simp [omap, brwV, brwC, evS, eget, strip, hget, leVL, leV, leC, leL, j2, EK.cells]; done)); (focus (simp [noV, noC, flatR, flatV, flatC, evS, eget, strip, j2, EK.cells]; done)))
      | (refine WCall.pf (b1) ?_ ?_ ?_ ?_; (focus (simp [oks, opnds, gS, gof, eget]; done)); (focus (simp [omap, brwV, brwC, evS, eget, strip, hget, leVL, leV, leC, leL, j2, EK.cells]; done)); (focus (simp [noV, noC, flatR, flatV, flatC, evS, eget, strip, j2, EK.cells]; done)))
      | (refine ⟨WCall.pf (b1) ?_ ?_ ?_ ?_, ?_⟩; (focus (simp [oks, opnds, gS, gof, eget]; done)); (focus (simp [omap, brwV, brwC, evS, eget, strip, hget, leVL, leV, leC, leL, j2, EK.cells]; done)); (focus (simp [noV, noC, flatR, flatV, flatC, evS, eget, strip, j2, EK.cells]; done)))
      | (with_reducible refine And.intro (And.intro ?_ ?_) ?_)
      | fail)
  · refine ⟨.cl, pickedZ a 40, pickedZ b 1048577, 0, ⟨⟨by omega, by omega⟩, by omega, by omega⟩, ?_⟩
    refine PF.of follows_ok wevent_code (by simp) (by simp [argOk]) (by simp [noV, noC]) fun B hBN hB0 => acode_sound [0, 1, 2, 3, 10, 11, 17, 39, 54] [] _ _ _ ?_
    repeat' (first
      | simp [AK_at, acode_seq, acode_region, acode_draw, acode_cond, ↓CB_t, ↓CB_f, CB_u, acode_block, acode_loop, acode_exit, acode_scope, acode_ret, acode_skip, seqQ_n, seqQ_e, seqQ_r, blockQ_n, blockQ_e, blockQ_r, TK_at, OK_at, SK_at, aops_nil, aops_cons, asch_done, asch_one, asch_two, asch_top, astep, aop_eq, isLoud, aloud, aloud1, isWrite, qv, evS, strip, gof, eget, hget, putO, eput, herase, oks, opnds, gS, afin, afin0, binD, arith, D.cells, takeD, fillD, keep, trim, envOf, Fin, aresl, aresv, resD, argOk, pickV, isP, deq, deqs, boundD, slD, lenD, isT, chunks, mn_min, mx_max, D.cells, splice_one, splice_more, Rbr_at, Rfr_at, frR, frV, frC, flatC, brwR, brwV, brwC, omap, leR, leV, leC, leL, leVL, j3, EK.cells]
      | (refine WCall.pf (pk) ?_ ?_ ?_ ?_; (focus (simp [oks, opnds, gS, gof, eget]; done)); (focus (simp [omap, brwV, brwC, evS, eget, strip, hget, leVL, leV, leC, leL, j3, EK.cells]; done)); (focus (simp [noV, noC, flatR, flatV, flatC, evS, eget, strip, j3, EK.cells]; done)))
      | (refine ⟨WCall.pf (pk) ?_ ?_ ?_ ?_, ?_⟩; (focus (simp [oks, opnds, gS, gof, eget]; done)); (focus (simp [omap, brwV, brwC, evS, eget, strip, hget, leVL, leV, leC, leL, j3, EK.cells]; done)); (focus (simp [noV, noC, flatR, flatV, flatC, evS, eget, strip, j3, EK.cells]; done)))
      | (refine WCall.pf (a2) ?_ ?_ ?_ ?_; (focus (simp [oks, opnds, gS, gof, eget]; done)); (focus (simp [omap, brwV, brwC, evS, eget, strip, hget, leVL, leV, leC, leL, j3, EK.cells]; done)); (focus (simp [noV, noC, flatR, flatV, flatC, evS, eget, strip, j3, EK.cells]; done)))
      | (refine ⟨WCall.pf (a2) ?_ ?_ ?_ ?_, ?_⟩; (focus (simp [oks, opnds, gS, gof, eget]; done)); (focus (simp [omap, brwV, brwC, evS, eget, strip, hget, leVL, leV, leC, leL, j3, EK.cells]; done)); (focus (simp [noV, noC, flatR, flatV, flatC, evS, eget, strip, j3, EK.cells]; done)))
      | (refine WCall.pf (b1) ?_ ?_ ?_ ?_; (focus (simp [oks, opnds, gS, gof, eget]; done)); (focus (simp [omap, brwV, brwC, evS, eget, strip, hget, leVL, leV, leC, leL, j3, EK.cells]; done)); (focus (simp [noV, noC, flatR, flatV, flatC, evS, eget, strip, j3, EK.cells]; done)))
      | (refine ⟨WCall.pf (b1) ?_ ?_ ?_ ?_, ?_⟩; (focus (simp [oks, opnds, gS, gof, eget]; done)); (focus (simp [omap, brwV, brwC, evS, eget, strip, hget, leVL, leV, leC, leL, j3, EK.cells]; done)); (focus (simp [noV, noC, flatR, flatV, flatC, evS, eget, strip, j3, EK.cells]; done)))
      | (with_reducible refine And.intro (And.intro ?_ ?_) ?_)
      | fail)
  · refine ⟨.an, pickedZ a 40, pickedZ b 1048577, pickedZ c 2, ⟨⟨by omega, by omega⟩, ⟨by omega, by omega⟩, by omega, by omega⟩, ?_⟩
    refine PF.of follows_ok wevent_code (by simp) (by simp [argOk]) (by simp [noV, noC]) fun B hBN hB0 => acode_sound [0, 1, 2, 3, 10, 11, 17, 39, 54] [] _ _ _ ?_
    repeat' (first
      | simp [AK_at, acode_seq, acode_region, acode_draw, acode_cond, ↓CB_t, ↓CB_f, CB_u, acode_block, acode_loop, acode_exit, acode_scope, acode_ret, acode_skip, seqQ_n, seqQ_e, seqQ_r, blockQ_n, blockQ_e, blockQ_r, TK_at, OK_at, SK_at, aops_nil, aops_cons, asch_done, asch_one, asch_two, asch_top, astep, aop_eq, isLoud, aloud, aloud1, isWrite, qv, evS, strip, gof, eget, hget, putO, eput, herase, oks, opnds, gS, afin, afin0, binD, arith, D.cells, takeD, fillD, keep, trim, envOf, Fin, aresl, aresv, resD, argOk, pickV, isP, deq, deqs, boundD, slD, lenD, isT, chunks, mn_min, mx_max, D.cells, splice_one, splice_more, Rbr_at, Rfr_at, frR, frV, frC, flatC, brwR, brwV, brwC, omap, leR, leV, leC, leL, leVL, j4, EK.cells]
      | (refine WCall.pf (pk) ?_ ?_ ?_ ?_; (focus (simp [oks, opnds, gS, gof, eget]; done)); (focus (simp [omap, brwV, brwC, evS, eget, strip, hget, leVL, leV, leC, leL, j4, EK.cells]; done)); (focus (simp [noV, noC, flatR, flatV, flatC, evS, eget, strip, j4, EK.cells]; done)))
      | (refine ⟨WCall.pf (pk) ?_ ?_ ?_ ?_, ?_⟩; (focus (simp [oks, opnds, gS, gof, eget]; done)); (focus (simp [omap, brwV, brwC, evS, eget, strip, hget, leVL, leV, leC, leL, j4, EK.cells]; done)); (focus (simp [noV, noC, flatR, flatV, flatC, evS, eget, strip, j4, EK.cells]; done)))
      | (refine WCall.pf (a2) ?_ ?_ ?_ ?_; (focus (simp [oks, opnds, gS, gof, eget]; done)); (focus (simp [omap, brwV, brwC, evS, eget, strip, hget, leVL, leV, leC, leL, j4, EK.cells]; done)); (focus (simp [noV, noC, flatR, flatV, flatC, evS, eget, strip, j4, EK.cells]; done)))
      | (refine ⟨WCall.pf (a2) ?_ ?_ ?_ ?_, ?_⟩; (focus (simp [oks, opnds, gS, gof, eget]; done)); (focus (simp [omap, brwV, brwC, evS, eget, strip, hget, leVL, leV, leC, leL, j4, EK.cells]; done)); (focus (simp [noV, noC, flatR, flatV, flatC, evS, eget, strip, j4, EK.cells]; done)))
      | (refine WCall.pf (b1) ?_ ?_ ?_ ?_; (focus (simp [oks, opnds, gS, gof, eget]; done)); (focus (simp [omap, brwV, brwC, evS, eget, strip, hget, leVL, leV, leC, leL, j4, EK.cells]; done)); (focus (simp [noV, noC, flatR, flatV, flatC, evS, eget, strip, j4, EK.cells]; done)))
      | (refine ⟨WCall.pf (b1) ?_ ?_ ?_ ?_, ?_⟩; (focus (simp [oks, opnds, gS, gof, eget]; done)); (focus (simp [omap, brwV, brwC, evS, eget, strip, hget, leVL, leV, leC, leL, j4, EK.cells]; done)); (focus (simp [noV, noC, flatR, flatV, flatC, evS, eget, strip, j4, EK.cells]; done)))
      | (refine WCall.pf (c1) ?_ ?_ ?_ ?_; (focus (simp [oks, opnds, gS, gof, eget]; done)); (focus (simp [omap, brwV, brwC, evS, eget, strip, hget, leVL, leV, leC, leL, j4, EK.cells]; done)); (focus (simp [noV, noC, flatR, flatV, flatC, evS, eget, strip, j4, EK.cells]; done)))
      | (refine ⟨WCall.pf (c1) ?_ ?_ ?_ ?_, ?_⟩; (focus (simp [oks, opnds, gS, gof, eget]; done)); (focus (simp [omap, brwV, brwC, evS, eget, strip, hget, leVL, leV, leC, leL, j4, EK.cells]; done)); (focus (simp [noV, noC, flatR, flatV, flatC, evS, eget, strip, j4, EK.cells]; done)))
      | (with_reducible refine And.intro (And.intro ?_ ?_) ?_)
      | fail)
  · refine ⟨.jo, pickedZ a 1048577, pickedZ b 12, 1 + pickedZ c 8, ⟨⟨by omega, by omega⟩, ⟨by omega, by omega⟩, by omega, by omega⟩, ?_⟩
    refine PF.of follows_ok wevent_code (by simp) (by simp [argOk]) (by simp [noV, noC]) fun B hBN hB0 => acode_sound [0, 1, 2, 3, 10, 11, 17, 39, 54] [] _ _ _ ?_
    repeat' (first
      | simp [AK_at, acode_seq, acode_region, acode_draw, acode_cond, ↓CB_t, ↓CB_f, CB_u, acode_block, acode_loop, acode_exit, acode_scope, acode_ret, acode_skip, seqQ_n, seqQ_e, seqQ_r, blockQ_n, blockQ_e, blockQ_r, TK_at, OK_at, SK_at, aops_nil, aops_cons, asch_done, asch_one, asch_two, asch_top, astep, aop_eq, isLoud, aloud, aloud1, isWrite, qv, evS, strip, gof, eget, hget, putO, eput, herase, oks, opnds, gS, afin, afin0, binD, arith, D.cells, takeD, fillD, keep, trim, envOf, Fin, aresl, aresv, resD, argOk, pickV, isP, deq, deqs, boundD, slD, lenD, isT, chunks, mn_min, mx_max, D.cells, splice_one, splice_more, Rbr_at, Rfr_at, frR, frV, frC, flatC, brwR, brwV, brwC, omap, leR, leV, leC, leL, leVL, j5, i8, EK.cells]
      | (refine WCall.pf (pk) ?_ ?_ ?_ ?_; (focus (simp [oks, opnds, gS, gof, eget]; done)); (focus (simp [omap, brwV, brwC, evS, eget, strip, hget, leVL, leV, leC, leL, j5, i8, EK.cells]; done)); (focus (simp [noV, noC, flatR, flatV, flatC, evS, eget, strip, j5, i8, EK.cells]; done)))
      | (refine ⟨WCall.pf (pk) ?_ ?_ ?_ ?_, ?_⟩; (focus (simp [oks, opnds, gS, gof, eget]; done)); (focus (simp [omap, brwV, brwC, evS, eget, strip, hget, leVL, leV, leC, leL, j5, i8, EK.cells]; done)); (focus (simp [noV, noC, flatR, flatV, flatC, evS, eget, strip, j5, i8, EK.cells]; done)))
      | (refine WCall.pf (a3) ?_ ?_ ?_ ?_; (focus (simp [oks, opnds, gS, gof, eget]; done)); (focus (simp [omap, brwV, brwC, evS, eget, strip, hget, leVL, leV, leC, leL, j5, i8, EK.cells]; done)); (focus (simp [noV, noC, flatR, flatV, flatC, evS, eget, strip, j5, i8, EK.cells]; done)))
      | (refine ⟨WCall.pf (a3) ?_ ?_ ?_ ?_, ?_⟩; (focus (simp [oks, opnds, gS, gof, eget]; done)); (focus (simp [omap, brwV, brwC, evS, eget, strip, hget, leVL, leV, leC, leL, j5, i8, EK.cells]; done)); (focus (simp [noV, noC, flatR, flatV, flatC, evS, eget, strip, j5, i8, EK.cells]; done)))
      | (refine WCall.pf (b2) ?_ ?_ ?_ ?_; (focus (simp [oks, opnds, gS, gof, eget]; done)); (focus (simp [omap, brwV, brwC, evS, eget, strip, hget, leVL, leV, leC, leL, j5, i8, EK.cells]; done)); (focus (simp [noV, noC, flatR, flatV, flatC, evS, eget, strip, j5, i8, EK.cells]; done)))
      | (refine ⟨WCall.pf (b2) ?_ ?_ ?_ ?_, ?_⟩; (focus (simp [oks, opnds, gS, gof, eget]; done)); (focus (simp [omap, brwV, brwC, evS, eget, strip, hget, leVL, leV, leC, leL, j5, i8, EK.cells]; done)); (focus (simp [noV, noC, flatR, flatV, flatC, evS, eget, strip, j5, i8, EK.cells]; done)))
      | (refine WCall.pf (c2) ?_ ?_ ?_ ?_; (focus (simp [oks, opnds, gS, gof, eget]; done)); (focus (simp [omap, brwV, brwC, evS, eget, strip, hget, leVL, leV, leC, leL, j5, i8, EK.cells]; done)); (focus (simp [noV, noC, flatR, flatV, flatC, evS, eget, strip, j5, i8, EK.cells]; done)))
      | (refine ⟨WCall.pf (c2) ?_ ?_ ?_ ?_, ?_⟩; (focus (simp [oks, opnds, gS, gof, eget]; done)); (focus (simp [omap, brwV, brwC, evS, eget, strip, hget, leVL, leV, leC, leL, j5, i8, EK.cells]; done)); (focus (simp [noV, noC, flatR, flatV, flatC, evS, eget, strip, j5, i8, EK.cells]; done)))
      | (with_reducible refine And.intro (And.intro ?_ ?_) ?_)
      | fail)
  · refine ⟨.re, pickedZ a 1048577, pickedZ b 12, 0, ⟨⟨by omega, by omega⟩, by omega, by omega⟩, ?_⟩
    refine PF.of follows_ok wevent_code (by simp) (by simp [argOk]) (by simp [noV, noC]) fun B hBN hB0 => acode_sound [0, 1, 2, 3, 10, 11, 17, 39, 54] [] _ _ _ ?_
    repeat' (first
      | simp [AK_at, acode_seq, acode_region, acode_draw, acode_cond, ↓CB_t, ↓CB_f, CB_u, acode_block, acode_loop, acode_exit, acode_scope, acode_ret, acode_skip, seqQ_n, seqQ_e, seqQ_r, blockQ_n, blockQ_e, blockQ_r, TK_at, OK_at, SK_at, aops_nil, aops_cons, asch_done, asch_one, asch_two, asch_top, astep, aop_eq, isLoud, aloud, aloud1, isWrite, qv, evS, strip, gof, eget, hget, putO, eput, herase, oks, opnds, gS, afin, afin0, binD, arith, D.cells, takeD, fillD, keep, trim, envOf, Fin, aresl, aresv, resD, argOk, pickV, isP, deq, deqs, boundD, slD, lenD, isT, chunks, mn_min, mx_max, D.cells, splice_one, splice_more, Rbr_at, Rfr_at, frR, frV, frC, flatC, brwR, brwV, brwC, omap, leR, leV, leC, leL, leVL, j6, EK.cells]
      | (refine WCall.pf (pk) ?_ ?_ ?_ ?_; (focus (simp [oks, opnds, gS, gof, eget]; done)); (focus (simp [omap, brwV, brwC, evS, eget, strip, hget, leVL, leV, leC, leL, j6, EK.cells]; done)); (focus (simp [noV, noC, flatR, flatV, flatC, evS, eget, strip, j6, EK.cells]; done)))
      | (refine ⟨WCall.pf (pk) ?_ ?_ ?_ ?_, ?_⟩; (focus (simp [oks, opnds, gS, gof, eget]; done)); (focus (simp [omap, brwV, brwC, evS, eget, strip, hget, leVL, leV, leC, leL, j6, EK.cells]; done)); (focus (simp [noV, noC, flatR, flatV, flatC, evS, eget, strip, j6, EK.cells]; done)))
      | (refine WCall.pf (a3) ?_ ?_ ?_ ?_; (focus (simp [oks, opnds, gS, gof, eget]; done)); (focus (simp [omap, brwV, brwC, evS, eget, strip, hget, leVL, leV, leC, leL, j6, EK.cells]; done)); (focus (simp [noV, noC, flatR, flatV, flatC, evS, eget, strip, j6, EK.cells]; done)))
      | (refine ⟨WCall.pf (a3) ?_ ?_ ?_ ?_, ?_⟩; (focus (simp [oks, opnds, gS, gof, eget]; done)); (focus (simp [omap, brwV, brwC, evS, eget, strip, hget, leVL, leV, leC, leL, j6, EK.cells]; done)); (focus (simp [noV, noC, flatR, flatV, flatC, evS, eget, strip, j6, EK.cells]; done)))
      | (refine WCall.pf (b2) ?_ ?_ ?_ ?_; (focus (simp [oks, opnds, gS, gof, eget]; done)); (focus (simp [omap, brwV, brwC, evS, eget, strip, hget, leVL, leV, leC, leL, j6, EK.cells]; done)); (focus (simp [noV, noC, flatR, flatV, flatC, evS, eget, strip, j6, EK.cells]; done)))
      | (refine ⟨WCall.pf (b2) ?_ ?_ ?_ ?_, ?_⟩; (focus (simp [oks, opnds, gS, gof, eget]; done)); (focus (simp [omap, brwV, brwC, evS, eget, strip, hget, leVL, leV, leC, leL, j6, EK.cells]; done)); (focus (simp [noV, noC, flatR, flatV, flatC, evS, eget, strip, j6, EK.cells]; done)))
      | (with_reducible refine And.intro (And.intro ?_ ?_) ?_)
      | fail)
  · refine ⟨.ti, 0, 0, 0, trivial, ?_⟩
    refine PF.of follows_ok wevent_code (by simp) (by simp [argOk]) (by simp [noV, noC]) fun B hBN hB0 => acode_sound [0, 1, 2, 3, 10, 11, 17, 39, 54] [] _ _ _ ?_
    repeat' (first
      | simp [AK_at, acode_seq, acode_region, acode_draw, acode_cond, ↓CB_t, ↓CB_f, CB_u, acode_block, acode_loop, acode_exit, acode_scope, acode_ret, acode_skip, seqQ_n, seqQ_e, seqQ_r, blockQ_n, blockQ_e, blockQ_r, TK_at, OK_at, SK_at, aops_nil, aops_cons, asch_done, asch_one, asch_two, asch_top, astep, aop_eq, isLoud, aloud, aloud1, isWrite, qv, evS, strip, gof, eget, hget, putO, eput, herase, oks, opnds, gS, afin, afin0, binD, arith, D.cells, takeD, fillD, keep, trim, envOf, Fin, aresl, aresv, resD, argOk, pickV, isP, deq, deqs, boundD, slD, lenD, isT, chunks, mn_min, mx_max, D.cells, splice_one, splice_more, Rbr_at, Rfr_at, frR, frV, frC, flatC, brwR, brwV, brwC, omap, leR, leV, leC, leL, leVL, j7, EK.cells]
      | (refine WCall.pf (pk) ?_ ?_ ?_ ?_; (focus (simp [oks, opnds, gS, gof, eget]; done)); (focus (simp [omap, brwV, brwC, evS, eget, strip, hget, leVL, leV, leC, leL, j7, EK.cells]; done)); (focus (simp [noV, noC, flatR, flatV, flatC, evS, eget, strip, j7, EK.cells]; done)))
      | (refine ⟨WCall.pf (pk) ?_ ?_ ?_ ?_, ?_⟩; (focus (simp [oks, opnds, gS, gof, eget]; done)); (focus (simp [omap, brwV, brwC, evS, eget, strip, hget, leVL, leV, leC, leL, j7, EK.cells]; done)); (focus (simp [noV, noC, flatR, flatV, flatC, evS, eget, strip, j7, EK.cells]; done)))
      | (with_reducible refine And.intro (And.intro ?_ ?_) ?_)
      | fail)
theorem four {r : List Int} (h : r.length = 4) : ∃ k a b c, r = [k, a, b, c] := by
  match r, h with
  | [k, a, b, c], _ => exact ⟨k, a, b, c, rfl⟩
theorem EK.out_pos (kd : EK) (x y z : Int) (i : Nat) : 1 ≤ (kd.out x y z i).length := by simp [EK.out]
theorem wback_code : cfun Try.prog [] 13 = some ⟨(.seq (.region 0 [⟨(some 1), (.box (.t 0)), none⟩, ⟨(some 2), (.mov (.k (.bool false))), none⟩]) (.seq (.region 1 [⟨(some 8), (.load true 4 (.t 1)), none⟩, ⟨(some 9), (.call 31 [(.t 8)]), none⟩, ⟨(some 3), (.alloc [(.int .i64 0), (.int .i64 0), (.int .i64 0), (.int .i64 0), (.bool false), (.int .i64 0), (.int .i64 0), (.int .i64 0)]), none⟩, ⟨none, (.store 8 (.t 3) (.t 9)), none⟩]) (.seq (.region 2 [⟨(some 11), (.load true 8 (.t 3)), none⟩, ⟨(some 12), (.call 21 [(.t 11)]), none⟩, ⟨(some 10), (.mov (.t 12)), none⟩, ⟨(some 13), (.ext (.t 10) 0), none⟩, ⟨(some 14), (.ext (.t 10) 1), none⟩, ⟨(some 4), (.mov (.t 13)), none⟩, ⟨(some 5), (.mov (.t 14)), none⟩]) (.seq (.region 3 [⟨(some 16), (.mov (.t 4)), none⟩, ⟨(some 17), (.call 32 [(.t 16)]), none⟩, ⟨(some 15), (.mov (.t 17)), none⟩, ⟨(some 18), (.ext (.t 15) 0), none⟩, ⟨(some 19), (.ext (.t 15) 1), none⟩, ⟨(some 6), (.alloc [(.int .i64 0), (.int .i64 0), (.int .i64 0), (.int .i64 0), (.bool false), (.int .i64 0), (.int .i64 0), (.int .i64 0)]), none⟩, ⟨none, (.store 8 (.t 6) (.t 18)), none⟩, ⟨(some 7), (.mov (.t 19)), none⟩]) (.seq (.region 4 [⟨(some 20), (.mov (.t 5)), none⟩, ⟨(some 21), (.bin .eql (.t 20) (.k (.int .i64 0))), none⟩, ⟨(some 22), (.mov (.t 21)), none⟩, ⟨(some 23), (.mov (.t 7)), (some (22, true))⟩, ⟨(some 24), (.bin .eql (.t 23) (.k (.int .i64 0))), (some (22, true))⟩, ⟨(some 25), (.pick (.t 22) (.t 24) (.k (.bool false))), none⟩, ⟨(some 26), (.mov (.t 25)), none⟩, ⟨(some 27), (.load true 8 (.t 6)), (some (26, true))⟩, ⟨(some 28), (.load true 8 (.t 3)), (some (26, true))⟩, ⟨(some 29), (.eqa false [.i, .i, .i, .i, .b, .i, .i, .i] (.t 27) (.t 28)), (some (26, true))⟩, ⟨(some 30), (.pick (.t 26) (.t 29) (.k (.bool false))), none⟩, ⟨(some 31), (.mov (.t 30)), none⟩, ⟨(some 32), (.mov (.t 4)), (some (31, true))⟩, ⟨(some 33), (.len (.t 32)), (some (31, true))⟩, ⟨(some 34), (.bin .geq (.t 33) (.k (.int .i64 1))), (some (31, true))⟩, ⟨(some 35), (.pick (.t 31) (.t 34) (.k (.bool false))), none⟩, ⟨(some 36), (.mov (.t 35)), none⟩, ⟨(some 37), (.mov (.t 4)), (some (36, true))⟩, ⟨(some 38), (.len (.t 37)), (some (36, true))⟩, ⟨(some 39), (.bin .leq (.t 38) (.k (.int .i64 16))), (some (36, true))⟩, ⟨(some 40), (.pick (.t 36) (.t 39) (.k (.bool false))), none⟩, ⟨(some 2), (.mov (.t 40)), none⟩]) .ret))))), [(.t 2)], 41⟩ := by kernel_rfl
theorem wback_pf (r : List Int) (hr : r.length = 4 ∧ ∀ z ∈ r, InR z) : PF Try.prog 13 [.agg (r.map I)] (.bool true) := by
  obtain ⟨hl, hz⟩ := hr
  obtain ⟨k, a, b, c, rfl⟩ := four hl
  obtain ⟨kd, x, y, z, hok, hev⟩ := wevent_pf k a b c (hz k (by simp)) (hz a (by simp)) (hz b (by simp)) (hz c (by simp))
  have henc := wenc_pf kd x y z hok
  have hby := EK.out_byte kd x y z hok
  have hol := EK.out_len kd x y z kd.len
  have hop := EK.out_pos kd x y z kd.len
  have hdec := wdec_pf (kd.out x y z kd.len) hby (by unfold Go.maxLen; omega)
  rw [decM_out kd x y z hok] at hdec
  obtain ⟨o, ho⟩ : ∃ o, o = kd.out x y z kd.len := ⟨_, rfl⟩
  rw [← ho] at henc hdec hol hop
  have hop2 : (1 : Int) ≤ o.length := by omega
  have hol2 : (o.length : Int) ≤ 16 := by omega
  clear hby ho
  refine PF.of follows_ok wback_code (by simp) (by simp [argOk]) (by simp [noV, noC]) fun B hBN hB0 => acode_sound [0, 1, 2, 3, 4, 5, 6, 7] [] _ _ _ ?_
  cases kd
  all_goals
    simp only [EK.cells] at hev henc hdec
    repeat' (first
      | simp [AK_at, acode_seq, acode_region, acode_draw, acode_cond, ↓CB_t, ↓CB_f, CB_u, acode_block, acode_loop, acode_exit, acode_scope, acode_ret, acode_skip, seqQ_n, seqQ_e, seqQ_r, blockQ_n, blockQ_e, blockQ_r, TK_at, OK_at, SK_at, aops_nil, aops_cons, asch_done, asch_one, asch_two, asch_top, astep, aop_eq, isLoud, aloud, aloud1, isWrite, qv, evS, strip, gof, eget, hget, putO, eput, herase, oks, opnds, gS, afin, afin0, binD, arith, D.cells, takeD, fillD, keep, trim, envOf, Fin, aresl, aresv, resD, argOk, pickV, isP, deq, deqs, boundD, slD, lenD, isT, chunks, mn_min, mx_max, D.cells, splice_one, splice_more, Rbr_at, Rfr_at, frR, frV, frC, flatC, brwR, brwV, brwC, omap, leR, leV, leC, leL, leVL, hop2, hol2, hop, hol]
      | (refine WCall.pf (hev) ?_ ?_ ?_ ?_; (focus (simp [oks, opnds, gS, gof, eget]; done)); (focus (simp [omap, brwV, brwC, evS, eget, strip, hget, leVL, leV, leC, leL, hop2, hol2, hop, hol]; done)); (focus (simp [noV, noC, flatR, flatV, flatC, evS, eget, strip, hop2, hol2, hop, hol]; done)))
      | (refine ⟨WCall.pf (hev) ?_ ?_ ?_ ?_, ?_⟩; (focus (simp [oks, opnds, gS, gof, eget]; done)); (focus (simp [omap, brwV, brwC, evS, eget, strip, hget, leVL, leV, leC, leL, hop2, hol2, hop, hol]; done)); (focus (simp [noV, noC, flatR, flatV, flatC, evS, eget, strip, hop2, hol2, hop, hol]; done)))
      | (refine WCall.pf (henc) ?_ ?_ ?_ ?_; (focus (simp [oks, opnds, gS, gof, eget]; done)); (focus (simp [omap, brwV, brwC, evS, eget, strip, hget, leVL, leV, leC, leL, hop2, hol2, hop, hol]; done)); (focus (simp [noV, noC, flatR, flatV, flatC, evS, eget, strip, hop2, hol2, hop, hol]; done)))
      | (refine ⟨WCall.pf (henc) ?_ ?_ ?_ ?_, ?_⟩; (focus (simp [oks, opnds, gS, gof, eget]; done)); (focus (simp [omap, brwV, brwC, evS, eget, strip, hget, leVL, leV, leC, leL, hop2, hol2, hop, hol]; done)); (focus (simp [noV, noC, flatR, flatV, flatC, evS, eget, strip, hop2, hol2, hop, hol]; done)))
      | (refine WCall.pf (hdec) ?_ ?_ ?_ ?_; (focus (simp [oks, opnds, gS, gof, eget]; done)); (focus (simp [omap, brwV, brwC, evS, eget, strip, hget, leVL, leV, leC, leL, hop2, hol2, hop, hol]; done)); (focus (simp [noV, noC, flatR, flatV, flatC, evS, eget, strip, hop2, hol2, hop, hol]; done)))
      | (refine ⟨WCall.pf (hdec) ?_ ?_ ?_ ?_, ?_⟩; (focus (simp [oks, opnds, gS, gof, eget]; done)); (focus (simp [omap, brwV, brwC, evS, eget, strip, hget, leVL, leV, leC, leL, hop2, hol2, hop, hol]; done)); (focus (simp [noV, noC, flatR, flatV, flatC, evS, eget, strip, hop2, hol2, hop, hol]; done)))
      | (with_reducible refine And.intro (And.intro ?_ ?_) ?_)
      | fail)
theorem wtorn_code : cfun Try.prog [] 15 = some ⟨(.seq (.region 0 [⟨(some 3), (.box (.t 0)), none⟩, ⟨(some 6), (.mov (.k (.bool false))), none⟩]) (.seq (.region 1 [⟨(some 14), (.load true 4 (.t 3)), none⟩, ⟨(some 15), (.call 31 [(.t 14)]), none⟩, ⟨(some 16), (.call 21 [(.t 15)]), none⟩, ⟨(some 13), (.mov (.t 16)), none⟩, ⟨(some 17), (.ext (.t 13) 0), none⟩, ⟨(some 18), (.ext (.t 13) 1), none⟩, ⟨(some 7), (.mov (.t 17)), none⟩, ⟨(some 8), (.mov (.t 18)), none⟩]) (.seq (.seq (.region 2 [⟨(some 19), (.mov (.t 8)), none⟩, ⟨(some 20), (.bin .neq (.t 19) (.k (.int .i64 0))), none⟩, ⟨(some 21), (.mov (.t 20)), none⟩, ⟨(some 22), (.mov (.t 7)), (some (21, false))⟩, ⟨(some 23), (.len (.t 22)), (some (21, false))⟩, ⟨(some 24), (.bin .eql (.t 23) (.k (.int .i64 0))), (some (21, false))⟩, ⟨(some 25), (.pick (.t 21) (.k (.bool true)) (.t 24)), none⟩]) (.cond 25 (.seq (.region 3 [⟨(some 6), (.mov (.k (.bool false))), none⟩]) .ret) .skip)) (.seq (.region 4 [⟨(some 27), (.mov (.t 7)), none⟩, ⟨(some 28), (.mov (.t 1)), none⟩, ⟨(some 29), (.mov (.t 7)), none⟩, ⟨(some 30), (.len (.t 29)), none⟩, ⟨(some 31), (.call 19 [(.t 28), (.t 30)]), none⟩, ⟨(some 32), (.slc 1 (.t 27) none (some (.t 31)) none), none⟩, ⟨(some 33), (.call 32 [(.t 32)]), none⟩, ⟨(some 26), (.mov (.t 33)), none⟩, ⟨(some 34), (.ext (.t 26) 0), none⟩, ⟨(some 35), (.ext (.t 26) 1), none⟩, ⟨(some 9), (.alloc [(.int .i64 0), (.int .i64 0), (.int .i64 0), (.int .i64 0), (.bool false), (.int .i64 0), (.int .i64 0), (.int .i64 0)]), none⟩, ⟨none, (.store 8 (.t 9) (.t 34)), none⟩, ⟨(some 10), (.mov (.t 35)), none⟩]) (.seq (.region 5 [⟨(some 37), (.mov (.t 7)), none⟩, ⟨(some 38), (.app 1 1 [(.int .u8 0)] (.k .nil0) (.t 37)), none⟩, ⟨(some 39), (.mov (.t 2)), none⟩, ⟨(some 40), (.bslice 1 1 [(.int .u8 0)] [(0, (.t 39))]), none⟩, ⟨(some 41), (.app 1 1 [(.int .u8 0)] (.t 38) (.t 40)), none⟩, ⟨(some 42), (.call 32 [(.t 41)]), none⟩, ⟨(some 36), (.mov (.t 42)), none⟩, ⟨(some 43), (.ext (.t 36) 0), none⟩, ⟨(some 44), (.ext (.t 36) 1), none⟩, ⟨(some 11), (.alloc [(.int .i64 0), (.int .i64 0), (.int .i64 0), (.int .i64 0), (.bool false), (.int .i64 0), (.int .i64 0), (.int .i64 0)]), none⟩, ⟨none, (.store 8 (.t 11) (.t 43)), none⟩, ⟨(some 12), (.mov (.t 44)), none⟩]) (.seq (.region 6 [⟨(some 45), (.mov (.t 10)), none⟩, ⟨(some 46), (.bin .eql (.t 45) (.k (.int .i64 4))), none⟩, ⟨(some 47), (.mov (.t 46)), none⟩, ⟨(some 48), (.mov (.t 12)), (some (47, true))⟩, ⟨(some 49), (.bin .eql (.t 48) (.k (.int .i64 3))), (some (47, true))⟩, ⟨(some 50), (.pick (.t 47) (.t 49) (.k (.bool false))), none⟩, ⟨(some 51), (.mov (.t 50)), none⟩, ⟨(some 52), (.load true 8 (.t 11)), (some (51, true))⟩, ⟨(some 53), (.build [(.int .i64 0), (.int .i64 0), (.int .i64 0), (.int .i64 0), (.bool false), (.int .i64 0), (.int .i64 0), (.int .i64 0)] []), (some (51, true))⟩, ⟨(some 54), (.eqa false [.i, .i, .i, .i, .b, .i, .i, .i] (.t 52) (.t 53)), (some (51, true))⟩, ⟨(some 55), (.pick (.t 51) (.t 54) (.k (.bool false))), none⟩, ⟨(some 6), (.mov (.t 55)), none⟩]) .ret)))))), [(.t 6)], 56⟩ := by kernel_rfl
theorem wtorn_pf (r : List Int) (cut t : Int) (hr : r.length = 4 ∧ ∀ z ∈ r, InR z) (hcut : InR cut) (ht : Byte t) : PF Try.prog 15 [.agg (r.map I), I cut, .int .u8 t] (.bool true) := by
  obtain ⟨hl, hz⟩ := hr
  obtain ⟨k, a, b, c, rfl⟩ := four hl
  obtain ⟨kd, x, y, z, hok, hev⟩ := wevent_pf k a b c (hz k (by simp)) (hz a (by simp)) (hz b (by simp)) (hz c (by simp))
  have henc := wenc_pf kd x y z hok
  have hby := EK.out_byte kd x y z hok
  have hol := EK.out_len kd x y z kd.len
  have hop := EK.out_pos kd x y z kd.len
  have hmore := decM_more kd x y z hok t
  have htorn := decM_torn kd x y z hok
  obtain ⟨o, ho⟩ : ∃ o, o = kd.out x y z kd.len := ⟨_, rfl⟩
  rw [← ho] at henc hol hop hmore hby
  simp only [← ho] at htorn
  have pc := picked_pf cut o.length hcut (by omega)
  have rc := pickedZ_range cut o.length (by omega)
  obtain ⟨j, hj⟩ : ∃ j : Nat, (j : Int) = pickedZ cut o.length := ⟨(pickedZ cut o.length).toNat, by omega⟩
  rw [← hj] at pc rc
  have hd1 := wdec_pf (o.take j) (fun c hc => hby c (List.mem_of_mem_take hc)) (by unfold Go.maxLen; simp; omega)
  rw [htorn j (by omega)] at hd1
  have hd2 := wdec_pf (o ++ [t]) (fun c hc => (List.mem_append.1 hc).elim (hby c) fun h => List.mem_singleton.1 h ▸ ht) (by unfold Go.maxLen; simp; omega)
  rw [hmore] at hd2
  obtain ⟨q, hq⟩ : ∃ q, q = (decM (o.take j)).1 := ⟨_, rfl⟩
  have hqz : q = zeroE := by rw [hq]; exact decM_zero _ (by rw [htorn j (by omega)]; omega)
  rw [← hq, hqz] at hd1
  rw [List.map_take] at hd1
  rw [List.map_append] at hd2
  simp only [zeroE, List.map_cons, List.map_nil, PB] at hd1 hd2
  have hne : ¬ (o.length : Int) = 0 := by omega
  have hne2 : ¬ o.length = 0 := by omega
  have hne3 : o ≠ [] := fun h => hne2 (by rw [h]; rfl)
  have hj0 : (0 : Int) ≤ j := by omega
  have hjl : j ≤ o.length := by omega
  have hc1 : o.length ≤ 140737488355328 := by omega
  have hc2 : o.length + 1 ≤ 140737488355328 := by omega
  refine PF.of follows_ok wtorn_code (by simp) (by simp [argOk]) (by simp [noV, noC]) fun B hBN hB0 => acode_sound [0, 1, 2, 3, 6, 7, 8, 10, 11, 12, 25] [] _ _ _ ?_
  clear hby hmore htorn ho hq
  cases kd
  all_goals
    simp only [EK.cells] at hev henc
    repeat' (first
      | simp [AK_at, acode_seq, acode_region, acode_draw, acode_cond, ↓CB_t, ↓CB_f, CB_u, acode_block, acode_loop, acode_exit, acode_scope, acode_ret, acode_skip, seqQ_n, seqQ_e, seqQ_r, blockQ_n, blockQ_e, blockQ_r, TK_at, OK_at, SK_at, aops_nil, aops_cons, asch_done, asch_one, asch_two, asch_top, astep, aop_eq, isLoud, aloud, aloud1, isWrite, qv, evS, strip, gof, eget, hget, putO, eput, herase, oks, opnds, gS, afin, afin0, binD, arith, D.cells, takeD, fillD, keep, trim, envOf, Fin, aresl, aresv, resD, argOk, pickV, isP, deq, deqs, boundD, slD, lenD, isT, chunks, mn_min, mx_max, D.cells, splice_one, splice_more, Rbr_at, Rfr_at, frR, frV, frC, flatC, brwR, brwV, brwC, omap, leR, leV, leC, leL, leVL, hne, hne2, hne3, hj0, hjl, hc1, hc2, PB]
      | (refine WCall.pf (hev) ?_ ?_ ?_ ?_; (focus (simp [oks, opnds, gS, gof, eget]; done)); (focus (simp [omap, brwV, brwC, evS, eget, strip, hget, leVL, leV, leC, leL, hne, hne2, hne3, hj0, hjl, hc1, hc2, PB]; done)); (focus (simp [noV, noC, flatR, flatV, flatC, evS, eget, strip, hne, hne2, hne3, hj0, hjl, hc1, hc2, PB]; done)))
      | (refine ⟨WCall.pf (hev) ?_ ?_ ?_ ?_, ?_⟩; (focus (simp [oks, opnds, gS, gof, eget]; done)); (focus (simp [omap, brwV, brwC, evS, eget, strip, hget, leVL, leV, leC, leL, hne, hne2, hne3, hj0, hjl, hc1, hc2, PB]; done)); (focus (simp [noV, noC, flatR, flatV, flatC, evS, eget, strip, hne, hne2, hne3, hj0, hjl, hc1, hc2, PB]; done)))
      | (refine WCall.pf (henc) ?_ ?_ ?_ ?_; (focus (simp [oks, opnds, gS, gof, eget]; done)); (focus (simp [omap, brwV, brwC, evS, eget, strip, hget, leVL, leV, leC, leL, hne, hne2, hne3, hj0, hjl, hc1, hc2, PB]; done)); (focus (simp [noV, noC, flatR, flatV, flatC, evS, eget, strip, hne, hne2, hne3, hj0, hjl, hc1, hc2, PB]; done)))
      | (refine ⟨WCall.pf (henc) ?_ ?_ ?_ ?_, ?_⟩; (focus (simp [oks, opnds, gS, gof, eget]; done)); (focus (simp [omap, brwV, brwC, evS, eget, strip, hget, leVL, leV, leC, leL, hne, hne2, hne3, hj0, hjl, hc1, hc2, PB]; done)); (focus (simp [noV, noC, flatR, flatV, flatC, evS, eget, strip, hne, hne2, hne3, hj0, hjl, hc1, hc2, PB]; done)))
      | (refine WCall.pf (pc) ?_ ?_ ?_ ?_; (focus (simp [oks, opnds, gS, gof, eget]; done)); (focus (simp [omap, brwV, brwC, evS, eget, strip, hget, leVL, leV, leC, leL, hne, hne2, hne3, hj0, hjl, hc1, hc2, PB]; done)); (focus (simp [noV, noC, flatR, flatV, flatC, evS, eget, strip, hne, hne2, hne3, hj0, hjl, hc1, hc2, PB]; done)))
      | (refine ⟨WCall.pf (pc) ?_ ?_ ?_ ?_, ?_⟩; (focus (simp [oks, opnds, gS, gof, eget]; done)); (focus (simp [omap, brwV, brwC, evS, eget, strip, hget, leVL, leV, leC, leL, hne, hne2, hne3, hj0, hjl, hc1, hc2, PB]; done)); (focus (simp [noV, noC, flatR, flatV, flatC, evS, eget, strip, hne, hne2, hne3, hj0, hjl, hc1, hc2, PB]; done)))
      | (refine WCall.pf (hd1) ?_ ?_ ?_ ?_; (focus (simp [oks, opnds, gS, gof, eget]; done)); (focus (simp [omap, brwV, brwC, evS, eget, strip, hget, leVL, leV, leC, leL, hne, hne2, hne3, hj0, hjl, hc1, hc2, PB]; done)); (focus (simp [noV, noC, flatR, flatV, flatC, evS, eget, strip, hne, hne2, hne3, hj0, hjl, hc1, hc2, PB]; done)))
      | (refine ⟨WCall.pf (hd1) ?_ ?_ ?_ ?_, ?_⟩; (focus (simp [oks, opnds, gS, gof, eget]; done)); (focus (simp [omap, brwV, brwC, evS, eget, strip, hget, leVL, leV, leC, leL, hne, hne2, hne3, hj0, hjl, hc1, hc2, PB]; done)); (focus (simp [noV, noC, flatR, flatV, flatC, evS, eget, strip, hne, hne2, hne3, hj0, hjl, hc1, hc2, PB]; done)))
      | (refine WCall.pf (hd2) ?_ ?_ ?_ ?_; (focus (simp [oks, opnds, gS, gof, eget]; done)); (focus (simp [omap, brwV, brwC, evS, eget, strip, hget, leVL, leV, leC, leL, hne, hne2, hne3, hj0, hjl, hc1, hc2, PB]; done)); (focus (simp [noV, noC, flatR, flatV, flatC, evS, eget, strip, hne, hne2, hne3, hj0, hjl, hc1, hc2, PB]; done)))
      | (refine ⟨WCall.pf (hd2) ?_ ?_ ?_ ?_, ?_⟩; (focus (simp [oks, opnds, gS, gof, eget]; done)); (focus (simp [omap, brwV, brwC, evS, eget, strip, hget, leVL, leV, leC, leL, hne, hne2, hne3, hj0, hjl, hc1, hc2, PB]; done)); (focus (simp [noV, noC, flatR, flatV, flatC, evS, eget, strip, hne, hne2, hne3, hj0, hjl, hc1, hc2, PB]; done)))
      | (with_reducible refine And.intro (And.intro ?_ ?_) ?_)
      | fail)
    done
theorem wless_code : cfun Try.prog [] 5 = some ⟨(.seq (.region 0 [⟨(some 4), (.mov (.k (.bool false))), none⟩]) (.seq (.region 1 [⟨(some 11), (.mov (.t 0)), none⟩, ⟨(some 12), (.call 19 [(.t 11), (.k (.int .i64 4294967296))]), none⟩, ⟨(some 5), (.mov (.t 12)), none⟩]) (.seq (.region 2 [⟨(some 13), (.mov (.t 1)), none⟩, ⟨(some 14), (.call 19 [(.t 13), (.k (.int .i64 4294967296))]), none⟩, ⟨(some 6), (.mov (.t 14)), none⟩]) (.seq (.region 3 [⟨(some 16), (.mov (.t 5)), none⟩, ⟨(some 17), (.mov (.t 6)), none⟩, ⟨(some 18), (.mn (.t 16) (.t 17)), none⟩, ⟨(some 19), (.build [(.int .i64 0), (.int .i64 0), (.int .i64 0), (.int .i64 0), (.bool false), (.int .i64 0), (.int .i64 0), (.int .i64 0)] [(0, (1, (.k (.int .i64 1)))), (1, (1, (.t 18)))]), none⟩, ⟨(some 20), (.call 21 [(.t 19)]), none⟩, ⟨(some 15), (.mov (.t 20)), none⟩, ⟨(some 21), (.ext (.t 15) 0), none⟩, ⟨(some 22), (.ext (.t 15) 1), none⟩, ⟨(some 7), (.mov (.t 21)), none⟩, ⟨(some 8), (.mov (.t 22)), none⟩]) (.seq (.region 4 [⟨(some 24), (.mov (.t 5)), none⟩, ⟨(some 25), (.mov (.t 6)), none⟩, ⟨(some 26), (.mx (.t 24) (.t 25)), none⟩, ⟨(some 27), (.build [(.int .i64 0), (.int .i64 0), (.int .i64 0), (.int .i64 0), (.bool false), (.int .i64 0), (.int .i64 0), (.int .i64 0)] [(0, (1, (.k (.int .i64 1)))), (1, (1, (.t 26)))]), none⟩, ⟨(some 28), (.call 21 [(.t 27)]), none⟩, ⟨(some 23), (.mov (.t 28)), none⟩, ⟨(some 29), (.ext (.t 23) 0), none⟩, ⟨(some 30), (.ext (.t 23) 1), none⟩, ⟨(some 9), (.mov (.t 29)), none⟩, ⟨(some 10), (.mov (.t 30)), none⟩]) (.seq (.region 5 [⟨(some 31), (.mov (.t 8)), none⟩, ⟨(some 32), (.bin .eql (.t 31) (.k (.int .i64 0))), none⟩, ⟨(some 33), (.mov (.t 32)), none⟩, ⟨(some 34), (.mov (.t 10)), (some (33, true))⟩, ⟨(some 35), (.bin .eql (.t 34) (.k (.int .i64 0))), (some (33, true))⟩, ⟨(some 36), (.pick (.t 33) (.t 35) (.k (.bool false))), none⟩, ⟨(some 37), (.mov (.t 36)), none⟩, ⟨(some 38), (.mov (.t 7)), (some (37, true))⟩, ⟨(some 39), (.len (.t 38)), (some (37, true))⟩, ⟨(some 40), (.bin .geq (.t 39) (.k (.int .i64 2))), (some (37, true))⟩, ⟨(some 41), (.pick (.t 37) (.t 40) (.k (.bool false))), none⟩, ⟨(some 42), (.mov (.t 41)), none⟩, ⟨(some 43), (.mov (.t 7)), (some (42, true))⟩, ⟨(some 44), (.len (.t 43)), (some (42, true))⟩, ⟨(some 45), (.mov (.t 9)), (some (42, true))⟩, ⟨(some 46), (.len (.t 45)), (some (42, true))⟩, ⟨(some 47), (.bin .leq (.t 44) (.t 46)), (some (42, true))⟩, ⟨(some 48), (.pick (.t 42) (.t 47) (.k (.bool false))), none⟩, ⟨(some 49), (.mov (.t 48)), none⟩, ⟨(some 50), (.mov (.t 9)), (some (49, true))⟩, ⟨(some 51), (.len (.t 50)), (some (49, true))⟩, ⟨(some 52), (.bin .leq (.t 51) (.k (.int .i64 6))), (some (49, true))⟩, ⟨(some 53), (.pick (.t 49) (.t 52) (.k (.bool false))), none⟩, ⟨(some 4), (.mov (.t 53)), none⟩]) .ret)))))), [(.t 4)], 54⟩ := by kernel_rfl
theorem wless_pf (a b : Int) (ha : InR a) (hb : InR b) : PF Try.prog 5 [I a, I b] (.bool true) := by
  have pa := picked_pf a 4294967296 ha (by omega)
  have ra := pickedZ_range a 4294967296 (by omega)
  obtain ⟨x, hx⟩ : ∃ x, x = pickedZ a 4294967296 := ⟨_, rfl⟩
  have pb := picked_pf b 4294967296 hb (by omega)
  have rb := pickedZ_range b 4294967296 (by omega)
  obtain ⟨y, hy⟩ : ∃ y, y = pickedZ b 4294967296 := ⟨_, rfl⟩
  rw [← hx] at pa ra
  rw [← hy] at pb rb
  obtain ⟨m, hm⟩ : ∃ m, m = min x y := ⟨_, rfl⟩
  obtain ⟨n, hn⟩ : ∃ n, n = max x y := ⟨_, rfl⟩
  have e1 := wenc_pf .op m 0 0 ⟨by omega, by omega⟩
  have e2 := wenc_pf .op n 0 0 ⟨by omega, by omega⟩
  have l1 := encF_len 4 m
  have l2 := encF_len 4 n
  have hmono := encF_mono 4 m n (by omega) (by omega)
  have q1 : (EK.out .op m 0 0 1).length = (encF 4 m).length + 1 := by simp [EK.out]
  have q2 : (EK.out .op n 0 0 1).length = (encF 4 n).length + 1 := by simp [EK.out]
  simp only [EK.len, EK.cells] at e1 e2
  obtain ⟨o1, ho1⟩ : ∃ o1, o1 = EK.out .op m 0 0 1 := ⟨_, rfl⟩
  obtain ⟨o2, ho2⟩ : ∃ o2, o2 = EK.out .op n 0 0 1 := ⟨_, rfl⟩
  rw [← ho1] at e1 q1
  rw [← ho2] at e2 q2
  have c1 : (2 : Int) ≤ o1.length := by omega
  have c2 : (o1.length : Int) ≤ o2.length := by omega
  have c3 : (o2.length : Int) ≤ 6 := by omega
  have d1 : 2 ≤ o1.length := by omega
  have d2 : o1.length ≤ o2.length := by omega
  have d3 : o2.length ≤ 6 := by omega
  refine PF.of follows_ok wless_code (by simp) (by simp [argOk]) (by simp [noV, noC]) fun B hBN hB0 => acode_sound [0, 1, 4, 5, 6, 7, 8, 9, 10] [] _ _ _ ?_
  repeat' (first
    | simp [AK_at, acode_seq, acode_region, acode_draw, acode_cond, ↓CB_t, ↓CB_f, CB_u, acode_block, acode_loop, acode_exit, acode_scope, acode_ret, acode_skip, seqQ_n, seqQ_e, seqQ_r, blockQ_n, blockQ_e, blockQ_r, TK_at, OK_at, SK_at, aops_nil, aops_cons, asch_done, asch_one, asch_two, asch_top, astep, aop_eq, isLoud, aloud, aloud1, isWrite, qv, evS, strip, gof, eget, hget, putO, eput, herase, oks, opnds, gS, afin, afin0, binD, arith, D.cells, takeD, fillD, keep, trim, envOf, Fin, aresl, aresv, resD, argOk, pickV, isP, deq, deqs, boundD, slD, lenD, isT, chunks, mn_min, mx_max, D.cells, splice_one, splice_more, Rbr_at, Rfr_at, frR, frV, frC, flatC, brwR, brwV, brwC, omap, leR, leV, leC, leL, leVL, ← hm, ← hn, c1, c2, c3, d1, d2, d3]
    | (refine WCall.pf (pa) ?_ ?_ ?_ ?_; (focus (simp [oks, opnds, gS, gof, eget]; done)); (focus (simp [omap, brwV, brwC, evS, eget, strip, hget, leVL, leV, leC, leL, ← hm, ← hn, c1, c2, c3, d1, d2, d3]; done)); (focus (simp [noV, noC, flatR, flatV, flatC, evS, eget, strip, ← hm, ← hn, c1, c2, c3, d1, d2, d3]; done)))
    | (refine ⟨WCall.pf (pa) ?_ ?_ ?_ ?_, ?_⟩; (focus (simp [oks, opnds, gS, gof, eget]; done)); (focus (simp [omap, brwV, brwC, evS, eget, strip, hget, leVL, leV, leC, leL, ← hm, ← hn, c1, c2, c3, d1, d2, d3]; done)); (focus (simp [noV, noC, flatR, flatV, flatC, evS, eget, strip, ← hm, ← hn, c1, c2, c3, d1, d2, d3]; done)))
    | (refine WCall.pf (pb) ?_ ?_ ?_ ?_; (focus (simp [oks, opnds, gS, gof, eget]; done)); (focus (simp [omap, brwV, brwC, evS, eget, strip, hget, leVL, leV, leC, leL, ← hm, ← hn, c1, c2, c3, d1, d2, d3]; done)); (focus (simp [noV, noC, flatR, flatV, flatC, evS, eget, strip, ← hm, ← hn, c1, c2, c3, d1, d2, d3]; done)))
    | (refine ⟨WCall.pf (pb) ?_ ?_ ?_ ?_, ?_⟩; (focus (simp [oks, opnds, gS, gof, eget]; done)); (focus (simp [omap, brwV, brwC, evS, eget, strip, hget, leVL, leV, leC, leL, ← hm, ← hn, c1, c2, c3, d1, d2, d3]; done)); (focus (simp [noV, noC, flatR, flatV, flatC, evS, eget, strip, ← hm, ← hn, c1, c2, c3, d1, d2, d3]; done)))
    | (refine WCall.pf (e1) ?_ ?_ ?_ ?_; (focus (simp [oks, opnds, gS, gof, eget]; done)); (focus (simp [omap, brwV, brwC, evS, eget, strip, hget, leVL, leV, leC, leL, ← hm, ← hn, c1, c2, c3, d1, d2, d3]; done)); (focus (simp [noV, noC, flatR, flatV, flatC, evS, eget, strip, ← hm, ← hn, c1, c2, c3, d1, d2, d3]; done)))
    | (refine ⟨WCall.pf (e1) ?_ ?_ ?_ ?_, ?_⟩; (focus (simp [oks, opnds, gS, gof, eget]; done)); (focus (simp [omap, brwV, brwC, evS, eget, strip, hget, leVL, leV, leC, leL, ← hm, ← hn, c1, c2, c3, d1, d2, d3]; done)); (focus (simp [noV, noC, flatR, flatV, flatC, evS, eget, strip, ← hm, ← hn, c1, c2, c3, d1, d2, d3]; done)))
    | (refine WCall.pf (e2) ?_ ?_ ?_ ?_; (focus (simp [oks, opnds, gS, gof, eget]; done)); (focus (simp [omap, brwV, brwC, evS, eget, strip, hget, leVL, leV, leC, leL, ← hm, ← hn, c1, c2, c3, d1, d2, d3]; done)); (focus (simp [noV, noC, flatR, flatV, flatC, evS, eget, strip, ← hm, ← hn, c1, c2, c3, d1, d2, d3]; done)))
    | (refine ⟨WCall.pf (e2) ?_ ?_ ?_ ?_, ?_⟩; (focus (simp [oks, opnds, gS, gof, eget]; done)); (focus (simp [omap, brwV, brwC, evS, eget, strip, hget, leVL, leV, leC, leL, ← hm, ← hn, c1, c2, c3, d1, d2, d3]; done)); (focus (simp [noV, noC, flatR, flatV, flatC, evS, eget, strip, ← hm, ← hn, c1, c2, c3, d1, d2, d3]; done)))
    | (with_reducible refine And.intro (And.intro ?_ ?_) ?_)
    | fail)
  done
end Go.Proofs.Ytgjngknkokgpjaa
