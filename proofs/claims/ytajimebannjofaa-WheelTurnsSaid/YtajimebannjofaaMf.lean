/- This text holds, one behind the other, the texts that say what the program computes, step by step, and the rules that they need. They have no condition of their own. -/
import Derived.Test.YtajimebannjofaaMe
set_option linter.unusedSimpArgs false
set_option linter.unusedVariables false
set_option maxRecDepth 100000
set_option maxHeartbeats 8000000
namespace Go.Proofs.Ytajimebannjofaa
open Go.RowKit
theorem wadv_code : cfun Try.prog [] 15 = some ⟨(.seq (.region 0 [⟨(some 1), (.box (.t 0)), none⟩, ⟨(some 2), (.alloc [(.int .i64 0), .nil0]), none⟩, ⟨(some 3), (.mov (.k .nil0)), none⟩, ⟨(some 4), (.mov (.k (.int .i64 0))), none⟩]) (.seq (.region 1 [⟨(some 17), (.load true 2 (.t 1)), none⟩, ⟨(some 18), (.call 24 [(.t 17)]), none⟩, ⟨(some 16), (.mov (.t 18)), none⟩, ⟨(some 19), (.ext (.t 16) 0), none⟩, ⟨(some 20), (.ext (.t 16) 1), none⟩, ⟨(some 5), (.mov (.t 19)), none⟩, ⟨(some 6), (.mov (.t 20)), none⟩]) (.seq (.seq (.region 2 [⟨(some 21), (.mov (.t 6)), none⟩, ⟨(some 22), (.bin .neq (.t 21) (.k (.int .i64 0))), none⟩]) (.cond 22 (.seq (.region 3 [⟨(some 23), (.build [(.int .i64 0), .nil0] []), none⟩, ⟨(some 24), (.mov (.t 6)), none⟩, ⟨none, (.store 2 (.t 2) (.t 23)), none⟩, ⟨(some 3), (.mov (.k .nil0)), none⟩, ⟨(some 4), (.mov (.t 24)), none⟩]) .ret) .skip)) (.seq (.seq (.region 4 [⟨(some 25), (.fad 0 (.t 1)), none⟩, ⟨(some 26), (.load false 1 (.t 25)), none⟩, ⟨(some 27), (.bin .eql (.t 26) (.k (.int .i64 1099511627776))), none⟩]) (.cond 27 (.seq (.region 5 [⟨(some 28), (.build [(.int .i64 0), .nil0] []), none⟩, ⟨none, (.store 2 (.t 2) (.t 28)), none⟩, ⟨(some 3), (.mov (.k .nil0)), none⟩, ⟨(some 4), (.mov (.k (.int .i64 9))), none⟩]) .ret) .skip)) (.seq (.region 6 [⟨(some 29), (.mov (.t 5)), none⟩, ⟨(some 30), (.nchk (.t 29)), none⟩, ⟨(some 31), (.fad 0 (.t 30)), none⟩, ⟨(some 32), (.fad 0 (.t 31)), none⟩, ⟨(some 33), (.load false 1 (.t 32)), none⟩, ⟨(some 34), (.bin .add (.t 33) (.k (.int .i64 1))), none⟩, ⟨(some 35), (.nchk (.t 29)), none⟩, ⟨(some 36), (.fad 0 (.t 35)), none⟩, ⟨(some 37), (.fad 0 (.t 36)), none⟩, ⟨none, (.store 1 (.t 37) (.t 34)), none⟩]) (.seq (.seq (.draw 7 (.one true ⟨(some 38), (.build [(.int .i64 0), (.int .i64 0)] [(0, (1, (.k (.int .i64 512)))), (1, (1, (.k (.int .i64 24))))]), none⟩ (.one true ⟨(some 39), (.mov (.t 5)), none⟩ (.one true ⟨(some 40), (.nchk (.t 39)), none⟩ (.one true ⟨(some 41), (.fad 0 (.t 40)), none⟩ (.one true ⟨(some 42), (.fad 0 (.t 41)), none⟩ (.one true ⟨(some 43), (.load false 1 (.t 42)), none⟩ (.one true ⟨(some 44), (.bin .quo (.t 43) (.k (.int .i64 64))), none⟩ (.one true ⟨(some 45), (.bin .rem (.t 44) (.k (.int .i64 8))), none⟩ (.one true ⟨(some 46), (.bin .add (.k (.int .i64 16)) (.t 45)), none⟩ (.one true ⟨(some 47), (.build [(.int .i64 0), (.int .i64 0)] [(0, (1, (.k (.int .i64 64)))), (1, (1, (.t 46)))]), none⟩ (.one true ⟨(some 48), (.mov (.t 5)), none⟩ (.one true ⟨(some 49), (.nchk (.t 48)), none⟩ (.one true ⟨(some 50), (.fad 0 (.t 49)), none⟩ (.one true ⟨(some 51), (.fad 0 (.t 50)), none⟩ (.one true ⟨(some 52), (.load false 1 (.t 51)), none⟩ (.one true ⟨(some 53), (.bin .quo (.t 52) (.k (.int .i64 8))), none⟩ (.one true ⟨(some 54), (.bin .rem (.t 53) (.k (.int .i64 8))), none⟩ (.one true ⟨(some 55), (.bin .add (.k (.int .i64 8)) (.t 54)), none⟩ (.one true ⟨(some 56), (.build [(.int .i64 0), (.int .i64 0)] [(0, (1, (.k (.int .i64 8)))), (1, (1, (.t 55)))]), none⟩ (.one true ⟨(some 57), (.build [(.int .i64 0), (.int .i64 0), (.int .i64 0), (.int .i64 0), (.int .i64 0), (.int .i64 0)] [(0, (2, (.t 38))), (2, (2, (.t 47))), (4, (2, (.t 56)))]), none⟩ (.one true ⟨(some 58), (.mov (.k (.int .i64 0))), none⟩ .done)))))))))))))))))))))) (.block 0 (.loop (.seq (.region 8 [⟨(some 59), (.bin .lss (.t 58) (.k (.int .i64 3))), none⟩]) (.seq (.cond 59 .skip (.exit 0)) (.seq (.block 1 (.seq (.region 9 [⟨(some 60), (.ida true 3 2 (.t 57) (.t 58)), none⟩, ⟨(some 8), (.alloc [(.int .i64 0), (.int .i64 0)]), none⟩, ⟨none, (.store 2 (.t 8) (.t 60)), none⟩]) (.seq (.seq (.draw 10 (.one true ⟨(some 61), (.mov (.t 5)), none⟩ (.one true ⟨(some 62), (.nchk (.t 61)), none⟩ (.one true ⟨(some 63), (.fad 0 (.t 62)), none⟩ (.one true ⟨(some 64), (.fad 0 (.t 63)), none⟩ (.one true ⟨(some 65), (.load false 1 (.t 64)), none⟩ (.one true ⟨(some 66), (.fad 0 (.t 8)), none⟩ (.one true ⟨(some 67), (.load false 1 (.t 66)), none⟩ (.one true ⟨(some 68), (.bin .rem (.t 65) (.t 67)), none⟩ (.one true ⟨(some 69), (.bin .neq (.t 68) (.k (.int .i64 0))), none⟩ .done)))))))))) (.cond 69 (.exit 1) .skip)) (.seq (.draw 11 (.one true ⟨(some 70), (.mov (.t 5)), none⟩ (.one true ⟨(some 71), (.nchk (.t 70)), none⟩ (.one true ⟨(some 72), (.fad 0 (.t 71)), none⟩ (.one true ⟨(some 73), (.fad 1 (.t 72)), none⟩ (.one true ⟨(some 74), (.load false 1 (.t 73)), none⟩ (.one true ⟨(some 75), (.fad 1 (.t 8)), none⟩ (.one true ⟨(some 76), (.load false 1 (.t 75)), none⟩ (.one true ⟨(some 77), (.iads 1 (.t 74) (.t 76)), none⟩ (.one true ⟨(some 78), (.load false 1 (.t 77)), none⟩ (.one true ⟨(some 9), (.mov (.t 78)), none⟩ .done))))))))))) (.seq (.draw 12 (.one true ⟨(some 79), (.mov (.t 5)), none⟩ (.one true ⟨(some 80), (.nchk (.t 79)), none⟩ (.one true ⟨(some 81), (.fad 0 (.t 80)), none⟩ (.one true ⟨(some 82), (.fad 1 (.t 81)), none⟩ (.one true ⟨(some 83), (.load false 1 (.t 82)), none⟩ (.one true ⟨(some 84), (.fad 1 (.t 8)), none⟩ (.one true ⟨(some 85), (.load false 1 (.t 84)), none⟩ (.one true ⟨(some 86), (.iads 1 (.t 83) (.t 85)), none⟩ (.one false ⟨none, (.store 1 (.t 86) (.k .nil0)), none⟩ .done)))))))))) (.seq (.region 13 [⟨(some 87), (.mov (.t 9)), none⟩, ⟨(some 88), (.len (.t 87)), none⟩, ⟨(some 89), (.mov (.k (.int .i64 0))), none⟩]) (.block 2 (.loop (.seq (.region 14 [⟨(some 90), (.bin .lss (.t 89) (.t 88)), none⟩]) (.seq (.cond 90 .skip (.exit 2)) (.seq (.block 3 (.seq (.region 15 [⟨(some 91), (.iads 2 (.t 87) (.t 89)), none⟩, ⟨(some 92), (.load true 2 (.t 91)), none⟩, ⟨(some 11), (.alloc [(.int .i64 0), (.int .i64 0)]), none⟩, ⟨none, (.store 2 (.t 11) (.t 92)), none⟩]) (.region 16 [⟨(some 93), (.mov (.t 5)), none⟩, ⟨(some 94), (.load true 2 (.t 11)), none⟩, ⟨(some 95), (.call 28 [(.t 93), (.t 94)]), none⟩]))) (.region 17 [⟨(some 96), (.bin .add (.t 89) (.k (.int .i64 1))), none⟩, ⟨(some 89), (.mov (.t 96)), none⟩])))))))))))) (.region 18 [⟨(some 97), (.bin .add (.t 58) (.k (.int .i64 1))), none⟩, ⟨(some 58), (.mov (.t 97)), none⟩]))))))) (.seq (.region 19 [⟨(some 12), (.mov (.k .nil0)), none⟩]) (.seq (.region 20 [⟨(some 98), (.mov (.t 5)), none⟩, ⟨(some 99), (.nchk (.t 98)), none⟩, ⟨(some 100), (.fad 0 (.t 99)), none⟩, ⟨(some 101), (.fad 0 (.t 100)), none⟩, ⟨(some 102), (.load false 1 (.t 101)), none⟩, ⟨(some 103), (.bin .rem (.t 102) (.k (.int .i64 8))), none⟩, ⟨(some 13), (.mov (.t 103)), none⟩]) (.seq (.seq (.region 21 [⟨(some 104), (.mov (.t 5)), none⟩, ⟨(some 105), (.nchk (.t 104)), none⟩, ⟨(some 106), (.fad 0 (.t 105)), none⟩, ⟨(some 107), (.fad 1 (.t 106)), none⟩, ⟨(some 108), (.load false 1 (.t 107)), none⟩, ⟨(some 109), (.mov (.t 13)), none⟩, ⟨(some 110), (.iads 1 (.t 108) (.t 109)), none⟩, ⟨(some 111), (.load false 1 (.t 110)), none⟩, ⟨(some 112), (.len (.t 111)), none⟩, ⟨(some 113), (.mov (.k (.int .i64 0))), none⟩]) (.block 4 (.loop (.seq (.region 22 [⟨(some 114), (.bin .lss (.t 113) (.t 112)), none⟩]) (.seq (.cond 114 .skip (.exit 4)) (.seq (.block 5 (.seq (.region 23 [⟨(some 115), (.iads 2 (.t 111) (.t 113)), none⟩, ⟨(some 116), (.load true 2 (.t 115)), none⟩, ⟨(some 15), (.alloc [(.int .i64 0), (.int .i64 0)]), none⟩, ⟨none, (.store 2 (.t 15) (.t 116)), none⟩]) (.region 24 [⟨(some 117), (.mov (.t 12)), none⟩, ⟨(some 118), (.fad 1 (.t 15)), none⟩, ⟨(some 119), (.load false 1 (.t 118)), none⟩, ⟨(some 120), (.bslice 1 1 [(.int .i64 0)] [(0, (.t 119))]), none⟩, ⟨(some 121), (.app 1 8 [(.int .i64 0)] (.t 117) (.t 120)), none⟩, ⟨(some 12), (.mov (.t 121)), none⟩]))) (.region 25 [⟨(some 122), (.bin .add (.t 113) (.k (.int .i64 1))), none⟩, ⟨(some 113), (.mov (.t 122)), none⟩]))))))) (.seq (.region 26 [⟨(some 123), (.mov (.t 5)), none⟩, ⟨(some 124), (.nchk (.t 123)), none⟩, ⟨(some 125), (.fad 0 (.t 124)), none⟩, ⟨(some 126), (.fad 1 (.t 125)), none⟩, ⟨(some 127), (.load false 1 (.t 126)), none⟩, ⟨(some 128), (.mov (.t 13)), none⟩, ⟨(some 129), (.iads 1 (.t 127) (.t 128)), none⟩, ⟨none, (.store 1 (.t 129) (.k .nil0)), none⟩]) (.seq (.region 27 [⟨(some 130), (.mov (.t 5)), none⟩, ⟨(some 131), (.nchk (.t 130)), none⟩, ⟨(some 132), (.fad 0 (.t 131)), none⟩, ⟨(some 133), (.load true 2 (.t 132)), none⟩, ⟨(some 134), (.mov (.t 12)), none⟩, ⟨none, (.store 2 (.t 2) (.t 133)), none⟩, ⟨(some 3), (.mov (.t 134)), none⟩, ⟨(some 4), (.mov (.k (.int .i64 0))), none⟩]) .ret))))))))))), [(.c 2 true 2), (.t 3), (.t 4)], 135⟩ := by kernel_rfl
theorem wadv_pf (now : Int) (tm : List (Int × Int)) (h : WhOk now tm) (hlt : now < 1099511627776) :
    PF Try.prog 15 [whLD now (byP tm (plN now))] (.tup [whLD (now + 1) (byP (tm.filter fun t => decide (t.1 ≠ now + 1)) (plN (now + 1))), .rows 1 ((tm.filter fun t => decide (t.1 = now + 1)).map fun t => [I t.2]), I 0]) := by
  have hok := byP_ok h
  have hop := wopen_hf now _ hok
  have hL := byP_len tm (plN now)
  obtain ⟨n, hn1⟩ : ∃ n, now + 1 = n := ⟨_, rfl⟩
  rw [hn1]
  obtain ⟨R1, hR1⟩ : ∃ R1, R1 = byP (tm.filter fun t => decide (t.1 ≠ n)) (plN n) := ⟨_, rfl⟩
  obtain ⟨R2, hR2⟩ : ∃ R2, R2 = (tm.filter fun t => decide (t.1 = n)).map fun t => [I t.2] := ⟨_, rfl⟩
  rw [← hR1, ← hR2]
  have hnow := h.n0
  have hn0 : 0 ≤ n := by omega
  have hnb : n ≤ 1099511627776 := by omega
  obtain ⟨q1, hq1e⟩ : ∃ q1 : Nat, 16 + n / 64 % 8 = (q1 : Int) := ⟨(16 + n / 64 % 8).toNat, by omega⟩
  obtain ⟨q2, hq2e⟩ : ∃ q2 : Nat, 8 + n / 8 % 8 = (q2 : Int) := ⟨(8 + n / 8 % 8).toNat, by omega⟩
  have hA0 : qA n 0 = 24 := rfl
  have hA1 : qA n 1 = q1 := by unfold qA; simp; omega
  have hA2 : qA n 2 = q2 := by unfold qA; simp; omega
  have h24 : 24 < 25 := by omega
  have h24z : (24 : Int) < 25 := by omega
  have hq1 : q1 < 25 := by omega
  have hq1z : (q1 : Int) < 25 := by omega
  have hq2 : q2 < 25 := by omega
  have hq2z : (q2 : Int) < 25 := by omega
  have i0 : InR n := inW (by omega) (by omega)
  have i1 : InR (n / 64) := inW (by omega) (by omega)
  have i2 : InR (n / 8) := inW (by omega) (by omega)
  have p1 : 0 ≤ n / 64 := by omega
  have p2 : 0 ≤ n / 8 := by omega
  have iq1 : InR (q1 : Int) := inW (by omega) (by omega)
  have iq2 : InR (q2 : Int) := inW (by omega) (by omega)
  have hne : ¬ now = 1099511627776 := by omega
  have hX0 := tmX_len (byP tm (plN now))
  rw [byP_len] at hX0
  have hst : ∀ X : List (List (List D)), eput (nestC now X) 26 (.cells [I n, .own 25]) = nestC n X := fun X => rfl
  unfold whLD at hop ⊢
  refine PF.of follows_ok wadv_code (by simp) (by simp [argOk]) (by simp [noV, noC]) fun B hBN hB0 => acode_sound [0, 1, 2, 3, 4, 5, 6, 8, 9, 11, 12, 13, 15, 22, 27, 57, 58, 59, 69, 87, 88, 89, 90, 111, 112, 113, 114] [2, 12, 16, 26] _ _ _ ?_
  simp [AK_at, acode_seq, acode_region, acode_draw, acode_cond, ↓CB_t, ↓CB_f, CB_u, acode_block, acode_loop, acode_exit, acode_scope, acode_ret, acode_skip, seqQ_n, seqQ_e, seqQ_r, blockQ_n, blockQ_e, blockQ_r, TK_at, OK_at, SK_at, aops_nil, aops_cons, asch_done, asch_one, asch_two, asch_top, astep, aop_eq, isLoud, aloud, aloud1, isWrite, qv, evS, strip, gof, eget, hget, putO, eput, herase, oks, opnds, gS, afin, afin0, binD, arith, D.cells, takeD, fillD, keep, trim, envOf, Fin, aresl, aresv, resD, argOk, pickV, isP, deq, deqs, boundD, slD, lenD, isT, isSl, ptrIds, chunks, mn_min, mx_max, D.cells, splice_one, splice_more, Rbr_at, Rfr_at, frR, frV, frC, flatC, brwR, brwV, brwC, omap, leR, leV, leC, leL, leVL]
  refine WCall.hf0 hop (by simp [oks, opnds, gS, gof, eget]) (by simp [evS, eget, strip]) (by simp [argOk]) (by simp [noV, noC]) ?_
  rintro d H' nx' ⟨rfl, rfl, rfl⟩
  obtain ⟨hno, k0, k1⟩ := open_pre (now := now) hL (.cells [I 0, .nil0]) (.cells [I now, .rows 1 (lsR (byP tm (plN now)))])
  obtain ⟨Hn, hHn⟩ : ∃ Hn, Hn = hputs (rho [] 0 2) (nestC now (tmX (byP tm (plN now)))) [(1, .cells [I 0, .nil0]), (0, .cells [I now, .rows 1 (lsR (byP tm (plN now)))])] := ⟨_, rfl⟩
  rw [← hHn] at hno k0 k1
  simp only [← hHn]
  simp [AK_at, acode_seq, acode_region, acode_draw, acode_cond, ↓CB_t, ↓CB_f, CB_u, acode_block, acode_loop, acode_exit, acode_scope, acode_ret, acode_skip, seqQ_n, seqQ_e, seqQ_r, blockQ_n, blockQ_e, blockQ_r, TK_at, OK_at, SK_at, aops_nil, aops_cons, asch_done, asch_one, asch_two, asch_top, astep, aop_eq, isLoud, aloud, aloud1, isWrite, qv, evS, strip, gof, eget, hget, putO, eput, herase, oks, opnds, gS, afin, afin0, binD, arith, D.cells, takeD, fillD, keep, trim, envOf, Fin, aresl, aresv, resD, argOk, pickV, isP, deq, deqs, boundD, slD, lenD, isT, isSl, ptrIds, chunks, mn_min, mx_max, D.cells, splice_one, splice_more, Rbr_at, Rfr_at, frR, frV, frC, flatC, brwR, brwV, brwC, omap, leR, leV, leC, leL, leVL, rnR, rnV, rnC, rnO, rho_0, hputs, herases]
  refine W.gh (st1 := ⟨[(6, I 0), (5, .ptr 26 0), (2, .ptr 28 0), (1, .ptr 27 0)], [(28, .cells [I 0, .nil0]), (27, .cells [I now, .rows 1 (lsR (byP tm (plN now)))])] ++ nestC now (tmX (byP tm (plN now))), 29⟩) (Gh.canon (es := [0, 1]) 29 hB0 hno (by omega) (by omega) (by simp [eget, rnR, rnV, rnC, LtR, LtV, LtC, canL]) (by simp [hget, rnO, rnC, LtO, LtC, canL, k0, k1]) (by simp [canL]; intros; omega) (by simp [canL])) ?_
  clear hHn hno k0 k1
  have g26 := hget_nest26 now (tmX (byP tm (plN now)))
  have g26n := fun X => hget_nest26 n X
  refine acode_sound [0, 1, 2, 3, 4, 5, 6, 8, 9, 11, 12, 13, 15, 22, 27, 57, 58, 59, 69, 87, 88, 89, 90, 111, 112, 113, 114] [12, 16, 26] _ _ _ ?_
  simp [AK_at, acode_seq, acode_region, acode_draw, acode_cond, ↓CB_t, ↓CB_f, CB_u, acode_block, acode_loop, acode_exit, acode_scope, acode_ret, acode_skip, seqQ_n, seqQ_e, seqQ_r, blockQ_n, blockQ_e, blockQ_r, TK_at, OK_at, SK_at, aops_nil, aops_cons, asch_done, asch_one, asch_two, asch_top, astep, aop_eq, isLoud, aloud, aloud1, isWrite, qv, evS, strip, gof, eget, hget, putO, eput, herase, oks, opnds, gS, afin, afin0, binD, arith, D.cells, takeD, fillD, keep, trim, envOf, Fin, aresl, aresv, resD, argOk, pickV, isP, deq, deqs, boundD, slD, lenD, isT, isSl, ptrIds, chunks, mn_min, mx_max, D.cells, splice_one, splice_more, Rbr_at, Rfr_at, frR, frV, frC, flatC, brwR, brwV, brwC, omap, leR, leV, leC, leL, leVL, g26, g26n, hn1, hst, hne, i0, i1, i2, hn0, p1, p2, hq1e, hq2e, iq1, iq2]
  refine W.loopS (fun k : Nat => ⟨[(58, I k), (57, .agg [I 512, I 24, I 64, I q1, I 8, I q2]), (5, .ptr 26 0), (2, .ptr 27 0)], (27, .cells [I 0, .nil0]) :: nestC n (tmX (byP tm (posA now k))), 28⟩)
    (fun m k => m = 3 - k ∧ k ≤ 3) ?_ ?_
  · have hX0' : (tmX (byP tm (posA now 0))).length = 25 := hX0
    refine ⟨_, 0, Gh.canon (ids := List.range 25) (l' := 25) (x' := 26) (es := [28]) (Hx := [(27, .cells [I 0, .nil0])]) 28 hB0 (((nestOk_range n _ 25 hX0' (by omega)).up 27 _ (by omega) (range_lt (by omega))).up 28 _ (by omega) (range_lt (by omega))) (by omega) (by omega) (by simp [eget, rnR, rnV, rnC, LtR, LtV, LtC, canL]) (by simp [hget, rnO, rnC, LtO, LtC, canL]) (by simp [canL]) (by simp [canL]), rfl, by omega⟩
  · rintro m k ⟨hm, hk⟩
    refine acode_sound [0, 1, 2, 3, 4, 5, 6, 8, 9, 11, 12, 13, 15, 22, 27, 57, 58, 59, 69, 87, 88, 89, 90, 111, 112, 113, 114] [12, 16, 26] _ _ _ ?_
    rcases (show k = 0 ∨ k = 1 ∨ k = 2 ∨ k = 3 by omega) with rfl | rfl | rfl | rfl

    · -- block 0
      obtain ⟨P, hP⟩ : ∃ P, P = posA now 0 := ⟨_, rfl⟩
      have hPs : ∀ t, posA now (1) t = if n % 512 = 0 ∧ P t = 24 then plN n t else P t := fun t => by
        have e : posA now (1) t = if (now + 1) % 512 = 0 ∧ posA now 0 t = qA (now + 1) 0 then plN (now + 1) t else posA now 0 t := rfl
        rw [e, hn1, hA0, ← hP]
      have ik0 : InR (1) := inW (by omega) (by omega)
      simp only [← hP]
      have hX := tmX_len (byP tm P)
      rw [byP_len] at hX
      have g26 := hget_nest26 n (tmX (byP tm P))
      have g25 := hget_nest25 n (tmX (byP tm P))
      rw [hX] at g25
      have hep := eput_nest n (tmX (byP tm P))
      by_cases c : n % 512 = 0
      · obtain ⟨l, hl⟩ : ∃ l, l = tm.filter fun t => decide (P t = 24) := ⟨_, rfl⟩
        have hLq : (byP tm P).getD 24 [] = l := by rw [hl]; exact byP_get tm P 24 (by omega)
        have gq : hget (nestC n (tmX (byP tm P))) 24 = some (.row 2 (l.map tmE)) := by
          rw [hget_nestp n (tmX (byP tm P)) 24 (by omega) (by omega)]
          congr 2
          rw [← hLq]
          simp [tmX, List.getD_eq_getElem?_getD, byP_len, h24]
        have hl200 : l.length ≤ 200 := by rw [hl]; exact Nat.le_trans (List.length_filter_le _ _) h.few
        have hrl : (ownR 25).length = 25 := ownR_len 25
        have hrp := ownR_get 25 24 (by omega)
        simp [AK_at, acode_seq, acode_region, acode_draw, acode_cond, ↓CB_t, ↓CB_f, CB_u, acode_block, acode_loop, acode_exit, acode_scope, acode_ret, acode_skip, seqQ_n, seqQ_e, seqQ_r, blockQ_n, blockQ_e, blockQ_r, TK_at, OK_at, SK_at, aops_nil, aops_cons, asch_done, asch_one, asch_two, asch_top, astep, aop_eq, isLoud, aloud, aloud1, isWrite, qv, evS, strip, gof, eget, hget, putO, eput, herase, oks, opnds, gS, afin, afin0, binD, arith, D.cells, takeD, fillD, keep, trim, envOf, Fin, aresl, aresv, resD, argOk, pickV, isP, deq, deqs, boundD, slD, lenD, isT, isSl, ptrIds, chunks, mn_min, mx_max, D.cells, splice_one, splice_more, Rbr_at, Rfr_at, frR, frV, frC, flatC, brwR, brwV, brwC, omap, leR, leV, leC, leL, leVL, hn0, hn1, c, g26, g25, hep, hrl, hrp, h24, h24z]
        refine W.draw (K := fun st' => Gh B st' ⟨[(58, I 0), (57, .agg [I 512, I 24, I 64, I q1, I 8, I q2]), (9, .own 28), (5, .ptr 26 0), (2, .ptr 27 0)], [(28, .row 2 (l.map tmE)), (27, .cells [I 0, .nil0])] ++ nestC n (tmX ((byP tm P).set 24 [])), 29⟩) ?_ (fun st' hg => ⟨_, hg, ?_⟩)
        · simp [AK_at, acode_seq, acode_region, acode_draw, acode_cond, ↓CB_t, ↓CB_f, CB_u, acode_block, acode_loop, acode_exit, acode_scope, acode_ret, acode_skip, seqQ_n, seqQ_e, seqQ_r, blockQ_n, blockQ_e, blockQ_r, TK_at, OK_at, SK_at, aops_nil, aops_cons, asch_done, asch_one, asch_two, asch_top, astep, aop_eq, isLoud, aloud, aloud1, isWrite, qv, evS, strip, gof, eget, hget, putO, eput, herase, oks, opnds, gS, afin, afin0, binD, arith, D.cells, takeD, fillD, keep, trim, envOf, Fin, aresl, aresv, resD, argOk, pickV, isP, deq, deqs, boundD, slD, lenD, isT, isSl, ptrIds, chunks, mn_min, mx_max, D.cells, splice_one, splice_more, Rbr_at, Rfr_at, frR, frV, frC, flatC, brwR, brwV, brwC, omap, leR, leV, leC, leL, leVL, hn0, hn1, g26, g25, hep, hrl, hrp, h24, h24z]
          have hg25 : hget (eput (nestC n (tmX (byP tm P))) 25 (Ob.rowd 1 ((ownR 25).set 24 [D.nil0]))) 25 = some (.rowd 1 ((ownR 25).set 24 [D.nil0])) := by rw [hget_eput, if_pos rfl]
          refine (Gh.adoptR 25 24 2 (by omega) ((ownR 25).set 24 [.nil0]) (by simp [hget, hg25]) (by simp [hrl, h24])).trans ?_
          simp only [tmX_set]
          refine Gh.canon (ids := (List.range 25).set 24 29) (l' := 25) (x' := 26) (es := [27, 24]) (Hx := [(28, .row 2 (l.map tmE)), (27, .cells [I 0, .nil0])]) 29 hB0 (nestOk_set (now := n) hX (by omega) (by omega) ?_ ?_ ?_ (fun j hj hjp => ?_)) (by simp [hX]) (by omega) (by simp [eget, rnR, rnV, rnC, LtR, LtV, LtC, canL]) ?_ ?_ (by simp [canL] <;> omega)
          · simp only [hget_eput, hget]
            rw [if_neg (by omega), if_neg (by omega), if_neg (by omega), if_neg (by omega), if_neg (by omega)]; exact g26
          · simp only [hget_eput]
            rw [if_pos trivial]
            simp
          · simp only [hget_eput]
            rw [if_neg (by omega), if_pos trivial]; rfl
          · simp only [hget_eput, hget]
            rw [if_neg (by omega), if_neg (by omega), if_neg (by omega), if_neg (by omega), if_neg (by omega)]
          · intro p hp
            simp at hp
            rcases hp with rfl | rfl
            · refine ⟨by omega, by omega, trivial, ?_⟩
              show hget _ 24 = _
              simp only [hget_eput, hget]
              rw [if_neg (by omega), if_neg (by omega), if_neg (by omega), if_neg (by omega), if_neg (by omega), gq]; rfl
            · refine ⟨by omega, by omega, by simp [LtO, LtC], ?_⟩
              show hget _ 27 = _
              simp [hget_eput, hget, rnO, rnC]
          · intro p hp
            simp at hp
            rcases hp with rfl | rfl
            · refine ⟨by show 24 ≠ 26; omega, by show 24 ≠ 25; omega, fun hm => ?_⟩
              have hm : 24 ∈ (List.range 25).set 24 29 := hm
              obtain ⟨i, hi⟩ := List.getElem?_of_mem hm
              rw [List.getElem?_set] at hi
              split at hi
              · split at hi
                · simp at hi <;> omega
                · cases hi
              · rename_i hne
                have hi25 : i < 25 := by have := (List.getElem?_eq_some_iff.1 hi).1; simpa using this
                rw [List.getElem?_range hi25] at hi
                simp at hi; omega
            · refine ⟨by show (27 : Nat) ≠ 26; omega, by show (27 : Nat) ≠ 25; omega, fun hm => ?_⟩
              have hm : 27 ∈ (List.range 25).set 24 29 := hm
              rcases List.mem_or_eq_of_mem_set hm with h | h
              · have := List.mem_range.1 h; omega
              · omega
        · obtain ⟨PJ, hPJ⟩ : ∃ PJ : Nat → Int × Int → Nat, PJ = fun j t => if P t = 24 then (if t ∈ l.take j then plN n t else 25) else P t := ⟨_, rfl⟩
          have hPJ0 : (byP tm P).set 24 [] = byP tm (PJ 0) := by
            rw [byP_out tm P 24 (by omega), hPJ]
            exact byP_congr fun t _ => by simp
          rw [hPJ0]
          simp [AK_at, acode_seq, acode_region, acode_draw, acode_cond, ↓CB_t, ↓CB_f, CB_u, acode_block, acode_loop, acode_exit, acode_scope, acode_ret, acode_skip, seqQ_n, seqQ_e, seqQ_r, blockQ_n, blockQ_e, blockQ_r, TK_at, OK_at, SK_at, aops_nil, aops_cons, asch_done, asch_one, asch_two, asch_top, astep, aop_eq, isLoud, aloud, aloud1, isWrite, qv, evS, strip, gof, eget, hget, putO, eput, herase, oks, opnds, gS, afin, afin0, binD, arith, D.cells, takeD, fillD, keep, trim, envOf, Fin, aresl, aresv, resD, argOk, pickV, isP, deq, deqs, boundD, slD, lenD, isT, isSl, ptrIds, chunks, mn_min, mx_max, D.cells, splice_one, splice_more, Rbr_at, Rfr_at, frR, frV, frC, flatC, brwR, brwV, brwC, omap, leR, leV, leC, leL, leVL]
          refine W.loopS (fun j : Nat => ⟨[(89, I j), (88, I l.length), (87, .own 28), (58, I 0), (57, .agg [I 512, I 24, I 64, I q1, I 8, I q2]), (5, .ptr 26 0), (2, .ptr 27 0)], (28, .row 2 (l.map tmE)) :: (27, .cells [I 0, .nil0]) :: nestC n (tmX (byP tm (PJ j))), 29⟩)
            (fun m j => m = l.length - j ∧ j ≤ l.length) ?_ ?_
          · exact ⟨_, 0, Gh.envH (by simp [eget]) rfl rfl, rfl, by omega⟩
          rintro m j ⟨hm, hj⟩
          refine acode_sound [0, 1, 2, 3, 4, 5, 6, 8, 9, 11, 12, 13, 15, 22, 27, 57, 58, 59, 69, 87, 88, 89, 90, 111, 112, 113, 114] [12, 16, 26] _ _ _ ?_
          by_cases hjl : j < l.length
          · obtain ⟨o, ho⟩ : ∃ o, o = l[j] := ⟨_, rfl⟩
            have hol : o ∈ l := ho ▸ List.getElem_mem hjl
            have hot : o ∈ tm := by rw [hl] at hol; exact (List.mem_filter.1 hol).1
            have hoP : P o = 24 := by rw [hl] at hol; simpa using (List.mem_filter.1 hol).2
            have hof := h.fit o hot
            have hnd : l.Nodup := by rw [hl]; exact (srt_nodup h.srt).sublist List.filter_sublist
            have hnot : o ∉ l.take j := fun hm => by
              obtain ⟨i, hi⟩ := List.getElem?_of_mem hm
              rw [List.getElem?_take] at hi
              split at hi
              · rename_i hij
                obtain ⟨h1, h2⟩ := List.getElem?_eq_some_iff.1 hi
                rw [ho] at h2
                have := (List.getElem_inj hnd).1 h2
                omega
              · cases hi
            have hpo : PJ j o = 25 := by rw [hPJ]; simp [hoP, hnot]
            have hput := wput_hf n o.1 o.2 (byP tm (PJ j)) (plN n o) (byP_len _ _) hn0 (by omega) (by omega) (by omega) (plN_eq n o) (plN_lt n o) (fun l' hl' => by
              obtain ⟨p, _, rfl⟩ := byP_mem hl'
              have := List.length_filter_le (fun t => decide (PJ j t = p)) tm
              have := h.few
              omega) (by rw [byP_get _ _ _ (plN_lt n o)]; exact List.Pairwise.filter _ h.srt)
            rw [byP_put h.srt (PJ j) o hot (plN n o) (plN_lt n o) (by omega)] at hput
            have hPn : byP tm (fun t => if t = o then plN n o else PJ j t) = byP tm (PJ (j + 1)) := byP_congr fun t _ => by
              rw [hPJ]
              simp only [List.take_succ_eq_append_getElem hjl, ← ho, List.mem_append, List.mem_singleton]
              by_cases e : t = o
              · subst e; simp [hoP]
              · simp [e]
            rw [hPn] at hput
            have hXj := tmX_len (byP tm (PJ j))
            rw [byP_len] at hXj
            have hXk := tmX_len (byP tm (PJ (j + 1)))
            rw [byP_len] at hXk
            have ij : InR ((j : Int) + 1) := inW (by omega) (by omega)
            simp [AK_at, acode_seq, acode_region, acode_draw, acode_cond, ↓CB_t, ↓CB_f, CB_u, acode_block, acode_loop, acode_exit, acode_scope, acode_ret, acode_skip, seqQ_n, seqQ_e, seqQ_r, blockQ_n, blockQ_e, blockQ_r, TK_at, OK_at, SK_at, aops_nil, aops_cons, asch_done, asch_one, asch_two, asch_top, astep, aop_eq, isLoud, aloud, aloud1, isWrite, qv, evS, strip, gof, eget, hget, putO, eput, herase, oks, opnds, gS, afin, afin0, binD, arith, D.cells, takeD, fillD, keep, trim, envOf, Fin, aresl, aresv, resD, argOk, pickV, isP, deq, deqs, boundD, slD, lenD, isT, isSl, ptrIds, chunks, mn_min, mx_max, D.cells, splice_one, splice_more, Rbr_at, Rfr_at, frR, frV, frC, flatC, brwR, brwV, brwC, omap, leR, leV, leC, leL, leVL, hjl, ← ho, tmE, ij]
            refine W.region (K := fun st' => Gh B st' ⟨[(89, I j), (88, I l.length), (87, .own 28), (58, I 0), (57, .agg [I 512, I 24, I 64, I q1, I 8, I q2]), (5, .ptr 26 0), (2, .ptr 27 0)], [(28, .row 2 (l.map tmE)), (27, .cells [I 0, .nil0])] ++ nestC n (tmX (byP tm (PJ (j + 1)))), 29⟩) ?_ (fun st' hg => ⟨_, hg, ?_⟩)
            · simp [AK_at, acode_seq, acode_region, acode_draw, acode_cond, ↓CB_t, ↓CB_f, CB_u, acode_block, acode_loop, acode_exit, acode_scope, acode_ret, acode_skip, seqQ_n, seqQ_e, seqQ_r, blockQ_n, blockQ_e, blockQ_r, TK_at, OK_at, SK_at, aops_nil, aops_cons, asch_done, asch_one, asch_two, asch_top, astep, aop_eq, isLoud, aloud, aloud1, isWrite, qv, evS, strip, gof, eget, hget, putO, eput, herase, oks, opnds, gS, afin, afin0, binD, arith, D.cells, takeD, fillD, keep, trim, envOf, Fin, aresl, aresv, resD, argOk, pickV, isP, deq, deqs, boundD, slD, lenD, isT, isSl, ptrIds, chunks, mn_min, mx_max, D.cells, splice_one, splice_more, Rbr_at, Rfr_at, frR, frV, frC, flatC, brwR, brwV, brwC, omap, leR, leV, leC, leL, leVL]
              refine WCall.nest hput (by omega) (by simp [oks, opnds, gS, gof, eget]) rfl (by simp) (by simp [evS, eget, strip]) (by simp [argOk]) (by simp [LtV, LtC]) (fun j hj => by simp only [hget]; rw [if_neg (by omega), if_neg (by omega), if_neg (by omega)]) (fun x hx => by simp at hx) ?_
              rintro ⟨e', H', n'⟩ ⟨h1, h2, ⟨ids, hn, hids⟩, h4⟩
              simp at h1 h2 hn hids h4
              subst h1
              have k28 := h4 28 (by omega) (by omega)
              have k27 := h4 27 (by omega) (by omega)
              simp [hget] at k28 k27
              simp [AK_at, acode_seq, acode_region, acode_draw, acode_cond, ↓CB_t, ↓CB_f, CB_u, acode_block, acode_loop, acode_exit, acode_scope, acode_ret, acode_skip, seqQ_n, seqQ_e, seqQ_r, blockQ_n, blockQ_e, blockQ_r, TK_at, OK_at, SK_at, aops_nil, aops_cons, asch_done, asch_one, asch_two, asch_top, astep, aop_eq, isLoud, aloud, aloud1, isWrite, qv, evS, strip, gof, eget, hget, putO, eput, herase, oks, opnds, gS, afin, afin0, binD, arith, D.cells, takeD, fillD, keep, trim, envOf, Fin, aresl, aresv, resD, argOk, pickV, isP, deq, deqs, boundD, slD, lenD, isT, isSl, ptrIds, chunks, mn_min, mx_max, D.cells, splice_one, splice_more, Rbr_at, Rfr_at, frR, frV, frC, flatC, brwR, brwV, brwC, omap, leR, leV, leC, leL, leVL]
              exact Gh.canonK (Hx := [(28, .row 2 (l.map tmE)), (27, .cells [I 0, .nil0])]) 29 hB0 hn (by omega) (by omega) (by simp [eget, rnR, rnV, rnC, LtR, LtV, LtC, canK]) (by simp [hget, rnO, rnC, LtO, LtC, canK, k28, k27]) (fun i hi => by have := hids i hi; omega) (by simp)
            · simp [AK_at, acode_seq, acode_region, acode_draw, acode_cond, ↓CB_t, ↓CB_f, CB_u, acode_block, acode_loop, acode_exit, acode_scope, acode_ret, acode_skip, seqQ_n, seqQ_e, seqQ_r, blockQ_n, blockQ_e, blockQ_r, TK_at, OK_at, SK_at, aops_nil, aops_cons, asch_done, asch_one, asch_two, asch_top, astep, aop_eq, isLoud, aloud, aloud1, isWrite, qv, evS, strip, gof, eget, hget, putO, eput, herase, oks, opnds, gS, afin, afin0, binD, arith, D.cells, takeD, fillD, keep, trim, envOf, Fin, aresl, aresv, resD, argOk, pickV, isP, deq, deqs, boundD, slD, lenD, isT, isSl, ptrIds, chunks, mn_min, mx_max, D.cells, splice_one, splice_more, Rbr_at, Rfr_at, frR, frV, frC, flatC, brwR, brwV, brwC, omap, leR, leV, leC, leL, leVL, ij]
              exact ⟨_, j + 1, Gh.envH (by simp [eget]) rfl rfl, by omega, rfl, by omega⟩
          · obtain rfl : j = l.length := by omega
            have hPe : byP tm (PJ l.length) = byP tm (posA now (1)) := byP_congr fun t ht => by
              rw [hPJ, hPs t]
              simp only [List.take_length, c, true_and]
              by_cases e : P t = 24
              · have : t ∈ l := by rw [hl]; exact List.mem_filter.2 ⟨ht, by simpa using e⟩
                simp [e, this]
              · simp [e]
            have hXe := tmX_len (byP tm (posA now (1)))
            rw [byP_len] at hXe
            rw [hPe]
            simp [AK_at, acode_seq, acode_region, acode_draw, acode_cond, ↓CB_t, ↓CB_f, CB_u, acode_block, acode_loop, acode_exit, acode_scope, acode_ret, acode_skip, seqQ_n, seqQ_e, seqQ_r, blockQ_n, blockQ_e, blockQ_r, TK_at, OK_at, SK_at, aops_nil, aops_cons, asch_done, asch_one, asch_two, asch_top, astep, aop_eq, isLoud, aloud, aloud1, isWrite, qv, evS, strip, gof, eget, hget, putO, eput, herase, oks, opnds, gS, afin, afin0, binD, arith, D.cells, takeD, fillD, keep, trim, envOf, Fin, aresl, aresv, resD, argOk, pickV, isP, deq, deqs, boundD, slD, lenD, isT, isSl, ptrIds, chunks, mn_min, mx_max, D.cells, splice_one, splice_more, Rbr_at, Rfr_at, frR, frV, frC, flatC, brwR, brwV, brwC, omap, leR, leV, leC, leL, leVL, ik0]
            exact ⟨_, 1, Gh.canonK (ids := List.range 25) (Hx := [(27, _)]) 28 hB0 (((nestOk_range n _ 25 hXe (by omega)).up 27 _ (by omega) (range_lt (by omega))).up 28 _ (by omega) (range_lt (by omega))) (by omega) (by omega) (by simp [eget, rnR, rnV, rnC, LtR, LtV, LtC, canK]) (by simp [hget, rnO, rnC, LtO, LtC]) (fun i hi => .inl (range_lt (by omega) i hi)) (by simp), by omega, rfl, by omega⟩
      · have hPe : byP tm P = byP tm (posA now (1)) := byP_congr fun t ht => by
          rw [hPs t, if_neg (fun e => c e.1)]
        have hXe := tmX_len (byP tm (posA now (1)))
        rw [byP_len] at hXe
        simp [AK_at, acode_seq, acode_region, acode_draw, acode_cond, ↓CB_t, ↓CB_f, CB_u, acode_block, acode_loop, acode_exit, acode_scope, acode_ret, acode_skip, seqQ_n, seqQ_e, seqQ_r, blockQ_n, blockQ_e, blockQ_r, TK_at, OK_at, SK_at, aops_nil, aops_cons, asch_done, asch_one, asch_two, asch_top, astep, aop_eq, isLoud, aloud, aloud1, isWrite, qv, evS, strip, gof, eget, hget, putO, eput, herase, oks, opnds, gS, afin, afin0, binD, arith, D.cells, takeD, fillD, keep, trim, envOf, Fin, aresl, aresv, resD, argOk, pickV, isP, deq, deqs, boundD, slD, lenD, isT, isSl, ptrIds, chunks, mn_min, mx_max, D.cells, splice_one, splice_more, Rbr_at, Rfr_at, frR, frV, frC, flatC, brwR, brwV, brwC, omap, leR, leV, leC, leL, leVL, hn0, hn1, c, g26, g25, hep, ik0]
        rw [hPe]
        exact ⟨_, 1, Gh.canonK (ids := List.range 25) (Hx := [(27, _)]) 28 hB0 (((nestOk_range n _ 25 hXe (by omega)).up 27 _ (by omega) (range_lt (by omega))).up 28 _ (by omega) (range_lt (by omega))) (by omega) (by omega) (by simp [eget, rnR, rnV, rnC, LtR, LtV, LtC, canK]) (by simp [hget, rnO, rnC, LtO, LtC]) (fun i hi => .inl (range_lt (by omega) i hi)) (by simp), by omega, rfl, by omega⟩

    · -- block 1
      obtain ⟨P, hP⟩ : ∃ P, P = posA now 1 := ⟨_, rfl⟩
      have hPs : ∀ t, posA now (2) t = if n % 64 = 0 ∧ P t = q1 then plN n t else P t := fun t => by
        have e : posA now (2) t = if (now + 1) % 64 = 0 ∧ posA now 1 t = qA (now + 1) 1 then plN (now + 1) t else posA now 1 t := rfl
        rw [e, hn1, hA1, ← hP]
      have ik1 : InR (2) := inW (by omega) (by omega)
      simp only [← hP]
      have hX := tmX_len (byP tm P)
      rw [byP_len] at hX
      have g26 := hget_nest26 n (tmX (byP tm P))
      have g25 := hget_nest25 n (tmX (byP tm P))
      rw [hX] at g25
      have hep := eput_nest n (tmX (byP tm P))
      by_cases c : n % 64 = 0
      · obtain ⟨l, hl⟩ : ∃ l, l = tm.filter fun t => decide (P t = q1) := ⟨_, rfl⟩
        have hLq : (byP tm P).getD q1 [] = l := by rw [hl]; exact byP_get tm P q1 (by omega)
        have gq : hget (nestC n (tmX (byP tm P))) q1 = some (.row 2 (l.map tmE)) := by
          rw [hget_nestp n (tmX (byP tm P)) q1 (by omega) (by omega)]
          congr 2
          rw [← hLq]
          simp [tmX, List.getD_eq_getElem?_getD, byP_len, hq1]
        have hl200 : l.length ≤ 200 := by rw [hl]; exact Nat.le_trans (List.length_filter_le _ _) h.few
        have hrl : (ownR 25).length = 25 := ownR_len 25
        have hrp := ownR_get 25 q1 (by omega)
        simp [AK_at, acode_seq, acode_region, acode_draw, acode_cond, ↓CB_t, ↓CB_f, CB_u, acode_block, acode_loop, acode_exit, acode_scope, acode_ret, acode_skip, seqQ_n, seqQ_e, seqQ_r, blockQ_n, blockQ_e, blockQ_r, TK_at, OK_at, SK_at, aops_nil, aops_cons, asch_done, asch_one, asch_two, asch_top, astep, aop_eq, isLoud, aloud, aloud1, isWrite, qv, evS, strip, gof, eget, hget, putO, eput, herase, oks, opnds, gS, afin, afin0, binD, arith, D.cells, takeD, fillD, keep, trim, envOf, Fin, aresl, aresv, resD, argOk, pickV, isP, deq, deqs, boundD, slD, lenD, isT, isSl, ptrIds, chunks, mn_min, mx_max, D.cells, splice_one, splice_more, Rbr_at, Rfr_at, frR, frV, frC, flatC, brwR, brwV, brwC, omap, leR, leV, leC, leL, leVL, hn0, hn1, c, g26, g25, hep, hrl, hrp, hq1, hq1z]
        refine W.draw (K := fun st' => Gh B st' ⟨[(58, I 1), (57, .agg [I 512, I 24, I 64, I q1, I 8, I q2]), (9, .own 28), (5, .ptr 26 0), (2, .ptr 27 0)], [(28, .row 2 (l.map tmE)), (27, .cells [I 0, .nil0])] ++ nestC n (tmX ((byP tm P).set q1 [])), 29⟩) ?_ (fun st' hg => ⟨_, hg, ?_⟩)
        · simp [AK_at, acode_seq, acode_region, acode_draw, acode_cond, ↓CB_t, ↓CB_f, CB_u, acode_block, acode_loop, acode_exit, acode_scope, acode_ret, acode_skip, seqQ_n, seqQ_e, seqQ_r, blockQ_n, blockQ_e, blockQ_r, TK_at, OK_at, SK_at, aops_nil, aops_cons, asch_done, asch_one, asch_two, asch_top, astep, aop_eq, isLoud, aloud, aloud1, isWrite, qv, evS, strip, gof, eget, hget, putO, eput, herase, oks, opnds, gS, afin, afin0, binD, arith, D.cells, takeD, fillD, keep, trim, envOf, Fin, aresl, aresv, resD, argOk, pickV, isP, deq, deqs, boundD, slD, lenD, isT, isSl, ptrIds, chunks, mn_min, mx_max, D.cells, splice_one, splice_more, Rbr_at, Rfr_at, frR, frV, frC, flatC, brwR, brwV, brwC, omap, leR, leV, leC, leL, leVL, hn0, hn1, g26, g25, hep, hrl, hrp, hq1, hq1z]
          have hg25 : hget (eput (nestC n (tmX (byP tm P))) 25 (Ob.rowd 1 ((ownR 25).set q1 [D.nil0]))) 25 = some (.rowd 1 ((ownR 25).set q1 [D.nil0])) := by rw [hget_eput, if_pos rfl]
          refine (Gh.adoptR 25 q1 2 (by omega) ((ownR 25).set q1 [.nil0]) (by simp [hget, hg25]) (by simp [hrl, hq1])).trans ?_
          simp only [tmX_set]
          refine Gh.canon (ids := (List.range 25).set q1 29) (l' := 25) (x' := 26) (es := [27, q1]) (Hx := [(28, .row 2 (l.map tmE)), (27, .cells [I 0, .nil0])]) 29 hB0 (nestOk_set (now := n) hX (by omega) (by omega) ?_ ?_ ?_ (fun j hj hjp => ?_)) (by simp [hX]) (by omega) (by simp [eget, rnR, rnV, rnC, LtR, LtV, LtC, canL]) ?_ ?_ (by simp [canL] <;> omega)
          · simp only [hget_eput, hget]
            rw [if_neg (by omega), if_neg (by omega), if_neg (by omega), if_neg (by omega), if_neg (by omega)]; exact g26
          · simp only [hget_eput]
            rw [if_pos trivial]
            simp
          · simp only [hget_eput]
            rw [if_neg (by omega), if_pos trivial]; rfl
          · simp only [hget_eput, hget]
            rw [if_neg (by omega), if_neg (by omega), if_neg (by omega), if_neg (by omega), if_neg (by omega)]
          · intro p hp
            simp at hp
            rcases hp with rfl | rfl
            · refine ⟨by omega, by omega, trivial, ?_⟩
              show hget _ q1 = _
              simp only [hget_eput, hget]
              rw [if_neg (by omega), if_neg (by omega), if_neg (by omega), if_neg (by omega), if_neg (by omega), gq]; rfl
            · refine ⟨by omega, by omega, by simp [LtO, LtC], ?_⟩
              show hget _ 27 = _
              simp [hget_eput, hget, rnO, rnC]
          · intro p hp
            simp at hp
            rcases hp with rfl | rfl
            · refine ⟨by show q1 ≠ 26; omega, by show q1 ≠ 25; omega, fun hm => ?_⟩
              have hm : q1 ∈ (List.range 25).set q1 29 := hm
              obtain ⟨i, hi⟩ := List.getElem?_of_mem hm
              rw [List.getElem?_set] at hi
              split at hi
              · split at hi
                · simp at hi <;> omega
                · cases hi
              · rename_i hne
                have hi25 : i < 25 := by have := (List.getElem?_eq_some_iff.1 hi).1; simpa using this
                rw [List.getElem?_range hi25] at hi
                simp at hi; omega
            · refine ⟨by show (27 : Nat) ≠ 26; omega, by show (27 : Nat) ≠ 25; omega, fun hm => ?_⟩
              have hm : 27 ∈ (List.range 25).set q1 29 := hm
              rcases List.mem_or_eq_of_mem_set hm with h | h
              · have := List.mem_range.1 h; omega
              · omega
        · obtain ⟨PJ, hPJ⟩ : ∃ PJ : Nat → Int × Int → Nat, PJ = fun j t => if P t = q1 then (if t ∈ l.take j then plN n t else 25) else P t := ⟨_, rfl⟩
          have hPJ0 : (byP tm P).set q1 [] = byP tm (PJ 0) := by
            rw [byP_out tm P q1 (by omega), hPJ]
            exact byP_congr fun t _ => by simp
          rw [hPJ0]
          simp [AK_at, acode_seq, acode_region, acode_draw, acode_cond, ↓CB_t, ↓CB_f, CB_u, acode_block, acode_loop, acode_exit, acode_scope, acode_ret, acode_skip, seqQ_n, seqQ_e, seqQ_r, blockQ_n, blockQ_e, blockQ_r, TK_at, OK_at, SK_at, aops_nil, aops_cons, asch_done, asch_one, asch_two, asch_top, astep, aop_eq, isLoud, aloud, aloud1, isWrite, qv, evS, strip, gof, eget, hget, putO, eput, herase, oks, opnds, gS, afin, afin0, binD, arith, D.cells, takeD, fillD, keep, trim, envOf, Fin, aresl, aresv, resD, argOk, pickV, isP, deq, deqs, boundD, slD, lenD, isT, isSl, ptrIds, chunks, mn_min, mx_max, D.cells, splice_one, splice_more, Rbr_at, Rfr_at, frR, frV, frC, flatC, brwR, brwV, brwC, omap, leR, leV, leC, leL, leVL]
          refine W.loopS (fun j : Nat => ⟨[(89, I j), (88, I l.length), (87, .own 28), (58, I 1), (57, .agg [I 512, I 24, I 64, I q1, I 8, I q2]), (5, .ptr 26 0), (2, .ptr 27 0)], (28, .row 2 (l.map tmE)) :: (27, .cells [I 0, .nil0]) :: nestC n (tmX (byP tm (PJ j))), 29⟩)
            (fun m j => m = l.length - j ∧ j ≤ l.length) ?_ ?_
          · exact ⟨_, 0, Gh.envH (by simp [eget]) rfl rfl, rfl, by omega⟩
          rintro m j ⟨hm, hj⟩
          refine acode_sound [0, 1, 2, 3, 4, 5, 6, 8, 9, 11, 12, 13, 15, 22, 27, 57, 58, 59, 69, 87, 88, 89, 90, 111, 112, 113, 114] [12, 16, 26] _ _ _ ?_
          by_cases hjl : j < l.length
          · obtain ⟨o, ho⟩ : ∃ o, o = l[j] := ⟨_, rfl⟩
            have hol : o ∈ l := ho ▸ List.getElem_mem hjl
            have hot : o ∈ tm := by rw [hl] at hol; exact (List.mem_filter.1 hol).1
            have hoP : P o = q1 := by rw [hl] at hol; simpa using (List.mem_filter.1 hol).2
            have hof := h.fit o hot
            have hnd : l.Nodup := by rw [hl]; exact (srt_nodup h.srt).sublist List.filter_sublist
            have hnot : o ∉ l.take j := fun hm => by
              obtain ⟨i, hi⟩ := List.getElem?_of_mem hm
              rw [List.getElem?_take] at hi
              split at hi
              · rename_i hij
                obtain ⟨h1, h2⟩ := List.getElem?_eq_some_iff.1 hi
                rw [ho] at h2
                have := (List.getElem_inj hnd).1 h2
                omega
              · cases hi
            have hpo : PJ j o = 25 := by rw [hPJ]; simp [hoP, hnot]
            have hput := wput_hf n o.1 o.2 (byP tm (PJ j)) (plN n o) (byP_len _ _) hn0 (by omega) (by omega) (by omega) (plN_eq n o) (plN_lt n o) (fun l' hl' => by
              obtain ⟨p, _, rfl⟩ := byP_mem hl'
              have := List.length_filter_le (fun t => decide (PJ j t = p)) tm
              have := h.few
              omega) (by rw [byP_get _ _ _ (plN_lt n o)]; exact List.Pairwise.filter _ h.srt)
            rw [byP_put h.srt (PJ j) o hot (plN n o) (plN_lt n o) (by omega)] at hput
            have hPn : byP tm (fun t => if t = o then plN n o else PJ j t) = byP tm (PJ (j + 1)) := byP_congr fun t _ => by
              rw [hPJ]
              simp only [List.take_succ_eq_append_getElem hjl, ← ho, List.mem_append, List.mem_singleton]
              by_cases e : t = o
              · subst e; simp [hoP]
              · simp [e]
            rw [hPn] at hput
            have hXj := tmX_len (byP tm (PJ j))
            rw [byP_len] at hXj
            have hXk := tmX_len (byP tm (PJ (j + 1)))
            rw [byP_len] at hXk
            have ij : InR ((j : Int) + 1) := inW (by omega) (by omega)
            simp [AK_at, acode_seq, acode_region, acode_draw, acode_cond, ↓CB_t, ↓CB_f, CB_u, acode_block, acode_loop, acode_exit, acode_scope, acode_ret, acode_skip, seqQ_n, seqQ_e, seqQ_r, blockQ_n, blockQ_e, blockQ_r, TK_at, OK_at, SK_at, aops_nil, aops_cons, asch_done, asch_one, asch_two, asch_top, astep, aop_eq, isLoud, aloud, aloud1, isWrite, qv, evS, strip, gof, eget, hget, putO, eput, herase, oks, opnds, gS, afin, afin0, binD, arith, D.cells, takeD, fillD, keep, trim, envOf, Fin, aresl, aresv, resD, argOk, pickV, isP, deq, deqs, boundD, slD, lenD, isT, isSl, ptrIds, chunks, mn_min, mx_max, D.cells, splice_one, splice_more, Rbr_at, Rfr_at, frR, frV, frC, flatC, brwR, brwV, brwC, omap, leR, leV, leC, leL, leVL, hjl, ← ho, tmE, ij]
            refine W.region (K := fun st' => Gh B st' ⟨[(89, I j), (88, I l.length), (87, .own 28), (58, I 1), (57, .agg [I 512, I 24, I 64, I q1, I 8, I q2]), (5, .ptr 26 0), (2, .ptr 27 0)], [(28, .row 2 (l.map tmE)), (27, .cells [I 0, .nil0])] ++ nestC n (tmX (byP tm (PJ (j + 1)))), 29⟩) ?_ (fun st' hg => ⟨_, hg, ?_⟩)
            · simp [AK_at, acode_seq, acode_region, acode_draw, acode_cond, ↓CB_t, ↓CB_f, CB_u, acode_block, acode_loop, acode_exit, acode_scope, acode_ret, acode_skip, seqQ_n, seqQ_e, seqQ_r, blockQ_n, blockQ_e, blockQ_r, TK_at, OK_at, SK_at, aops_nil, aops_cons, asch_done, asch_one, asch_two, asch_top, astep, aop_eq, isLoud, aloud, aloud1, isWrite, qv, evS, strip, gof, eget, hget, putO, eput, herase, oks, opnds, gS, afin, afin0, binD, arith, D.cells, takeD, fillD, keep, trim, envOf, Fin, aresl, aresv, resD, argOk, pickV, isP, deq, deqs, boundD, slD, lenD, isT, isSl, ptrIds, chunks, mn_min, mx_max, D.cells, splice_one, splice_more, Rbr_at, Rfr_at, frR, frV, frC, flatC, brwR, brwV, brwC, omap, leR, leV, leC, leL, leVL]
              refine WCall.nest hput (by omega) (by simp [oks, opnds, gS, gof, eget]) rfl (by simp) (by simp [evS, eget, strip]) (by simp [argOk]) (by simp [LtV, LtC]) (fun j hj => by simp only [hget]; rw [if_neg (by omega), if_neg (by omega), if_neg (by omega)]) (fun x hx => by simp at hx) ?_
              rintro ⟨e', H', n'⟩ ⟨h1, h2, ⟨ids, hn, hids⟩, h4⟩
              simp at h1 h2 hn hids h4
              subst h1
              have k28 := h4 28 (by omega) (by omega)
              have k27 := h4 27 (by omega) (by omega)
              simp [hget] at k28 k27
              simp [AK_at, acode_seq, acode_region, acode_draw, acode_cond, ↓CB_t, ↓CB_f, CB_u, acode_block, acode_loop, acode_exit, acode_scope, acode_ret, acode_skip, seqQ_n, seqQ_e, seqQ_r, blockQ_n, blockQ_e, blockQ_r, TK_at, OK_at, SK_at, aops_nil, aops_cons, asch_done, asch_one, asch_two, asch_top, astep, aop_eq, isLoud, aloud, aloud1, isWrite, qv, evS, strip, gof, eget, hget, putO, eput, herase, oks, opnds, gS, afin, afin0, binD, arith, D.cells, takeD, fillD, keep, trim, envOf, Fin, aresl, aresv, resD, argOk, pickV, isP, deq, deqs, boundD, slD, lenD, isT, isSl, ptrIds, chunks, mn_min, mx_max, D.cells, splice_one, splice_more, Rbr_at, Rfr_at, frR, frV, frC, flatC, brwR, brwV, brwC, omap, leR, leV, leC, leL, leVL]
              exact Gh.canonK (Hx := [(28, .row 2 (l.map tmE)), (27, .cells [I 0, .nil0])]) 29 hB0 hn (by omega) (by omega) (by simp [eget, rnR, rnV, rnC, LtR, LtV, LtC, canK]) (by simp [hget, rnO, rnC, LtO, LtC, canK, k28, k27]) (fun i hi => by have := hids i hi; omega) (by simp)
            · simp [AK_at, acode_seq, acode_region, acode_draw, acode_cond, ↓CB_t, ↓CB_f, CB_u, acode_block, acode_loop, acode_exit, acode_scope, acode_ret, acode_skip, seqQ_n, seqQ_e, seqQ_r, blockQ_n, blockQ_e, blockQ_r, TK_at, OK_at, SK_at, aops_nil, aops_cons, asch_done, asch_one, asch_two, asch_top, astep, aop_eq, isLoud, aloud, aloud1, isWrite, qv, evS, strip, gof, eget, hget, putO, eput, herase, oks, opnds, gS, afin, afin0, binD, arith, D.cells, takeD, fillD, keep, trim, envOf, Fin, aresl, aresv, resD, argOk, pickV, isP, deq, deqs, boundD, slD, lenD, isT, isSl, ptrIds, chunks, mn_min, mx_max, D.cells, splice_one, splice_more, Rbr_at, Rfr_at, frR, frV, frC, flatC, brwR, brwV, brwC, omap, leR, leV, leC, leL, leVL, ij]
              exact ⟨_, j + 1, Gh.envH (by simp [eget]) rfl rfl, by omega, rfl, by omega⟩
          · obtain rfl : j = l.length := by omega
            have hPe : byP tm (PJ l.length) = byP tm (posA now (2)) := byP_congr fun t ht => by
              rw [hPJ, hPs t]
              simp only [List.take_length, c, true_and]
              by_cases e : P t = q1
              · have : t ∈ l := by rw [hl]; exact List.mem_filter.2 ⟨ht, by simpa using e⟩
                simp [e, this]
              · simp [e]
            have hXe := tmX_len (byP tm (posA now (2)))
            rw [byP_len] at hXe
            rw [hPe]
            simp [AK_at, acode_seq, acode_region, acode_draw, acode_cond, ↓CB_t, ↓CB_f, CB_u, acode_block, acode_loop, acode_exit, acode_scope, acode_ret, acode_skip, seqQ_n, seqQ_e, seqQ_r, blockQ_n, blockQ_e, blockQ_r, TK_at, OK_at, SK_at, aops_nil, aops_cons, asch_done, asch_one, asch_two, asch_top, astep, aop_eq, isLoud, aloud, aloud1, isWrite, qv, evS, strip, gof, eget, hget, putO, eput, herase, oks, opnds, gS, afin, afin0, binD, arith, D.cells, takeD, fillD, keep, trim, envOf, Fin, aresl, aresv, resD, argOk, pickV, isP, deq, deqs, boundD, slD, lenD, isT, isSl, ptrIds, chunks, mn_min, mx_max, D.cells, splice_one, splice_more, Rbr_at, Rfr_at, frR, frV, frC, flatC, brwR, brwV, brwC, omap, leR, leV, leC, leL, leVL, ik1]
            exact ⟨_, 2, Gh.canonK (ids := List.range 25) (Hx := [(27, _)]) 28 hB0 (((nestOk_range n _ 25 hXe (by omega)).up 27 _ (by omega) (range_lt (by omega))).up 28 _ (by omega) (range_lt (by omega))) (by omega) (by omega) (by simp [eget, rnR, rnV, rnC, LtR, LtV, LtC, canK]) (by simp [hget, rnO, rnC, LtO, LtC]) (fun i hi => .inl (range_lt (by omega) i hi)) (by simp), by omega, rfl, by omega⟩
      · have hPe : byP tm P = byP tm (posA now (2)) := byP_congr fun t ht => by
          rw [hPs t, if_neg (fun e => c e.1)]
        have hXe := tmX_len (byP tm (posA now (2)))
        rw [byP_len] at hXe
        simp [AK_at, acode_seq, acode_region, acode_draw, acode_cond, ↓CB_t, ↓CB_f, CB_u, acode_block, acode_loop, acode_exit, acode_scope, acode_ret, acode_skip, seqQ_n, seqQ_e, seqQ_r, blockQ_n, blockQ_e, blockQ_r, TK_at, OK_at, SK_at, aops_nil, aops_cons, asch_done, asch_one, asch_two, asch_top, astep, aop_eq, isLoud, aloud, aloud1, isWrite, qv, evS, strip, gof, eget, hget, putO, eput, herase, oks, opnds, gS, afin, afin0, binD, arith, D.cells, takeD, fillD, keep, trim, envOf, Fin, aresl, aresv, resD, argOk, pickV, isP, deq, deqs, boundD, slD, lenD, isT, isSl, ptrIds, chunks, mn_min, mx_max, D.cells, splice_one, splice_more, Rbr_at, Rfr_at, frR, frV, frC, flatC, brwR, brwV, brwC, omap, leR, leV, leC, leL, leVL, hn0, hn1, c, g26, g25, hep, ik1]
        rw [hPe]
        exact ⟨_, 2, Gh.canonK (ids := List.range 25) (Hx := [(27, _)]) 28 hB0 (((nestOk_range n _ 25 hXe (by omega)).up 27 _ (by omega) (range_lt (by omega))).up 28 _ (by omega) (range_lt (by omega))) (by omega) (by omega) (by simp [eget, rnR, rnV, rnC, LtR, LtV, LtC, canK]) (by simp [hget, rnO, rnC, LtO, LtC]) (fun i hi => .inl (range_lt (by omega) i hi)) (by simp), by omega, rfl, by omega⟩

    · -- block 2
      obtain ⟨P, hP⟩ : ∃ P, P = posA now 2 := ⟨_, rfl⟩
      have hPs : ∀ t, posA now (3) t = if n % 8 = 0 ∧ P t = q2 then plN n t else P t := fun t => by
        have e : posA now (3) t = if (now + 1) % 8 = 0 ∧ posA now 2 t = qA (now + 1) 2 then plN (now + 1) t else posA now 2 t := rfl
        rw [e, hn1, hA2, ← hP]
      have ik2 : InR (3) := inW (by omega) (by omega)
      simp only [← hP]
      have hX := tmX_len (byP tm P)
      rw [byP_len] at hX
      have g26 := hget_nest26 n (tmX (byP tm P))
      have g25 := hget_nest25 n (tmX (byP tm P))
      rw [hX] at g25
      have hep := eput_nest n (tmX (byP tm P))
      by_cases c : n % 8 = 0
      · obtain ⟨l, hl⟩ : ∃ l, l = tm.filter fun t => decide (P t = q2) := ⟨_, rfl⟩
        have hLq : (byP tm P).getD q2 [] = l := by rw [hl]; exact byP_get tm P q2 (by omega)
        have gq : hget (nestC n (tmX (byP tm P))) q2 = some (.row 2 (l.map tmE)) := by
          rw [hget_nestp n (tmX (byP tm P)) q2 (by omega) (by omega)]
          congr 2
          rw [← hLq]
          simp [tmX, List.getD_eq_getElem?_getD, byP_len, hq2]
        have hl200 : l.length ≤ 200 := by rw [hl]; exact Nat.le_trans (List.length_filter_le _ _) h.few
        have hrl : (ownR 25).length = 25 := ownR_len 25
        have hrp := ownR_get 25 q2 (by omega)
        simp [AK_at, acode_seq, acode_region, acode_draw, acode_cond, ↓CB_t, ↓CB_f, CB_u, acode_block, acode_loop, acode_exit, acode_scope, acode_ret, acode_skip, seqQ_n, seqQ_e, seqQ_r, blockQ_n, blockQ_e, blockQ_r, TK_at, OK_at, SK_at, aops_nil, aops_cons, asch_done, asch_one, asch_two, asch_top, astep, aop_eq, isLoud, aloud, aloud1, isWrite, qv, evS, strip, gof, eget, hget, putO, eput, herase, oks, opnds, gS, afin, afin0, binD, arith, D.cells, takeD, fillD, keep, trim, envOf, Fin, aresl, aresv, resD, argOk, pickV, isP, deq, deqs, boundD, slD, lenD, isT, isSl, ptrIds, chunks, mn_min, mx_max, D.cells, splice_one, splice_more, Rbr_at, Rfr_at, frR, frV, frC, flatC, brwR, brwV, brwC, omap, leR, leV, leC, leL, leVL, hn0, hn1, c, g26, g25, hep, hrl, hrp, hq2, hq2z]
        refine W.draw (K := fun st' => Gh B st' ⟨[(58, I 2), (57, .agg [I 512, I 24, I 64, I q1, I 8, I q2]), (9, .own 28), (5, .ptr 26 0), (2, .ptr 27 0)], [(28, .row 2 (l.map tmE)), (27, .cells [I 0, .nil0])] ++ nestC n (tmX ((byP tm P).set q2 [])), 29⟩) ?_ (fun st' hg => ⟨_, hg, ?_⟩)
        · simp [AK_at, acode_seq, acode_region, acode_draw, acode_cond, ↓CB_t, ↓CB_f, CB_u, acode_block, acode_loop, acode_exit, acode_scope, acode_ret, acode_skip, seqQ_n, seqQ_e, seqQ_r, blockQ_n, blockQ_e, blockQ_r, TK_at, OK_at, SK_at, aops_nil, aops_cons, asch_done, asch_one, asch_two, asch_top, astep, aop_eq, isLoud, aloud, aloud1, isWrite, qv, evS, strip, gof, eget, hget, putO, eput, herase, oks, opnds, gS, afin, afin0, binD, arith, D.cells, takeD, fillD, keep, trim, envOf, Fin, aresl, aresv, resD, argOk, pickV, isP, deq, deqs, boundD, slD, lenD, isT, isSl, ptrIds, chunks, mn_min, mx_max, D.cells, splice_one, splice_more, Rbr_at, Rfr_at, frR, frV, frC, flatC, brwR, brwV, brwC, omap, leR, leV, leC, leL, leVL, hn0, hn1, g26, g25, hep, hrl, hrp, hq2, hq2z]
          have hg25 : hget (eput (nestC n (tmX (byP tm P))) 25 (Ob.rowd 1 ((ownR 25).set q2 [D.nil0]))) 25 = some (.rowd 1 ((ownR 25).set q2 [D.nil0])) := by rw [hget_eput, if_pos rfl]
          refine (Gh.adoptR 25 q2 2 (by omega) ((ownR 25).set q2 [.nil0]) (by simp [hget, hg25]) (by simp [hrl, hq2])).trans ?_
          simp only [tmX_set]
          refine Gh.canon (ids := (List.range 25).set q2 29) (l' := 25) (x' := 26) (es := [27, q2]) (Hx := [(28, .row 2 (l.map tmE)), (27, .cells [I 0, .nil0])]) 29 hB0 (nestOk_set (now := n) hX (by omega) (by omega) ?_ ?_ ?_ (fun j hj hjp => ?_)) (by simp [hX]) (by omega) (by simp [eget, rnR, rnV, rnC, LtR, LtV, LtC, canL]) ?_ ?_ (by simp [canL] <;> omega)
          · simp only [hget_eput, hget]
            rw [if_neg (by omega), if_neg (by omega), if_neg (by omega), if_neg (by omega), if_neg (by omega)]; exact g26
          · simp only [hget_eput]
            rw [if_pos trivial]
            simp
          · simp only [hget_eput]
            rw [if_neg (by omega), if_pos trivial]; rfl
          · simp only [hget_eput, hget]
            rw [if_neg (by omega), if_neg (by omega), if_neg (by omega), if_neg (by omega), if_neg (by omega)]
          · intro p hp
            simp at hp
            rcases hp with rfl | rfl
            · refine ⟨by omega, by omega, trivial, ?_⟩
              show hget _ q2 = _
              simp only [hget_eput, hget]
              rw [if_neg (by omega), if_neg (by omega), if_neg (by omega), if_neg (by omega), if_neg (by omega), gq]; rfl
            · refine ⟨by omega, by omega, by simp [LtO, LtC], ?_⟩
              show hget _ 27 = _
              simp [hget_eput, hget, rnO, rnC]
          · intro p hp
            simp at hp
            rcases hp with rfl | rfl
            · refine ⟨by show q2 ≠ 26; omega, by show q2 ≠ 25; omega, fun hm => ?_⟩
              have hm : q2 ∈ (List.range 25).set q2 29 := hm
              obtain ⟨i, hi⟩ := List.getElem?_of_mem hm
              rw [List.getElem?_set] at hi
              split at hi
              · split at hi
                · simp at hi <;> omega
                · cases hi
              · rename_i hne
                have hi25 : i < 25 := by have := (List.getElem?_eq_some_iff.1 hi).1; simpa using this
                rw [List.getElem?_range hi25] at hi
                simp at hi; omega
            · refine ⟨by show (27 : Nat) ≠ 26; omega, by show (27 : Nat) ≠ 25; omega, fun hm => ?_⟩
              have hm : 27 ∈ (List.range 25).set q2 29 := hm
              rcases List.mem_or_eq_of_mem_set hm with h | h
              · have := List.mem_range.1 h; omega
              · omega
        · obtain ⟨PJ, hPJ⟩ : ∃ PJ : Nat → Int × Int → Nat, PJ = fun j t => if P t = q2 then (if t ∈ l.take j then plN n t else 25) else P t := ⟨_, rfl⟩
          have hPJ0 : (byP tm P).set q2 [] = byP tm (PJ 0) := by
            rw [byP_out tm P q2 (by omega), hPJ]
            exact byP_congr fun t _ => by simp
          rw [hPJ0]
          simp [AK_at, acode_seq, acode_region, acode_draw, acode_cond, ↓CB_t, ↓CB_f, CB_u, acode_block, acode_loop, acode_exit, acode_scope, acode_ret, acode_skip, seqQ_n, seqQ_e, seqQ_r, blockQ_n, blockQ_e, blockQ_r, TK_at, OK_at, SK_at, aops_nil, aops_cons, asch_done, asch_one, asch_two, asch_top, astep, aop_eq, isLoud, aloud, aloud1, isWrite, qv, evS, strip, gof, eget, hget, putO, eput, herase, oks, opnds, gS, afin, afin0, binD, arith, D.cells, takeD, fillD, keep, trim, envOf, Fin, aresl, aresv, resD, argOk, pickV, isP, deq, deqs, boundD, slD, lenD, isT, isSl, ptrIds, chunks, mn_min, mx_max, D.cells, splice_one, splice_more, Rbr_at, Rfr_at, frR, frV, frC, flatC, brwR, brwV, brwC, omap, leR, leV, leC, leL, leVL]
          refine W.loopS (fun j : Nat => ⟨[(89, I j), (88, I l.length), (87, .own 28), (58, I 2), (57, .agg [I 512, I 24, I 64, I q1, I 8, I q2]), (5, .ptr 26 0), (2, .ptr 27 0)], (28, .row 2 (l.map tmE)) :: (27, .cells [I 0, .nil0]) :: nestC n (tmX (byP tm (PJ j))), 29⟩)
            (fun m j => m = l.length - j ∧ j ≤ l.length) ?_ ?_
          · exact ⟨_, 0, Gh.envH (by simp [eget]) rfl rfl, rfl, by omega⟩
          rintro m j ⟨hm, hj⟩
          refine acode_sound [0, 1, 2, 3, 4, 5, 6, 8, 9, 11, 12, 13, 15, 22, 27, 57, 58, 59, 69, 87, 88, 89, 90, 111, 112, 113, 114] [12, 16, 26] _ _ _ ?_
          by_cases hjl : j < l.length
          · obtain ⟨o, ho⟩ : ∃ o, o = l[j] := ⟨_, rfl⟩
            have hol : o ∈ l := ho ▸ List.getElem_mem hjl
            have hot : o ∈ tm := by rw [hl] at hol; exact (List.mem_filter.1 hol).1
            have hoP : P o = q2 := by rw [hl] at hol; simpa using (List.mem_filter.1 hol).2
            have hof := h.fit o hot
            have hnd : l.Nodup := by rw [hl]; exact (srt_nodup h.srt).sublist List.filter_sublist
            have hnot : o ∉ l.take j := fun hm => by
              obtain ⟨i, hi⟩ := List.getElem?_of_mem hm
              rw [List.getElem?_take] at hi
              split at hi
              · rename_i hij
                obtain ⟨h1, h2⟩ := List.getElem?_eq_some_iff.1 hi
                rw [ho] at h2
                have := (List.getElem_inj hnd).1 h2
                omega
              · cases hi
            have hpo : PJ j o = 25 := by rw [hPJ]; simp [hoP, hnot]
            have hput := wput_hf n o.1 o.2 (byP tm (PJ j)) (plN n o) (byP_len _ _) hn0 (by omega) (by omega) (by omega) (plN_eq n o) (plN_lt n o) (fun l' hl' => by
              obtain ⟨p, _, rfl⟩ := byP_mem hl'
              have := List.length_filter_le (fun t => decide (PJ j t = p)) tm
              have := h.few
              omega) (by rw [byP_get _ _ _ (plN_lt n o)]; exact List.Pairwise.filter _ h.srt)
            rw [byP_put h.srt (PJ j) o hot (plN n o) (plN_lt n o) (by omega)] at hput
            have hPn : byP tm (fun t => if t = o then plN n o else PJ j t) = byP tm (PJ (j + 1)) := byP_congr fun t _ => by
              rw [hPJ]
              simp only [List.take_succ_eq_append_getElem hjl, ← ho, List.mem_append, List.mem_singleton]
              by_cases e : t = o
              · subst e; simp [hoP]
              · simp [e]
            rw [hPn] at hput
            have hXj := tmX_len (byP tm (PJ j))
            rw [byP_len] at hXj
            have hXk := tmX_len (byP tm (PJ (j + 1)))
            rw [byP_len] at hXk
            have ij : InR ((j : Int) + 1) := inW (by omega) (by omega)
            simp [AK_at, acode_seq, acode_region, acode_draw, acode_cond, ↓CB_t, ↓CB_f, CB_u, acode_block, acode_loop, acode_exit, acode_scope, acode_ret, acode_skip, seqQ_n, seqQ_e, seqQ_r, blockQ_n, blockQ_e, blockQ_r, TK_at, OK_at, SK_at, aops_nil, aops_cons, asch_done, asch_one, asch_two, asch_top, astep, aop_eq, isLoud, aloud, aloud1, isWrite, qv, evS, strip, gof, eget, hget, putO, eput, herase, oks, opnds, gS, afin, afin0, binD, arith, D.cells, takeD, fillD, keep, trim, envOf, Fin, aresl, aresv, resD, argOk, pickV, isP, deq, deqs, boundD, slD, lenD, isT, isSl, ptrIds, chunks, mn_min, mx_max, D.cells, splice_one, splice_more, Rbr_at, Rfr_at, frR, frV, frC, flatC, brwR, brwV, brwC, omap, leR, leV, leC, leL, leVL, hjl, ← ho, tmE, ij]
            refine W.region (K := fun st' => Gh B st' ⟨[(89, I j), (88, I l.length), (87, .own 28), (58, I 2), (57, .agg [I 512, I 24, I 64, I q1, I 8, I q2]), (5, .ptr 26 0), (2, .ptr 27 0)], [(28, .row 2 (l.map tmE)), (27, .cells [I 0, .nil0])] ++ nestC n (tmX (byP tm (PJ (j + 1)))), 29⟩) ?_ (fun st' hg => ⟨_, hg, ?_⟩)
            · simp [AK_at, acode_seq, acode_region, acode_draw, acode_cond, ↓CB_t, ↓CB_f, CB_u, acode_block, acode_loop, acode_exit, acode_scope, acode_ret, acode_skip, seqQ_n, seqQ_e, seqQ_r, blockQ_n, blockQ_e, blockQ_r, TK_at, OK_at, SK_at, aops_nil, aops_cons, asch_done, asch_one, asch_two, asch_top, astep, aop_eq, isLoud, aloud, aloud1, isWrite, qv, evS, strip, gof, eget, hget, putO, eput, herase, oks, opnds, gS, afin, afin0, binD, arith, D.cells, takeD, fillD, keep, trim, envOf, Fin, aresl, aresv, resD, argOk, pickV, isP, deq, deqs, boundD, slD, lenD, isT, isSl, ptrIds, chunks, mn_min, mx_max, D.cells, splice_one, splice_more, Rbr_at, Rfr_at, frR, frV, frC, flatC, brwR, brwV, brwC, omap, leR, leV, leC, leL, leVL]
              refine WCall.nest hput (by omega) (by simp [oks, opnds, gS, gof, eget]) rfl (by simp) (by simp [evS, eget, strip]) (by simp [argOk]) (by simp [LtV, LtC]) (fun j hj => by simp only [hget]; rw [if_neg (by omega), if_neg (by omega), if_neg (by omega)]) (fun x hx => by simp at hx) ?_
              rintro ⟨e', H', n'⟩ ⟨h1, h2, ⟨ids, hn, hids⟩, h4⟩
              simp at h1 h2 hn hids h4
              subst h1
              have k28 := h4 28 (by omega) (by omega)
              have k27 := h4 27 (by omega) (by omega)
              simp [hget] at k28 k27
              simp [AK_at, acode_seq, acode_region, acode_draw, acode_cond, ↓CB_t, ↓CB_f, CB_u, acode_block, acode_loop, acode_exit, acode_scope, acode_ret, acode_skip, seqQ_n, seqQ_e, seqQ_r, blockQ_n, blockQ_e, blockQ_r, TK_at, OK_at, SK_at, aops_nil, aops_cons, asch_done, asch_one, asch_two, asch_top, astep, aop_eq, isLoud, aloud, aloud1, isWrite, qv, evS, strip, gof, eget, hget, putO, eput, herase, oks, opnds, gS, afin, afin0, binD, arith, D.cells, takeD, fillD, keep, trim, envOf, Fin, aresl, aresv, resD, argOk, pickV, isP, deq, deqs, boundD, slD, lenD, isT, isSl, ptrIds, chunks, mn_min, mx_max, D.cells, splice_one, splice_more, Rbr_at, Rfr_at, frR, frV, frC, flatC, brwR, brwV, brwC, omap, leR, leV, leC, leL, leVL]
              exact Gh.canonK (Hx := [(28, .row 2 (l.map tmE)), (27, .cells [I 0, .nil0])]) 29 hB0 hn (by omega) (by omega) (by simp [eget, rnR, rnV, rnC, LtR, LtV, LtC, canK]) (by simp [hget, rnO, rnC, LtO, LtC, canK, k28, k27]) (fun i hi => by have := hids i hi; omega) (by simp)
            · simp [AK_at, acode_seq, acode_region, acode_draw, acode_cond, ↓CB_t, ↓CB_f, CB_u, acode_block, acode_loop, acode_exit, acode_scope, acode_ret, acode_skip, seqQ_n, seqQ_e, seqQ_r, blockQ_n, blockQ_e, blockQ_r, TK_at, OK_at, SK_at, aops_nil, aops_cons, asch_done, asch_one, asch_two, asch_top, astep, aop_eq, isLoud, aloud, aloud1, isWrite, qv, evS, strip, gof, eget, hget, putO, eput, herase, oks, opnds, gS, afin, afin0, binD, arith, D.cells, takeD, fillD, keep, trim, envOf, Fin, aresl, aresv, resD, argOk, pickV, isP, deq, deqs, boundD, slD, lenD, isT, isSl, ptrIds, chunks, mn_min, mx_max, D.cells, splice_one, splice_more, Rbr_at, Rfr_at, frR, frV, frC, flatC, brwR, brwV, brwC, omap, leR, leV, leC, leL, leVL, ij]
              exact ⟨_, j + 1, Gh.envH (by simp [eget]) rfl rfl, by omega, rfl, by omega⟩
          · obtain rfl : j = l.length := by omega
            have hPe : byP tm (PJ l.length) = byP tm (posA now (3)) := byP_congr fun t ht => by
              rw [hPJ, hPs t]
              simp only [List.take_length, c, true_and]
              by_cases e : P t = q2
              · have : t ∈ l := by rw [hl]; exact List.mem_filter.2 ⟨ht, by simpa using e⟩
                simp [e, this]
              · simp [e]
            have hXe := tmX_len (byP tm (posA now (3)))
            rw [byP_len] at hXe
            rw [hPe]
            simp [AK_at, acode_seq, acode_region, acode_draw, acode_cond, ↓CB_t, ↓CB_f, CB_u, acode_block, acode_loop, acode_exit, acode_scope, acode_ret, acode_skip, seqQ_n, seqQ_e, seqQ_r, blockQ_n, blockQ_e, blockQ_r, TK_at, OK_at, SK_at, aops_nil, aops_cons, asch_done, asch_one, asch_two, asch_top, astep, aop_eq, isLoud, aloud, aloud1, isWrite, qv, evS, strip, gof, eget, hget, putO, eput, herase, oks, opnds, gS, afin, afin0, binD, arith, D.cells, takeD, fillD, keep, trim, envOf, Fin, aresl, aresv, resD, argOk, pickV, isP, deq, deqs, boundD, slD, lenD, isT, isSl, ptrIds, chunks, mn_min, mx_max, D.cells, splice_one, splice_more, Rbr_at, Rfr_at, frR, frV, frC, flatC, brwR, brwV, brwC, omap, leR, leV, leC, leL, leVL, ik2]
            exact ⟨_, 3, Gh.canonK (ids := List.range 25) (Hx := [(27, _)]) 28 hB0 (((nestOk_range n _ 25 hXe (by omega)).up 27 _ (by omega) (range_lt (by omega))).up 28 _ (by omega) (range_lt (by omega))) (by omega) (by omega) (by simp [eget, rnR, rnV, rnC, LtR, LtV, LtC, canK]) (by simp [hget, rnO, rnC, LtO, LtC]) (fun i hi => .inl (range_lt (by omega) i hi)) (by simp), by omega, rfl, by omega⟩
      · have hPe : byP tm P = byP tm (posA now (3)) := byP_congr fun t ht => by
          rw [hPs t, if_neg (fun e => c e.1)]
        have hXe := tmX_len (byP tm (posA now (3)))
        rw [byP_len] at hXe
        simp [AK_at, acode_seq, acode_region, acode_draw, acode_cond, ↓CB_t, ↓CB_f, CB_u, acode_block, acode_loop, acode_exit, acode_scope, acode_ret, acode_skip, seqQ_n, seqQ_e, seqQ_r, blockQ_n, blockQ_e, blockQ_r, TK_at, OK_at, SK_at, aops_nil, aops_cons, asch_done, asch_one, asch_two, asch_top, astep, aop_eq, isLoud, aloud, aloud1, isWrite, qv, evS, strip, gof, eget, hget, putO, eput, herase, oks, opnds, gS, afin, afin0, binD, arith, D.cells, takeD, fillD, keep, trim, envOf, Fin, aresl, aresv, resD, argOk, pickV, isP, deq, deqs, boundD, slD, lenD, isT, isSl, ptrIds, chunks, mn_min, mx_max, D.cells, splice_one, splice_more, Rbr_at, Rfr_at, frR, frV, frC, flatC, brwR, brwV, brwC, omap, leR, leV, leC, leL, leVL, hn0, hn1, c, g26, g25, hep, ik2]
        rw [hPe]
        exact ⟨_, 3, Gh.canonK (ids := List.range 25) (Hx := [(27, _)]) 28 hB0 (((nestOk_range n _ 25 hXe (by omega)).up 27 _ (by omega) (range_lt (by omega))).up 28 _ (by omega) (range_lt (by omega))) (by omega) (by omega) (by simp [eget, rnR, rnV, rnC, LtR, LtV, LtC, canK]) (by simp [hget, rnO, rnC, LtO, LtC]) (fun i hi => .inl (range_lt (by omega) i hi)) (by simp), by omega, rfl, by omega⟩
    · -- the timers of this tick
      have hPe : byP tm (posA now 3) = byP tm (plN n) := byP_congr fun t ht => by rw [posA_end now t hnow (h.fit t ht).1, hn1]
      simp only [hPe]
      obtain ⟨i, hi⟩ : ∃ i : Nat, n % 8 = (i : Int) := ⟨(n % 8).toNat, by omega⟩
      have hi8 : i < 8 := by omega
      have hi25 : i < 25 := by omega
      have hi25z : (i : Int) < 25 := by omega
      have hnow2 : ∀ t ∈ tm, plN n t = i ↔ t.1 = n := fun t ht => by
        have hf := h.fit t ht
        constructor
        · intro e
          exact plN_now n t.1 t.2 ⟨by rw [e]; omega, hn0⟩ (by omega)
        · intro e
          unfold plN placeM
          rw [e, if_pos rfl, hi]; rfl
      obtain ⟨l, hl⟩ : ∃ l, l = tm.filter fun t => decide (plN n t = i) := ⟨_, rfl⟩
      have hlE : l = tm.filter fun t => decide (t.1 = n) := by
        rw [hl]; exact List.filter_congr fun t ht => by simp only [hnow2 t ht]
      have hLi : (byP tm (plN n)).getD i [] = l := by rw [hl]; exact byP_get tm _ i hi25
      have hl200 : l.length ≤ 200 := by rw [hl]; exact Nat.le_trans (List.length_filter_le _ _) h.few
      have hout : (byP tm (plN n)).set i [] = R1 := by
        rw [hR1, byP_out tm _ i hi25]
        unfold byP
        refine List.map_congr_left fun p hp => ?_
        have := List.mem_range.1 hp
        rw [List.filter_filter]
        refine List.filter_congr fun t ht => ?_
        have e1 := hnow2 t ht
        by_cases e : t.1 = n
        · have e2 := e1.2 e
          have : ¬ 25 = p := by omega
          simp [e2, e, this]
        · have e2 : ¬ plN n t = i := fun h => e (e1.1 h)
          simp [e2, e]
      have hX := tmX_len (byP tm (plN n))
      rw [byP_len] at hX
      have g26 := hget_nest26 n (tmX (byP tm (plN n)))
      have g25 := hget_nest25 n (tmX (byP tm (plN n)))
      rw [hX] at g25
      have hep := eput_nest n (tmX (byP tm (plN n)))
      have gq : hget (nestC n (tmX (byP tm (plN n)))) i = some (.row 2 (l.map tmE)) := by
        rw [hget_nestp n _ i (by omega) (by omega)]
        congr 2
        rw [← hLi]
        simp [tmX, List.getD_eq_getElem?_getD, byP_len, hi25]
      have hrl : (ownR 25).length = 25 := ownR_len 25
      have hrp := ownR_get 25 i hi25
      have hpn : ∀ m, 25 ≤ m → ¬ i = m := fun m h e => by omega
      have ii : InR (i : Int) := inW (by omega) (by omega)
      have hl2 : l.map (fun t => [I t.2]) = R2 := by rw [hR2, hlE]
      generalize hLL : byP tm (plN n) = LL at hX g26 g25 hep gq hLi hout ⊢
      have hLl : LL.length = 25 := by rw [← hLL]; exact byP_len _ _
      simp [AK_at, acode_seq, acode_region, acode_draw, acode_cond, ↓CB_t, ↓CB_f, CB_u, acode_block, acode_loop, acode_exit, acode_scope, acode_ret, acode_skip, seqQ_n, seqQ_e, seqQ_r, blockQ_n, blockQ_e, blockQ_r, TK_at, OK_at, SK_at, aops_nil, aops_cons, asch_done, asch_one, asch_two, asch_top, astep, aop_eq, isLoud, aloud, aloud1, isWrite, qv, evS, strip, gof, eget, hget, putO, eput, herase, oks, opnds, gS, afin, afin0, binD, arith, D.cells, takeD, fillD, keep, trim, envOf, Fin, aresl, aresv, resD, argOk, pickV, isP, deq, deqs, boundD, slD, lenD, isT, isSl, ptrIds, chunks, mn_min, mx_max, D.cells, splice_one, splice_more, Rbr_at, Rfr_at, frR, frV, frC, flatC, brwR, brwV, brwC, omap, leR, leV, leC, leL, leVL, hn0, hi, g26, g25, gq, hpn, hrl, hrp, hi25, hi25z, ii]
      have hcan : (List.range 25).getD i 0 = i := by simp [List.getD_eq_getElem?_getD, List.getElem?_range, hi25]
      refine W.loopS (fun j : Nat => ⟨[(113, I j), (112, I l.length), (111, .own i), (13, I i), (12, .own 28), (5, .ptr 26 0), (2, .ptr 27 0)], (28, .row 1 ((l.take j).map fun t => [I t.2])) :: (27, .cells [I 0, .nil0]) :: nestC n (tmX LL), 29⟩)
        (fun m j => m = l.length - j ∧ j ≤ l.length) ?_ ?_
      · refine ⟨_, 0, (Gh.adopt 12 1 (by omega) (by simp [eget])).trans ?_, rfl, by omega⟩
        exact Gh.envH (by simp [eget, eput]) (by simp [eput]) rfl
      · rintro m j ⟨hm, hj⟩
        refine acode_sound [0, 1, 2, 3, 4, 5, 6, 8, 9, 11, 12, 13, 15, 22, 27, 57, 58, 59, 69, 87, 88, 89, 90, 111, 112, 113, 114] [12, 16, 26] _ _ _ ?_
        by_cases hjl : j < l.length
        · obtain ⟨o, ho⟩ : ∃ o, o = l[j] := ⟨_, rfl⟩
          have ij : InR ((j : Int) + 1) := inW (by omega) (by omega)
          have hcap : (j + 1) * 8 ≤ 140737488355328 := by omega
          have hmin : min j l.length = j := by omega
          have htk : (l.map (fun t => [I t.2])).take (j + 1) = (l.map (fun t => [I t.2])).take j ++ [[I o.2]] := by
            rw [← List.map_take, ← List.map_take, List.take_succ_eq_append_getElem hjl, ← ho]; simp
          have hher : herase (nestC n (tmX LL)) 28 = nestC n (tmX LL) := herase_same _ 28 fun p hp => by
            rcases nest_mem hp with rfl | rfl | ⟨h1, h2⟩
            · show (26 : Nat) ≠ 28; omega
            · show (25 : Nat) ≠ 28; omega
            · omega
          simp [AK_at, acode_seq, acode_region, acode_draw, acode_cond, ↓CB_t, ↓CB_f, CB_u, acode_block, acode_loop, acode_exit, acode_scope, acode_ret, acode_skip, seqQ_n, seqQ_e, seqQ_r, blockQ_n, blockQ_e, blockQ_r, TK_at, OK_at, SK_at, aops_nil, aops_cons, asch_done, asch_one, asch_two, asch_top, astep, aop_eq, isLoud, aloud, aloud1, isWrite, qv, evS, strip, gof, eget, hget, putO, eput, herase, oks, opnds, gS, afin, afin0, binD, arith, D.cells, takeD, fillD, keep, trim, envOf, Fin, aresl, aresv, resD, argOk, pickV, isP, deq, deqs, boundD, slD, lenD, isT, isSl, ptrIds, chunks, mn_min, mx_max, D.cells, splice_one, splice_more, Rbr_at, Rfr_at, frR, frV, frC, flatC, brwR, brwV, brwC, omap, leR, leV, leC, leL, leVL, gq, hpn, hjl, ← ho, tmE, ij, hcap, hmin, hher]
          refine ⟨_, j + 1, Gh.canon (ids := List.range 25) (l' := 25) (x' := 26) (es := [27, 31]) (Hx := [(28, _), (27, _)]) 29 hB0 ?_ (by omega) (by omega) ?_ ?_ ?_ (by simp [canL]), by omega, rfl, by omega⟩
          · repeat' (first | exact nestOk_range n _ 25 hX (by omega) | refine NestOk.up _ _ (by omega) (range_lt (by omega)) ?_)
          · simp [eget, rnR, rnV, rnC, LtR, LtV, LtC, canL, hi25]; omega
          · simp [hget, rnO, rnC, LtO, LtC, canL, htk]
          · simp [canL]
        · obtain rfl : j = l.length := by omega
          rw [List.take_length, hl2]
          simp [AK_at, acode_seq, acode_region, acode_draw, acode_cond, ↓CB_t, ↓CB_f, CB_u, acode_block, acode_loop, acode_exit, acode_scope, acode_ret, acode_skip, seqQ_n, seqQ_e, seqQ_r, blockQ_n, blockQ_e, blockQ_r, TK_at, OK_at, SK_at, aops_nil, aops_cons, asch_done, asch_one, asch_two, asch_top, astep, aop_eq, isLoud, aloud, aloud1, isWrite, qv, evS, strip, gof, eget, hget, putO, eput, herase, oks, opnds, gS, afin, afin0, binD, arith, D.cells, takeD, fillD, keep, trim, envOf, Fin, aresl, aresv, resD, argOk, pickV, isP, deq, deqs, boundD, slD, lenD, isT, isSl, ptrIds, chunks, mn_min, mx_max, D.cells, splice_one, splice_more, Rbr_at, Rfr_at, frR, frV, frC, flatC, brwR, brwV, brwC, omap, leR, leV, leC, leL, leVL]
          have hXo : (tmX R1).length = 25 := by rw [← hout, tmX_len]; simp [hLl]
          have hgo : tmX R1 = (tmX LL).set i [] := by rw [← hout, tmX_set]; rfl
          refine W.region (K := fun st' => Gh B st' ⟨[(12, .own 28), (5, .ptr 26 0), (2, .ptr 27 0)], [(28, .row 1 R2), (27, .cells [I 0, .nil0])] ++ nestC n (tmX R1), 29⟩) ?_ (fun st' hg => ⟨_, hg, ?_⟩)
          · simp [AK_at, acode_seq, acode_region, acode_draw, acode_cond, ↓CB_t, ↓CB_f, CB_u, acode_block, acode_loop, acode_exit, acode_scope, acode_ret, acode_skip, seqQ_n, seqQ_e, seqQ_r, blockQ_n, blockQ_e, blockQ_r, TK_at, OK_at, SK_at, aops_nil, aops_cons, asch_done, asch_one, asch_two, asch_top, astep, aop_eq, isLoud, aloud, aloud1, isWrite, qv, evS, strip, gof, eget, hget, putO, eput, herase, oks, opnds, gS, afin, afin0, binD, arith, D.cells, takeD, fillD, keep, trim, envOf, Fin, aresl, aresv, resD, argOk, pickV, isP, deq, deqs, boundD, slD, lenD, isT, isSl, ptrIds, chunks, mn_min, mx_max, D.cells, splice_one, splice_more, Rbr_at, Rfr_at, frR, frV, frC, flatC, brwR, brwV, brwC, omap, leR, leV, leC, leL, leVL, g26, g25, gq, hpn, hrl, hrp, hi25, hi25z, hep]
            have hg25 : hget (eput (nestC n (tmX LL)) 25 (Ob.rowd 1 ((ownR 25).set i [D.nil0]))) 25 = some (.rowd 1 ((ownR 25).set i [D.nil0])) := by rw [hget_eput, if_pos rfl]
            refine (Gh.adoptR 25 i 2 (by omega) ((ownR 25).set i [.nil0]) (by simp [hget, hg25]) (by simp [hrl, hi25])).trans ?_
            rw [hgo]
            refine Gh.canonK (ids := (List.range 25).set i 29) (Hx := [(28, .row 1 R2), (27, .cells [I 0, .nil0])]) 29 hB0 (nestOk_set (now := n) hX (by omega) (by omega) ?_ ?_ ?_ (fun j hj hjp => ?_)) (by simp [hX]) (by omega) (by simp [eget, rnR, rnV, rnC, LtR, LtV, LtC, canK]) (by simp [hget_eput, hget, rnO, rnC, LtO, LtC, canK]) (fun k hk => ?_) (by simp)
            · simp only [hget_eput, hget]
              rw [if_neg (by omega), if_neg (by omega), if_neg (by omega), if_neg (by omega), if_neg (by omega)]; exact g26
            · simp only [hget_eput]
              rw [if_pos trivial]
              simp
            · simp only [hget_eput]
              rw [if_neg (by omega), if_pos trivial]
            · simp only [hget_eput, hget]
              rw [if_neg (by omega), if_neg (by omega), if_neg (by omega), if_neg (by omega), if_neg (by omega)]
            · rcases List.mem_or_eq_of_mem_set hk with h | rfl
              · exact .inl (List.mem_range.1 h)
              · exact .inr (Nat.le_refl _)
          · have g26' := hget_nest26 n (tmX R1)
            have g25' := hget_nest25 n (tmX R1)
            rw [hXo] at g25'
            have hR1l : R1.length = 25 := by rw [← hout]; simp [hLl]
            have hbw' : omap (omap (brwC ((28, .row 1 R2) :: (27, .cells [I n, .own 25]) :: nestC n (tmX R1)) 3)) (ownR 25) = some (lsR R1) := brw_ls _ 2 n R1 hR1l fun q hq => up2 (by omega) (by omega) q hq
            simp [AK_at, acode_seq, acode_region, acode_draw, acode_cond, ↓CB_t, ↓CB_f, CB_u, acode_block, acode_loop, acode_exit, acode_scope, acode_ret, acode_skip, seqQ_n, seqQ_e, seqQ_r, blockQ_n, blockQ_e, blockQ_r, TK_at, OK_at, SK_at, aops_nil, aops_cons, asch_done, asch_one, asch_two, asch_top, astep, aop_eq, isLoud, aloud, aloud1, isWrite, qv, evS, strip, gof, eget, hget, putO, eput, herase, oks, opnds, gS, afin, afin0, binD, arith, D.cells, takeD, fillD, keep, trim, envOf, Fin, aresl, aresv, resD, argOk, pickV, isP, deq, deqs, boundD, slD, lenD, isT, isSl, ptrIds, chunks, mn_min, mx_max, D.cells, splice_one, splice_more, Rbr_at, Rfr_at, frR, frV, frC, flatC, brwR, brwV, brwC, omap, leR, leV, leC, leL, leVL, g26', g25', hbw']
end Go.Proofs.Ytajimebannjofaa

set_option linter.unusedSimpArgs false
set_option linter.unusedVariables false
set_option maxRecDepth 100000
set_option maxHeartbeats 4000000
namespace Go.Proofs.Ytajimebannjofaa
open Go.RowKit
/-- a wheel as data -/
def whM (now : Int) (tm : List (Int × Int)) : D := whLD now (byP tm (plN now))
def nilR (d : D) : D := match d with | .nil0 => .rows 2 [] | d => d
theorem Gh.rowN {B : Base} {st : St} (id sz : Nat) (xs : List (List D)) (hh : hget st.heap id = some (.row sz xs)) : Gh B st ⟨st.env, eput st.heap id (.row sz (xs.map (List.map nilR))), st.nx⟩ := by
  intro s Z a w hr
  have hob := hr.h.ob _ _ hh
  have hlt := hr.h.lt _ _ hh
  refine ⟨s, Z, hr.env, hr.elt, hr.size, hr.defers, ?_⟩
  have hnew : ObOk s Z w (.row sz (xs.map (List.map nilR))) (s id) := RowOk.map nilR hob fun row hrow d hd u hu => by
    cases d with
    | nil0 => cases hu; exact VT.rnil _ _ _
    | _ => exact hu
  have hhe : ∀ i ob, hget (eput st.heap id (.row sz (xs.map (List.map nilR)))) i = some ob → ∃ ob0, hget st.heap i = some ob0 := fun i ob h => by
    rw [hget_eput] at h
    split at h
    · rename_i e; subst e; exact ⟨_, hh⟩
    · exact ⟨_, h⟩
  refine ⟨fun i ob h => ?_, fun i ob h => ?_, fun i i' ob ob' b h h' hne hb => ?_, hr.h.zok, fun i ob b o h hb => ?_, fun i ob b h hb => ?_, hr.h.fr, hr.h.n0, hr.h.bs, hr.h.bz, hr.h.bn⟩
  · have h9 : hget (eput st.heap id (.row sz (xs.map (List.map nilR)))) i = some ob := h
    rw [hget_eput] at h9
    by_cases e : i = id
    · rw [if_pos e] at h9; rw [e, ← Option.some.inj h9]; exact hnew
    · rw [if_neg e] at h9; exact hr.h.ob i ob h9
  · have h9 : hget (eput st.heap id (.row sz (xs.map (List.map nilR)))) i = some ob := h
    rw [hget_eput] at h9
    by_cases e : i = id
    · rw [if_pos e] at h9; rw [e, ← Option.some.inj h9]; exact ⟨hlt.1, trivial⟩
    · rw [if_neg e] at h9; exact hr.h.lt i ob h9
  · obtain ⟨o1, h1⟩ := hhe i ob h
    obtain ⟨o2, h2⟩ := hhe i' ob' h'
    exact hr.h.apart i i' o1 o2 b h1 h2 hne hb
  · obtain ⟨o1, h1⟩ := hhe i ob h
    exact hr.h.zap i o1 b o h1 hb
  · obtain ⟨o1, h1⟩ := hhe i ob h
    exact hr.h.mine i o1 b h1 hb
theorem byP_nil (pos : Int × Int → Nat) : lsR (byP [] pos) = List.replicate 25 [.rows 2 []] := by
  unfold byP lsR
  simp [List.range_succ]
theorem wnew_code : cfun Try.prog [] 17 = some ⟨(.seq (.region 0 [⟨(some 2), (.alloc [(.int .i64 0), .nil0]), none⟩, ⟨(some 3), (.mov (.k (.int .i64 0))), none⟩]) (.seq (.seq (.region 1 [⟨(some 4), (.mov (.t 0)), none⟩, ⟨(some 5), (.bin .lss (.t 4) (.k (.int .i64 0))), none⟩, ⟨(some 6), (.mov (.t 5)), none⟩, ⟨(some 7), (.mov (.t 0)), (some (6, false))⟩, ⟨(some 8), (.bin .gtr (.t 7) (.k (.int .i64 1099511627776))), (some (6, false))⟩, ⟨(some 9), (.pick (.t 6) (.k (.bool true)) (.t 8)), none⟩]) (.cond 9 (.seq (.region 2 [⟨(some 10), (.build [(.int .i64 0), .nil0] []), none⟩, ⟨none, (.store 2 (.t 2) (.t 10)), none⟩, ⟨(some 3), (.mov (.k (.int .i64 2))), none⟩]) .ret) .skip)) (.seq (.region 3 [⟨(some 11), (.mov (.t 0)), none⟩, ⟨(some 12), (.mks 1 24 [.nil0] (.k (.int .i64 25)) (.k (.int .i64 25))), none⟩, ⟨(some 13), (.build [(.int .i64 0), .nil0] [(0, (1, (.t 11))), (1, (1, (.t 12)))]), none⟩, ⟨none, (.store 2 (.t 2) (.t 13)), none⟩, ⟨(some 3), (.mov (.k (.int .i64 0))), none⟩]) .ret))), [(.c 2 true 2), (.t 3)], 14⟩ := by kernel_rfl
theorem wnewM (now : Int) (n0 : 0 ≤ now) (n1 : now ≤ 1099511627776) : PF Try.prog 17 [I now] (.tup [whM now [], I 0]) := by
  have c1 : ¬ now < 0 := by omega
  have c2 : ¬ 1099511627776 < now := by omega
  refine PF.of follows_ok wnew_code (by simp) (by simp [argOk]) (by simp [noV, noC]) fun B hBN hB0 => acode_sound [0, 2, 3, 9] [3] _ _ _ ?_
  unfold whM whLD
  rw [byP_nil]
  simp [AK_at, acode_seq, acode_region, acode_draw, acode_cond, ↓CB_t, ↓CB_f, CB_u, acode_block, acode_loop, acode_exit, acode_scope, acode_ret, acode_skip, seqQ_n, seqQ_e, seqQ_r, blockQ_n, blockQ_e, blockQ_r, TK_at, OK_at, SK_at, aops_nil, aops_cons, asch_done, asch_one, asch_two, asch_top, astep, aop_eq, isLoud, aloud, aloud1, isWrite, qv, evS, strip, gof, eget, hget, putO, eput, herase, oks, opnds, gS, afin, afin0, binD, arith, D.cells, takeD, fillD, keep, trim, envOf, Fin, aresl, aresv, resD, argOk, pickV, isP, deq, deqs, boundD, slD, lenD, isT, isSl, ptrIds, chunks, mn_min, mx_max, D.cells, splice_one, splice_more, Rbr_at, Rfr_at, frR, frV, frC, flatC, brwR, brwV, brwC, omap, leR, leV, leC, leL, leVL, c1, c2]
  refine W.region (K := fun st' => Gh B st' ⟨[(3, I 0), (2, .ptr 0 0)], [(1, .row 1 (List.replicate 25 [.rows 2 []])), (0, .cells [I now, .own 1])], 2⟩) ?_ (fun st' hg => ⟨_, hg, ?_⟩)
  · simp [AK_at, acode_seq, acode_region, acode_draw, acode_cond, ↓CB_t, ↓CB_f, CB_u, acode_block, acode_loop, acode_exit, acode_scope, acode_ret, acode_skip, seqQ_n, seqQ_e, seqQ_r, blockQ_n, blockQ_e, blockQ_r, TK_at, OK_at, SK_at, aops_nil, aops_cons, asch_done, asch_one, asch_two, asch_top, astep, aop_eq, isLoud, aloud, aloud1, isWrite, qv, evS, strip, gof, eget, hget, putO, eput, herase, oks, opnds, gS, afin, afin0, binD, arith, D.cells, takeD, fillD, keep, trim, envOf, Fin, aresl, aresv, resD, argOk, pickV, isP, deq, deqs, boundD, slD, lenD, isT, isSl, ptrIds, chunks, mn_min, mx_max, D.cells, splice_one, splice_more, Rbr_at, Rfr_at, frR, frV, frC, flatC, brwR, brwV, brwC, omap, leR, leV, leC, leL, leVL]
    refine (Gh.rowN 1 1 (List.replicate 25 [.nil0]) (by simp [hget])).trans (Gh.envH (by simp [eget]) (by simp [eput, nilR]) rfl)
  · simp [AK_at, acode_seq, acode_region, acode_draw, acode_cond, ↓CB_t, ↓CB_f, CB_u, acode_block, acode_loop, acode_exit, acode_scope, acode_ret, acode_skip, seqQ_n, seqQ_e, seqQ_r, blockQ_n, blockQ_e, blockQ_r, TK_at, OK_at, SK_at, aops_nil, aops_cons, asch_done, asch_one, asch_two, asch_top, astep, aop_eq, isLoud, aloud, aloud1, isWrite, qv, evS, strip, gof, eget, hget, putO, eput, herase, oks, opnds, gS, afin, afin0, binD, arith, D.cells, takeD, fillD, keep, trim, envOf, Fin, aresl, aresv, resD, argOk, pickV, isP, deq, deqs, boundD, slD, lenD, isT, isSl, ptrIds, chunks, mn_min, mx_max, D.cells, splice_one, splice_more, Rbr_at, Rfr_at, frR, frV, frC, flatC, brwR, brwV, brwC, omap, leR, leV, leC, leL, leVL]
theorem insT_mem {t x : Int × Int} {l : List (Int × Int)} : x ∈ insT t l ↔ x = t ∨ x ∈ l := by
  unfold insT
  constructor
  · intro h
    rcases List.mem_append.1 h with h | h
    · rcases List.mem_append.1 h with h | h
      · exact .inr (List.mem_of_mem_take h)
      · exact .inl (List.mem_singleton.1 h)
    · exact .inr (List.mem_of_mem_drop h)
  · intro h
    rcases h with rfl | h
    · simp
    · rw [← List.take_append_drop (lowT t l) l] at h
      rcases List.mem_append.1 h with h | h <;> simp [h]
theorem insT_perm (t : Int × Int) (l : List (Int × Int)) : (insT t l).Perm (t :: l) := by
  unfold insT
  rw [List.append_assoc, List.singleton_append]
  refine List.perm_middle.trans (List.Perm.cons _ ?_)
  rw [List.take_append_drop]
theorem insT_srt {t : Int × Int} {l : List (Int × Int)} (h : SrtT l) (hn : ∀ x ∈ l, x.2 ≠ t.2) : SrtT (insT t l) := by
  have hlow := fun j hj hji => lowB_lt (fun x : Int × Int => decide (ord2 x.1 x.2 t.1 t.2 < 0)) l j hj hji
  have hge := lowB_ge (fun x : Int × Int => decide (ord2 x.1 x.2 t.1 t.2 < 0)) l
  have hA : ∀ x ∈ l.take (lowT t l), x.1 < t.1 ∨ (x.1 = t.1 ∧ x.2 < t.2) := fun x hx => by
    obtain ⟨i, hi⟩ := List.getElem?_of_mem hx
    rw [List.getElem?_take] at hi
    split at hi
    · rename_i hlt
      obtain ⟨h1, h2⟩ := List.getElem?_eq_some_iff.1 hi
      have := hlow i h1 hlt
      rw [h2] at this
      exact ord2_neg.1 (by simpa using this)
    · cases hi
  have hC : ∀ x ∈ l.drop (lowT t l), t.1 < x.1 ∨ (t.1 = x.1 ∧ t.2 < x.2) := fun x hx => by
    obtain ⟨i, hi⟩ := List.getElem?_of_mem hx
    rw [List.getElem?_drop] at hi
    obtain ⟨h1, h2⟩ := List.getElem?_eq_some_iff.1 hi
    have hlt : lowT t l < l.length := by omega
    have h3 := hge hlt
    have hne := hn x (h2 ▸ List.getElem_mem h1)
    have h4 : ¬ ord2 x.1 x.2 t.1 t.2 < 0 := fun hh => by
      have := srt_mono h t (lowT t l) (lowT t l + i) hlt h1 (by omega) (by rw [h2]; exact hh)
      unfold lowT at this
      simp [this] at h3
    rw [ord2_neg] at h4
    omega
  unfold SrtT insT
  rw [List.append_assoc, List.singleton_append, List.pairwise_append]
  refine ⟨h.sublist (List.take_sublist _ _), List.pairwise_cons.2 ⟨hC, h.sublist (List.drop_sublist _ _)⟩, fun a ha b hb => ?_⟩
  have h1 := hA a ha
  rcases List.mem_cons.1 hb with rfl | hb
  · exact h1
  · have h2 := hC b hb
    omega
theorem byP_ins {tm : List (Int × Int)} (hs : SrtT tm) (pos : Int × Int → Nat) (t : Int × Int) (hn : ∀ x ∈ tm, x.2 ≠ t.2) (hp : pos t < 25) :
    (byP tm pos).set (pos t) (insT t ((byP tm pos).getD (pos t) [])) = byP (insT t tm) pos := by
  have h1 : byP tm pos = byP (insT t tm) fun x => if x = t then 25 else pos x := by
    unfold byP
    refine List.map_congr_left fun p hp => ?_
    have := List.mem_range.1 hp
    have e : ∀ l : List (Int × Int), (∀ x ∈ l, x ∈ tm) → l.filter (fun x => decide ((if x = t then 25 else pos x) = p)) = l.filter fun x => decide (pos x = p) := fun l hl => List.filter_congr fun x hx => by
      have : x ≠ t := fun e => by have := hn x (hl x hx); rw [e] at this; exact this rfl
      simp [this]
    unfold insT
    rw [List.filter_append, List.filter_append, e _ fun x hx => List.mem_of_mem_take hx, e _ fun x hx => List.mem_of_mem_drop hx]
    have h2 : ¬ 25 = p := by omega
    simp only [List.filter_cons, List.filter_nil, if_true, h2, decide_false, Bool.false_eq_true, if_false, List.append_nil]
    rw [← List.filter_append, List.take_append_drop]
  rw [h1, byP_put (insT_srt hs hn) _ t (insT_mem.2 (.inl rfl)) (pos t) hp (by simp)]
  refine byP_congr fun x _ => ?_
  by_cases e : x = t
  · simp [e]
  · simp [e]
theorem WhOk.ins {now : Int} {tm : List (Int × Int)} (h : WhOk now tm) (t : Int × Int) (hf : now < t.1 ∧ t.1 ≤ now + 500 ∧ t.1 ≤ 1099511627776 ∧ 0 ≤ t.2 ∧ t.2 < 200) (hn : ∀ x ∈ tm, x.2 ≠ t.2) (hl : tm.length < 200) : WhOk now (insT t tm) := by
  refine ⟨h.n0, h.n1, insT_srt h.srt hn, fun x hx => ?_, ?_, ?_⟩
  · rcases insT_mem.1 hx with rfl | hx
    · exact hf
    · exact h.fit x hx
  · rw [((insT_perm t tm).map (·.2)).nodup_iff, List.map_cons, List.nodup_cons]
    exact ⟨fun hm => by obtain ⟨x, hx, e⟩ := List.mem_map.1 hm; exact hn x hx e, h.ids⟩
  · rw [(insT_perm t tm).length_eq]; simp; omega
theorem WhOk.sub {now : Int} {tm : List (Int × Int)} (h : WhOk now tm) (q : Int × Int → Bool) : WhOk now (tm.filter q) :=
  ⟨h.n0, h.n1, List.Pairwise.filter _ h.srt, fun x hx => h.fit x (List.mem_filter.1 hx).1, h.ids.sublist (List.filter_sublist.map _), Nat.le_trans (List.length_filter_le _ _) h.few⟩
theorem WhOk.adv {now : Int} {tm : List (Int × Int)} (h : WhOk now tm) (hlt : now < 1099511627776) : WhOk (now + 1) (tm.filter fun t => decide (t.1 ≠ now + 1)) := by
  have h1 := h.sub fun t => decide (t.1 ≠ now + 1)
  have := h.n0
  refine ⟨by omega, by omega, h1.srt, fun x hx => ?_, h1.ids, h1.few⟩
  have h2 := h1.fit x hx
  have h3 : x.1 ≠ now + 1 := by simpa using (List.mem_filter.1 hx).2
  omega
theorem mem_lists {tm : List (Int × Int)} {now : Int} {l : List (Int × Int)} {t : Int × Int} (hl : l ∈ byP tm (plN now)) (ht : t ∈ l) : t ∈ tm := by
  obtain ⟨p, _, rfl⟩ := byP_mem hl
  exact (List.mem_filter.1 ht).1
theorem lists_mem {tm : List (Int × Int)} {now : Int} {t : Int × Int} (ht : t ∈ tm) : ∃ l ∈ byP tm (plN now), t ∈ l :=
  ⟨tm.filter fun x => decide (plN now x = plN now t), List.mem_map.2 ⟨plN now t, List.mem_range.2 (plN_lt now t), rfl⟩, List.mem_filter.2 ⟨ht, by simp⟩⟩
theorem warmM (now : Int) (tm : List (Int × Int)) (h : WhOk now tm) (t : Int × Int) (hf : now < t.1 ∧ t.1 ≤ now + 500 ∧ t.1 ≤ 1099511627776 ∧ 0 ≤ t.2 ∧ t.2 < 200) (hn : ∀ x ∈ tm, x.2 ≠ t.2) :
    PF Try.prog 13 [whM now tm, I t.2, I t.1] (.tup [whM now (insT t tm), I 0]) := by
  have := warm_pf now t.1 t.2 (byP tm (plN now)) (plN now t) (byP_ok h) (by simp [fitsB]; omega) (plN_eq now t) (plN_lt now t) (fun l hl x hx => hn x (mem_lists hl hx))
  rw [byP_ins h.srt (plN now) t hn (plN_lt now t)] at this
  exact this
theorem warm1M (now : Int) (tm : List (Int × Int)) (h : WhOk now tm) (z id : Int) (hf : now < z ∧ z ≤ now + 500 ∧ z ≤ 1099511627776 ∧ 0 ≤ id ∧ id < 200) (hn : ∃ x ∈ tm, x.2 = id) :
    PF Try.prog 13 [whM now tm, I id, I z] (.tup [.agg [I 0, .rows 1 []], I 7]) := by
  obtain ⟨x, hx, e⟩ := hn
  obtain ⟨l, hl, hxl⟩ := lists_mem (now := now) hx
  exact warm1_pf now z id (byP tm (plN now)) (byP_ok h) (by simp [fitsB]; omega) ⟨l, hl, x, hxl, e⟩
theorem del_filter {l : List (Int × Int)} (hnd : l.Nodup) (k : Nat) (hk : k < l.length) : l.take k ++ l.drop (k + 1) = l.filter fun t => decide (t ≠ l[k]) := by
  have e : l = l.take k ++ l[k] :: l.drop (k + 1) := by rw [List.getElem_cons_drop, List.take_append_drop]
  obtain ⟨A, hA⟩ : ∃ A, A = l.take k := ⟨_, rfl⟩
  obtain ⟨C, hC⟩ : ∃ C, C = l.drop (k + 1) := ⟨_, rfl⟩
  obtain ⟨x, hx⟩ : ∃ x, x = l[k] := ⟨_, rfl⟩
  rw [← hA, ← hC, ← hx] at e ⊢
  rw [e] at hnd ⊢
  obtain ⟨h1, h2, h3⟩ := List.nodup_append.1 hnd
  obtain ⟨h4, h5⟩ := List.nodup_cons.1 h2
  rw [List.filter_append, List.filter_cons]
  have f1 : A.filter (fun t => decide (t ≠ x)) = A := List.filter_eq_self.2 fun a ha => by simpa using h3 a ha x List.mem_cons_self
  have f2 : C.filter (fun t => decide (t ≠ x)) = C := List.filter_eq_self.2 fun c hc => by
    have : c ≠ x := fun e => h4 (e ▸ hc)
    simpa using this
  rw [f1, f2]
  simp
theorem wcan0M (now : Int) (tm : List (Int × Int)) (h : WhOk now tm) (id : Int) (hn : ∀ x ∈ tm, x.2 ≠ id) :
    PF Try.prog 12 [whM now tm, I id] (.tup [.agg [I 0, .rows 1 []], I 8]) :=
  wcan0_pf now id (byP tm (plN now)) (byP_ok h) fun l hl t ht => hn t (mem_lists hl ht)
theorem wcanM (now : Int) (tm : List (Int × Int)) (h : WhOk now tm) (id : Int) (hn : ∃ x ∈ tm, x.2 = id) :
    PF Try.prog 12 [whM now tm, I id] (.tup [whM now (tm.filter fun t => decide (t.2 ≠ id)), I 0]) := by
  obtain ⟨x, hx, e⟩ := hn
  obtain ⟨l, hl, hxl⟩ := lists_mem (now := now) hx
  obtain ⟨i, k, hi, hk, hki, hpf⟩ := wcan_pf now id (byP tm (plN now)) (byP_ok h) ⟨l, hl, x, hxl, e⟩
  have hL := byP_len tm (plN now)
  have hli : (byP tm (plN now))[i] = tm.filter fun t => decide (plN now t = i) := by
    have := byP_get tm (plN now) i (by omega)
    rw [List.getD_eq_getElem?_getD, List.getElem?_eq_getElem hi] at this
    exact this
  have hnd : ((byP tm (plN now))[i]).Nodup := by rw [hli]; exact (srt_nodup h.srt).sublist List.filter_sublist
  obtain ⟨t0, ht0⟩ : ∃ t0, t0 = (byP tm (plN now))[i][k] := ⟨_, rfl⟩
  have hdel := del_filter hnd k hk
  rw [← ht0] at hki hdel
  have hmem : t0 ∈ (byP tm (plN now))[i] := ht0 ▸ List.getElem_mem hk
  rw [hli] at hmem
  obtain ⟨hm1, hm2⟩ := List.mem_filter.1 hmem
  have hpos : plN now t0 = i := by simpa using hm2
  have huniq : ∀ t ∈ tm, t.2 = id ↔ t = t0 := fun t ht => by
    constructor
    · intro e2
      obtain ⟨p, hp⟩ := List.getElem?_of_mem ht
      obtain ⟨q, hq⟩ := List.getElem?_of_mem hm1
      obtain ⟨p1, p2⟩ := List.getElem?_eq_some_iff.1 hp
      obtain ⟨q1, q2⟩ := List.getElem?_eq_some_iff.1 hq
      have hpq : p = q := (List.getElem_inj (h₀ := by simpa using p1) (h₁ := by simpa using q1) h.ids).1 (by simp [p2, q2, e2, hki])
      subst hpq
      rw [← p2, ← q2]
    · rintro rfl; exact hki
  have hset : (byP tm (plN now)).set i ((byP tm (plN now))[i].take k ++ (byP tm (plN now))[i].drop (k + 1)) = byP (tm.filter fun t => decide (t.2 ≠ id)) (plN now) := by
    rw [hdel, hli]
    apply List.ext_getElem?
    intro j
    unfold byP
    rw [List.getElem?_set, List.getElem?_map, List.getElem?_map]
    by_cases hj : j < 25
    · rw [List.getElem?_range hj]
      by_cases e2 : i = j
      · subst e2
        simp [hj, List.filter_filter]
        refine List.filter_congr fun t ht => ?_
        have := huniq t ht
        by_cases e3 : t = t0
        · simp [e3, hki]
        · have : ¬ t.2 = id := fun h => e3 (this.1 h)
          simp [e3, this]
      · simp [e2, List.filter_filter]
        refine List.filter_congr fun t ht => ?_
        have := huniq t ht
        by_cases e3 : t = t0
        · subst e3
          have : ¬ plN now t = j := by omega
          simp [this]
        · have : ¬ t.2 = id := fun h => e3 (this.1 h)
          simp [this]
    · rw [List.getElem?_eq_none (by simp; omega)]
      simp; omega
  rw [hset] at hpf
  exact hpf
theorem swh_code : cfun Try.prog [] 14 = some ⟨(.seq (.region 0 [⟨(some 2), (.box (.t 0)), none⟩, ⟨(some 3), (.box (.t 1)), none⟩, ⟨(some 4), (.mov (.k (.bool false))), none⟩]) (.seq (.seq (.region 1 [⟨(some 7), (.fad 0 (.t 2)), none⟩, ⟨(some 8), (.load false 1 (.t 7)), none⟩, ⟨(some 9), (.fad 0 (.t 3)), none⟩, ⟨(some 10), (.load false 1 (.t 9)), none⟩, ⟨(some 11), (.bin .neq (.t 8) (.t 10)), none⟩, ⟨(some 12), (.mov (.t 11)), none⟩, ⟨(some 13), (.fad 1 (.t 2)), (some (12, false))⟩, ⟨(some 14), (.load false 1 (.t 13)), (some (12, false))⟩, ⟨(some 15), (.len (.t 14)), (some (12, false))⟩, ⟨(some 16), (.fad 1 (.t 3)), (some (12, false))⟩, ⟨(some 17), (.load false 1 (.t 16)), (some (12, false))⟩, ⟨(some 18), (.len (.t 17)), (some (12, false))⟩, ⟨(some 19), (.bin .neq (.t 15) (.t 18)), (some (12, false))⟩, ⟨(some 20), (.pick (.t 12) (.k (.bool true)) (.t 19)), none⟩]) (.cond 20 (.seq (.region 2 [⟨(some 4), (.mov (.k (.bool false))), none⟩]) .ret) .skip)) (.seq (.seq (.region 3 [⟨(some 5), (.mov (.k (.int .i64 0))), none⟩]) (.block 0 (.loop (.seq (.seq (.region 4 [⟨(some 21), (.mov (.t 5)), none⟩, ⟨(some 22), (.fad 1 (.t 2)), none⟩, ⟨(some 23), (.load false 1 (.t 22)), none⟩, ⟨(some 24), (.len (.t 23)), none⟩, ⟨(some 25), (.bin .lss (.t 21) (.t 24)), none⟩]) (.cond 25 .skip (.exit 0))) (.seq (.block 1 (.seq (.seq (.draw 6 (.one true ⟨(some 28), (.fad 1 (.t 2)), none⟩ (.one true ⟨(some 29), (.load false 1 (.t 28)), none⟩ (.one true ⟨(some 30), (.mov (.t 5)), none⟩ (.one true ⟨(some 31), (.iads 1 (.t 29) (.t 30)), none⟩ (.one true ⟨(some 32), (.load false 1 (.t 31)), none⟩ (.one true ⟨(some 33), (.len (.t 32)), none⟩ (.one true ⟨(some 34), (.fad 1 (.t 3)), none⟩ (.one true ⟨(some 35), (.load false 1 (.t 34)), none⟩ (.one true ⟨(some 36), (.mov (.t 5)), none⟩ (.one true ⟨(some 37), (.iads 1 (.t 35) (.t 36)), none⟩ (.one true ⟨(some 38), (.load false 1 (.t 37)), none⟩ (.one true ⟨(some 39), (.len (.t 38)), none⟩ (.one true ⟨(some 40), (.bin .neq (.t 33) (.t 39)), none⟩ .done)))))))))))))) (.cond 40 (.seq (.region 7 [⟨(some 4), (.mov (.k (.bool false))), none⟩]) .ret) .skip)) (.seq (.region 8 [⟨(some 6), (.mov (.k (.int .i64 0))), none⟩]) (.block 2 (.loop (.seq (.seq (.region 9 [⟨(some 41), (.mov (.t 6)), none⟩, ⟨(some 42), (.fad 1 (.t 2)), none⟩, ⟨(some 43), (.load false 1 (.t 42)), none⟩, ⟨(some 44), (.mov (.t 5)), none⟩, ⟨(some 45), (.iads 1 (.t 43) (.t 44)), none⟩, ⟨(some 46), (.load false 1 (.t 45)), none⟩, ⟨(some 47), (.len (.t 46)), none⟩, ⟨(some 48), (.bin .lss (.t 41) (.t 47)), none⟩]) (.cond 48 .skip (.exit 2))) (.seq (.block 3 (.seq (.draw 11 (.one true ⟨(some 51), (.fad 1 (.t 2)), none⟩ (.one true ⟨(some 52), (.load false 1 (.t 51)), none⟩ (.one true ⟨(some 53), (.mov (.t 5)), none⟩ (.one true ⟨(some 54), (.iads 1 (.t 52) (.t 53)), none⟩ (.one true ⟨(some 55), (.load false 1 (.t 54)), none⟩ (.one true ⟨(some 56), (.mov (.t 6)), none⟩ (.one true ⟨(some 57), (.iads 2 (.t 55) (.t 56)), none⟩ (.one true ⟨(some 58), (.load true 2 (.t 57)), none⟩ (.one true ⟨(some 59), (.fad 1 (.t 3)), none⟩ (.one true ⟨(some 60), (.load false 1 (.t 59)), none⟩ (.one true ⟨(some 61), (.mov (.t 5)), none⟩ (.one true ⟨(some 62), (.iads 1 (.t 60) (.t 61)), none⟩ (.one true ⟨(some 63), (.load false 1 (.t 62)), none⟩ (.one true ⟨(some 64), (.mov (.t 6)), none⟩ (.one true ⟨(some 65), (.iads 2 (.t 63) (.t 64)), none⟩ (.one true ⟨(some 66), (.load true 2 (.t 65)), none⟩ (.one true ⟨(some 67), (.eqa true [.i, .i] (.t 58) (.t 66)), none⟩ .done)))))))))))))))))) (.cond 67 (.seq (.region 12 [⟨(some 4), (.mov (.k (.bool false))), none⟩]) .ret) .skip))) (.region 10 [⟨(some 49), (.mov (.t 6)), none⟩, ⟨(some 50), (.bin .add (.t 49) (.k (.int .i64 1))), none⟩, ⟨(some 6), (.mov (.t 50)), none⟩])))))))) (.region 5 [⟨(some 26), (.mov (.t 5)), none⟩, ⟨(some 27), (.bin .add (.t 26) (.k (.int .i64 1))), none⟩, ⟨(some 5), (.mov (.t 27)), none⟩])))))) (.seq (.region 13 [⟨(some 4), (.mov (.k (.bool true))), none⟩]) .ret)))), [(.t 4)], 68⟩ := by kernel_rfl
theorem swh_pf (now : Int) (L : List (List (Int × Int))) (hL : L.length = 25) (hl : ∀ l ∈ L, l.length ≤ 1000) : PF Try.prog 14 [whLD now L, whLD now L] (.bool true) := by
  have hlr : (lsR L).length = 25 := by simp [lsR, hL]
  unfold whLD
  refine PF.of follows_ok swh_code (by simp) (by simp [argOk]) (by simp [noV, noC]) fun B hBN hB0 => acode_sound [0, 1, 2, 3, 4, 5, 6, 20, 25, 40, 48, 67] [] _ _ _ ?_
  simp [AK_at, acode_seq, acode_region, acode_draw, acode_cond, ↓CB_t, ↓CB_f, CB_u, acode_block, acode_loop, acode_exit, acode_scope, acode_ret, acode_skip, seqQ_n, seqQ_e, seqQ_r, blockQ_n, blockQ_e, blockQ_r, TK_at, OK_at, SK_at, aops_nil, aops_cons, asch_done, asch_one, asch_two, asch_top, astep, aop_eq, isLoud, aloud, aloud1, isWrite, qv, evS, strip, gof, eget, hget, putO, eput, herase, oks, opnds, gS, afin, afin0, binD, arith, D.cells, takeD, fillD, keep, trim, envOf, Fin, aresl, aresv, resD, argOk, pickV, isP, deq, deqs, boundD, slD, lenD, isT, isSl, ptrIds, chunks, mn_min, mx_max, D.cells, splice_one, splice_more, Rbr_at, Rfr_at, frR, frV, frC, flatC, brwR, brwV, brwC, omap, leR, leV, leC, leL, leVL, hlr]
  refine W.loopS (fun i : Nat => ⟨[(5, I i), (4, .bool false), (3, .ptr 1 0), (2, .ptr 0 0)], [(1, .cells [I now, .rows 1 (lsR L)]), (0, .cells [I now, .rows 1 (lsR L)])], 2⟩)
    (fun n i => n = 25 - i ∧ i ≤ 25) ?_ ?_
  · exact ⟨_, 0, (Gh.ren [0, 1] (by simp [hB0]) (by simp [hB0] <;> decide) (by simp [eget, rnS, rnR, rnV, rnC, LtS, LtR, LtV, LtC, lget]) (by simp [hget, rnO, rnC, LtO, LtC, lget]) (.inl (by simp [lget]))), rfl, by omega⟩
  rintro n i ⟨hn, hi⟩
  refine acode_sound [0, 1, 2, 3, 4, 5, 6, 20, 25, 40, 48, 67] [] _ _ _ ?_
  by_cases hlt : i < 25
  · obtain ⟨l, hll⟩ : ∃ l, l = L[i]'(by omega) := ⟨_, rfl⟩
    have hat : ∀ h : i < (lsR L).length, (lsR L)[i] = [.rows 2 (l.map tmE)] := fun h => by simp [lsR, hll]
    have hlz : (i : Int) < 25 := by omega
    have hl1 := hl l (hll ▸ List.getElem_mem _)
    have ii : InR ((i : Int) + 1) := inW (by omega) (by omega)
    simp [AK_at, acode_seq, acode_region, acode_draw, acode_cond, ↓CB_t, ↓CB_f, CB_u, acode_block, acode_loop, acode_exit, acode_scope, acode_ret, acode_skip, seqQ_n, seqQ_e, seqQ_r, blockQ_n, blockQ_e, blockQ_r, TK_at, OK_at, SK_at, aops_nil, aops_cons, asch_done, asch_one, asch_two, asch_top, astep, aop_eq, isLoud, aloud, aloud1, isWrite, qv, evS, strip, gof, eget, hget, putO, eput, herase, oks, opnds, gS, afin, afin0, binD, arith, D.cells, takeD, fillD, keep, trim, envOf, Fin, aresl, aresv, resD, argOk, pickV, isP, deq, deqs, boundD, slD, lenD, isT, isSl, ptrIds, chunks, mn_min, mx_max, D.cells, splice_one, splice_more, Rbr_at, Rfr_at, frR, frV, frC, flatC, brwR, brwV, brwC, omap, leR, leV, leC, leL, leVL, hlr, hat, hlt, hlz]
    refine W.loopS (fun j : Nat => ⟨[(6, I j), (5, I i), (4, .bool false), (3, .ptr 1 0), (2, .ptr 0 0)], [(1, .cells [I now, .rows 1 (lsR L)]), (0, .cells [I now, .rows 1 (lsR L)])], 2⟩)
      (fun n j => n = l.length - j ∧ j ≤ l.length) ?_ ?_
    · exact ⟨_, 0, (Gh.ren [0, 1] (by simp [hB0]) (by simp [hB0] <;> decide) (by simp [eget, rnS, rnR, rnV, rnC, LtS, LtR, LtV, LtC, lget]) (by simp [hget, rnO, rnC, LtO, LtC, lget]) (.inl (by simp [lget]))), rfl, by omega⟩
    rintro m j ⟨hm, hj⟩
    refine acode_sound [0, 1, 2, 3, 4, 5, 6, 20, 25, 40, 48, 67] [] _ _ _ ?_
    by_cases hjl : j < l.length
    · have ij : InR ((j : Int) + 1) := inW (by omega) (by omega)
      simp [AK_at, acode_seq, acode_region, acode_draw, acode_cond, ↓CB_t, ↓CB_f, CB_u, acode_block, acode_loop, acode_exit, acode_scope, acode_ret, acode_skip, seqQ_n, seqQ_e, seqQ_r, blockQ_n, blockQ_e, blockQ_r, TK_at, OK_at, SK_at, aops_nil, aops_cons, asch_done, asch_one, asch_two, asch_top, astep, aop_eq, isLoud, aloud, aloud1, isWrite, qv, evS, strip, gof, eget, hget, putO, eput, herase, oks, opnds, gS, afin, afin0, binD, arith, D.cells, takeD, fillD, keep, trim, envOf, Fin, aresl, aresv, resD, argOk, pickV, isP, deq, deqs, boundD, slD, lenD, isT, isSl, ptrIds, chunks, mn_min, mx_max, D.cells, splice_one, splice_more, Rbr_at, Rfr_at, frR, frV, frC, flatC, brwR, brwV, brwC, omap, leR, leV, leC, leL, leVL, hlr, hat, hlt, hlz, hjl, tmE, ij]
      exact ⟨_, j + 1, (Gh.ren [0, 1] (by simp [hB0]) (by simp [hB0] <;> decide) (by simp [eget, rnS, rnR, rnV, rnC, LtS, LtR, LtV, LtC, lget]) (by simp [hget, rnO, rnC, LtO, LtC, lget]) (.inl (by simp [lget]))), by omega, rfl, by omega⟩
    · obtain rfl : j = l.length := by omega
      simp [AK_at, acode_seq, acode_region, acode_draw, acode_cond, ↓CB_t, ↓CB_f, CB_u, acode_block, acode_loop, acode_exit, acode_scope, acode_ret, acode_skip, seqQ_n, seqQ_e, seqQ_r, blockQ_n, blockQ_e, blockQ_r, TK_at, OK_at, SK_at, aops_nil, aops_cons, asch_done, asch_one, asch_two, asch_top, astep, aop_eq, isLoud, aloud, aloud1, isWrite, qv, evS, strip, gof, eget, hget, putO, eput, herase, oks, opnds, gS, afin, afin0, binD, arith, D.cells, takeD, fillD, keep, trim, envOf, Fin, aresl, aresv, resD, argOk, pickV, isP, deq, deqs, boundD, slD, lenD, isT, isSl, ptrIds, chunks, mn_min, mx_max, D.cells, splice_one, splice_more, Rbr_at, Rfr_at, frR, frV, frC, flatC, brwR, brwV, brwC, omap, leR, leV, leC, leL, leVL, hlr, hat, hlt, hlz, ii]
      exact ⟨_, i + 1, (Gh.ren [0, 1] (by simp [hB0]) (by simp [hB0] <;> decide) (by simp [eget, rnS, rnR, rnV, rnC, LtS, LtR, LtV, LtC, lget]) (by simp [hget, rnO, rnC, LtO, LtC, lget]) (.inl (by simp [lget]))), by omega, rfl, by omega⟩
  · obtain rfl : i = 25 := by omega
    simp [AK_at, acode_seq, acode_region, acode_draw, acode_cond, ↓CB_t, ↓CB_f, CB_u, acode_block, acode_loop, acode_exit, acode_scope, acode_ret, acode_skip, seqQ_n, seqQ_e, seqQ_r, blockQ_n, blockQ_e, blockQ_r, TK_at, OK_at, SK_at, aops_nil, aops_cons, asch_done, asch_one, asch_two, asch_top, astep, aop_eq, isLoud, aloud, aloud1, isWrite, qv, evS, strip, gof, eget, hget, putO, eput, herase, oks, opnds, gS, afin, afin0, binD, arith, D.cells, takeD, fillD, keep, trim, envOf, Fin, aresl, aresv, resD, argOk, pickV, isP, deq, deqs, boundD, slD, lenD, isT, isSl, ptrIds, chunks, mn_min, mx_max, D.cells, splice_one, splice_more, Rbr_at, Rfr_at, frR, frV, frC, flatC, brwR, brwV, brwC, omap, leR, leV, leC, leL, leVL, hlr]
theorem swhM (now : Int) (tm : List (Int × Int)) (h : tm.length ≤ 1000) : PF Try.prog 14 [whM now tm, whM now tm] (.bool true) :=
  swh_pf now _ (byP_len _ _) fun l hl => by
    obtain ⟨p, _, rfl⟩ := byP_mem hl
    exact Nat.le_trans (List.length_filter_le _ _) h
end Go.Proofs.Ytajimebannjofaa

set_option linter.unusedSimpArgs false
set_option linter.unusedVariables false
set_option maxRecDepth 100000
set_option maxHeartbeats 4000000
namespace Go.Proofs.Ytajimebannjofaa
open Go.RowKit
def lrT (now : Int) (tm : List (Int × Int)) : List (List D) := lsR (byP tm (plN now))
theorem lrT_len (now : Int) (tm : List (Int × Int)) : (lrT now tm).length = 25 := by simp [lrT, lsR, byP_len]
theorem whM_def (now : Int) (tm : List (Int × Int)) : whM now tm = .agg [I now, .rows 1 (lrT now tm)] := rfl
/-- the tick of a number; 0: it is not armed -/
def atM (tm : List (Int × Int)) (id : Nat) : Int := match tm.find? (fun t => decide (t.2 = (id : Int))) with | some t => t.1 | none => 0
def atL (tm : List (Int × Int)) : List Int := (List.range 20).map (atM tm)
theorem atM_none {tm : List (Int × Int)} {id : Nat} (h : ∀ t ∈ tm, t.2 ≠ (id : Int)) : atM tm id = 0 := by
  have : tm.find? (fun t => decide (t.2 = (id : Int))) = none := List.find?_eq_none.2 fun t ht => by simpa using h t ht
  unfold atM; rw [this]
theorem atM_mem {tm : List (Int × Int)} (hid : (tm.map (·.2)).Nodup) {t : Int × Int} (ht : t ∈ tm) {id : Nat} (h : t.2 = (id : Int)) : atM tm id = t.1 := by
  obtain ⟨x, hx⟩ : ∃ x, tm.find? (fun t => decide (t.2 = (id : Int))) = some x := by
    cases hf : tm.find? (fun t => decide (t.2 = (id : Int))) with
    | none =>
      have := List.find?_eq_none.1 hf t ht
      simp [h] at this
    | some x => exact ⟨x, rfl⟩
  have h1 := List.find?_some hx
  have h2 := List.mem_of_find?_eq_some hx
  simp at h1
  obtain ⟨p, hp⟩ := List.getElem?_of_mem ht
  obtain ⟨q, hq⟩ := List.getElem?_of_mem h2
  obtain ⟨p1, p2⟩ := List.getElem?_eq_some_iff.1 hp
  obtain ⟨q1, q2⟩ := List.getElem?_eq_some_iff.1 hq
  have hpq : p = q := (List.getElem_inj (h₀ := by simpa using p1) (h₁ := by simpa using q1) hid).1 (by simp [p2, q2, h, h1])
  subst hpq
  unfold atM
  rw [hx, ← q2, p2]
theorem atM_pos {tm : List (Int × Int)} {id : Nat} (h : 0 < atM tm id) : ∃ t ∈ tm, t.2 = (id : Int) := by
  cases hf : tm.find? (fun t => decide (t.2 = (id : Int))) with
  | none => unfold atM at h; rw [hf] at h; simp at h
  | some x => exact ⟨x, List.mem_of_find?_eq_some hf, by simpa using List.find?_some hf⟩
theorem atL_len (tm : List (Int × Int)) : (atL tm).length = 20 := by simp [atL]
theorem atL_get (tm : List (Int × Int)) (id : Nat) (h : id < 20) : (atL tm)[id]? = some (atM tm id) := by simp [atL, List.getElem?_range, h]
theorem atL_set (tm : List (Int × Int)) (hid : (tm.map (·.2)).Nodup) (z : Int) (id : Nat) (h : id < 20) (hn : ∀ t ∈ tm, t.2 ≠ (id : Int)) : (atL tm).set id z = atL (insT (z, (id : Int)) tm) := by
  have hid2 : ((insT (z, (id : Int)) tm).map (·.2)).Nodup := by
    rw [((insT_perm (z, (id : Int)) tm).map (·.2)).nodup_iff, List.map_cons, List.nodup_cons]
    exact ⟨fun hm => by obtain ⟨x, hx, e⟩ := List.mem_map.1 hm; exact hn x hx e, hid⟩
  apply List.ext_getElem?
  intro j
  unfold atL
  rw [List.getElem?_set, List.getElem?_map, List.getElem?_map]
  by_cases hj : j < 20
  · rw [List.getElem?_range hj]
    by_cases e : id = j
    · subst e
      have := atM_mem hid2 (insT_mem.2 (.inl rfl)) (t := (z, (id : Int))) rfl
      simp [hj, this]
    · simp only [e, if_false, Option.map_some, Option.some.injEq]
      by_cases hx : ∃ t ∈ tm, t.2 = (j : Int)
      · obtain ⟨t, ht, h2⟩ := hx
        rw [atM_mem hid ht h2, atM_mem hid2 (insT_mem.2 (.inr ht)) h2]
      · rw [atM_none fun t ht h2 => hx ⟨t, ht, h2⟩, atM_none fun t ht h2 => ?_]
        rcases insT_mem.1 ht with rfl | ht
        · simp at h2; omega
        · exact hx ⟨t, ht, h2⟩
  · rw [List.getElem?_eq_none (by simp; omega)]
    simp; omega
def arS (n : Int) (tm : List (Int × Int)) (r : List Int) : List (Int × Int) :=
  if 0 < atM tm (pickedZ (r.getD 0 0) 20).toNat then tm else insT (n + 1 + pickedZ (r.getD 1 0) 500, pickedZ (r.getD 0 0) 20) tm
def arL (n : Int) (l : List (List Int)) (k : Nat) : List (Int × Int) := (l.take k).foldl (arS n) []
structure ArOk (n : Int) (tm : List (Int × Int)) (k : Nat) : Prop where
  wh : WhOk n tm
  id : ∀ t ∈ tm, t.2 < 20
  few : tm.length ≤ k
theorem arS_ok (n : Int) (tm : List (Int × Int)) (k : Nat) (r : List Int) (h : ArOk n tm k) (hn : n ≤ 3000) (hk : k < 100) : ArOk n (arS n tm r) (k + 1) := by
  have q1 := pickedZ_range (r.getD 0 0) 20 (by omega)
  have q2 := pickedZ_range (r.getD 1 0) 500 (by omega)
  have hw := h.wh
  have hn0 := hw.n0
  unfold arS
  split
  · exact ⟨hw, h.id, by have := h.few; omega⟩
  · rename_i hp
    have hnew : ∀ x ∈ tm, x.2 ≠ pickedZ (r.getD 0 0) 20 := fun x hx e => by
      have := atM_mem hw.ids hx (id := (pickedZ (r.getD 0 0) 20).toNat) (by omega)
      have := (hw.fit x hx).1
      omega
    have hfew := h.few
    refine ⟨hw.ins _ ⟨by show n < n + 1 + _; omega, by show n + 1 + _ ≤ _; omega, by show n + 1 + _ ≤ _; omega, q1.1, by show pickedZ (r.getD 0 0) 20 < 200; omega⟩ hnew (by omega), fun t ht => ?_, ?_⟩
    · rcases insT_mem.1 ht with rfl | ht
      · exact q1.2
      · exact h.id t ht
    · rw [(insT_perm _ tm).length_eq]; simp; omega
theorem arL_succ (n : Int) (l : List (List Int)) (i : Nat) (h : i < l.length) : arL n l (i + 1) = arS n (arL n l i) l[i] := by
  unfold arL
  rw [List.take_succ_eq_append_getElem h, List.foldl_append]; rfl
theorem arL_ok (n : Int) (l : List (List Int)) (h0 : 0 ≤ n) (h1 : n ≤ 3000) : ∀ k, k ≤ 40 → ArOk n (arL n l k) k
  | 0, _ => ⟨⟨h0, by omega, List.Pairwise.nil, by simp [arL], by simp [arL], by simp [arL]⟩, by simp [arL], by simp [arL]⟩
  | k + 1, hk => by
    have ih := arL_ok n l h0 h1 k (by omega)
    by_cases hl : k < l.length
    · rw [arL_succ n l k hl]
      exact arS_ok n _ k _ ih h1 (by omega)
    · have : arL n l (k + 1) = arL n l k := by
        unfold arL
        rw [List.take_of_length_le (by omega), List.take_of_length_le (by omega)]
      rw [this]
      exact ⟨ih.wh, ih.id, by have := ih.few; omega⟩
theorem rnIw (f : Nat → Nat) : rnC f ∘ I = I := rfl
theorem spliceIw (l : List Int) (b : Nat) (z : Int) (h : b < l.length) : splice (l.map I) b [D.int IntKind.i64 z] = (l.set b z).map I := by
  rw [splice_one _ _ _ (by simpa using h), List.map_set]
theorem spl20 (l : List Int) (h : l.length = 20) : splice [I 0, I 0, I 0, I 0, I 0, I 0, I 0, I 0, I 0, I 0, I 0, I 0, I 0, I 0, I 0, I 0, I 0, I 0, I 0, I 0] 0 (l.map I) = l.map I := by simp [splice, h]
theorem leLIw : ∀ l : List Int, leL (l.map I) (l.map I)
  | [] => trivial
  | w :: l => ⟨rfl, leLIw l⟩
theorem omapIw (H : List (Nat × Ob)) (nx : Nat) : ∀ l : List Int, omap (brwC H nx) (l.map I) = some (l.map I)
  | [] => rfl
  | w :: l => by simp only [List.map_cons, omap, omapIw H nx l]; cases nx <;> rfl
theorem warmed_code : cfun Try.prog [] 10 = some ⟨(.seq (.region 0 [⟨(some 4), (.alloc [(.int .i64 0), .nil0]), none⟩, ⟨(some 5), (.alloc [(.int .i64 0), (.int .i64 0), (.int .i64 0), (.int .i64 0), (.int .i64 0), (.int .i64 0), (.int .i64 0), (.int .i64 0), (.int .i64 0), (.int .i64 0), (.int .i64 0), (.int .i64 0), (.int .i64 0), (.int .i64 0), (.int .i64 0), (.int .i64 0), (.int .i64 0), (.int .i64 0), (.int .i64 0), (.int .i64 0)]), none⟩, ⟨(some 6), (.mov (.k (.bool false))), none⟩]) (.seq (.region 1 [⟨(some 7), (.alloc [(.int .i64 0), (.int .i64 0), (.int .i64 0), (.int .i64 0), (.int .i64 0), (.int .i64 0), (.int .i64 0), (.int .i64 0), (.int .i64 0), (.int .i64 0), (.int .i64 0), (.int .i64 0), (.int .i64 0), (.int .i64 0), (.int .i64 0), (.int .i64 0), (.int .i64 0), (.int .i64 0), (.int .i64 0), (.int .i64 0)]), none⟩]) (.seq (.region 2 [⟨(some 15), (.mov (.t 0)), none⟩, ⟨(some 16), (.call 11 [(.t 15), (.k (.int .i64 3000))]), none⟩, ⟨(some 8), (.mov (.t 16)), none⟩]) (.seq (.region 3 [⟨(some 18), (.mov (.t 8)), none⟩, ⟨(some 19), (.call 17 [(.t 18)]), none⟩, ⟨(some 17), (.mov (.t 19)), none⟩, ⟨(some 20), (.ext (.t 17) 0), none⟩, ⟨(some 21), (.ext (.t 17) 1), none⟩, ⟨(some 9), (.alloc [(.int .i64 0), .nil0]), none⟩, ⟨none, (.store 2 (.t 9) (.t 20)), none⟩, ⟨(some 10), (.mov (.t 21)), none⟩]) (.seq (.seq (.region 4 [⟨(some 22), (.mov (.t 10)), none⟩, ⟨(some 23), (.bin .neq (.t 22) (.k (.int .i64 0))), none⟩, ⟨(some 24), (.mov (.t 23)), none⟩, ⟨(some 25), (.fad 1 (.t 9)), (some (24, false))⟩, ⟨(some 26), (.load false 1 (.t 25)), (some (24, false))⟩, ⟨(some 27), (.len (.t 26)), (some (24, false))⟩, ⟨(some 28), (.bin .neq (.t 27) (.k (.int .i64 25))), (some (24, false))⟩, ⟨(some 29), (.pick (.t 24) (.k (.bool true)) (.t 28)), none⟩]) (.cond 29 (.seq (.draw 5 (.one true ⟨(some 30), (.load true 2 (.t 9)), none⟩ (.two (.one true ⟨(some 31), (.load true 20 (.t 7)), none⟩ (.one false ⟨none, (.store 2 (.t 4) (.t 30)), none⟩ (.one false ⟨none, (.store 20 (.t 5) (.t 31)), none⟩ (.one true ⟨(some 6), (.mov (.k (.bool false))), none⟩ .done)))) (.two (.one false ⟨none, (.store 2 (.t 4) (.t 30)), none⟩ (.one true ⟨(some 31), (.load true 20 (.t 7)), none⟩ (.one false ⟨none, (.store 20 (.t 5) (.t 31)), none⟩ (.one true ⟨(some 6), (.mov (.k (.bool false))), none⟩ .done)))) .top)))) .ret) .skip)) (.seq (.seq (.region 6 [⟨(some 11), (.mov (.k (.int .i64 0))), none⟩]) (.block 0 (.loop (.seq (.seq (.region 7 [⟨(some 32), (.mov (.t 11)), none⟩, ⟨(some 33), (.mov (.t 1)), none⟩, ⟨(some 34), (.len (.t 33)), none⟩, ⟨(some 35), (.bin .lss (.t 32) (.t 34)), none⟩, ⟨(some 36), (.mov (.t 35)), none⟩, ⟨(some 37), (.mov (.t 11)), (some (36, true))⟩, ⟨(some 38), (.bin .lss (.t 37) (.k (.int .i64 40))), (some (36, true))⟩, ⟨(some 39), (.pick (.t 36) (.t 38) (.k (.bool false))), none⟩]) (.cond 39 .skip (.exit 0))) (.seq (.block 1 (.seq (.region 9 [⟨(some 42), (.mov (.t 1)), none⟩, ⟨(some 43), (.mov (.t 11)), none⟩, ⟨(some 44), (.iads 2 (.t 42) (.t 43)), none⟩, ⟨(some 45), (.fad 0 (.t 44)), none⟩, ⟨(some 46), (.load false 1 (.t 45)), none⟩, ⟨(some 47), (.call 11 [(.t 46), (.k (.int .i64 20))]), none⟩, ⟨(some 12), (.mov (.t 47)), none⟩]) (.seq (.seq (.region 10 [⟨(some 48), (.mov (.t 12)), none⟩, ⟨(some 49), (.iada 20 1 (.t 7) (.t 48)), none⟩, ⟨(some 50), (.load false 1 (.t 49)), none⟩, ⟨(some 51), (.bin .gtr (.t 50) (.k (.int .i64 0))), none⟩]) (.cond 51 (.exit 1) .skip)) (.seq (.region 11 [⟨(some 52), (.mov (.t 12)), none⟩, ⟨(some 53), (.mov (.t 8)), none⟩, ⟨(some 54), (.bin .add (.t 53) (.k (.int .i64 1))), none⟩, ⟨(some 55), (.mov (.t 1)), none⟩, ⟨(some 56), (.mov (.t 11)), none⟩, ⟨(some 57), (.iads 2 (.t 55) (.t 56)), none⟩, ⟨(some 58), (.fad 1 (.t 57)), none⟩, ⟨(some 59), (.load false 1 (.t 58)), none⟩, ⟨(some 60), (.call 11 [(.t 59), (.k (.int .i64 500))]), none⟩, ⟨(some 61), (.bin .add (.t 54) (.t 60)), none⟩, ⟨(some 62), (.iada 20 1 (.t 7) (.t 52)), none⟩, ⟨none, (.store 1 (.t 62) (.t 61)), none⟩]) (.seq (.draw 12 (.one true ⟨(some 64), (.load true 2 (.t 9)), none⟩ (.one true ⟨(some 65), (.mov (.t 12)), none⟩ (.one true ⟨(some 66), (.mov (.t 12)), none⟩ (.one true ⟨(some 67), (.iada 20 1 (.t 7) (.t 66)), none⟩ (.one true ⟨(some 68), (.load false 1 (.t 67)), none⟩ (.two (.one true ⟨(some 69), (.call 13 [(.t 64), (.t 65), (.t 68)]), none⟩ (.one true ⟨(some 63), (.mov (.t 69)), none⟩ (.one true ⟨(some 70), (.ext (.t 63) 0), none⟩ (.one true ⟨(some 71), (.ext (.t 63) 1), none⟩ (.one true ⟨(some 13), (.alloc [(.int .i64 0), .nil0]), none⟩ (.one false ⟨none, (.store 2 (.t 13) (.t 70)), none⟩ (.one true ⟨(some 14), (.mov (.t 71)), none⟩ .done))))))) (.two (.one true ⟨(some 13), (.alloc [(.int .i64 0), .nil0]), none⟩ (.one true ⟨(some 69), (.call 13 [(.t 64), (.t 65), (.t 68)]), none⟩ (.one true ⟨(some 63), (.mov (.t 69)), none⟩ (.one true ⟨(some 70), (.ext (.t 63) 0), none⟩ (.one true ⟨(some 71), (.ext (.t 63) 1), none⟩ (.one false ⟨none, (.store 2 (.t 13) (.t 70)), none⟩ (.one true ⟨(some 14), (.mov (.t 71)), none⟩ .done))))))) .top)))))))) (.seq (.seq (.region 13 [⟨(some 72), (.mov (.t 14)), none⟩, ⟨(some 73), (.bin .neq (.t 72) (.k (.int .i64 0))), none⟩]) (.cond 73 (.seq (.draw 14 (.one true ⟨(some 74), (.load true 2 (.t 9)), none⟩ (.two (.one true ⟨(some 75), (.load true 20 (.t 7)), none⟩ (.one false ⟨none, (.store 2 (.t 4) (.t 74)), none⟩ (.one false ⟨none, (.store 20 (.t 5) (.t 75)), none⟩ (.one true ⟨(some 6), (.mov (.k (.bool false))), none⟩ .done)))) (.two (.one false ⟨none, (.store 2 (.t 4) (.t 74)), none⟩ (.one true ⟨(some 75), (.load true 20 (.t 7)), none⟩ (.one false ⟨none, (.store 20 (.t 5) (.t 75)), none⟩ (.one true ⟨(some 6), (.mov (.k (.bool false))), none⟩ .done)))) .top)))) .ret) .skip)) (.region 15 [⟨(some 76), (.load true 2 (.t 13)), none⟩, ⟨none, (.store 2 (.t 9) (.t 76)), none⟩]))))))) (.region 8 [⟨(some 40), (.mov (.t 11)), none⟩, ⟨(some 41), (.bin .add (.t 40) (.k (.int .i64 1))), none⟩, ⟨(some 11), (.mov (.t 41)), none⟩])))))) (.seq (.draw 16 (.one true ⟨(some 77), (.load true 2 (.t 9)), none⟩ (.two (.one true ⟨(some 78), (.load true 20 (.t 7)), none⟩ (.one false ⟨none, (.store 2 (.t 4) (.t 77)), none⟩ (.one false ⟨none, (.store 20 (.t 5) (.t 78)), none⟩ (.one true ⟨(some 6), (.mov (.k (.bool true))), none⟩ .done)))) (.two (.one false ⟨none, (.store 2 (.t 4) (.t 77)), none⟩ (.one true ⟨(some 78), (.load true 20 (.t 7)), none⟩ (.one false ⟨none, (.store 20 (.t 5) (.t 78)), none⟩ (.one true ⟨(some 6), (.mov (.k (.bool true))), none⟩ .done)))) .top)))) .ret))))))), [(.c 4 true 2), (.c 5 true 20), (.t 6)], 79⟩ := by kernel_rfl
theorem warmed_pf (now : Int) (l : List (List Int)) (hl : l.length ≤ Go.maxLen) (hr : ∀ r ∈ l, r.length = 2 ∧ ∀ z ∈ r, InR z) (inow : InR now) :
    PF Try.prog 10 [I now, .rows 2 (l.map fun r => r.map I)] (.tup [whM (pickedZ now 3000) (arL (pickedZ now 3000) l 40), .agg ((atL (arL (pickedZ now 3000) l 40)).map I), .bool true]) := by
  have p0 := picked_pf now 3000 inow (by omega)
  have q0 := pickedZ_range now 3000 (by omega)
  generalize pickedZ now 3000 = n at p0 q0 ⊢
  have hnew := wnewM n q0.1 (by omega)
  rw [whM_def] at hnew
  have hlr := lrT_len n []
  have i1 : InR (n + 1) := inW (by omega) (by omega)
  rw [whM_def]
  refine PF.of follows_ok warmed_code (by simp) (by simp [argOk]) (by simp [noV, noC]) fun B hBN hB0 => acode_sound [0, 1, 4, 5, 6, 7, 8, 9, 10, 11, 12, 13, 14, 29, 39, 51, 73] [] _ _ _ ?_
  repeat' (first
    | simp [AK_at, acode_seq, acode_region, acode_draw, acode_cond, ↓CB_t, ↓CB_f, CB_u, acode_block, acode_loop, acode_exit, acode_scope, acode_ret, acode_skip, seqQ_n, seqQ_e, seqQ_r, blockQ_n, blockQ_e, blockQ_r, TK_at, OK_at, SK_at, aops_nil, aops_cons, asch_done, asch_one, asch_two, asch_top, astep, aop_eq, isLoud, aloud, aloud1, isWrite, qv, evS, strip, gof, eget, hget, putO, eput, herase, oks, opnds, gS, afin, afin0, binD, arith, D.cells, takeD, fillD, keep, trim, envOf, Fin, aresl, aresv, resD, argOk, pickV, isP, deq, deqs, boundD, slD, lenD, isT, isSl, ptrIds, chunks, mn_min, mx_max, D.cells, splice_one, splice_more, Rbr_at, Rfr_at, frR, frV, frC, flatC, brwR, brwV, brwC, omap, leR, leV, leC, leL, leVL, i1, hlr]
    | (refine WCall.pf (p0) ?_ ?_ ?_ ?_; (focus (simp [oks, opnds, gS, gof, eget]; done)); (focus (simp [omap, brwV, brwC, evS, eget, strip, hget, leVL, leV, leC, leL, i1, hlr]; done)); (focus (simp [noV, noC, flatR, flatV, flatC, evS, eget, strip, i1, hlr]; done)))
    | (refine ⟨WCall.pf (p0) ?_ ?_ ?_ ?_, ?_⟩; (focus (simp [oks, opnds, gS, gof, eget]; done)); (focus (simp [omap, brwV, brwC, evS, eget, strip, hget, leVL, leV, leC, leL, i1, hlr]; done)); (focus (simp [noV, noC, flatR, flatV, flatC, evS, eget, strip, i1, hlr]; done)))
    | (refine WCall.pf (hnew) ?_ ?_ ?_ ?_; (focus (simp [oks, opnds, gS, gof, eget]; done)); (focus (simp [omap, brwV, brwC, evS, eget, strip, hget, leVL, leV, leC, leL, i1, hlr]; done)); (focus (simp [noV, noC, flatR, flatV, flatC, evS, eget, strip, i1, hlr]; done)))
    | (refine ⟨WCall.pf (hnew) ?_ ?_ ?_ ?_, ?_⟩; (focus (simp [oks, opnds, gS, gof, eget]; done)); (focus (simp [omap, brwV, brwC, evS, eget, strip, hget, leVL, leV, leC, leL, i1, hlr]; done)); (focus (simp [noV, noC, flatR, flatV, flatC, evS, eget, strip, i1, hlr]; done)))
    | (with_reducible refine And.intro (And.intro ?_ ?_) ?_)
    | fail)
  refine W.loopS (fun i : Nat => ⟨[(11, I i), (9, .ptr 3 0), (8, I n), (7, .ptr 2 0), (5, .ptr 1 0), (4, .ptr 0 0), (1, .rows 2 (l.map fun r => r.map I))], [(3, .cells [I n, .rows 1 (lrT n (arL n l i))]), (2, .cells ((atL (arL n l i)).map I)), (1, .cells [I 0, I 0, I 0, I 0, I 0, I 0, I 0, I 0, I 0, I 0, I 0, I 0, I 0, I 0, I 0, I 0, I 0, I 0, I 0, I 0]), (0, .cells [I 0, .nil0])], 4⟩)
    (fun m i => m = l.length - i ∧ i ≤ l.length ∧ i ≤ 40) ?_ ?_
  · exact ⟨_, 0, (Gh.ren [0, 1, 2, 3] (by simp [hB0]) (by simp [hB0] <;> decide) (by simp [eget, rnS, rnR, rnV, rnC, LtS, LtR, LtV, LtC, lget, atL, atM, arL, List.range_succ]) (by simp [hget, rnO, rnC, LtO, LtC, lget, atL, atM, arL, List.range_succ]) (.inl (by simp [lget, atL, atM, arL, List.range_succ]))), rfl, by omega, by omega⟩
  rintro m i ⟨hm, hi, h40⟩
  refine acode_sound [0, 1, 4, 5, 6, 7, 8, 9, 10, 11, 12, 13, 14, 29, 39, 51, 73] [] _ _ _ ?_
  have hok := arL_ok n l q0.1 (by omega) i h40
  have hlen := lrT_len n (arL n l i)
  have hal := atL_len (arL n l i)
  by_cases hlt : i < l.length ∧ i < 40
  · obtain ⟨hlt, hlt2⟩ := hlt
    have hst := arL_succ n l i hlt
    have hok2 := arL_ok n l q0.1 (by omega) (i + 1) (by omega)
    rw [hst] at hok2
    simp only [← hst] at hok2
    obtain ⟨tm, htm⟩ : ∃ tm, tm = arL n l i := ⟨_, rfl⟩
    rw [← htm] at hst hok hlen hal
    obtain ⟨h2, hz⟩ := hr _ (List.getElem_mem hlt)
    obtain ⟨x, y, hxy⟩ : ∃ x y, l[i] = [x, y] := by
      match l[i], h2 with
      | [x, y], _ => exact ⟨x, y, rfl⟩
    rw [hxy] at hst hz
    have ix : InR x := hz _ (by simp)
    have iy : InR y := hz _ (by simp)
    have px := picked_pf x 20 ix (by omega)
    have py := picked_pf y 500 iy (by omega)
    have qx := pickedZ_range x 20 (by omega)
    have qy := pickedZ_range y 500 (by omega)
    have hz1 : (i : Int) < l.length := by omega
    have hz2 : (i : Int) < 40 := by omega
    have ii : InR ((i : Int) + 1) := inW (by omega) (by omega)
    have hst1 : arS n tm [x, y] = if 0 < atM tm (pickedZ x 20).toNat then tm else insT (n + 1 + pickedZ y 500, pickedZ x 20) tm := rfl
    rw [hst1] at hst
    obtain ⟨b, hb⟩ : ∃ b : Nat, pickedZ x 20 = b := ⟨(pickedZ x 20).toNat, by omega⟩
    rw [hb] at px
    rw [hb, Int.toNat_natCast] at hst
    have hb20 : b < 20 := by omega
    have hb1 : (b : Int) < 20 := by omega
    have hb2 : b ≤ 19 := by omega
    have hb3 : 0 < 20 - b := by omega
    have hat := atL_get tm b hb20
    have hatb : ∀ h : b < (atL tm).length, (atL tm)[b] = atM tm b := fun h => by
      rw [List.getElem?_eq_getElem h] at hat; exact Option.some.inj hat
    by_cases hc0 : 0 < atM tm b
    · rw [if_pos hc0] at hst
      repeat' (first
        | simp [AK_at, acode_seq, acode_region, acode_draw, acode_cond, ↓CB_t, ↓CB_f, CB_u, acode_block, acode_loop, acode_exit, acode_scope, acode_ret, acode_skip, seqQ_n, seqQ_e, seqQ_r, blockQ_n, blockQ_e, blockQ_r, TK_at, OK_at, SK_at, aops_nil, aops_cons, asch_done, asch_one, asch_two, asch_top, astep, aop_eq, isLoud, aloud, aloud1, isWrite, qv, evS, strip, gof, eget, hget, putO, eput, herase, oks, opnds, gS, afin, afin0, binD, arith, D.cells, takeD, fillD, keep, trim, envOf, Fin, aresl, aresv, resD, argOk, pickV, isP, deq, deqs, boundD, slD, lenD, isT, isSl, ptrIds, chunks, mn_min, mx_max, D.cells, splice_one, splice_more, Rbr_at, Rfr_at, frR, frV, frC, flatC, brwR, brwV, brwC, omap, leR, leV, leC, leL, leVL, ← htm, hxy, hlt, hz1, hz2, hb1, hb2, hb3, hal, hat, hatb, hc0, ii]
        | (refine WCall.pf (px) ?_ ?_ ?_ ?_; (focus (simp [oks, opnds, gS, gof, eget]; done)); (focus (simp [omap, brwV, brwC, evS, eget, strip, hget, leVL, leV, leC, leL, ← htm, hxy, hlt, hz1, hz2, hb1, hb2, hb3, hal, hat, hatb, hc0, ii]; done)); (focus (simp [noV, noC, flatR, flatV, flatC, evS, eget, strip, ← htm, hxy, hlt, hz1, hz2, hb1, hb2, hb3, hal, hat, hatb, hc0, ii]; done)))
        | (refine ⟨WCall.pf (px) ?_ ?_ ?_ ?_, ?_⟩; (focus (simp [oks, opnds, gS, gof, eget]; done)); (focus (simp [omap, brwV, brwC, evS, eget, strip, hget, leVL, leV, leC, leL, ← htm, hxy, hlt, hz1, hz2, hb1, hb2, hb3, hal, hat, hatb, hc0, ii]; done)); (focus (simp [noV, noC, flatR, flatV, flatC, evS, eget, strip, ← htm, hxy, hlt, hz1, hz2, hb1, hb2, hb3, hal, hat, hatb, hc0, ii]; done)))
        | (with_reducible refine And.intro (And.intro ?_ ?_) ?_)
        | fail)
      all_goals exact ⟨_, i + 1, (Gh.ren [0, 1, 2, 3] (by simp [hB0]) (by simp [hB0] <;> decide) (by simp [eget, rnS, rnR, rnV, rnC, LtS, LtR, LtV, LtC, lget, hst, rnIw]) (by simp [hget, rnO, rnC, LtO, LtC, lget, hst, rnIw]) (.inl (by simp [lget, hst, rnIw]))), by omega, rfl, by omega, by omega⟩
    · rw [if_neg hc0] at hst
      have hnone : ∀ t ∈ tm, t.2 ≠ (b : Int) := fun t ht e => by
        have h1 := atM_mem hok.wh.ids ht e
        have h3 := hok.wh.fit t ht
        omega
      obtain ⟨z, hzv⟩ : ∃ z, n + 1 + pickedZ y 500 = z := ⟨_, rfl⟩
      rw [hzv] at hst
      have hfew := hok.few
      have harm := warmM n tm hok.wh (z, (b : Int)) ⟨by show n < z; omega, by show z ≤ n + 500; omega, by show z ≤ _; omega, by show (0 : Int) ≤ b; omega, by show (b : Int) < 200; omega⟩ hnone
      rw [whM_def, whM_def] at harm
      have hset := atL_set tm hok.wh.ids z b hb20 hnone
      have hspl := spliceIw (atL tm) b z (by omega)
      rw [hset] at hspl
      have hal2 := atL_len (insT (z, (b : Int)) tm)
      have hat2 := atL_get (insT (z, (b : Int)) tm) b hb20
      have hm2 : atM (insT (z, (b : Int)) tm) b = z := atM_mem (by
        rw [((insT_perm (z, (b : Int)) tm).map (·.2)).nodup_iff, List.map_cons, List.nodup_cons]
        exact ⟨fun hm => by obtain ⟨x, hx, e⟩ := List.mem_map.1 hm; exact hnone x hx e, hok.wh.ids⟩) (insT_mem.2 (.inl rfl)) rfl
      rw [hm2] at hat2
      have hatc : ∀ h : b < (atL (insT (z, (b : Int)) tm)).length, (atL (insT (z, (b : Int)) tm))[b] = z := fun h => by
        rw [List.getElem?_eq_getElem h] at hat2; exact Option.some.inj hat2
      have i2 : InR z := inW (by omega) (by omega)
      repeat' (first
        | simp [AK_at, acode_seq, acode_region, acode_draw, acode_cond, ↓CB_t, ↓CB_f, CB_u, acode_block, acode_loop, acode_exit, acode_scope, acode_ret, acode_skip, seqQ_n, seqQ_e, seqQ_r, blockQ_n, blockQ_e, blockQ_r, TK_at, OK_at, SK_at, aops_nil, aops_cons, asch_done, asch_one, asch_two, asch_top, astep, aop_eq, isLoud, aloud, aloud1, isWrite, qv, evS, strip, gof, eget, hget, putO, eput, herase, oks, opnds, gS, afin, afin0, binD, arith, D.cells, takeD, fillD, keep, trim, envOf, Fin, aresl, aresv, resD, argOk, pickV, isP, deq, deqs, boundD, slD, lenD, isT, isSl, ptrIds, chunks, mn_min, mx_max, D.cells, splice_one, splice_more, Rbr_at, Rfr_at, frR, frV, frC, flatC, brwR, brwV, brwC, omap, leR, leV, leC, leL, leVL, ← htm, hxy, hlt, hz1, hz2, hb1, hb2, hb3, hal, hat, hatb, hc0, ii, i1, hzv, i2, hspl, hal2, hat2, hatc]
        | (refine WCall.pf (px) ?_ ?_ ?_ ?_; (focus (simp [oks, opnds, gS, gof, eget]; done)); (focus (simp [omap, brwV, brwC, evS, eget, strip, hget, leVL, leV, leC, leL, ← htm, hxy, hlt, hz1, hz2, hb1, hb2, hb3, hal, hat, hatb, hc0, ii, i1, hzv, i2, hspl, hal2, hat2, hatc]; done)); (focus (simp [noV, noC, flatR, flatV, flatC, evS, eget, strip, ← htm, hxy, hlt, hz1, hz2, hb1, hb2, hb3, hal, hat, hatb, hc0, ii, i1, hzv, i2, hspl, hal2, hat2, hatc]; done)))
        | (refine ⟨WCall.pf (px) ?_ ?_ ?_ ?_, ?_⟩; (focus (simp [oks, opnds, gS, gof, eget]; done)); (focus (simp [omap, brwV, brwC, evS, eget, strip, hget, leVL, leV, leC, leL, ← htm, hxy, hlt, hz1, hz2, hb1, hb2, hb3, hal, hat, hatb, hc0, ii, i1, hzv, i2, hspl, hal2, hat2, hatc]; done)); (focus (simp [noV, noC, flatR, flatV, flatC, evS, eget, strip, ← htm, hxy, hlt, hz1, hz2, hb1, hb2, hb3, hal, hat, hatb, hc0, ii, i1, hzv, i2, hspl, hal2, hat2, hatc]; done)))
        | (refine WCall.pf (py) ?_ ?_ ?_ ?_; (focus (simp [oks, opnds, gS, gof, eget]; done)); (focus (simp [omap, brwV, brwC, evS, eget, strip, hget, leVL, leV, leC, leL, ← htm, hxy, hlt, hz1, hz2, hb1, hb2, hb3, hal, hat, hatb, hc0, ii, i1, hzv, i2, hspl, hal2, hat2, hatc]; done)); (focus (simp [noV, noC, flatR, flatV, flatC, evS, eget, strip, ← htm, hxy, hlt, hz1, hz2, hb1, hb2, hb3, hal, hat, hatb, hc0, ii, i1, hzv, i2, hspl, hal2, hat2, hatc]; done)))
        | (refine ⟨WCall.pf (py) ?_ ?_ ?_ ?_, ?_⟩; (focus (simp [oks, opnds, gS, gof, eget]; done)); (focus (simp [omap, brwV, brwC, evS, eget, strip, hget, leVL, leV, leC, leL, ← htm, hxy, hlt, hz1, hz2, hb1, hb2, hb3, hal, hat, hatb, hc0, ii, i1, hzv, i2, hspl, hal2, hat2, hatc]; done)); (focus (simp [noV, noC, flatR, flatV, flatC, evS, eget, strip, ← htm, hxy, hlt, hz1, hz2, hb1, hb2, hb3, hal, hat, hatb, hc0, ii, i1, hzv, i2, hspl, hal2, hat2, hatc]; done)))
        | (refine WCall.pf (harm) ?_ ?_ ?_ ?_; (focus (simp [oks, opnds, gS, gof, eget]; done)); (focus (simp [omap, brwV, brwC, evS, eget, strip, hget, leVL, leV, leC, leL, ← htm, hxy, hlt, hz1, hz2, hb1, hb2, hb3, hal, hat, hatb, hc0, ii, i1, hzv, i2, hspl, hal2, hat2, hatc]; done)); (focus (simp [noV, noC, flatR, flatV, flatC, evS, eget, strip, ← htm, hxy, hlt, hz1, hz2, hb1, hb2, hb3, hal, hat, hatb, hc0, ii, i1, hzv, i2, hspl, hal2, hat2, hatc]; done)))
        | (refine ⟨WCall.pf (harm) ?_ ?_ ?_ ?_, ?_⟩; (focus (simp [oks, opnds, gS, gof, eget]; done)); (focus (simp [omap, brwV, brwC, evS, eget, strip, hget, leVL, leV, leC, leL, ← htm, hxy, hlt, hz1, hz2, hb1, hb2, hb3, hal, hat, hatb, hc0, ii, i1, hzv, i2, hspl, hal2, hat2, hatc]; done)); (focus (simp [noV, noC, flatR, flatV, flatC, evS, eget, strip, ← htm, hxy, hlt, hz1, hz2, hb1, hb2, hb3, hal, hat, hatb, hc0, ii, i1, hzv, i2, hspl, hal2, hat2, hatc]; done)))
        | (with_reducible refine And.intro (And.intro ?_ ?_) ?_)
        | fail)
      all_goals exact ⟨_, i + 1, (Gh.ren [0, 1, 2, 3] (by simp [hB0]) (by simp [hB0] <;> decide) (by simp [eget, rnS, rnR, rnV, rnC, LtS, LtR, LtV, LtC, lget, hst, rnIw]) (by simp [hget, rnO, rnC, LtO, LtC, lget, hst, rnIw]) (.inl (by simp [lget, hst, rnIw]))), by omega, rfl, by omega, by omega⟩
  · have h40z : arL n l i = arL n l 40 := by
      by_cases e : i = 40
      · rw [e]
      · have : i = l.length := by omega
        subst this
        unfold arL
        rw [List.take_of_length_le (Nat.le_refl _), List.take_of_length_le (by omega)]
    rw [← h40z]
    have hs0 := spl20 _ hal
    have htw : ((atL (arL n l i)).map I).take 20 = (atL (arL n l i)).map I := List.take_of_length_le (by simp [hal])
    by_cases hl2 : i < l.length
    · have hz2 : ¬ (i : Int) < 40 := by omega
      repeat' (first
        | simp [AK_at, acode_seq, acode_region, acode_draw, acode_cond, ↓CB_t, ↓CB_f, CB_u, acode_block, acode_loop, acode_exit, acode_scope, acode_ret, acode_skip, seqQ_n, seqQ_e, seqQ_r, blockQ_n, blockQ_e, blockQ_r, TK_at, OK_at, SK_at, aops_nil, aops_cons, asch_done, asch_one, asch_two, asch_top, astep, aop_eq, isLoud, aloud, aloud1, isWrite, qv, evS, strip, gof, eget, hget, putO, eput, herase, oks, opnds, gS, afin, afin0, binD, arith, D.cells, takeD, fillD, keep, trim, envOf, Fin, aresl, aresv, resD, argOk, pickV, isP, deq, deqs, boundD, slD, lenD, isT, isSl, ptrIds, chunks, mn_min, mx_max, D.cells, splice_one, splice_more, Rbr_at, Rfr_at, frR, frV, frC, flatC, brwR, brwV, brwC, omap, leR, leV, leC, leL, leVL, hl2, hz2, hal, hs0, htw, omapIw, leLIw]
        | (refine WCall.pf (px) ?_ ?_ ?_ ?_; (focus (simp [oks, opnds, gS, gof, eget]; done)); (focus (simp [omap, brwV, brwC, evS, eget, strip, hget, leVL, leV, leC, leL, hl2, hz2, hal, hs0, htw, omapIw, leLIw]; done)); (focus (simp [noV, noC, flatR, flatV, flatC, evS, eget, strip, hl2, hz2, hal, hs0, htw, omapIw, leLIw]; done)))
        | (refine ⟨WCall.pf (px) ?_ ?_ ?_ ?_, ?_⟩; (focus (simp [oks, opnds, gS, gof, eget]; done)); (focus (simp [omap, brwV, brwC, evS, eget, strip, hget, leVL, leV, leC, leL, hl2, hz2, hal, hs0, htw, omapIw, leLIw]; done)); (focus (simp [noV, noC, flatR, flatV, flatC, evS, eget, strip, hl2, hz2, hal, hs0, htw, omapIw, leLIw]; done)))
        | (with_reducible refine And.intro (And.intro ?_ ?_) ?_)
        | fail)
    · skip
      repeat' (first
        | simp [AK_at, acode_seq, acode_region, acode_draw, acode_cond, ↓CB_t, ↓CB_f, CB_u, acode_block, acode_loop, acode_exit, acode_scope, acode_ret, acode_skip, seqQ_n, seqQ_e, seqQ_r, blockQ_n, blockQ_e, blockQ_r, TK_at, OK_at, SK_at, aops_nil, aops_cons, asch_done, asch_one, asch_two, asch_top, astep, aop_eq, isLoud, aloud, aloud1, isWrite, qv, evS, strip, gof, eget, hget, putO, eput, herase, oks, opnds, gS, afin, afin0, binD, arith, D.cells, takeD, fillD, keep, trim, envOf, Fin, aresl, aresv, resD, argOk, pickV, isP, deq, deqs, boundD, slD, lenD, isT, isSl, ptrIds, chunks, mn_min, mx_max, D.cells, splice_one, splice_more, Rbr_at, Rfr_at, frR, frV, frC, flatC, brwR, brwV, brwC, omap, leR, leV, leC, leL, leVL, hl2, hal, hs0, htw, omapIw, leLIw]
        | (refine WCall.pf (px) ?_ ?_ ?_ ?_; (focus (simp [oks, opnds, gS, gof, eget]; done)); (focus (simp [omap, brwV, brwC, evS, eget, strip, hget, leVL, leV, leC, leL, hl2, hal, hs0, htw, omapIw, leLIw]; done)); (focus (simp [noV, noC, flatR, flatV, flatC, evS, eget, strip, hl2, hal, hs0, htw, omapIw, leLIw]; done)))
        | (refine ⟨WCall.pf (px) ?_ ?_ ?_ ?_, ?_⟩; (focus (simp [oks, opnds, gS, gof, eget]; done)); (focus (simp [omap, brwV, brwC, evS, eget, strip, hget, leVL, leV, leC, leL, hl2, hal, hs0, htw, omapIw, leLIw]; done)); (focus (simp [noV, noC, flatR, flatV, flatC, evS, eget, strip, hl2, hal, hs0, htw, omapIw, leLIw]; done)))
        | (with_reducible refine And.intro (And.intro ?_ ?_) ?_)
        | fail)
end Go.Proofs.Ytajimebannjofaa

set_option linter.unusedSimpArgs false
set_option linter.unusedVariables false
set_option maxRecDepth 100000
set_option maxHeartbeats 4000000
namespace Go.Proofs.Ytajimebannjofaa
open Go.RowKit
theorem uniq_id {tm : List (Int × Int)} (hid : (tm.map (·.2)).Nodup) {s t : Int × Int} (hs : s ∈ tm) (ht : t ∈ tm) (e : s.2 = t.2) : s = t := by
  obtain ⟨p, hp⟩ := List.getElem?_of_mem hs
  obtain ⟨q, hq⟩ := List.getElem?_of_mem ht
  obtain ⟨p1, p2⟩ := List.getElem?_eq_some_iff.1 hp
  obtain ⟨q1, q2⟩ := List.getElem?_eq_some_iff.1 hq
  have hpq : p = q := (List.getElem_inj (h₀ := by simpa using p1) (h₁ := by simpa using q1) hid).1 (by simp [p2, q2, e])
  subst hpq
  rw [← p2, ← q2]
theorem del_ins {tm : List (Int × Int)} (t : Int × Int) (hn : ∀ x ∈ tm, x.2 ≠ t.2) : (insT t tm).filter (fun x => decide (x.2 ≠ t.2)) = tm := by
  unfold insT
  rw [List.filter_append, List.filter_append]
  have e : ∀ l : List (Int × Int), (∀ x ∈ l, x ∈ tm) → l.filter (fun x => decide (x.2 ≠ t.2)) = l := fun l hl => List.filter_eq_self.2 fun x hx => by simpa using hn x (hl x hx)
  rw [e _ fun x hx => List.mem_of_mem_take hx, e _ fun x hx => List.mem_of_mem_drop hx]
  simp
theorem ins_del {tm : List (Int × Int)} (hs : SrtT tm) (hid : (tm.map (·.2)).Nodup) (t : Int × Int) (ht : t ∈ tm) : insT t (tm.filter fun x => decide (x.2 ≠ t.2)) = tm := by
  rw [ins_filter hs t ht _ (by simp)]
  refine List.filter_eq_self.2 fun x hx => ?_
  by_cases e : x.2 = t.2
  · simp [uniq_id hid hx ht e]
  · simp [e]
theorem wlcan_code : cfun Try.prog [] 3 = some ⟨(.seq (.region 0 [⟨(some 8), (.mov (.k (.bool false))), none⟩]) (.seq (.region 1 [⟨(some 27), (.mov (.t 0)), none⟩, ⟨(some 28), (.mov (.t 1)), none⟩, ⟨(some 29), (.call 10 [(.t 27), (.t 28)]), none⟩, ⟨(some 26), (.mov (.t 29)), none⟩, ⟨(some 30), (.ext (.t 26) 0), none⟩, ⟨(some 31), (.ext (.t 26) 1), none⟩, ⟨(some 32), (.ext (.t 26) 2), none⟩, ⟨(some 9), (.alloc [(.int .i64 0), .nil0]), none⟩, ⟨(some 10), (.alloc [(.int .i64 0), (.int .i64 0), (.int .i64 0), (.int .i64 0), (.int .i64 0), (.int .i64 0), (.int .i64 0), (.int .i64 0), (.int .i64 0), (.int .i64 0), (.int .i64 0), (.int .i64 0), (.int .i64 0), (.int .i64 0), (.int .i64 0), (.int .i64 0), (.int .i64 0), (.int .i64 0), (.int .i64 0), (.int .i64 0)]), none⟩, ⟨none, (.store 2 (.t 9) (.t 30)), none⟩, ⟨none, (.store 20 (.t 10) (.t 31)), none⟩, ⟨(some 11), (.mov (.t 32)), none⟩]) (.seq (.region 2 [⟨(some 33), (.mov (.t 2)), none⟩, ⟨(some 34), (.call 11 [(.t 33), (.k (.int .i64 20))]), none⟩, ⟨(some 12), (.mov (.t 34)), none⟩]) (.seq (.draw 3 (.one true ⟨(some 35), (.fad 0 (.t 9)), none⟩ (.one true ⟨(some 36), (.load false 1 (.t 35)), none⟩ (.one true ⟨(some 37), (.bin .add (.t 36) (.k (.int .i64 1))), none⟩ (.one true ⟨(some 38), (.mov (.t 3)), none⟩ (.one true ⟨(some 39), (.call 11 [(.t 38), (.k (.int .i64 500))]), none⟩ (.one true ⟨(some 40), (.bin .add (.t 37) (.t 39)), none⟩ (.one true ⟨(some 13), (.mov (.t 40)), none⟩ .done)))))))) (.seq (.seq (.region 4 [⟨(some 41), (.mov (.t 11)), none⟩, ⟨(some 42), (.not (.t 41)), none⟩]) (.cond 42 (.seq (.region 5 [⟨(some 8), (.mov (.k (.bool false))), none⟩]) .ret) .skip)) (.seq (.seq (.region 6 [⟨(some 43), (.mov (.t 12)), none⟩, ⟨(some 44), (.iada 20 1 (.t 10) (.t 43)), none⟩, ⟨(some 45), (.load false 1 (.t 44)), none⟩, ⟨(some 46), (.bin .eql (.t 45) (.k (.int .i64 0))), none⟩]) (.cond 46 (.seq (.region 7 [⟨(some 48), (.load true 2 (.t 9)), none⟩, ⟨(some 49), (.mov (.t 12)), none⟩, ⟨(some 50), (.call 12 [(.t 48), (.t 49)]), none⟩, ⟨(some 47), (.mov (.t 50)), none⟩, ⟨(some 51), (.ext (.t 47) 0), none⟩, ⟨(some 52), (.ext (.t 47) 1), none⟩, ⟨(some 14), (.alloc [(.int .i64 0), .nil0]), none⟩, ⟨none, (.store 2 (.t 14) (.t 51)), none⟩, ⟨(some 15), (.mov (.t 52)), none⟩]) (.seq (.region 8 [⟨(some 54), (.load true 2 (.t 9)), none⟩, ⟨(some 55), (.mov (.t 12)), none⟩, ⟨(some 56), (.mov (.t 13)), none⟩, ⟨(some 57), (.call 13 [(.t 54), (.t 55), (.t 56)]), none⟩, ⟨(some 53), (.mov (.t 57)), none⟩, ⟨(some 58), (.ext (.t 53) 0), none⟩, ⟨(some 59), (.ext (.t 53) 1), none⟩, ⟨(some 16), (.alloc [(.int .i64 0), .nil0]), none⟩, ⟨none, (.store 2 (.t 16) (.t 58)), none⟩, ⟨(some 17), (.mov (.t 59)), none⟩]) (.seq (.region 9 [⟨(some 61), (.load true 2 (.t 16)), none⟩, ⟨(some 62), (.mov (.t 12)), none⟩, ⟨(some 63), (.call 12 [(.t 61), (.t 62)]), none⟩, ⟨(some 60), (.mov (.t 63)), none⟩, ⟨(some 64), (.ext (.t 60) 0), none⟩, ⟨(some 65), (.ext (.t 60) 1), none⟩, ⟨(some 18), (.alloc [(.int .i64 0), .nil0]), none⟩, ⟨none, (.store 2 (.t 18) (.t 64)), none⟩, ⟨(some 19), (.mov (.t 65)), none⟩]) (.seq (.region 10 [⟨(some 66), (.mov (.t 15)), none⟩, ⟨(some 67), (.bin .eql (.t 66) (.k (.int .i64 8))), none⟩, ⟨(some 68), (.mov (.t 67)), none⟩, ⟨(some 69), (.mov (.t 17)), (some (68, true))⟩, ⟨(some 70), (.bin .eql (.t 69) (.k (.int .i64 0))), (some (68, true))⟩, ⟨(some 71), (.pick (.t 68) (.t 70) (.k (.bool false))), none⟩, ⟨(some 72), (.mov (.t 71)), none⟩, ⟨(some 73), (.mov (.t 19)), (some (72, true))⟩, ⟨(some 74), (.bin .eql (.t 73) (.k (.int .i64 0))), (some (72, true))⟩, ⟨(some 75), (.pick (.t 72) (.t 74) (.k (.bool false))), none⟩, ⟨(some 76), (.mov (.t 75)), none⟩, ⟨(some 77), (.load true 2 (.t 18)), (some (76, true))⟩, ⟨(some 78), (.load true 2 (.t 9)), (some (76, true))⟩, ⟨(some 79), (.call 14 [(.t 77), (.t 78)]), (some (76, true))⟩, ⟨(some 80), (.pick (.t 76) (.t 79) (.k (.bool false))), none⟩, ⟨(some 8), (.mov (.t 80)), none⟩]) .ret)))) .skip)) (.seq (.region 11 [⟨(some 82), (.load true 2 (.t 9)), none⟩, ⟨(some 83), (.mov (.t 12)), none⟩, ⟨(some 84), (.mov (.t 13)), none⟩, ⟨(some 85), (.call 13 [(.t 82), (.t 83), (.t 84)]), none⟩, ⟨(some 81), (.mov (.t 85)), none⟩, ⟨(some 86), (.ext (.t 81) 0), none⟩, ⟨(some 87), (.ext (.t 81) 1), none⟩, ⟨(some 20), (.alloc [(.int .i64 0), .nil0]), none⟩, ⟨none, (.store 2 (.t 20) (.t 86)), none⟩, ⟨(some 21), (.mov (.t 87)), none⟩]) (.seq (.region 12 [⟨(some 89), (.load true 2 (.t 9)), none⟩, ⟨(some 90), (.mov (.t 12)), none⟩, ⟨(some 91), (.call 12 [(.t 89), (.t 90)]), none⟩, ⟨(some 88), (.mov (.t 91)), none⟩, ⟨(some 92), (.ext (.t 88) 0), none⟩, ⟨(some 93), (.ext (.t 88) 1), none⟩, ⟨(some 22), (.alloc [(.int .i64 0), .nil0]), none⟩, ⟨none, (.store 2 (.t 22) (.t 92)), none⟩, ⟨(some 23), (.mov (.t 93)), none⟩]) (.seq (.draw 13 (.one true ⟨(some 95), (.load true 2 (.t 22)), none⟩ (.one true ⟨(some 96), (.mov (.t 12)), none⟩ (.one true ⟨(some 97), (.mov (.t 12)), none⟩ (.one true ⟨(some 98), (.iada 20 1 (.t 10) (.t 97)), none⟩ (.one true ⟨(some 99), (.load false 1 (.t 98)), none⟩ (.two (.one true ⟨(some 100), (.call 13 [(.t 95), (.t 96), (.t 99)]), none⟩ (.one true ⟨(some 94), (.mov (.t 100)), none⟩ (.one true ⟨(some 101), (.ext (.t 94) 0), none⟩ (.one true ⟨(some 102), (.ext (.t 94) 1), none⟩ (.one true ⟨(some 24), (.alloc [(.int .i64 0), .nil0]), none⟩ (.one false ⟨none, (.store 2 (.t 24) (.t 101)), none⟩ (.one true ⟨(some 25), (.mov (.t 102)), none⟩ .done))))))) (.two (.one true ⟨(some 24), (.alloc [(.int .i64 0), .nil0]), none⟩ (.one true ⟨(some 100), (.call 13 [(.t 95), (.t 96), (.t 99)]), none⟩ (.one true ⟨(some 94), (.mov (.t 100)), none⟩ (.one true ⟨(some 101), (.ext (.t 94) 0), none⟩ (.one true ⟨(some 102), (.ext (.t 94) 1), none⟩ (.one false ⟨none, (.store 2 (.t 24) (.t 101)), none⟩ (.one true ⟨(some 25), (.mov (.t 102)), none⟩ .done))))))) .top)))))))) (.seq (.region 14 [⟨(some 103), (.mov (.t 21)), none⟩, ⟨(some 104), (.bin .eql (.t 103) (.k (.int .i64 7))), none⟩, ⟨(some 105), (.mov (.t 104)), none⟩, ⟨(some 106), (.mov (.t 23)), (some (105, true))⟩, ⟨(some 107), (.bin .eql (.t 106) (.k (.int .i64 0))), (some (105, true))⟩, ⟨(some 108), (.pick (.t 105) (.t 107) (.k (.bool false))), none⟩, ⟨(some 109), (.mov (.t 108)), none⟩, ⟨(some 110), (.mov (.t 25)), (some (109, true))⟩, ⟨(some 111), (.bin .eql (.t 110) (.k (.int .i64 0))), (some (109, true))⟩, ⟨(some 112), (.pick (.t 109) (.t 111) (.k (.bool false))), none⟩, ⟨(some 113), (.mov (.t 112)), none⟩, ⟨(some 114), (.load true 2 (.t 24)), (some (113, true))⟩, ⟨(some 115), (.load true 2 (.t 9)), (some (113, true))⟩, ⟨(some 116), (.call 14 [(.t 114), (.t 115)]), (some (113, true))⟩, ⟨(some 117), (.pick (.t 113) (.t 116) (.k (.bool false))), none⟩, ⟨(some 8), (.mov (.t 117)), none⟩]) .ret)))))))))), [(.t 8)], 118⟩ := by kernel_rfl
theorem wlcan_pf (now : Int) (l : List (List Int)) (id inn : Int) (i1 : InR now) (hl : l.length ≤ Go.maxLen) (hr : ∀ r ∈ l, r.length = 2 ∧ ∀ z ∈ r, InR z) (i2 : InR id) (i3 : InR inn) :
    PF Try.prog 3 [I now, .rows 2 (l.map fun r => r.map I), I id, I inn] (.bool true) := by
  have harm := warmed_pf now l hl hr i1
  have q0 := pickedZ_range now 3000 (by omega)
  generalize pickedZ now 3000 = n at harm q0
  have hok := arL_ok n l q0.1 (by omega) 40 (by omega)
  generalize arL n l 40 = tm at harm hok
  have p1 := picked_pf id 20 i2 (by omega)
  have q1 := pickedZ_range id 20 (by omega)
  have p2 := picked_pf inn 500 i3 (by omega)
  have q2 := pickedZ_range inn 500 (by omega)
  obtain ⟨b, hb⟩ : ∃ b : Nat, pickedZ id 20 = b := ⟨(pickedZ id 20).toNat, by omega⟩
  rw [hb] at p1
  obtain ⟨z, hzv⟩ : ∃ z, n + 1 + pickedZ inn 500 = z := ⟨_, rfl⟩
  have hb20 : b < 20 := by omega
  have hb1 : (b : Int) < 20 := by omega
  have hb2 : b ≤ 19 := by omega
  have hb3 : 0 < 20 - b := by omega
  have hal := atL_len tm
  have hat := atL_get tm b hb20
  have hatb : ∀ h : b < (atL tm).length, (atL tm)[b] = atM tm b := fun h => by
    rw [List.getElem?_eq_getElem h] at hat; exact Option.some.inj hat
  have hs0 := spl20 _ hal
  have htw : ((atL tm).map I).take 20 = (atL tm).map I := List.take_of_length_le (by simp [hal])
  have i4 : InR (n + 1) := inW (by omega) (by omega)
  have i5 : InR z := inW (by omega) (by omega)
  have hfew := hok.few
  have hsame := swhM n tm (by omega)
  have hw := hok.wh
  by_cases hz : ∃ t ∈ tm, t.2 = (b : Int)
  · obtain ⟨t, ht, hti⟩ := hz
    have hft := hw.fit t ht
    have hv := atM_mem hw.ids ht hti
    have hne : ¬ t.1 = 0 := by omega
    rw [hv] at hat hatb
    have ha1 := warm1M n tm hw z b (by omega) ⟨t, ht, hti⟩
    have hc1 := wcanM n tm hw b ⟨t, ht, hti⟩
    have ha2 := warmM n (tm.filter fun x => decide (x.2 ≠ (b : Int))) (hw.sub _) t ⟨hft.1, hft.2.1, hft.2.2.1, hft.2.2.2.1, hft.2.2.2.2⟩ (fun x hx => by
      have := (List.mem_filter.1 hx).2
      rw [hti]; simpa using this)
    have hins := ins_del hw.srt hw.ids t ht
    rw [hti] at hins ha2
    rw [hins] at ha2
    rw [whM_def] at harm ha1 hc1 ha2 hsame
    rw [whM_def] at hc1 ha2
    have i6 : InR t.1 := inW (by omega) (by omega)
    refine PF.of follows_ok wlcan_code (by simp) (by simp [argOk]) (by simp [noV, noC]) fun B hBN hB0 => acode_sound [0, 1, 2, 3, 8, 9, 10, 11, 12, 13, 15, 16, 17, 18, 19, 21, 22, 23, 24, 25, 42, 46] [] _ _ _ ?_
    repeat' (first
      | simp [AK_at, acode_seq, acode_region, acode_draw, acode_cond, ↓CB_t, ↓CB_f, CB_u, acode_block, acode_loop, acode_exit, acode_scope, acode_ret, acode_skip, seqQ_n, seqQ_e, seqQ_r, blockQ_n, blockQ_e, blockQ_r, TK_at, OK_at, SK_at, aops_nil, aops_cons, asch_done, asch_one, asch_two, asch_top, astep, aop_eq, isLoud, aloud, aloud1, isWrite, qv, evS, strip, gof, eget, hget, putO, eput, herase, oks, opnds, gS, afin, afin0, binD, arith, D.cells, takeD, fillD, keep, trim, envOf, Fin, aresl, aresv, resD, argOk, pickV, isP, deq, deqs, boundD, slD, lenD, isT, isSl, ptrIds, chunks, mn_min, mx_max, D.cells, splice_one, splice_more, Rbr_at, Rfr_at, frR, frV, frC, flatC, brwR, brwV, brwC, omap, leR, leV, leC, leL, leVL, hal, hat, hatb, hs0, htw, hb1, hb2, hb3, hne, i4, hzv, i5, i6]
      | (refine WCall.pf (harm) ?_ ?_ ?_ ?_; (focus (simp [oks, opnds, gS, gof, eget]; done)); (focus (simp [omap, brwV, brwC, evS, eget, strip, hget, leVL, leV, leC, leL, hal, hat, hatb, hs0, htw, hb1, hb2, hb3, hne, i4, hzv, i5, i6]; done)); (focus (simp [noV, noC, flatR, flatV, flatC, evS, eget, strip, hal, hat, hatb, hs0, htw, hb1, hb2, hb3, hne, i4, hzv, i5, i6]; done)))
      | (refine ⟨WCall.pf (harm) ?_ ?_ ?_ ?_, ?_⟩; (focus (simp [oks, opnds, gS, gof, eget]; done)); (focus (simp [omap, brwV, brwC, evS, eget, strip, hget, leVL, leV, leC, leL, hal, hat, hatb, hs0, htw, hb1, hb2, hb3, hne, i4, hzv, i5, i6]; done)); (focus (simp [noV, noC, flatR, flatV, flatC, evS, eget, strip, hal, hat, hatb, hs0, htw, hb1, hb2, hb3, hne, i4, hzv, i5, i6]; done)))
      | (refine WCall.pf (p1) ?_ ?_ ?_ ?_; (focus (simp [oks, opnds, gS, gof, eget]; done)); (focus (simp [omap, brwV, brwC, evS, eget, strip, hget, leVL, leV, leC, leL, hal, hat, hatb, hs0, htw, hb1, hb2, hb3, hne, i4, hzv, i5, i6]; done)); (focus (simp [noV, noC, flatR, flatV, flatC, evS, eget, strip, hal, hat, hatb, hs0, htw, hb1, hb2, hb3, hne, i4, hzv, i5, i6]; done)))
      | (refine ⟨WCall.pf (p1) ?_ ?_ ?_ ?_, ?_⟩; (focus (simp [oks, opnds, gS, gof, eget]; done)); (focus (simp [omap, brwV, brwC, evS, eget, strip, hget, leVL, leV, leC, leL, hal, hat, hatb, hs0, htw, hb1, hb2, hb3, hne, i4, hzv, i5, i6]; done)); (focus (simp [noV, noC, flatR, flatV, flatC, evS, eget, strip, hal, hat, hatb, hs0, htw, hb1, hb2, hb3, hne, i4, hzv, i5, i6]; done)))
      | (refine WCall.pf (p2) ?_ ?_ ?_ ?_; (focus (simp [oks, opnds, gS, gof, eget]; done)); (focus (simp [omap, brwV, brwC, evS, eget, strip, hget, leVL, leV, leC, leL, hal, hat, hatb, hs0, htw, hb1, hb2, hb3, hne, i4, hzv, i5, i6]; done)); (focus (simp [noV, noC, flatR, flatV, flatC, evS, eget, strip, hal, hat, hatb, hs0, htw, hb1, hb2, hb3, hne, i4, hzv, i5, i6]; done)))
      | (refine ⟨WCall.pf (p2) ?_ ?_ ?_ ?_, ?_⟩; (focus (simp [oks, opnds, gS, gof, eget]; done)); (focus (simp [omap, brwV, brwC, evS, eget, strip, hget, leVL, leV, leC, leL, hal, hat, hatb, hs0, htw, hb1, hb2, hb3, hne, i4, hzv, i5, i6]; done)); (focus (simp [noV, noC, flatR, flatV, flatC, evS, eget, strip, hal, hat, hatb, hs0, htw, hb1, hb2, hb3, hne, i4, hzv, i5, i6]; done)))
      | (refine WCall.pf (ha1) ?_ ?_ ?_ ?_; (focus (simp [oks, opnds, gS, gof, eget]; done)); (focus (simp [omap, brwV, brwC, evS, eget, strip, hget, leVL, leV, leC, leL, hal, hat, hatb, hs0, htw, hb1, hb2, hb3, hne, i4, hzv, i5, i6]; done)); (focus (simp [noV, noC, flatR, flatV, flatC, evS, eget, strip, hal, hat, hatb, hs0, htw, hb1, hb2, hb3, hne, i4, hzv, i5, i6]; done)))
      | (refine ⟨WCall.pf (ha1) ?_ ?_ ?_ ?_, ?_⟩; (focus (simp [oks, opnds, gS, gof, eget]; done)); (focus (simp [omap, brwV, brwC, evS, eget, strip, hget, leVL, leV, leC, leL, hal, hat, hatb, hs0, htw, hb1, hb2, hb3, hne, i4, hzv, i5, i6]; done)); (focus (simp [noV, noC, flatR, flatV, flatC, evS, eget, strip, hal, hat, hatb, hs0, htw, hb1, hb2, hb3, hne, i4, hzv, i5, i6]; done)))
      | (refine WCall.pf (hc1) ?_ ?_ ?_ ?_; (focus (simp [oks, opnds, gS, gof, eget]; done)); (focus (simp [omap, brwV, brwC, evS, eget, strip, hget, leVL, leV, leC, leL, hal, hat, hatb, hs0, htw, hb1, hb2, hb3, hne, i4, hzv, i5, i6]; done)); (focus (simp [noV, noC, flatR, flatV, flatC, evS, eget, strip, hal, hat, hatb, hs0, htw, hb1, hb2, hb3, hne, i4, hzv, i5, i6]; done)))
      | (refine ⟨WCall.pf (hc1) ?_ ?_ ?_ ?_, ?_⟩; (focus (simp [oks, opnds, gS, gof, eget]; done)); (focus (simp [omap, brwV, brwC, evS, eget, strip, hget, leVL, leV, leC, leL, hal, hat, hatb, hs0, htw, hb1, hb2, hb3, hne, i4, hzv, i5, i6]; done)); (focus (simp [noV, noC, flatR, flatV, flatC, evS, eget, strip, hal, hat, hatb, hs0, htw, hb1, hb2, hb3, hne, i4, hzv, i5, i6]; done)))
      | (refine WCall.pf (ha2) ?_ ?_ ?_ ?_; (focus (simp [oks, opnds, gS, gof, eget]; done)); (focus (simp [omap, brwV, brwC, evS, eget, strip, hget, leVL, leV, leC, leL, hal, hat, hatb, hs0, htw, hb1, hb2, hb3, hne, i4, hzv, i5, i6]; done)); (focus (simp [noV, noC, flatR, flatV, flatC, evS, eget, strip, hal, hat, hatb, hs0, htw, hb1, hb2, hb3, hne, i4, hzv, i5, i6]; done)))
      | (refine ⟨WCall.pf (ha2) ?_ ?_ ?_ ?_, ?_⟩; (focus (simp [oks, opnds, gS, gof, eget]; done)); (focus (simp [omap, brwV, brwC, evS, eget, strip, hget, leVL, leV, leC, leL, hal, hat, hatb, hs0, htw, hb1, hb2, hb3, hne, i4, hzv, i5, i6]; done)); (focus (simp [noV, noC, flatR, flatV, flatC, evS, eget, strip, hal, hat, hatb, hs0, htw, hb1, hb2, hb3, hne, i4, hzv, i5, i6]; done)))
      | (refine WCall.pf (hsame) ?_ ?_ ?_ ?_; (focus (simp [oks, opnds, gS, gof, eget]; done)); (focus (simp [omap, brwV, brwC, evS, eget, strip, hget, leVL, leV, leC, leL, hal, hat, hatb, hs0, htw, hb1, hb2, hb3, hne, i4, hzv, i5, i6]; done)); (focus (simp [noV, noC, flatR, flatV, flatC, evS, eget, strip, hal, hat, hatb, hs0, htw, hb1, hb2, hb3, hne, i4, hzv, i5, i6]; done)))
      | (refine ⟨WCall.pf (hsame) ?_ ?_ ?_ ?_, ?_⟩; (focus (simp [oks, opnds, gS, gof, eget]; done)); (focus (simp [omap, brwV, brwC, evS, eget, strip, hget, leVL, leV, leC, leL, hal, hat, hatb, hs0, htw, hb1, hb2, hb3, hne, i4, hzv, i5, i6]; done)); (focus (simp [noV, noC, flatR, flatV, flatC, evS, eget, strip, hal, hat, hatb, hs0, htw, hb1, hb2, hb3, hne, i4, hzv, i5, i6]; done)))
      | (with_reducible refine And.intro (And.intro ?_ ?_) ?_)
      | fail)
  · have hnone : ∀ t ∈ tm, t.2 ≠ (b : Int) := fun t ht e => hz ⟨t, ht, e⟩
    have hv := atM_none hnone
    rw [hv] at hat hatb
    have hc1 := wcan0M n tm hw b hnone
    have hfz : n < z ∧ z ≤ n + 500 ∧ z ≤ 1099511627776 ∧ (0 : Int) ≤ b ∧ (b : Int) < 200 := by omega
    have ha1 := warmM n tm hw (z, (b : Int)) hfz hnone
    have hc2 := wcanM n (insT (z, (b : Int)) tm) (hw.ins _ hfz hnone (by omega)) b ⟨_, insT_mem.2 (.inl rfl), rfl⟩
    have hdel := del_ins (tm := tm) (z, (b : Int)) hnone
    simp only at hdel ha1
    rw [hdel] at hc2
    rw [whM_def] at harm ha1 hc1 hc2 hsame
    rw [whM_def] at ha1 hc2
    refine PF.of follows_ok wlcan_code (by simp) (by simp [argOk]) (by simp [noV, noC]) fun B hBN hB0 => acode_sound [0, 1, 2, 3, 8, 9, 10, 11, 12, 13, 15, 16, 17, 18, 19, 21, 22, 23, 24, 25, 42, 46] [] _ _ _ ?_
    repeat' (first
      | simp [AK_at, acode_seq, acode_region, acode_draw, acode_cond, ↓CB_t, ↓CB_f, CB_u, acode_block, acode_loop, acode_exit, acode_scope, acode_ret, acode_skip, seqQ_n, seqQ_e, seqQ_r, blockQ_n, blockQ_e, blockQ_r, TK_at, OK_at, SK_at, aops_nil, aops_cons, asch_done, asch_one, asch_two, asch_top, astep, aop_eq, isLoud, aloud, aloud1, isWrite, qv, evS, strip, gof, eget, hget, putO, eput, herase, oks, opnds, gS, afin, afin0, binD, arith, D.cells, takeD, fillD, keep, trim, envOf, Fin, aresl, aresv, resD, argOk, pickV, isP, deq, deqs, boundD, slD, lenD, isT, isSl, ptrIds, chunks, mn_min, mx_max, D.cells, splice_one, splice_more, Rbr_at, Rfr_at, frR, frV, frC, flatC, brwR, brwV, brwC, omap, leR, leV, leC, leL, leVL, hal, hat, hatb, hs0, htw, hb1, hb2, hb3, i4, hzv, i5]
      | (refine WCall.pf (harm) ?_ ?_ ?_ ?_; (focus (simp [oks, opnds, gS, gof, eget]; done)); (focus (simp [omap, brwV, brwC, evS, eget, strip, hget, leVL, leV, leC, leL, hal, hat, hatb, hs0, htw, hb1, hb2, hb3, i4, hzv, i5]; done)); (focus (simp [noV, noC, flatR, flatV, flatC, evS, eget, strip, hal, hat, hatb, hs0, htw, hb1, hb2, hb3, i4, hzv, i5]; done)))
      | (refine ⟨WCall.pf (harm) ?_ ?_ ?_ ?_, ?_⟩; (focus (simp [oks, opnds, gS, gof, eget]; done)); (focus (simp [omap, brwV, brwC, evS, eget, strip, hget, leVL, leV, leC, leL, hal, hat, hatb, hs0, htw, hb1, hb2, hb3, i4, hzv, i5]; done)); (focus (simp [noV, noC, flatR, flatV, flatC, evS, eget, strip, hal, hat, hatb, hs0, htw, hb1, hb2, hb3, i4, hzv, i5]; done)))
      | (refine WCall.pf (p1) ?_ ?_ ?_ ?_; (focus (simp [oks, opnds, gS, gof, eget]; done)); (focus (simp [omap, brwV, brwC, evS, eget, strip, hget, leVL, leV, leC, leL, hal, hat, hatb, hs0, htw, hb1, hb2, hb3, i4, hzv, i5]; done)); (focus (simp [noV, noC, flatR, flatV, flatC, evS, eget, strip, hal, hat, hatb, hs0, htw, hb1, hb2, hb3, i4, hzv, i5]; done)))
      | (refine ⟨WCall.pf (p1) ?_ ?_ ?_ ?_, ?_⟩; (focus (simp [oks, opnds, gS, gof, eget]; done)); (focus (simp [omap, brwV, brwC, evS, eget, strip, hget, leVL, leV, leC, leL, hal, hat, hatb, hs0, htw, hb1, hb2, hb3, i4, hzv, i5]; done)); (focus (simp [noV, noC, flatR, flatV, flatC, evS, eget, strip, hal, hat, hatb, hs0, htw, hb1, hb2, hb3, i4, hzv, i5]; done)))
      | (refine WCall.pf (p2) ?_ ?_ ?_ ?_; (focus (simp [oks, opnds, gS, gof, eget]; done)); (focus (simp [omap, brwV, brwC, evS, eget, strip, hget, leVL, leV, leC, leL, hal, hat, hatb, hs0, htw, hb1, hb2, hb3, i4, hzv, i5]; done)); (focus (simp [noV, noC, flatR, flatV, flatC, evS, eget, strip, hal, hat, hatb, hs0, htw, hb1, hb2, hb3, i4, hzv, i5]; done)))
      | (refine ⟨WCall.pf (p2) ?_ ?_ ?_ ?_, ?_⟩; (focus (simp [oks, opnds, gS, gof, eget]; done)); (focus (simp [omap, brwV, brwC, evS, eget, strip, hget, leVL, leV, leC, leL, hal, hat, hatb, hs0, htw, hb1, hb2, hb3, i4, hzv, i5]; done)); (focus (simp [noV, noC, flatR, flatV, flatC, evS, eget, strip, hal, hat, hatb, hs0, htw, hb1, hb2, hb3, i4, hzv, i5]; done)))
      | (refine WCall.pf (ha1) ?_ ?_ ?_ ?_; (focus (simp [oks, opnds, gS, gof, eget]; done)); (focus (simp [omap, brwV, brwC, evS, eget, strip, hget, leVL, leV, leC, leL, hal, hat, hatb, hs0, htw, hb1, hb2, hb3, i4, hzv, i5]; done)); (focus (simp [noV, noC, flatR, flatV, flatC, evS, eget, strip, hal, hat, hatb, hs0, htw, hb1, hb2, hb3, i4, hzv, i5]; done)))
      | (refine ⟨WCall.pf (ha1) ?_ ?_ ?_ ?_, ?_⟩; (focus (simp [oks, opnds, gS, gof, eget]; done)); (focus (simp [omap, brwV, brwC, evS, eget, strip, hget, leVL, leV, leC, leL, hal, hat, hatb, hs0, htw, hb1, hb2, hb3, i4, hzv, i5]; done)); (focus (simp [noV, noC, flatR, flatV, flatC, evS, eget, strip, hal, hat, hatb, hs0, htw, hb1, hb2, hb3, i4, hzv, i5]; done)))
      | (refine WCall.pf (hc1) ?_ ?_ ?_ ?_; (focus (simp [oks, opnds, gS, gof, eget]; done)); (focus (simp [omap, brwV, brwC, evS, eget, strip, hget, leVL, leV, leC, leL, hal, hat, hatb, hs0, htw, hb1, hb2, hb3, i4, hzv, i5]; done)); (focus (simp [noV, noC, flatR, flatV, flatC, evS, eget, strip, hal, hat, hatb, hs0, htw, hb1, hb2, hb3, i4, hzv, i5]; done)))
      | (refine ⟨WCall.pf (hc1) ?_ ?_ ?_ ?_, ?_⟩; (focus (simp [oks, opnds, gS, gof, eget]; done)); (focus (simp [omap, brwV, brwC, evS, eget, strip, hget, leVL, leV, leC, leL, hal, hat, hatb, hs0, htw, hb1, hb2, hb3, i4, hzv, i5]; done)); (focus (simp [noV, noC, flatR, flatV, flatC, evS, eget, strip, hal, hat, hatb, hs0, htw, hb1, hb2, hb3, i4, hzv, i5]; done)))
      | (refine WCall.pf (hc2) ?_ ?_ ?_ ?_; (focus (simp [oks, opnds, gS, gof, eget]; done)); (focus (simp [omap, brwV, brwC, evS, eget, strip, hget, leVL, leV, leC, leL, hal, hat, hatb, hs0, htw, hb1, hb2, hb3, i4, hzv, i5]; done)); (focus (simp [noV, noC, flatR, flatV, flatC, evS, eget, strip, hal, hat, hatb, hs0, htw, hb1, hb2, hb3, i4, hzv, i5]; done)))
      | (refine ⟨WCall.pf (hc2) ?_ ?_ ?_ ?_, ?_⟩; (focus (simp [oks, opnds, gS, gof, eget]; done)); (focus (simp [omap, brwV, brwC, evS, eget, strip, hget, leVL, leV, leC, leL, hal, hat, hatb, hs0, htw, hb1, hb2, hb3, i4, hzv, i5]; done)); (focus (simp [noV, noC, flatR, flatV, flatC, evS, eget, strip, hal, hat, hatb, hs0, htw, hb1, hb2, hb3, i4, hzv, i5]; done)))
      | (refine WCall.pf (hsame) ?_ ?_ ?_ ?_; (focus (simp [oks, opnds, gS, gof, eget]; done)); (focus (simp [omap, brwV, brwC, evS, eget, strip, hget, leVL, leV, leC, leL, hal, hat, hatb, hs0, htw, hb1, hb2, hb3, i4, hzv, i5]; done)); (focus (simp [noV, noC, flatR, flatV, flatC, evS, eget, strip, hal, hat, hatb, hs0, htw, hb1, hb2, hb3, i4, hzv, i5]; done)))
      | (refine ⟨WCall.pf (hsame) ?_ ?_ ?_ ?_, ?_⟩; (focus (simp [oks, opnds, gS, gof, eget]; done)); (focus (simp [omap, brwV, brwC, evS, eget, strip, hget, leVL, leV, leC, leL, hal, hat, hatb, hs0, htw, hb1, hb2, hb3, i4, hzv, i5]; done)); (focus (simp [noV, noC, flatR, flatV, flatC, evS, eget, strip, hal, hat, hatb, hs0, htw, hb1, hb2, hb3, i4, hzv, i5]; done)))
      | (with_reducible refine And.intro (And.intro ?_ ?_) ?_)
      | fail)
end Go.Proofs.Ytajimebannjofaa

set_option linter.unusedSimpArgs false
set_option linter.unusedVariables false
set_option maxRecDepth 100000
set_option maxHeartbeats 4000000
namespace Go.Proofs.Ytajimebannjofaa
open Go.RowKit
theorem inc_eq : ∀ (a b : List Int), List.Pairwise (· < ·) a → List.Pairwise (· < ·) b → (∀ z, z ∈ a ↔ z ∈ b) → a = b
  | [], [], _, _, _ => rfl
  | [], y :: b, _, _, h => by have := (h y).2 List.mem_cons_self; cases this
  | x :: a, [], _, _, h => by have := (h x).1 List.mem_cons_self; cases this
  | x :: a, y :: b, ha, hb, h => by
    obtain ⟨a1, a2⟩ := List.pairwise_cons.1 ha
    obtain ⟨b1, b2⟩ := List.pairwise_cons.1 hb
    have e : x = y := by
      rcases List.mem_cons.1 ((h x).1 List.mem_cons_self) with h1 | h1
      · exact h1
      · rcases List.mem_cons.1 ((h y).2 List.mem_cons_self) with h2 | h2
        · exact h2.symm
        · have := a1 y h2; have := b1 x h1; omega
    subst e
    congr 1
    refine inc_eq a b a2 b2 fun z => ?_
    constructor
    · intro hz
      rcases List.mem_cons.1 ((h z).1 (List.mem_cons_of_mem _ hz)) with h1 | h1
      · have := a1 z hz; omega
      · exact h1
    · intro hz
      rcases List.mem_cons.1 ((h z).2 (List.mem_cons_of_mem _ hz)) with h1 | h1
      · have := b1 z hz; omega
      · exact h1
/-- the timers of ticks behind v -/
def tmA (tm : List (Int × Int)) (v : Int) : List (Int × Int) := tm.filter fun t => decide (v < t.1)
theorem tmA_all {n : Int} {tm : List (Int × Int)} (h : WhOk n tm) : tmA tm n = tm := List.filter_eq_self.2 fun t ht => by have := (h.fit t ht).1; simpa using this
theorem tmA_succ (tm : List (Int × Int)) (v : Int) : (tmA tm v).filter (fun t => decide (t.1 ≠ v + 1)) = tmA tm (v + 1) := by
  unfold tmA
  rw [List.filter_filter]
  refine List.filter_congr fun t _ => ?_
  by_cases h1 : v < t.1
  · by_cases h2 : t.1 = v + 1
    · have : ¬ v + 1 < t.1 := by omega
      simp [h2]
    · have : v + 1 < t.1 := by omega
      simp [h1, h2, this]
  · have : ¬ v + 1 < t.1 := by omega
    simp [h1, this]
theorem tmA_off (tm : List (Int × Int)) (v : Int) : (tmA tm v).filter (fun t => decide (t.1 = v + 1)) = tm.filter fun t => decide (t.1 = v + 1) := by
  unfold tmA
  rw [List.filter_filter]
  refine List.filter_congr fun t _ => ?_
  by_cases h2 : t.1 = v + 1
  · simp [h2]; omega
  · simp [h2]
theorem tmA_ok {n : Int} {tm : List (Int × Int)} (h : WhOk n tm) : ∀ k : Nat, n + k ≤ 1099511627776 → WhOk (n + k) (tmA tm (n + k))
  | 0, _ => by
    have e : n + ((0 : Nat) : Int) = n := by simp
    rw [e, tmA_all h]; exact h
  | k + 1, hk => by
    have h1 := (tmA_ok h k (by omega)).adv (by omega)
    have e : n + ((k + 1 : Nat) : Int) = n + k + 1 := by omega
    rw [e, ← tmA_succ]
    exact h1
def wantI (tm : List (Int × Int)) (v : Int) (j : Nat) : List Int := ((List.range j).filter fun id => decide (atM tm id = v)).map fun id : Nat => (id : Int)
theorem wantI_succ (tm : List (Int × Int)) (v : Int) (j : Nat) : wantI tm v (j + 1) = wantI tm v j ++ if atM tm j = v then [(j : Int)] else [] := by
  unfold wantI
  rw [List.range_succ, List.filter_append, List.map_append]
  congr 1
  rw [List.filter_cons]
  by_cases h : atM tm j = v
  · simp [h]
  · simp [h]
theorem wantI_len (tm : List (Int × Int)) (v : Int) (j : Nat) : (wantI tm v j).length ≤ j := by
  unfold wantI
  rw [List.length_map]
  exact Nat.le_trans (List.length_filter_le _ _) (by simp)
theorem off_want {tm : List (Int × Int)} (hs : SrtT tm) (hid : (tm.map (·.2)).Nodup) (hb : ∀ t ∈ tm, 0 ≤ t.2 ∧ t.2 < 20) (v : Int) (hv : 0 < v) : (tm.filter fun t => decide (t.1 = v)).map (·.2) = wantI tm v 20 := by
  refine inc_eq _ _ ?_ ?_ fun z => ?_
  · rw [List.pairwise_map]
    refine List.Pairwise.imp_of_mem ?_ (List.Pairwise.filter _ hs)
    intro a b ha hb' hab
    have h1 : a.1 = v := by simpa using (List.mem_filter.1 ha).2
    have h2 : b.1 = v := by simpa using (List.mem_filter.1 hb').2
    omega
  · unfold wantI
    rw [List.pairwise_map]
    exact List.Pairwise.imp (fun h => by omega) (List.Pairwise.filter _ List.pairwise_lt_range)
  · constructor
    · intro h
      obtain ⟨t, ht, rfl⟩ := List.mem_map.1 h
      obtain ⟨h1, h2⟩ := List.mem_filter.1 ht
      have h3 := hb t h1
      have h4 : t.1 = v := by simpa using h2
      refine List.mem_map.2 ⟨t.2.toNat, List.mem_filter.2 ⟨List.mem_range.2 (by omega), ?_⟩, by omega⟩
      have := atM_mem hid h1 (id := t.2.toNat) (by omega)
      simp [this, h4]
    · intro h
      obtain ⟨id, hid2, rfl⟩ := List.mem_map.1 h
      obtain ⟨h1, h2⟩ := List.mem_filter.1 hid2
      have h3 : atM tm id = v := by simpa using h2
      obtain ⟨t, ht, h4⟩ := atM_pos (tm := tm) (id := id) (by omega)
      have := atM_mem hid ht h4
      exact List.mem_map.2 ⟨t, List.mem_filter.2 ⟨ht, by simp; omega⟩, h4⟩
theorem wsamei_code : cfun Try.prog [] 16 = some ⟨(.seq (.region 0 [⟨(some 4), (.mov (.k (.bool false))), none⟩]) (.seq (.seq (.region 1 [⟨(some 6), (.mov (.t 0)), none⟩, ⟨(some 7), (.len (.t 6)), none⟩, ⟨(some 8), (.mov (.t 1)), none⟩, ⟨(some 9), (.len (.t 8)), none⟩, ⟨(some 10), (.bin .neq (.t 7) (.t 9)), none⟩]) (.cond 10 (.seq (.region 2 [⟨(some 4), (.mov (.k (.bool false))), none⟩]) .ret) .skip)) (.seq (.seq (.region 3 [⟨(some 5), (.mov (.k (.int .i64 0))), none⟩]) (.block 0 (.loop (.seq (.seq (.region 4 [⟨(some 11), (.mov (.t 5)), none⟩, ⟨(some 12), (.mov (.t 0)), none⟩, ⟨(some 13), (.len (.t 12)), none⟩, ⟨(some 14), (.bin .lss (.t 11) (.t 13)), none⟩]) (.cond 14 .skip (.exit 0))) (.seq (.block 1 (.seq (.draw 6 (.one true ⟨(some 17), (.mov (.t 0)), none⟩ (.one true ⟨(some 18), (.mov (.t 5)), none⟩ (.one true ⟨(some 19), (.iads 1 (.t 17) (.t 18)), none⟩ (.one true ⟨(some 20), (.load false 1 (.t 19)), none⟩ (.one true ⟨(some 21), (.mov (.t 1)), none⟩ (.one true ⟨(some 22), (.mov (.t 5)), none⟩ (.one true ⟨(some 23), (.iads 1 (.t 21) (.t 22)), none⟩ (.one true ⟨(some 24), (.load false 1 (.t 23)), none⟩ (.one true ⟨(some 25), (.bin .neq (.t 20) (.t 24)), none⟩ .done)))))))))) (.cond 25 (.seq (.region 7 [⟨(some 4), (.mov (.k (.bool false))), none⟩]) .ret) .skip))) (.region 5 [⟨(some 15), (.mov (.t 5)), none⟩, ⟨(some 16), (.bin .add (.t 15) (.k (.int .i64 1))), none⟩, ⟨(some 5), (.mov (.t 16)), none⟩])))))) (.seq (.region 8 [⟨(some 4), (.mov (.k (.bool true))), none⟩]) .ret)))), [(.t 4)], 26⟩ := by kernel_rfl
theorem wsamei_pf (l : List Int) (hl : l.length ≤ 1000000) : PF Try.prog 16 [.rows 1 (l.map fun c => [I c]), .rows 1 (l.map fun c => [I c])] (.bool true) := by
  refine PF.of follows_ok wsamei_code (by simp) (by simp [argOk]) (by simp [noV, noC]) fun B hBN hB0 => acode_sound [0, 1, 4, 5, 10, 14, 25] [] _ _ _ ?_
  simp [AK_at, acode_seq, acode_region, acode_draw, acode_cond, ↓CB_t, ↓CB_f, CB_u, acode_block, acode_loop, acode_exit, acode_scope, acode_ret, acode_skip, seqQ_n, seqQ_e, seqQ_r, blockQ_n, blockQ_e, blockQ_r, TK_at, OK_at, SK_at, aops_nil, aops_cons, asch_done, asch_one, asch_two, asch_top, astep, aop_eq, isLoud, aloud, aloud1, isWrite, qv, evS, strip, gof, eget, hget, putO, eput, herase, oks, opnds, gS, afin, afin0, binD, arith, D.cells, takeD, fillD, keep, trim, envOf, Fin, aresl, aresv, resD, argOk, pickV, isP, deq, deqs, boundD, slD, lenD, isT, isSl, ptrIds, chunks, mn_min, mx_max, D.cells, splice_one, splice_more, Rbr_at, Rfr_at, frR, frV, frC, flatC, brwR, brwV, brwC, omap, leR, leV, leC, leL, leVL]
  refine W.loopS (fun i : Nat => ⟨[(5, I i), (4, .bool false), (1, D.rows 1 (l.map fun c => [I c])), (0, D.rows 1 (l.map fun c => [I c]))], [], 0⟩)
    (fun n i => n = l.length - i ∧ i ≤ l.length) ?_ ?_
  · exact ⟨_, 0, (Gh.ren [] (by simp [hB0]) (by simp [hB0] <;> decide) (by simp [eget, rnS, rnR, rnV, rnC, LtS, LtR, LtV, LtC, lget]) (by simp [hget, rnO, rnC, LtO, LtC, lget]) (.inr rfl)), rfl, by simp⟩
  · rintro n i ⟨hn, hi⟩
    refine acode_sound [0, 1, 4, 5, 10, 14, 25] [] _ _ _ ?_
    by_cases hlt : i < l.length
    · have hi1 : InR ((i : Int) + 1) := inW (by omega) (by omega)
      simp [AK_at, acode_seq, acode_region, acode_draw, acode_cond, ↓CB_t, ↓CB_f, CB_u, acode_block, acode_loop, acode_exit, acode_scope, acode_ret, acode_skip, seqQ_n, seqQ_e, seqQ_r, blockQ_n, blockQ_e, blockQ_r, TK_at, OK_at, SK_at, aops_nil, aops_cons, asch_done, asch_one, asch_two, asch_top, astep, aop_eq, isLoud, aloud, aloud1, isWrite, qv, evS, strip, gof, eget, hget, putO, eput, herase, oks, opnds, gS, afin, afin0, binD, arith, D.cells, takeD, fillD, keep, trim, envOf, Fin, aresl, aresv, resD, argOk, pickV, isP, deq, deqs, boundD, slD, lenD, isT, isSl, ptrIds, chunks, mn_min, mx_max, D.cells, splice_one, splice_more, Rbr_at, Rfr_at, frR, frV, frC, flatC, brwR, brwV, brwC, omap, leR, leV, leC, leL, leVL, hlt, hi1]
      exact ⟨_, i + 1, (Gh.ren [] (by simp [hB0]) (by simp [hB0] <;> decide) (by simp [eget, rnS, rnR, rnV, rnC, LtS, LtR, LtV, LtC, lget]) (by simp [hget, rnO, rnC, LtO, LtC, lget]) (.inr rfl)), by omega, rfl, by omega⟩
    · simp [AK_at, acode_seq, acode_region, acode_draw, acode_cond, ↓CB_t, ↓CB_f, CB_u, acode_block, acode_loop, acode_exit, acode_scope, acode_ret, acode_skip, seqQ_n, seqQ_e, seqQ_r, blockQ_n, blockQ_e, blockQ_r, TK_at, OK_at, SK_at, aops_nil, aops_cons, asch_done, asch_one, asch_two, asch_top, astep, aop_eq, isLoud, aloud, aloud1, isWrite, qv, evS, strip, gof, eget, hget, putO, eput, herase, oks, opnds, gS, afin, afin0, binD, arith, D.cells, takeD, fillD, keep, trim, envOf, Fin, aresl, aresv, resD, argOk, pickV, isP, deq, deqs, boundD, slD, lenD, isT, isSl, ptrIds, chunks, mn_min, mx_max, D.cells, splice_one, splice_more, Rbr_at, Rfr_at, frR, frV, frC, flatC, brwR, brwV, brwC, omap, leR, leV, leC, leL, leVL, hlt]
theorem wfire_code : cfun Try.prog [] 4 = some ⟨(.seq (.region 0 [⟨(some 6), (.mov (.k (.bool false))), none⟩]) (.seq (.region 1 [⟨(some 18), (.mov (.t 0)), none⟩, ⟨(some 19), (.mov (.t 1)), none⟩, ⟨(some 20), (.call 10 [(.t 18), (.t 19)]), none⟩, ⟨(some 17), (.mov (.t 20)), none⟩, ⟨(some 21), (.ext (.t 17) 0), none⟩, ⟨(some 22), (.ext (.t 17) 1), none⟩, ⟨(some 23), (.ext (.t 17) 2), none⟩, ⟨(some 7), (.alloc [(.int .i64 0), .nil0]), none⟩, ⟨(some 8), (.alloc [(.int .i64 0), (.int .i64 0), (.int .i64 0), (.int .i64 0), (.int .i64 0), (.int .i64 0), (.int .i64 0), (.int .i64 0), (.int .i64 0), (.int .i64 0), (.int .i64 0), (.int .i64 0), (.int .i64 0), (.int .i64 0), (.int .i64 0), (.int .i64 0), (.int .i64 0), (.int .i64 0), (.int .i64 0), (.int .i64 0)]), none⟩, ⟨none, (.store 2 (.t 7) (.t 21)), none⟩, ⟨none, (.store 20 (.t 8) (.t 22)), none⟩, ⟨(some 9), (.mov (.t 23)), none⟩]) (.seq (.region 2 [⟨(some 24), (.fad 0 (.t 7)), none⟩, ⟨(some 25), (.load false 1 (.t 24)), none⟩, ⟨(some 10), (.mov (.t 25)), none⟩]) (.seq (.seq (.region 3 [⟨(some 11), (.mov (.k (.int .i64 1))), none⟩]) (.block 0 (.loop (.seq (.seq (.region 4 [⟨(some 26), (.mov (.t 11)), none⟩, ⟨(some 27), (.mov (.t 2)), none⟩, ⟨(some 28), (.call 11 [(.t 27), (.k (.int .i64 520))]), none⟩, ⟨(some 29), (.bin .leq (.t 26) (.t 28)), none⟩, ⟨(some 30), (.mov (.t 29)), none⟩, ⟨(some 31), (.mov (.t 9)), (some (30, true))⟩, ⟨(some 32), (.pick (.t 30) (.t 31) (.k (.bool false))), none⟩]) (.cond 32 .skip (.exit 0))) (.seq (.block 1 (.seq (.region 6 [⟨(some 36), (.load true 2 (.t 7)), none⟩, ⟨(some 37), (.call 15 [(.t 36)]), none⟩, ⟨(some 35), (.mov (.t 37)), none⟩, ⟨(some 38), (.ext (.t 35) 0), none⟩, ⟨(some 39), (.ext (.t 35) 1), none⟩, ⟨(some 40), (.ext (.t 35) 2), none⟩, ⟨(some 12), (.alloc [(.int .i64 0), .nil0]), none⟩, ⟨none, (.store 2 (.t 12) (.t 38)), none⟩, ⟨(some 13), (.mov (.t 39)), none⟩, ⟨(some 14), (.mov (.t 40)), none⟩]) (.seq (.seq (.region 7 [⟨(some 41), (.mov (.t 14)), none⟩, ⟨(some 42), (.bin .neq (.t 41) (.k (.int .i64 0))), none⟩, ⟨(some 43), (.mov (.t 42)), none⟩, ⟨(some 44), (.fad 0 (.t 12)), (some (43, false))⟩, ⟨(some 45), (.load false 1 (.t 44)), (some (43, false))⟩, ⟨(some 46), (.mov (.t 10)), (some (43, false))⟩, ⟨(some 47), (.mov (.t 11)), (some (43, false))⟩, ⟨(some 48), (.bin .add (.t 46) (.t 47)), (some (43, false))⟩, ⟨(some 49), (.bin .neq (.t 45) (.t 48)), (some (43, false))⟩, ⟨(some 50), (.pick (.t 43) (.k (.bool true)) (.t 49)), none⟩]) (.cond 50 (.seq (.region 8 [⟨(some 6), (.mov (.k (.bool false))), none⟩]) .ret) .skip)) (.seq (.region 9 [⟨(some 15), (.mov (.k .nil0)), none⟩]) (.seq (.seq (.region 10 [⟨(some 16), (.mov (.k (.int .i64 0))), none⟩]) (.block 2 (.loop (.seq (.seq (.region 11 [⟨(some 51), (.mov (.t 16)), none⟩, ⟨(some 52), (.bin .lss (.t 51) (.k (.int .i64 20))), none⟩]) (.cond 52 .skip (.exit 2))) (.seq (.block 3 (.seq (.region 13 [⟨(some 55), (.mov (.t 16)), none⟩, ⟨(some 56), (.iada 20 1 (.t 8) (.t 55)), none⟩, ⟨(some 57), (.load false 1 (.t 56)), none⟩, ⟨(some 58), (.mov (.t 10)), none⟩, ⟨(some 59), (.mov (.t 11)), none⟩, ⟨(some 60), (.bin .add (.t 58) (.t 59)), none⟩, ⟨(some 61), (.bin .eql (.t 57) (.t 60)), none⟩]) (.cond 61 (.region 14 [⟨(some 62), (.mov (.t 15)), none⟩, ⟨(some 63), (.mov (.t 16)), none⟩, ⟨(some 64), (.bslice 1 1 [(.int .i64 0)] [(0, (.t 63))]), none⟩, ⟨(some 65), (.app 1 8 [(.int .i64 0)] (.t 62) (.t 64)), none⟩, ⟨(some 15), (.mov (.t 65)), none⟩]) .skip))) (.region 12 [⟨(some 53), (.mov (.t 16)), none⟩, ⟨(some 54), (.bin .add (.t 53) (.k (.int .i64 1))), none⟩, ⟨(some 16), (.mov (.t 54)), none⟩])))))) (.seq (.seq (.region 15 [⟨(some 66), (.mov (.t 13)), none⟩, ⟨(some 67), (.mov (.t 15)), none⟩, ⟨(some 68), (.call 16 [(.t 66), (.t 67)]), none⟩, ⟨(some 69), (.not (.t 68)), none⟩]) (.cond 69 (.seq (.region 16 [⟨(some 6), (.mov (.k (.bool false))), none⟩]) .ret) .skip)) (.region 17 [⟨(some 70), (.load true 2 (.t 12)), none⟩, ⟨none, (.store 2 (.t 7) (.t 70)), none⟩]))))))) (.region 5 [⟨(some 33), (.mov (.t 11)), none⟩, ⟨(some 34), (.bin .add (.t 33) (.k (.int .i64 1))), none⟩, ⟨(some 11), (.mov (.t 34)), none⟩])))))) (.seq (.region 18 [⟨(some 71), (.mov (.t 9)), none⟩, ⟨(some 6), (.mov (.t 71)), none⟩]) .ret))))), [(.t 6)], 72⟩ := by kernel_rfl
theorem wfire_pf (now : Int) (l : List (List Int)) (ticks : Int) (i1 : InR now) (hl : l.length ≤ Go.maxLen) (hr : ∀ r ∈ l, r.length = 2 ∧ ∀ z ∈ r, InR z) (i2 : InR ticks) :
    PF Try.prog 4 [I now, .rows 2 (l.map fun r => r.map I), I ticks] (.bool true) := by
  have harm := warmed_pf now l hl hr i1
  have q0 := pickedZ_range now 3000 (by omega)
  generalize pickedZ now 3000 = n at harm q0
  have hok := arL_ok n l q0.1 (by omega) 40 (by omega)
  generalize arL n l 40 = tm at harm hok
  have p1 := picked_pf ticks 520 i2 (by omega)
  have q1 := pickedZ_range ticks 520 (by omega)
  obtain ⟨P, hP⟩ : ∃ P : Nat, pickedZ ticks 520 = P := ⟨(pickedZ ticks 520).toNat, by omega⟩
  rw [hP] at p1 q1
  have hal := atL_len tm
  have hs0 := spl20 _ hal
  have htw : ((atL tm).map I).take 20 = (atL tm).map I := List.take_of_length_le (by simp [hal])
  have hw := hok.wh
  rw [whM_def] at harm
  refine PF.of follows_ok wfire_code (by simp) (by simp [argOk]) (by simp [noV, noC]) fun B hBN hB0 => acode_sound [0, 1, 2, 6, 7, 8, 9, 10, 11, 12, 13, 14, 15, 16, 32, 50, 52, 61, 69] [] _ _ _ ?_
  repeat' (first
    | simp [AK_at, acode_seq, acode_region, acode_draw, acode_cond, ↓CB_t, ↓CB_f, CB_u, acode_block, acode_loop, acode_exit, acode_scope, acode_ret, acode_skip, seqQ_n, seqQ_e, seqQ_r, blockQ_n, blockQ_e, blockQ_r, TK_at, OK_at, SK_at, aops_nil, aops_cons, asch_done, asch_one, asch_two, asch_top, astep, aop_eq, isLoud, aloud, aloud1, isWrite, qv, evS, strip, gof, eget, hget, putO, eput, herase, oks, opnds, gS, afin, afin0, binD, arith, D.cells, takeD, fillD, keep, trim, envOf, Fin, aresl, aresv, resD, argOk, pickV, isP, deq, deqs, boundD, slD, lenD, isT, isSl, ptrIds, chunks, mn_min, mx_max, D.cells, splice_one, splice_more, Rbr_at, Rfr_at, frR, frV, frC, flatC, brwR, brwV, brwC, omap, leR, leV, leC, leL, leVL, hal, hs0, htw]
    | (refine WCall.pf (harm) ?_ ?_ ?_ ?_; (focus (simp [oks, opnds, gS, gof, eget]; done)); (focus (simp [omap, brwV, brwC, evS, eget, strip, hget, leVL, leV, leC, leL, hal, hs0, htw]; done)); (focus (simp [noV, noC, flatR, flatV, flatC, evS, eget, strip, hal, hs0, htw]; done)))
    | (refine ⟨WCall.pf (harm) ?_ ?_ ?_ ?_, ?_⟩; (focus (simp [oks, opnds, gS, gof, eget]; done)); (focus (simp [omap, brwV, brwC, evS, eget, strip, hget, leVL, leV, leC, leL, hal, hs0, htw]; done)); (focus (simp [noV, noC, flatR, flatV, flatC, evS, eget, strip, hal, hs0, htw]; done)))
    | (with_reducible refine And.intro (And.intro ?_ ?_) ?_)
    | fail)
  refine W.loopS (fun k : Nat => ⟨[(11, I ((k : Int) + 1)), (10, I n), (9, .bool true), (8, .ptr 1 0), (7, .ptr 0 0), (2, I ticks)], [(1, .cells ((atL tm).map I)), (0, .cells [I (n + k), .rows 1 (lrT (n + k) (tmA tm (n + k)))])], 2⟩)
    (fun m k => m = P - k ∧ k ≤ P) ?_ ?_
  · exact ⟨_, 0, (Gh.ren [0, 1] (by simp [hB0]) (by simp [hB0] <;> decide) (by simp [eget, rnS, rnR, rnV, rnC, LtS, LtR, LtV, LtC, lget, tmA_all hw, rnIw]) (by simp [hget, rnO, rnC, LtO, LtC, lget, tmA_all hw, rnIw]) (.inl (by simp [lget, tmA_all hw, rnIw]))), rfl, by omega⟩
  rintro m k ⟨hm, hk⟩
  refine acode_sound [0, 1, 2, 6, 7, 8, 9, 10, 11, 12, 13, 14, 15, 16, 32, 50, 52, 61, 69] [] _ _ _ ?_
  obtain ⟨v, hv⟩ : ∃ v, n + (k : Int) = v := ⟨_, rfl⟩
  have hwk := tmA_ok hw k (by omega)
  simp only [hv] at hwk ⊢
  by_cases hlt : k < P
  · have hlz : (k : Int) + 1 ≤ P := by omega
    have hadv := wadv_pf v _ hwk (by omega)
    rw [tmA_succ, tmA_off] at hadv
    change PF _ _ [whM v (tmA tm v)] (.tup [whM (v + 1) (tmA tm (v + 1)), _, _]) at hadv
    have how := off_want hw.srt hw.ids (fun t ht => ⟨(hw.fit t ht).2.2.2.1, hok.id t ht⟩) (v + 1) (by omega)
    have hrows : (tm.filter fun t => decide (t.1 = v + 1)).map (fun t => [I t.2]) = (wantI tm (v + 1) 20).map fun z => [I z] := by rw [← how, List.map_map]; rfl
    rw [hrows, whM_def, whM_def] at hadv
    have ik : InR ((k : Int) + 1) := inW (by omega) (by omega)
    have ik2 : InR ((k : Int) + 1 + 1) := inW (by omega) (by omega)
    have iv : InR (v + 1) := inW (by omega) (by omega)
    have hv1 : n + ((k : Int) + 1) = v + 1 := by omega
    have hwl := wantI_len tm (v + 1) 20
    repeat' (first
      | simp [AK_at, acode_seq, acode_region, acode_draw, acode_cond, ↓CB_t, ↓CB_f, CB_u, acode_block, acode_loop, acode_exit, acode_scope, acode_ret, acode_skip, seqQ_n, seqQ_e, seqQ_r, blockQ_n, blockQ_e, blockQ_r, TK_at, OK_at, SK_at, aops_nil, aops_cons, asch_done, asch_one, asch_two, asch_top, astep, aop_eq, isLoud, aloud, aloud1, isWrite, qv, evS, strip, gof, eget, hget, putO, eput, herase, oks, opnds, gS, afin, afin0, binD, arith, D.cells, takeD, fillD, keep, trim, envOf, Fin, aresl, aresv, resD, argOk, pickV, isP, deq, deqs, boundD, slD, lenD, isT, isSl, ptrIds, chunks, mn_min, mx_max, D.cells, splice_one, splice_more, Rbr_at, Rfr_at, frR, frV, frC, flatC, brwR, brwV, brwC, omap, leR, leV, leC, leL, leVL, hlz, ik, hv1, iv]
      | (refine WCall.pf (p1) ?_ ?_ ?_ ?_; (focus (simp [oks, opnds, gS, gof, eget]; done)); (focus (simp [omap, brwV, brwC, evS, eget, strip, hget, leVL, leV, leC, leL, hlz, ik, hv1, iv]; done)); (focus (simp [noV, noC, flatR, flatV, flatC, evS, eget, strip, hlz, ik, hv1, iv]; done)))
      | (refine ⟨WCall.pf (p1) ?_ ?_ ?_ ?_, ?_⟩; (focus (simp [oks, opnds, gS, gof, eget]; done)); (focus (simp [omap, brwV, brwC, evS, eget, strip, hget, leVL, leV, leC, leL, hlz, ik, hv1, iv]; done)); (focus (simp [noV, noC, flatR, flatV, flatC, evS, eget, strip, hlz, ik, hv1, iv]; done)))
      | (refine WCall.pf (hadv) ?_ ?_ ?_ ?_; (focus (simp [oks, opnds, gS, gof, eget]; done)); (focus (simp [omap, brwV, brwC, evS, eget, strip, hget, leVL, leV, leC, leL, hlz, ik, hv1, iv]; done)); (focus (simp [noV, noC, flatR, flatV, flatC, evS, eget, strip, hlz, ik, hv1, iv]; done)))
      | (refine ⟨WCall.pf (hadv) ?_ ?_ ?_ ?_, ?_⟩; (focus (simp [oks, opnds, gS, gof, eget]; done)); (focus (simp [omap, brwV, brwC, evS, eget, strip, hget, leVL, leV, leC, leL, hlz, ik, hv1, iv]; done)); (focus (simp [noV, noC, flatR, flatV, flatC, evS, eget, strip, hlz, ik, hv1, iv]; done)))
      | (with_reducible refine And.intro (And.intro ?_ ?_) ?_)
      | fail)
    refine W.loopS (fun j : Nat => ⟨[(16, I j), (15, .own 3), (13, .rows 1 ((wantI tm (v + 1) 20).map fun z => [I z])), (12, .ptr 2 0), (11, I ((k : Int) + 1)), (10, I n), (9, .bool true), (8, .ptr 1 0), (7, .ptr 0 0), (2, I ticks)], [(3, .row 1 ((wantI tm (v + 1) j).map fun z => [I z])), (2, .cells [I (v + 1), .rows 1 (lrT (v + 1) (tmA tm (v + 1)))]), (1, .cells ((atL tm).map I)), (0, .cells [I v, .rows 1 (lrT v (tmA tm v))])], 4⟩)
      (fun m j => m = 20 - j ∧ j ≤ 20) ?_ ?_
    · refine ⟨_, 0, (Gh.adopt 15 1 (by omega) (by simp [eget])).trans ?_, rfl, by omega⟩
      simp [eput]
      exact (Gh.ren [0, 1, 2, 3] (by simp [hB0]) (by simp [hB0] <;> decide) (by simp [eget, rnS, rnR, rnV, rnC, LtS, LtR, LtV, LtC, lget, rnIw, wantI]) (by simp [hget, rnO, rnC, LtO, LtC, lget, rnIw, wantI]) (.inl (by simp [lget, rnIw, wantI])))
    rintro m2 j ⟨hm2, hj⟩
    refine acode_sound [0, 1, 2, 6, 7, 8, 9, 10, 11, 12, 13, 14, 15, 16, 32, 50, 52, 61, 69] [] _ _ _ ?_
    by_cases hj20 : j < 20
    · have hj1 : (j : Int) < 20 := by omega
      have hj2 : j ≤ 19 := by omega
      have hj3 : 0 < 20 - j := by omega
      have hat := atL_get tm j hj20
      have hatb : ∀ h : j < (atL tm).length, (atL tm)[j] = atM tm j := fun h => by
        rw [List.getElem?_eq_getElem h] at hat; exact Option.some.inj hat
      have ij : InR ((j : Int) + 1) := inW (by omega) (by omega)
      have hst := wantI_succ tm (v + 1) j
      have hlj := wantI_len tm (v + 1) j
      have hcap : ((wantI tm (v + 1) j).length + 1) * 8 ≤ 140737488355328 := by omega
      by_cases hc : atM tm j = v + 1
      · rw [if_pos hc] at hst
        repeat' (first
          | simp [AK_at, acode_seq, acode_region, acode_draw, acode_cond, ↓CB_t, ↓CB_f, CB_u, acode_block, acode_loop, acode_exit, acode_scope, acode_ret, acode_skip, seqQ_n, seqQ_e, seqQ_r, blockQ_n, blockQ_e, blockQ_r, TK_at, OK_at, SK_at, aops_nil, aops_cons, asch_done, asch_one, asch_two, asch_top, astep, aop_eq, isLoud, aloud, aloud1, isWrite, qv, evS, strip, gof, eget, hget, putO, eput, herase, oks, opnds, gS, afin, afin0, binD, arith, D.cells, takeD, fillD, keep, trim, envOf, Fin, aresl, aresv, resD, argOk, pickV, isP, deq, deqs, boundD, slD, lenD, isT, isSl, ptrIds, chunks, mn_min, mx_max, D.cells, splice_one, splice_more, Rbr_at, Rfr_at, frR, frV, frC, flatC, brwR, brwV, brwC, omap, leR, leV, leC, leL, leVL, hal, hat, hatb, hj1, hj2, hj3, hv1, iv, ik, ij, hc, hcap]
          | (refine WCall.pf (p1) ?_ ?_ ?_ ?_; (focus (simp [oks, opnds, gS, gof, eget]; done)); (focus (simp [omap, brwV, brwC, evS, eget, strip, hget, leVL, leV, leC, leL, hal, hat, hatb, hj1, hj2, hj3, hv1, iv, ik, ij, hc, hcap]; done)); (focus (simp [noV, noC, flatR, flatV, flatC, evS, eget, strip, hal, hat, hatb, hj1, hj2, hj3, hv1, iv, ik, ij, hc, hcap]; done)))
          | (refine ⟨WCall.pf (p1) ?_ ?_ ?_ ?_, ?_⟩; (focus (simp [oks, opnds, gS, gof, eget]; done)); (focus (simp [omap, brwV, brwC, evS, eget, strip, hget, leVL, leV, leC, leL, hal, hat, hatb, hj1, hj2, hj3, hv1, iv, ik, ij, hc, hcap]; done)); (focus (simp [noV, noC, flatR, flatV, flatC, evS, eget, strip, hal, hat, hatb, hj1, hj2, hj3, hv1, iv, ik, ij, hc, hcap]; done)))
          | (with_reducible refine And.intro (And.intro ?_ ?_) ?_)
          | fail)
        all_goals exact ⟨_, j + 1, (Gh.ren [0, 1, 2, 5] (by simp [hB0]) (by simp [hB0] <;> decide) (by simp [eget, rnS, rnR, rnV, rnC, LtS, LtR, LtV, LtC, lget, rnIw, hst]) (by simp [hget, rnO, rnC, LtO, LtC, lget, rnIw, hst]) (.inl (by simp [lget, rnIw, hst]))), by omega, rfl, by omega⟩
      · rw [if_neg hc, List.append_nil] at hst
        repeat' (first
          | simp [AK_at, acode_seq, acode_region, acode_draw, acode_cond, ↓CB_t, ↓CB_f, CB_u, acode_block, acode_loop, acode_exit, acode_scope, acode_ret, acode_skip, seqQ_n, seqQ_e, seqQ_r, blockQ_n, blockQ_e, blockQ_r, TK_at, OK_at, SK_at, aops_nil, aops_cons, asch_done, asch_one, asch_two, asch_top, astep, aop_eq, isLoud, aloud, aloud1, isWrite, qv, evS, strip, gof, eget, hget, putO, eput, herase, oks, opnds, gS, afin, afin0, binD, arith, D.cells, takeD, fillD, keep, trim, envOf, Fin, aresl, aresv, resD, argOk, pickV, isP, deq, deqs, boundD, slD, lenD, isT, isSl, ptrIds, chunks, mn_min, mx_max, D.cells, splice_one, splice_more, Rbr_at, Rfr_at, frR, frV, frC, flatC, brwR, brwV, brwC, omap, leR, leV, leC, leL, leVL, hal, hat, hatb, hj1, hj2, hj3, hv1, iv, ik, ij, hc]
          | (refine WCall.pf (p1) ?_ ?_ ?_ ?_; (focus (simp [oks, opnds, gS, gof, eget]; done)); (focus (simp [omap, brwV, brwC, evS, eget, strip, hget, leVL, leV, leC, leL, hal, hat, hatb, hj1, hj2, hj3, hv1, iv, ik, ij, hc]; done)); (focus (simp [noV, noC, flatR, flatV, flatC, evS, eget, strip, hal, hat, hatb, hj1, hj2, hj3, hv1, iv, ik, ij, hc]; done)))
          | (refine ⟨WCall.pf (p1) ?_ ?_ ?_ ?_, ?_⟩; (focus (simp [oks, opnds, gS, gof, eget]; done)); (focus (simp [omap, brwV, brwC, evS, eget, strip, hget, leVL, leV, leC, leL, hal, hat, hatb, hj1, hj2, hj3, hv1, iv, ik, ij, hc]; done)); (focus (simp [noV, noC, flatR, flatV, flatC, evS, eget, strip, hal, hat, hatb, hj1, hj2, hj3, hv1, iv, ik, ij, hc]; done)))
          | (with_reducible refine And.intro (And.intro ?_ ?_) ?_)
          | fail)
        all_goals exact ⟨_, j + 1, (Gh.ren [0, 1, 2, 3] (by simp [hB0]) (by simp [hB0] <;> decide) (by simp [eget, rnS, rnR, rnV, rnC, LtS, LtR, LtV, LtC, lget, rnIw, hst]) (by simp [hget, rnO, rnC, LtO, LtC, lget, rnIw, hst]) (.inl (by simp [lget, rnIw, hst]))), by omega, rfl, by omega⟩
    · obtain rfl : j = 20 := by omega
      have hsi := wsamei_pf (wantI tm (v + 1) 20) (by omega)
      have hvk : n + (k : Int) + 1 = v + 1 := by omega
      repeat' (first
        | simp [AK_at, acode_seq, acode_region, acode_draw, acode_cond, ↓CB_t, ↓CB_f, CB_u, acode_block, acode_loop, acode_exit, acode_scope, acode_ret, acode_skip, seqQ_n, seqQ_e, seqQ_r, blockQ_n, blockQ_e, blockQ_r, TK_at, OK_at, SK_at, aops_nil, aops_cons, asch_done, asch_one, asch_two, asch_top, astep, aop_eq, isLoud, aloud, aloud1, isWrite, qv, evS, strip, gof, eget, hget, putO, eput, herase, oks, opnds, gS, afin, afin0, binD, arith, D.cells, takeD, fillD, keep, trim, envOf, Fin, aresl, aresv, resD, argOk, pickV, isP, deq, deqs, boundD, slD, lenD, isT, isSl, ptrIds, chunks, mn_min, mx_max, D.cells, splice_one, splice_more, Rbr_at, Rfr_at, frR, frV, frC, flatC, brwR, brwV, brwC, omap, leR, leV, leC, leL, leVL, ik2]
        | (refine WCall.pf (hsi) ?_ ?_ ?_ ?_; (focus (simp [oks, opnds, gS, gof, eget]; done)); (focus (simp [omap, brwV, brwC, evS, eget, strip, hget, leVL, leV, leC, leL, ik2]; done)); (focus (simp [noV, noC, flatR, flatV, flatC, evS, eget, strip, ik2]; done)))
        | (refine ⟨WCall.pf (hsi) ?_ ?_ ?_ ?_, ?_⟩; (focus (simp [oks, opnds, gS, gof, eget]; done)); (focus (simp [omap, brwV, brwC, evS, eget, strip, hget, leVL, leV, leC, leL, ik2]; done)); (focus (simp [noV, noC, flatR, flatV, flatC, evS, eget, strip, ik2]; done)))
        | (with_reducible refine And.intro (And.intro ?_ ?_) ?_)
        | fail)
      have e : n + ((k + 1 : Nat) : Int) = v + 1 := by omega
      exact ⟨_, k + 1, (Gh.ren [0, 1] (by simp [hB0]) (by simp [hB0] <;> decide) (by simp [eget, rnS, rnR, rnV, rnC, LtS, LtR, LtV, LtC, lget, rnIw, e, hv1]) (by simp [hget, rnO, rnC, LtO, LtC, lget, rnIw, e, hv1]) (.inl (by simp [lget, rnIw, e, hv1]))), by omega, rfl, by omega⟩
  · obtain rfl : k = P := by omega
    have hlz : ¬ (k : Int) + 1 ≤ k := by omega
    repeat' (first
      | simp [AK_at, acode_seq, acode_region, acode_draw, acode_cond, ↓CB_t, ↓CB_f, CB_u, acode_block, acode_loop, acode_exit, acode_scope, acode_ret, acode_skip, seqQ_n, seqQ_e, seqQ_r, blockQ_n, blockQ_e, blockQ_r, TK_at, OK_at, SK_at, aops_nil, aops_cons, asch_done, asch_one, asch_two, asch_top, astep, aop_eq, isLoud, aloud, aloud1, isWrite, qv, evS, strip, gof, eget, hget, putO, eput, herase, oks, opnds, gS, afin, afin0, binD, arith, D.cells, takeD, fillD, keep, trim, envOf, Fin, aresl, aresv, resD, argOk, pickV, isP, deq, deqs, boundD, slD, lenD, isT, isSl, ptrIds, chunks, mn_min, mx_max, D.cells, splice_one, splice_more, Rbr_at, Rfr_at, frR, frV, frC, flatC, brwR, brwV, brwC, omap, leR, leV, leC, leL, leVL, hlz]
      | (refine WCall.pf (p1) ?_ ?_ ?_ ?_; (focus (simp [oks, opnds, gS, gof, eget]; done)); (focus (simp [omap, brwV, brwC, evS, eget, strip, hget, leVL, leV, leC, leL, hlz]; done)); (focus (simp [noV, noC, flatR, flatV, flatC, evS, eget, strip, hlz]; done)))
      | (refine ⟨WCall.pf (p1) ?_ ?_ ?_ ?_, ?_⟩; (focus (simp [oks, opnds, gS, gof, eget]; done)); (focus (simp [omap, brwV, brwC, evS, eget, strip, hget, leVL, leV, leC, leL, hlz]; done)); (focus (simp [noV, noC, flatR, flatV, flatC, evS, eget, strip, hlz]; done)))
      | (with_reducible refine And.intro (And.intro ?_ ?_) ?_)
      | fail)
end Go.Proofs.Ytajimebannjofaa

