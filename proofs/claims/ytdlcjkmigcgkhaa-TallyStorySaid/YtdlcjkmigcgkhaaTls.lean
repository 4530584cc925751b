/- This text proves the law TallyStory over the small machine. It has no condition of its own. -/
import Derived.Test.YtdlcjkmigcgkhaaTly
set_option linter.unusedSimpArgs false
set_option linter.unusedVariables false
set_option maxRecDepth 100000
set_option maxHeartbeats 2000000
namespace Go.Proofs.Ytdlcjkmigcgkhaa
open Go.RowKit
theorem tstl_code : cfun Try.prog [] 3 = some ⟨(.seq (.region 0 [⟨(some 2), (.mov (.k (.bool false))), none⟩]) (.seq (.region 1 [⟨(some 16), (.mov (.t 0)), none⟩, ⟨(some 17), (.call 27 [(.t 16)]), none⟩, ⟨(some 3), (.mov (.t 17)), none⟩]) (.seq (.region 2 [⟨(some 19), (.mov (.t 3)), none⟩, ⟨(some 20), (.call 28 [(.t 19)]), none⟩, ⟨(some 18), (.mov (.t 20)), none⟩, ⟨(some 21), (.ext (.t 18) 0), none⟩, ⟨(some 22), (.ext (.t 18) 1), none⟩, ⟨(some 4), (.alloc [(.int .i64 0), (.int .i64 0), (.int .i64 0), (.int .i64 0), (.int .i64 0), (.int .i64 0), (.int .i64 0), (.int .i64 0), (.int .i64 0), (.int .i64 0), (.int .i64 0), (.int .i64 0), (.int .i64 0), (.int .i64 0), (.int .i64 0), (.int .i64 0), (.int .i64 0)]), none⟩, ⟨none, (.store 17 (.t 4) (.t 21)), none⟩, ⟨(some 5), (.mov (.t 22)), none⟩]) (.seq (.region 3 [⟨(some 6), (.mov (.k (.int .i64 0))), none⟩]) (.seq (.seq (.region 4 [⟨(some 7), (.mov (.k (.int .i64 0))), none⟩]) (.block 0 (.loop (.seq (.seq (.region 5 [⟨(some 23), (.mov (.t 7)), none⟩, ⟨(some 24), (.bin .lss (.t 23) (.k (.int .i64 3))), none⟩]) (.cond 24 .skip (.exit 0))) (.seq (.block 1 (.seq (.region 7 [⟨(some 8), (.mov (.k (.int .i64 0))), none⟩]) (.block 2 (.loop (.seq (.seq (.region 8 [⟨(some 27), (.mov (.t 8)), none⟩, ⟨(some 28), (.bin .lss (.t 27) (.k (.int .i64 2))), none⟩]) (.cond 28 .skip (.exit 2))) (.seq (.block 3 (.seq (.region 10 [⟨(some 32), (.mov (.t 3)), none⟩, ⟨(some 33), (.mov (.t 7)), none⟩, ⟨(some 34), (.mov (.t 8)), none⟩, ⟨(some 35), (.build [(.int .i64 0), (.int .i64 0)] [(0, (1, (.t 33))), (1, (1, (.t 34)))]), none⟩, ⟨(some 36), (.call 29 [(.t 32), (.t 35)]), none⟩, ⟨(some 31), (.mov (.t 36)), none⟩, ⟨(some 37), (.ext (.t 31) 0), none⟩, ⟨(some 38), (.ext (.t 31) 1), none⟩, ⟨(some 9), (.mov (.t 37)), none⟩, ⟨(some 10), (.mov (.t 38)), none⟩]) (.seq (.seq (.region 11 [⟨(some 39), (.mov (.t 10)), none⟩, ⟨(some 40), (.bin .neq (.t 39) (.k (.int .i64 0))), none⟩]) (.cond 40 (.seq (.region 12 [⟨(some 2), (.mov (.k (.bool false))), none⟩]) .ret) .skip)) (.seq (.region 13 [⟨(some 11), (.mov (.k (.int .i64 0))), none⟩]) (.seq (.seq (.region 14 [⟨(some 12), (.mov (.k (.int .i64 0))), none⟩]) (.block 4 (.loop (.seq (.seq (.region 15 [⟨(some 41), (.mov (.t 12)), none⟩, ⟨(some 42), (.mov (.t 9)), none⟩, ⟨(some 43), (.len (.t 42)), none⟩, ⟨(some 44), (.bin .lss (.t 41) (.t 43)), none⟩]) (.cond 44 .skip (.exit 4))) (.seq (.block 5 (.seq (.block 6 (.loop (.seq (.seq (.draw 17 (.one true ⟨(some 47), (.mov (.t 11)), none⟩ (.one true ⟨(some 48), (.mov (.t 3)), none⟩ (.one true ⟨(some 49), (.len (.t 48)), none⟩ (.one true ⟨(some 50), (.bin .lss (.t 47) (.t 49)), none⟩ (.one true ⟨(some 51), (.mov (.t 50)), none⟩ (.one true ⟨(some 52), (.mov (.t 3)), (some (51, true))⟩ (.one true ⟨(some 53), (.mov (.t 11)), (some (51, true))⟩ (.one true ⟨(some 54), (.iads 7 (.t 52) (.t 53)), (some (51, true))⟩ (.one true ⟨(some 55), (.load true 7 (.t 54)), (some (51, true))⟩ (.one true ⟨(some 56), (.mov (.t 9)), (some (51, true))⟩ (.one true ⟨(some 57), (.mov (.t 12)), (some (51, true))⟩ (.one true ⟨(some 58), (.iads 7 (.t 56) (.t 57)), (some (51, true))⟩ (.one true ⟨(some 59), (.load true 7 (.t 58)), (some (51, true))⟩ (.one true ⟨(some 60), (.eqa true [.i, .i, .i, .i, .i, .i, .i] (.t 55) (.t 59)), (some (51, true))⟩ (.one true ⟨(some 61), (.pick (.t 51) (.t 60) (.k (.bool false))), none⟩ .done)))))))))))))))) (.cond 61 .skip (.exit 6))) (.block 7 (.region 18 [⟨(some 62), (.mov (.t 11)), none⟩, ⟨(some 63), (.bin .add (.t 62) (.k (.int .i64 1))), none⟩, ⟨(some 11), (.mov (.t 63)), none⟩]))))) (.seq (.seq (.region 19 [⟨(some 64), (.mov (.t 11)), none⟩, ⟨(some 65), (.mov (.t 3)), none⟩, ⟨(some 66), (.len (.t 65)), none⟩, ⟨(some 67), (.bin .eql (.t 64) (.t 66)), none⟩, ⟨(some 68), (.mov (.t 67)), none⟩, ⟨(some 69), (.mov (.t 9)), (some (68, false))⟩, ⟨(some 70), (.mov (.t 12)), (some (68, false))⟩, ⟨(some 71), (.iads 7 (.t 69) (.t 70)), (some (68, false))⟩, ⟨(some 72), (.fad 1 (.t 71)), (some (68, false))⟩, ⟨(some 73), (.load false 1 (.t 72)), (some (68, false))⟩, ⟨(some 74), (.mov (.t 7)), (some (68, false))⟩, ⟨(some 75), (.bin .neq (.t 73) (.t 74)), (some (68, false))⟩, ⟨(some 76), (.pick (.t 68) (.k (.bool true)) (.t 75)), none⟩, ⟨(some 77), (.mov (.t 76)), none⟩, ⟨(some 78), (.mov (.t 9)), (some (77, false))⟩, ⟨(some 79), (.mov (.t 12)), (some (77, false))⟩, ⟨(some 80), (.iads 7 (.t 78) (.t 79)), (some (77, false))⟩, ⟨(some 81), (.fad 2 (.t 80)), (some (77, false))⟩, ⟨(some 82), (.load false 1 (.t 81)), (some (77, false))⟩, ⟨(some 83), (.mov (.t 8)), (some (77, false))⟩, ⟨(some 84), (.bin .neq (.t 82) (.t 83)), (some (77, false))⟩, ⟨(some 85), (.pick (.t 77) (.k (.bool true)) (.t 84)), none⟩]) (.cond 85 (.seq (.region 20 [⟨(some 2), (.mov (.k (.bool false))), none⟩]) .ret) .skip)) (.region 21 [⟨(some 86), (.mov (.t 11)), none⟩, ⟨(some 87), (.bin .add (.t 86) (.k (.int .i64 1))), none⟩, ⟨(some 11), (.mov (.t 87)), none⟩])))) (.region 16 [⟨(some 45), (.mov (.t 12)), none⟩, ⟨(some 46), (.bin .add (.t 45) (.k (.int .i64 1))), none⟩, ⟨(some 12), (.mov (.t 46)), none⟩])))))) (.region 22 [⟨(some 88), (.mov (.t 6)), none⟩, ⟨(some 89), (.mov (.t 9)), none⟩, ⟨(some 90), (.len (.t 89)), none⟩, ⟨(some 91), (.bin .add (.t 88) (.t 90)), none⟩, ⟨(some 6), (.mov (.t 91)), none⟩])))))) (.region 9 [⟨(some 29), (.mov (.t 8)), none⟩, ⟨(some 30), (.bin .add (.t 29) (.k (.int .i64 1))), none⟩, ⟨(some 8), (.mov (.t 30)), none⟩]))))))) (.region 6 [⟨(some 25), (.mov (.t 7)), none⟩, ⟨(some 26), (.bin .add (.t 25) (.k (.int .i64 1))), none⟩, ⟨(some 7), (.mov (.t 26)), none⟩])))))) (.seq (.region 23 [⟨(some 92), (.fad 0 (.t 4)), none⟩, ⟨(some 93), (.iada 11 1 (.t 92) (.k (.int .i64 1))), none⟩, ⟨(some 94), (.load false 1 (.t 93)), none⟩, ⟨(some 95), (.fad 0 (.t 4)), none⟩, ⟨(some 96), (.iada 11 1 (.t 95) (.k (.int .i64 3))), none⟩, ⟨(some 97), (.load false 1 (.t 96)), none⟩, ⟨(some 98), (.bin .add (.t 94) (.t 97)), none⟩, ⟨(some 99), (.fad 0 (.t 4)), none⟩, ⟨(some 100), (.iada 11 1 (.t 99) (.k (.int .i64 4))), none⟩, ⟨(some 101), (.load false 1 (.t 100)), none⟩, ⟨(some 102), (.bin .add (.t 98) (.t 101)), none⟩, ⟨(some 103), (.fad 0 (.t 4)), none⟩, ⟨(some 104), (.iada 11 1 (.t 103) (.k (.int .i64 5))), none⟩, ⟨(some 105), (.load false 1 (.t 104)), none⟩, ⟨(some 106), (.bin .add (.t 102) (.t 105)), none⟩, ⟨(some 107), (.fad 0 (.t 4)), none⟩, ⟨(some 108), (.iada 11 1 (.t 107) (.k (.int .i64 6))), none⟩, ⟨(some 109), (.load false 1 (.t 108)), none⟩, ⟨(some 110), (.bin .add (.t 106) (.t 109)), none⟩, ⟨(some 111), (.fad 0 (.t 4)), none⟩, ⟨(some 112), (.iada 11 1 (.t 111) (.k (.int .i64 7))), none⟩, ⟨(some 113), (.load false 1 (.t 112)), none⟩, ⟨(some 114), (.bin .add (.t 110) (.t 113)), none⟩, ⟨(some 13), (.mov (.t 114)), none⟩]) (.seq (.region 24 [⟨(some 14), (.mov (.k (.int .i64 0))), none⟩]) (.seq (.seq (.region 25 [⟨(some 15), (.mov (.k (.int .i64 0))), none⟩]) (.block 8 (.loop (.seq (.seq (.region 26 [⟨(some 115), (.mov (.t 15)), none⟩, ⟨(some 116), (.bin .lss (.t 115) (.k (.int .i64 11))), none⟩]) (.cond 116 .skip (.exit 8))) (.seq (.block 9 (.region 28 [⟨(some 119), (.mov (.t 14)), none⟩, ⟨(some 120), (.mov (.t 15)), none⟩, ⟨(some 121), (.fad 0 (.t 4)), none⟩, ⟨(some 122), (.iada 11 1 (.t 121) (.t 120)), none⟩, ⟨(some 123), (.load false 1 (.t 122)), none⟩, ⟨(some 124), (.bin .add (.t 119) (.t 123)), none⟩, ⟨(some 14), (.mov (.t 124)), none⟩])) (.region 27 [⟨(some 117), (.mov (.t 15)), none⟩, ⟨(some 118), (.bin .add (.t 117) (.k (.int .i64 1))), none⟩, ⟨(some 15), (.mov (.t 118)), none⟩])))))) (.seq (.region 29 [⟨(some 125), (.mov (.t 5)), none⟩, ⟨(some 126), (.bin .eql (.t 125) (.k (.int .i64 0))), none⟩, ⟨(some 127), (.mov (.t 126)), none⟩, ⟨(some 128), (.mov (.t 6)), (some (127, true))⟩, ⟨(some 129), (.mov (.t 13)), (some (127, true))⟩, ⟨(some 130), (.bin .eql (.t 128) (.t 129)), (some (127, true))⟩, ⟨(some 131), (.pick (.t 127) (.t 130) (.k (.bool false))), none⟩, ⟨(some 132), (.mov (.t 131)), none⟩, ⟨(some 133), (.mov (.t 14)), (some (132, true))⟩, ⟨(some 134), (.mov (.t 3)), (some (132, true))⟩, ⟨(some 135), (.len (.t 134)), (some (132, true))⟩, ⟨(some 136), (.bin .eql (.t 133) (.t 135)), (some (132, true))⟩, ⟨(some 137), (.pick (.t 132) (.t 136) (.k (.bool false))), none⟩, ⟨(some 2), (.mov (.t 137)), none⟩]) .ret))))))))), [(.t 2)], 138⟩ := by kernel_rfl
theorem manyG_bd (l : List Outp) (s : Int) : ∀ n : Nat, 0 ≤ manyG l s n ∧ manyG l s n ≤ n * l.length
  | 0 => by simp [manyG]
  | n + 1 => by
    have h1 := manyG_bd l s n
    have h2 := storyL_len l s n
    simp only [manyG]
    rw [show ((n + 1 : Nat) : Int) = (n : Int) + 1 by omega, Int.add_mul, Int.one_mul]
    omega
theorem manyS_bd (l : List Outp) : ∀ n : Nat, 0 ≤ manyS l n ∧ manyS l n ≤ 2 * n * l.length
  | 0 => by simp [manyS]
  | n + 1 => by
    have h1 := manyS_bd l n
    have h2 := manyG_bd l n 2
    simp only [manyS]
    rw [show ((2 : Int) * ((n + 1 : Nat) : Int)) = 2 * (n : Int) + 2 by omega, Int.add_mul]
    omega
theorem manyG_hi (l : List Outp) (s : Int) (n : Nat) (hl : l.length ≤ 60) (hn : n ≤ 2) : 0 ≤ manyG l s n ∧ manyG l s n ≤ 120 := by
  have h1 := manyG_bd l s n
  have : (n : Int) * l.length ≤ 2 * 60 := Int.mul_le_mul (by omega) (by omega) (by omega) (by omega)
  omega
theorem manyS_hi (l : List Outp) (n : Nat) (hl : l.length ≤ 60) (hn : n ≤ 3) : 0 ≤ manyS l n ∧ manyS l n ≤ 360 := by
  have h1 := manyS_bd l n
  have : (2 * (n : Int)) * l.length ≤ 6 * 60 := Int.mul_le_mul (by omega) (by omega) (by omega) (by omega)
  omega
theorem tstl_pf (l : List (List Int)) (hl : l.length ≤ Go.maxLen) (hr : ∀ r ∈ l, r.length = 5 ∧ ∀ z ∈ r, InR z) : PF Try.prog 3 [.rows 5 (l.map fun r => r.map I)] (.bool true) := by
  have htp := tolds_pf l hl hr
  have lA := toldsL_len l
  have fA := fits_tolds l
  have gA := seated_tolds l
  obtain ⟨A, hA⟩ : ∃ A, A = toldsL l := ⟨_, rfl⟩
  rw [← hA] at lA fA gA htp
  have lA60 : A.length ≤ 60 := by omega
  clear lA hA hl hr
  have htof := tof_pf A (by omega) fA
  have hgt := tallyL_get A fA
  obtain ⟨C, hC⟩ : ∃ C, C = tallyL A := ⟨_, rfl⟩
  have h17 : C.length = 17 := by rw [hC, tallyL_len]
  rw [← hC] at htof
  simp only [← hC] at hgt
  have hcb : ∀ j, 0 ≤ cnt A j ∧ cnt A j ≤ 120 := fun j => by have := cnt_bd A j; omega
  obtain ⟨c0, c1, c2, c3, c4, c5, c6, c7, c8, c9, c10, c11, c12, c13, c14, c15, c16, hCe⟩ : ∃ c0 c1 c2 c3 c4 c5 c6 c7 c8 c9 c10 c11 c12 c13 c14 c15 c16, C = [c0, c1, c2, c3, c4, c5, c6, c7, c8, c9, c10, c11, c12, c13, c14, c15, c16] := by
    match C, h17 with
    | [c0, c1, c2, c3, c4, c5, c6, c7, c8, c9, c10, c11, c12, c13, c14, c15, c16], _ => exact ⟨c0, c1, c2, c3, c4, c5, c6, c7, c8, c9, c10, c11, c12, c13, c14, c15, c16, rfl⟩
  rw [hCe] at htof
  refine PF.of follows_ok tstl_code (by simp) (by simp [argOk]) (by simp [noV, noC]) fun B hBN hB0 => acode_sound [0, 2, 3, 4, 5, 6, 7, 8, 9, 10, 11, 12, 13, 14, 15, 24, 28, 40, 44, 61, 85, 116] [] _ _ _ ?_
  simp [AK_at, acode_seq, acode_region, acode_draw, acode_cond, ↓CB_t, ↓CB_f, CB_u, acode_block, acode_loop, acode_exit, acode_scope, acode_ret, acode_skip, seqQ_n, seqQ_e, seqQ_r, blockQ_n, blockQ_e, blockQ_r, TK_at, OK_at, SK_at, aops_nil, aops_cons, asch_done, asch_one, asch_two, asch_top, astep, aop_eq, isLoud, aloud, aloud1, isWrite, qv, evS, strip, gof, eget, hget, putO, eput, herase, oks, opnds, gS, afin, afin0, binD, arith, D.cells, takeD, fillD, keep, trim, envOf, Fin, aresl, aresv, resD, argOk, pickV, isP, deq, deqs, boundD, slD, lenD, isT, chunks, mn_min, mx_max, D.cells, splice_one, splice_more, Rbr_at, Rfr_at, frR, frV, frC, flatC, brwR, brwV, brwC, omap, leR, leV, leC, leL, leVL]
  repeat' (first
    | simp [AK_at, acode_seq, acode_region, acode_draw, acode_cond, ↓CB_t, ↓CB_f, CB_u, acode_block, acode_loop, acode_exit, acode_scope, acode_ret, acode_skip, seqQ_n, seqQ_e, seqQ_r, blockQ_n, blockQ_e, blockQ_r, TK_at, OK_at, SK_at, aops_nil, aops_cons, asch_done, asch_one, asch_two, asch_top, astep, aop_eq, isLoud, aloud, aloud1, isWrite, qv, evS, strip, gof, eget, hget, putO, eput, herase, oks, opnds, gS, afin, afin0, binD, arith, D.cells, takeD, fillD, keep, trim, envOf, Fin, aresl, aresv, resD, argOk, pickV, isP, deq, deqs, boundD, slD, lenD, isT, chunks, mn_min, mx_max, D.cells, splice_one, splice_more, Rbr_at, Rfr_at, frR, frV, frC, flatC, brwR, brwV, brwC, omap, leR, leV, leC, leL, leVL]
    | (refine WCall.pf (htp) ?_ ?_ ?_ ?_; (focus (simp [oks, opnds, gS, gof, eget]; done)); (focus (simp [omap, brwV, brwC, evS, eget, strip, hget, leVL, leV, leC, leL]; done)); (focus (simp [noV, noC, flatR, flatV, flatC, evS, eget, strip]; done)))
    | (refine ⟨WCall.pf (htp) ?_ ?_ ?_ ?_, ?_⟩; (focus (simp [oks, opnds, gS, gof, eget]; done)); (focus (simp [omap, brwV, brwC, evS, eget, strip, hget, leVL, leV, leC, leL]; done)); (focus (simp [noV, noC, flatR, flatV, flatC, evS, eget, strip]; done)))
    | (refine WCall.pf (htof) ?_ ?_ ?_ ?_; (focus (simp [oks, opnds, gS, gof, eget]; done)); (focus (simp [omap, brwV, brwC, evS, eget, strip, hget, leVL, leV, leC, leL]; done)); (focus (simp [noV, noC, flatR, flatV, flatC, evS, eget, strip]; done)))
    | (refine ⟨WCall.pf (htof) ?_ ?_ ?_ ?_, ?_⟩; (focus (simp [oks, opnds, gS, gof, eget]; done)); (focus (simp [omap, brwV, brwC, evS, eget, strip, hget, leVL, leV, leC, leL]; done)); (focus (simp [noV, noC, flatR, flatV, flatC, evS, eget, strip]; done)))
    | fail)
  refine W.loopS (fun y : Nat × Int => ⟨[(7, I y.1), (6, I y.2), (5, I 0), (4, .ptr 0 0), (3, D.rows 7 (A.map Outp.D)), (2, .bool false)], [(0, .cells (C.map I))], 1⟩)
    (fun n y => n = 3 - y.1 ∧ y.1 ≤ 3 ∧ y.2 = manyS A y.1) ?_ ?_
  · exact ⟨_, (0, 0), (Gh.ren [] (by simp [hB0]) (by simp [hB0]) (by simp [eget, rnS, rnR, rnV, rnC, LtS, LtR, LtV, LtC, lget, rnC_I, hCe]) (by simp [hget, rnO, rnC, LtO, LtC, lget, rnC_I, hCe]) (.inr rfl)), rfl, by omega, rfl⟩
  rintro n ⟨s, ms⟩ ⟨hn, hs, hms⟩
  simp only at hn hs hms
  refine acode_sound [0, 2, 3, 4, 5, 6, 7, 8, 9, 10, 11, 12, 13, 14, 15, 24, 28, 40, 44, 61, 85, 116] [] _ _ _ ?_
  have bS := manyS_hi A s lA60 hs
  by_cases hs3 : s < 3
  · have hs4 : (s : Int) < 3 := by omega
    have is : InR ((s : Int) + 1) := inT (by omega) (by omega)
    simp [AK_at, acode_seq, acode_region, acode_draw, acode_cond, ↓CB_t, ↓CB_f, CB_u, acode_block, acode_loop, acode_exit, acode_scope, acode_ret, acode_skip, seqQ_n, seqQ_e, seqQ_r, blockQ_n, blockQ_e, blockQ_r, TK_at, OK_at, SK_at, aops_nil, aops_cons, asch_done, asch_one, asch_two, asch_top, astep, aop_eq, isLoud, aloud, aloud1, isWrite, qv, evS, strip, gof, eget, hget, putO, eput, herase, oks, opnds, gS, afin, afin0, binD, arith, D.cells, takeD, fillD, keep, trim, envOf, Fin, aresl, aresv, resD, argOk, pickV, isP, deq, deqs, boundD, slD, lenD, isT, chunks, mn_min, mx_max, D.cells, splice_one, splice_more, Rbr_at, Rfr_at, frR, frV, frC, flatC, brwR, brwV, brwC, omap, leR, leV, leC, leL, leVL, hs4]
    refine W.loopS (fun y : Nat × Int => ⟨[(8, I y.1), (7, I s), (6, I y.2), (5, I 0), (4, .ptr 0 0), (3, D.rows 7 (A.map Outp.D)), (2, .bool false)], [(0, .cells (C.map I))], 1⟩)
      (fun m y => m = 2 - y.1 ∧ y.1 ≤ 2 ∧ y.2 = manyS A s + manyG A s y.1) ?_ ?_
    · exact ⟨_, (0, ms), (Gh.ren [] (by simp [hB0]) (by simp [hB0]) (by simp [eget, rnS, rnR, rnV, rnC, LtS, LtR, LtV, LtC, lget, rnC_I]) (by simp [hget, rnO, rnC, LtO, LtC, lget, rnC_I]) (.inr rfl)), rfl, by omega, by simp [manyG, hms]⟩
    rintro m ⟨g, mg⟩ ⟨hm, hg, hmg⟩
    simp only at hm hg hmg
    refine acode_sound [0, 2, 3, 4, 5, 6, 7, 8, 9, 10, 11, 12, 13, 14, 15, 24, 28, 40, 44, 61, 85, 116] [] _ _ _ ?_
    have bG := manyG_hi A s g lA60 hg
    by_cases hg3 : g < 2
    · have hg4 : (g : Int) < 2 := by omega
      have ig : InR ((g : Int) + 1) := inT (by omega) (by omega)
      have hts := tstory_pf A s g (by omega) fA
      have hsub : (storyL A s g).Sublist A := List.filter_sublist
      have hin : ∀ o ∈ storyL A s g, o.slot = s ∧ o.gen = g := fun o ho => by
        have := (List.mem_filter.1 ho).2
        simp only [inStory, Bool.and_eq_true, decide_eq_true_eq] at this
        exact ⟨this.1.2, this.2⟩
      have hmg2 : manyG A s (g + 1) = manyG A s g + (storyL A s g).length := rfl
      obtain ⟨st, hst⟩ : ∃ st, st = storyL A s g := ⟨_, rfl⟩
      rw [← hst] at hts hsub hin hmg2
      have hsl := hsub.length_le
      have imst : InR (mg + st.length) := inT (by omega) (by omega)
      repeat' (first
        | simp [AK_at, acode_seq, acode_region, acode_draw, acode_cond, ↓CB_t, ↓CB_f, CB_u, acode_block, acode_loop, acode_exit, acode_scope, acode_ret, acode_skip, seqQ_n, seqQ_e, seqQ_r, blockQ_n, blockQ_e, blockQ_r, TK_at, OK_at, SK_at, aops_nil, aops_cons, asch_done, asch_one, asch_two, asch_top, astep, aop_eq, isLoud, aloud, aloud1, isWrite, qv, evS, strip, gof, eget, hget, putO, eput, herase, oks, opnds, gS, afin, afin0, binD, arith, D.cells, takeD, fillD, keep, trim, envOf, Fin, aresl, aresv, resD, argOk, pickV, isP, deq, deqs, boundD, slD, lenD, isT, chunks, mn_min, mx_max, D.cells, splice_one, splice_more, Rbr_at, Rfr_at, frR, frV, frC, flatC, brwR, brwV, brwC, omap, leR, leV, leC, leL, leVL, hg4]
        | (refine WCall.pf (hts) ?_ ?_ ?_ ?_; (focus (simp [oks, opnds, gS, gof, eget]; done)); (focus (simp [omap, brwV, brwC, evS, eget, strip, hget, leVL, leV, leC, leL, hg4]; done)); (focus (simp [noV, noC, flatR, flatV, flatC, evS, eget, strip, hg4]; done)))
        | (refine ⟨WCall.pf (hts) ?_ ?_ ?_ ?_, ?_⟩; (focus (simp [oks, opnds, gS, gof, eget]; done)); (focus (simp [omap, brwV, brwC, evS, eget, strip, hget, leVL, leV, leC, leL, hg4]; done)); (focus (simp [noV, noC, flatR, flatV, flatC, evS, eget, strip, hg4]; done)))
        | fail)
      refine W.loopS (fun y : Nat × Nat => ⟨[(12, I y.1), (11, I y.2), (9, D.rows 7 (st.map Outp.D)), (8, I g), (7, I s), (6, I mg), (5, I 0), (4, .ptr 0 0), (3, D.rows 7 (A.map Outp.D)), (2, .bool false)], [(0, .cells (C.map I))], 1⟩)
        (fun k y => k = st.length - y.1 ∧ y.1 ≤ st.length ∧ y.2 ≤ A.length ∧ (st.drop y.1).Sublist (A.drop y.2)) ?_ ?_
      · exact ⟨_, (0, 0), (Gh.ren [] (by simp [hB0]) (by simp [hB0]) (by simp [eget, rnS, rnR, rnV, rnC, LtS, LtR, LtV, LtC, lget, rnC_I]) (by simp [hget, rnO, rnC, LtO, LtC, lget, rnC_I]) (.inr rfl)), rfl, by omega, by omega, by simpa using hsub⟩
      rintro k ⟨i, at1⟩ ⟨hk, hi, hat, hsu⟩
      simp only at hk hi hat hsu
      refine acode_sound [0, 2, 3, 4, 5, 6, 7, 8, 9, 10, 11, 12, 13, 14, 15, 24, 28, 40, 44, 61, 85, 116] [] _ _ _ ?_
      by_cases hlt : i < st.length
      · have ii : InR ((i : Int) + 1) := inT (by omega) (by omega)
        simp [AK_at, acode_seq, acode_region, acode_draw, acode_cond, ↓CB_t, ↓CB_f, CB_u, acode_block, acode_loop, acode_exit, acode_scope, acode_ret, acode_skip, seqQ_n, seqQ_e, seqQ_r, blockQ_n, blockQ_e, blockQ_r, TK_at, OK_at, SK_at, aops_nil, aops_cons, asch_done, asch_one, asch_two, asch_top, astep, aop_eq, isLoud, aloud, aloud1, isWrite, qv, evS, strip, gof, eget, hget, putO, eput, herase, oks, opnds, gS, afin, afin0, binD, arith, D.cells, takeD, fillD, keep, trim, envOf, Fin, aresl, aresv, resD, argOk, pickV, isP, deq, deqs, boundD, slD, lenD, isT, chunks, mn_min, mx_max, D.cells, splice_one, splice_more, Rbr_at, Rfr_at, frR, frV, frC, flatC, brwR, brwV, brwC, omap, leR, leV, leC, leL, leVL, hlt]
        refine W.loopS (fun y : Nat => ⟨[(12, I i), (11, I y), (9, D.rows 7 (st.map Outp.D)), (8, I g), (7, I s), (6, I mg), (5, I 0), (4, .ptr 0 0), (3, D.rows 7 (A.map Outp.D)), (2, .bool false)], [(0, .cells (C.map I))], 1⟩)
          (fun k y => k = A.length - y ∧ y ≤ A.length ∧ (st.drop i).Sublist (A.drop y)) ?_ ?_
        · exact ⟨_, at1, (Gh.ren [] (by simp [hB0]) (by simp [hB0]) (by simp [eget, rnS, rnR, rnV, rnC, LtS, LtR, LtV, LtC, lget, rnC_I]) (by simp [hget, rnO, rnC, LtO, LtC, lget, rnC_I]) (.inr rfl)), rfl, hat, hsu⟩
        clear hsu hat at1
        rintro k2 at1 ⟨hk2, hat, hsu⟩
        refine acode_sound [0, 2, 3, 4, 5, 6, 7, 8, 9, 10, 11, 12, 13, 14, 15, 24, 28, 40, 44, 61, 85, 116] [] _ _ _ ?_
        have hdi : st.drop i = st[i] :: st.drop (i + 1) := List.drop_eq_getElem_cons hlt
        have hla : at1 < A.length := by
          have := hsu.length_le
          simp at this; omega
        have hda : A.drop at1 = A[at1] :: A.drop (at1 + 1) := List.drop_eq_getElem_cons hla
        rw [hdi, hda] at hsu
        have hip := hin st[i] (List.getElem_mem hlt)
        obtain ⟨p, hp⟩ : ∃ p, p = st[i] := ⟨_, rfl⟩
        obtain ⟨o, ho⟩ : ∃ o, o = A[at1] := ⟨_, rfl⟩
        rw [← hp, ← ho] at hsu
        rw [← hp] at hip
        have ia : InR ((at1 : Int) + 1) := inT (by omega) (by omega)
        by_cases heq : o = p
        · subst heq
          simp [AK_at, acode_seq, acode_region, acode_draw, acode_cond, ↓CB_t, ↓CB_f, CB_u, acode_block, acode_loop, acode_exit, acode_scope, acode_ret, acode_skip, seqQ_n, seqQ_e, seqQ_r, blockQ_n, blockQ_e, blockQ_r, TK_at, OK_at, SK_at, aops_nil, aops_cons, asch_done, asch_one, asch_two, asch_top, astep, aop_eq, isLoud, aloud, aloud1, isWrite, qv, evS, strip, gof, eget, hget, putO, eput, herase, oks, opnds, gS, afin, afin0, binD, arith, D.cells, takeD, fillD, keep, trim, envOf, Fin, aresl, aresv, resD, argOk, pickV, isP, deq, deqs, boundD, slD, lenD, isT, chunks, mn_min, mx_max, D.cells, splice_one, splice_more, Rbr_at, Rfr_at, frR, frV, frC, flatC, brwR, brwV, brwC, omap, leR, leV, leC, leL, leVL, hla, hlt, ← hp, ← ho, Outp.D]
          exact ⟨⟨⟨by omega, hip.1⟩, hip.2⟩, fun _ _ _ => ⟨ia, ii, _, (i + 1, at1 + 1), (Gh.ren [] (by simp [hB0]) (by simp [hB0]) (by simp [eget, rnS, rnR, rnV, rnC, LtS, LtR, LtV, LtC, lget, rnC_I]) (by simp [hget, rnO, rnC, LtO, LtC, lget, rnC_I]) (.inr rfl)), by omega, rfl, by omega, by omega, drop_take hsu⟩⟩
        · simp [AK_at, acode_seq, acode_region, acode_draw, acode_cond, ↓CB_t, ↓CB_f, CB_u, acode_block, acode_loop, acode_exit, acode_scope, acode_ret, acode_skip, seqQ_n, seqQ_e, seqQ_r, blockQ_n, blockQ_e, blockQ_r, TK_at, OK_at, SK_at, aops_nil, aops_cons, asch_done, asch_one, asch_two, asch_top, astep, aop_eq, isLoud, aloud, aloud1, isWrite, qv, evS, strip, gof, eget, hget, putO, eput, herase, oks, opnds, gS, afin, afin0, binD, arith, D.cells, takeD, fillD, keep, trim, envOf, Fin, aresl, aresv, resD, argOk, pickV, isP, deq, deqs, boundD, slD, lenD, isT, chunks, mn_min, mx_max, D.cells, splice_one, splice_more, Rbr_at, Rfr_at, frR, frV, frC, flatC, brwR, brwV, brwC, omap, leR, leV, leC, leL, leVL, hla, hlt, ← hp, ← ho, Outp.D]
          refine ⟨fun _ => ⟨ia, _, at1 + 1, (Gh.ren [] (by simp [hB0]) (by simp [hB0]) (by simp [eget, rnS, rnR, rnV, rnC, LtS, LtR, LtV, LtC, lget, rnC_I]) (by simp [hget, rnO, rnC, LtO, LtC, lget, rnC_I]) (.inr rfl)), by omega, rfl, by omega, ?_⟩, fun e1 e2 e3 e4 e5 e6 e7 => absurd ?_ heq⟩
          · rw [hdi, ← hp]
            exact drop_skip hsu (by simp) (by simpa using fun h => heq h.symm)
          · cases o; cases p; simp_all
      · have hie : i = st.length := by omega
        subst hie
        simp [AK_at, acode_seq, acode_region, acode_draw, acode_cond, ↓CB_t, ↓CB_f, CB_u, acode_block, acode_loop, acode_exit, acode_scope, acode_ret, acode_skip, seqQ_n, seqQ_e, seqQ_r, blockQ_n, blockQ_e, blockQ_r, TK_at, OK_at, SK_at, aops_nil, aops_cons, asch_done, asch_one, asch_two, asch_top, astep, aop_eq, isLoud, aloud, aloud1, isWrite, qv, evS, strip, gof, eget, hget, putO, eput, herase, oks, opnds, gS, afin, afin0, binD, arith, D.cells, takeD, fillD, keep, trim, envOf, Fin, aresl, aresv, resD, argOk, pickV, isP, deq, deqs, boundD, slD, lenD, isT, chunks, mn_min, mx_max, D.cells, splice_one, splice_more, Rbr_at, Rfr_at, frR, frV, frC, flatC, brwR, brwV, brwC, omap, leR, leV, leC, leL, leVL, imst, ig]
        exact ⟨_, (g + 1, mg + st.length), (Gh.ren [] (by simp [hB0]) (by simp [hB0]) (by simp [eget, rnS, rnR, rnV, rnC, LtS, LtR, LtV, LtC, lget, rnC_I]) (by simp [hget, rnO, rnC, LtO, LtC, lget, rnC_I]) (.inr rfl)), by omega, rfl, by omega, by simp only; omega⟩
    · obtain rfl : g = 2 := by omega
      simp [AK_at, acode_seq, acode_region, acode_draw, acode_cond, ↓CB_t, ↓CB_f, CB_u, acode_block, acode_loop, acode_exit, acode_scope, acode_ret, acode_skip, seqQ_n, seqQ_e, seqQ_r, blockQ_n, blockQ_e, blockQ_r, TK_at, OK_at, SK_at, aops_nil, aops_cons, asch_done, asch_one, asch_two, asch_top, astep, aop_eq, isLoud, aloud, aloud1, isWrite, qv, evS, strip, gof, eget, hget, putO, eput, herase, oks, opnds, gS, afin, afin0, binD, arith, D.cells, takeD, fillD, keep, trim, envOf, Fin, aresl, aresv, resD, argOk, pickV, isP, deq, deqs, boundD, slD, lenD, isT, chunks, mn_min, mx_max, D.cells, splice_one, splice_more, Rbr_at, Rfr_at, frR, frV, frC, flatC, brwR, brwV, brwC, omap, leR, leV, leC, leL, leVL]
      exact ⟨is, _, (s + 1, mg), (Gh.ren [] (by simp [hB0]) (by simp [hB0]) (by simp [eget, rnS, rnR, rnV, rnC, LtS, LtR, LtV, LtC, lget, rnC_I]) (by simp [hget, rnO, rnC, LtO, LtC, lget, rnC_I]) (.inr rfl)), by omega, rfl, by omega, hmg⟩
  · obtain rfl : s = 3 := by omega
    simp [AK_at, acode_seq, acode_region, acode_draw, acode_cond, ↓CB_t, ↓CB_f, CB_u, acode_block, acode_loop, acode_exit, acode_scope, acode_ret, acode_skip, seqQ_n, seqQ_e, seqQ_r, blockQ_n, blockQ_e, blockQ_r, TK_at, OK_at, SK_at, aops_nil, aops_cons, asch_done, asch_one, asch_two, asch_top, astep, aop_eq, isLoud, aloud, aloud1, isWrite, qv, evS, strip, gof, eget, hget, putO, eput, herase, oks, opnds, gS, afin, afin0, binD, arith, D.cells, takeD, fillD, keep, trim, envOf, Fin, aresl, aresv, resD, argOk, pickV, isP, deq, deqs, boundD, slD, lenD, isT, chunks, mn_min, mx_max, D.cells, splice_one, splice_more, Rbr_at, Rfr_at, frR, frV, frC, flatC, brwR, brwV, brwC, omap, leR, leV, leC, leL, leVL, h17]
    have cg : ∀ (j : Nat) (h : j < C.length), C[j] = cnt A j := fun j h => by rw [← hgt j]; simp [List.getD, h]
    simp only [cg]
    have b1 := hcb 1
    have b3 := hcb 3
    have b4 := hcb 4
    have b5 := hcb 5
    have b6 := hcb 6
    have b7 := hcb 7
    have hms2 : ms = cnt A 1 + cnt A 3 + cnt A 4 + cnt A 5 + cnt A 6 + cnt A 7 := hms.trans (manyS_cnt A fA gA)
    refine ⟨inT (by omega) (by omega), inT (by omega) (by omega), inT (by omega) (by omega), inT (by omega) (by omega), inT (by omega) (by omega), ?_⟩
    rw [← hms2]
    refine W.loopS (fun y : Nat => ⟨[(15, I y), (14, I (sumF (cnt A) 0 y)), (13, I ms), (6, I ms), (5, I 0), (4, .ptr 0 0), (3, D.rows 7 (A.map Outp.D)), (2, .bool false)], [(0, .cells (C.map I))], 1⟩)
      (fun m y => m = 11 - y ∧ y ≤ 11) ?_ ?_
    · exact ⟨_, 0, (Gh.ren [] (by simp [hB0]) (by simp [hB0]) (by simp [eget, rnS, rnR, rnV, rnC, LtS, LtR, LtV, LtC, lget, rnC_I, sumF]) (by simp [hget, rnO, rnC, LtO, LtC, lget, rnC_I, sumF]) (.inr rfl)), rfl, by omega⟩
    rintro m k ⟨hm, hk⟩
    refine acode_sound [0, 2, 3, 4, 5, 6, 7, 8, 9, 10, 11, 12, 13, 14, 15, 24, 28, 40, 44, 61, 85, 116] [] _ _ _ ?_
    by_cases hk2 : k < 11
    · have hk3 : (k : Int) < 11 := by omega
      have kC : k < C.length := by omega
      have bk := hcb k
      have bs := sumF_bd (cnt A) 120 (by omega) hcb 0 k (by omega)
      have ik : InR ((k : Int) + 1) := inT (by omega) (by omega)
      have isum : InR (sumF (cnt A) 0 k + cnt A k) := inT (by omega) (by omega)
      have hcgk := cg k kC
      simp [AK_at, acode_seq, acode_region, acode_draw, acode_cond, ↓CB_t, ↓CB_f, CB_u, acode_block, acode_loop, acode_exit, acode_scope, acode_ret, acode_skip, seqQ_n, seqQ_e, seqQ_r, blockQ_n, blockQ_e, blockQ_r, TK_at, OK_at, SK_at, aops_nil, aops_cons, asch_done, asch_one, asch_two, asch_top, astep, aop_eq, isLoud, aloud, aloud1, isWrite, qv, evS, strip, gof, eget, hget, putO, eput, herase, oks, opnds, gS, afin, afin0, binD, arith, D.cells, takeD, fillD, keep, trim, envOf, Fin, aresl, aresv, resD, argOk, pickV, isP, deq, deqs, boundD, slD, lenD, isT, chunks, mn_min, mx_max, D.cells, splice_one, splice_more, Rbr_at, Rfr_at, frR, frV, frC, flatC, brwR, brwV, brwC, omap, leR, leV, leC, leL, leVL, hk3, kC, ik, hcgk, isum]
      exact ⟨by omega, _, k + 1, (Gh.ren [] (by simp [hB0]) (by simp [hB0]) (by simp [eget, rnS, rnR, rnV, rnC, LtS, LtR, LtV, LtC, lget, rnC_I, sumF]) (by simp [hget, rnO, rnC, LtO, LtC, lget, rnC_I, sumF]) (.inr rfl)), by omega, rfl, by omega⟩
    · obtain rfl : k = 11 := by omega
      have hs := cnt_outs A fA
      simp [AK_at, acode_seq, acode_region, acode_draw, acode_cond, ↓CB_t, ↓CB_f, CB_u, acode_block, acode_loop, acode_exit, acode_scope, acode_ret, acode_skip, seqQ_n, seqQ_e, seqQ_r, blockQ_n, blockQ_e, blockQ_r, TK_at, OK_at, SK_at, aops_nil, aops_cons, asch_done, asch_one, asch_two, asch_top, astep, aop_eq, isLoud, aloud, aloud1, isWrite, qv, evS, strip, gof, eget, hget, putO, eput, herase, oks, opnds, gS, afin, afin0, binD, arith, D.cells, takeD, fillD, keep, trim, envOf, Fin, aresl, aresv, resD, argOk, pickV, isP, deq, deqs, boundD, slD, lenD, isT, chunks, mn_min, mx_max, D.cells, splice_one, splice_more, Rbr_at, Rfr_at, frR, frV, frC, flatC, brwR, brwV, brwC, omap, leR, leV, leC, leL, leVL, hs]
end Go.Proofs.Ytdlcjkmigcgkhaa
