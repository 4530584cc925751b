/- This text holds, one behind the other, the texts that say what the program computes, step by step, and the rules that they need. They have no condition of their own. -/
import Derived.Test.YtfkeddefajkobaaMe
import Derived.Test.YtfkeddefajkobaaMc
set_option linter.unusedSimpArgs false
set_option linter.unusedVariables false
set_option maxRecDepth 100000
set_option maxHeartbeats 4000000
namespace Go.Proofs.Ytfkeddefajkobaa
open Go.RowKit
theorem lof_code : cfun Try.prog [] 37 = some ⟨(.seq (.region 0 [⟨(some 2), (.box (.t 0)), none⟩, ⟨(some 4), (.alloc [(.int .i64 0), (.int .i64 0), (.int .i64 0), (.int .i64 0), (.int .i64 0), (.int .i64 0)]), none⟩, ⟨(some 5), (.mov (.k (.int .i64 0))), none⟩]) (.seq (.region 1 [⟨(some 10), (.load true 2 (.t 2)), none⟩, ⟨(some 11), (.call 67 [(.t 10)]), none⟩, ⟨(some 9), (.mov (.t 11)), none⟩, ⟨(some 12), (.ext (.t 9) 0), none⟩, ⟨(some 13), (.ext (.t 9) 1), none⟩, ⟨(some 6), (.mov (.t 12)), none⟩, ⟨(some 7), (.mov (.t 13)), none⟩]) (.seq (.seq (.region 2 [⟨(some 14), (.mov (.t 7)), none⟩, ⟨(some 15), (.bin .neq (.t 14) (.k (.int .i64 0))), none⟩]) (.cond 15 (.seq (.region 3 [⟨(some 16), (.build [(.int .i64 0), (.int .i64 0), (.int .i64 0), (.int .i64 0), (.int .i64 0), (.int .i64 0)] []), none⟩, ⟨(some 17), (.mov (.t 7)), none⟩, ⟨none, (.store 6 (.t 4) (.t 16)), none⟩, ⟨(some 5), (.mov (.t 17)), none⟩]) .ret) .skip)) (.seq (.region 4 [⟨(some 18), (.mov (.t 6)), none⟩, ⟨(some 19), (.mov (.t 1)), none⟩, ⟨(some 20), (.call 74 [(.t 18), (.t 19)]), none⟩, ⟨(some 8), (.mov (.t 20)), none⟩]) (.seq (.seq (.region 5 [⟨(some 21), (.mov (.t 8)), none⟩, ⟨(some 22), (.eqp false (.t 21) (.k .nilp)), none⟩]) (.cond 22 (.seq (.region 6 [⟨(some 23), (.build [(.int .i64 0), (.int .i64 0), (.int .i64 0), (.int .i64 0), (.int .i64 0), (.int .i64 0)] []), none⟩, ⟨none, (.store 6 (.t 4) (.t 23)), none⟩, ⟨(some 5), (.mov (.k (.int .i64 8))), none⟩]) .ret) .skip)) (.seq (.region 7 [⟨(some 24), (.mov (.t 8)), none⟩, ⟨(some 25), (.nchk (.t 24)), none⟩, ⟨(some 26), (.load true 6 (.t 25)), none⟩, ⟨none, (.store 6 (.t 4) (.t 26)), none⟩, ⟨(some 5), (.mov (.k (.int .i64 0))), none⟩]) .ret)))))), [(.c 4 true 6), (.t 5)], 27⟩ := by kernel_rfl
theorem lof_pf (L : List Lif) (R : List Rqs) (b : Int) (hb : BookOk L R) : PF Try.prog 37 [bookD L R, I b] (.tup [.agg (ofM L b).1.D, I (ofM L b).2]) := by
  have hop := lopen_hf L R hb
  have hfd := lfind_hf L R b hb.ll
  unfold bkH at hfd
  unfold bookD at hop ⊢
  refine PF.of follows_ok lof_code (by simp) (by simp [argOk]) (by simp [noV, noC]) fun B hBN hB0 => acode_sound [0, 1, 2, 4, 5, 6, 7, 8, 15, 22] [] _ _ _ ?_
  simp [AK_at, acode_seq, acode_region, acode_draw, acode_cond, ↓CB_t, ↓CB_f, CB_u, acode_block, acode_loop, acode_exit, acode_scope, acode_ret, acode_skip, seqQ_n, seqQ_e, seqQ_r, blockQ_n, blockQ_e, blockQ_r, TK_at, OK_at, SK_at, aops_nil, aops_cons, asch_done, asch_one, asch_two, asch_top, astep, aop_eq, isLoud, aloud, aloud1, isWrite, qv, evS, strip, gof, eget, hget, putO, eput, herase, oks, opnds, gS, afin, afin0, binD, arith, D.cells, takeD, fillD, keep, trim, envOf, Fin, aresl, aresv, resD, argOk, pickV, isP, deq, deqs, boundD, slD, lenD, isT, isSl, ptrIds, chunks, mn_min, mx_max, D.cells, splice_one, splice_more, Rbr_at, Rfr_at, frR, frV, frC, flatC, brwR, brwV, brwC, omap, leR, leV, leC, leL, leVL]
  refine WCall.hf0 hop (by simp [oks, opnds, gS, gof, eget]) (by simp [evS, eget, strip]) (by simp [argOk]) (by simp [noV, noC]) ?_
  rintro d H' nx' ⟨rfl, rfl, rfl⟩
  simp [AK_at, acode_seq, acode_region, acode_draw, acode_cond, ↓CB_t, ↓CB_f, CB_u, acode_block, acode_loop, acode_exit, acode_scope, acode_ret, acode_skip, seqQ_n, seqQ_e, seqQ_r, blockQ_n, blockQ_e, blockQ_r, TK_at, OK_at, SK_at, aops_nil, aops_cons, asch_done, asch_one, asch_two, asch_top, astep, aop_eq, isLoud, aloud, aloud1, isWrite, qv, evS, strip, gof, eget, hget, putO, eput, herase, oks, opnds, gS, afin, afin0, binD, arith, D.cells, takeD, fillD, keep, trim, envOf, Fin, aresl, aresv, resD, argOk, pickV, isP, deq, deqs, boundD, slD, lenD, isT, isSl, ptrIds, chunks, mn_min, mx_max, D.cells, splice_one, splice_more, Rbr_at, Rfr_at, frR, frV, frC, flatC, brwR, brwV, brwC, omap, leR, leV, leC, leL, leVL, rnR, rnV, rnC, rnO, rho_0, hputs, herases, bkH]
  refine WCall.hf [2, 3, 4] (hfd) (by simp [oks, opnds, gS, gof, eget]) rfl rfl (by decide) (by simp) (by simp [evS, eget, strip, rnV, rnC, rho]) (by simp [argOk]) (by simp [LtV, LtC]) (by simp [rho, rnO, rnC, hget, LtO, LtC]) ?_
  rintro d H' nx' ⟨rfl, rfl, rfl⟩
  by_cases h0 : findM L b < 0
  · have hfD : findD L b = .nilp := by unfold findD; rw [if_pos h0]
    have hj : ofM L b = (default, 8) := by unfold ofM; rw [if_pos h0]
    rw [hfD, hj]
    simp [AK_at, acode_seq, acode_region, acode_draw, acode_cond, ↓CB_t, ↓CB_f, CB_u, acode_block, acode_loop, acode_exit, acode_scope, acode_ret, acode_skip, seqQ_n, seqQ_e, seqQ_r, blockQ_n, blockQ_e, blockQ_r, TK_at, OK_at, SK_at, aops_nil, aops_cons, asch_done, asch_one, asch_two, asch_top, astep, aop_eq, isLoud, aloud, aloud1, isWrite, qv, evS, strip, gof, eget, hget, putO, eput, herase, oks, opnds, gS, afin, afin0, binD, arith, D.cells, takeD, fillD, keep, trim, envOf, Fin, aresl, aresv, resD, argOk, pickV, isP, deq, deqs, boundD, slD, lenD, isT, isSl, ptrIds, chunks, mn_min, mx_max, D.cells, splice_one, splice_more, Rbr_at, Rfr_at, frR, frV, frC, flatC, brwR, brwV, brwC, omap, leR, leV, leC, leL, leVL, rnR, rnV, rnC, rnO, rho_0, hputs, herases, rho, Lif.D, default, instInhabitedLif.default]
  · have hfD : findD L b = .pel 1 (findM L b).toNat 6 0 := by unfold findD; rw [if_neg h0]
    obtain ⟨h1, h2, h3⟩ := findM_at (by omega : 0 ≤ findM L b)
    have hj : ofM L b = (L.getD (findM L b).toNat default, 0) := by unfold ofM; rw [if_neg h0]
    rw [h3] at hj
    rw [hfD, hj]
    clear hfD h3 h0 hj
    generalize (findM L b).toNat = i at h1 h2
    obtain ⟨o, ho⟩ : ∃ o, o = L[i] := ⟨_, rfl⟩
    rw [← ho]
    simp [AK_at, acode_seq, acode_region, acode_draw, acode_cond, ↓CB_t, ↓CB_f, CB_u, acode_block, acode_loop, acode_exit, acode_scope, acode_ret, acode_skip, seqQ_n, seqQ_e, seqQ_r, blockQ_n, blockQ_e, blockQ_r, TK_at, OK_at, SK_at, aops_nil, aops_cons, asch_done, asch_one, asch_two, asch_top, astep, aop_eq, isLoud, aloud, aloud1, isWrite, qv, evS, strip, gof, eget, hget, putO, eput, herase, oks, opnds, gS, afin, afin0, binD, arith, D.cells, takeD, fillD, keep, trim, envOf, Fin, aresl, aresv, resD, argOk, pickV, isP, deq, deqs, boundD, slD, lenD, isT, isSl, ptrIds, chunks, mn_min, mx_max, D.cells, splice_one, splice_more, Rbr_at, Rfr_at, frR, frV, frC, flatC, brwR, brwV, brwC, omap, leR, leV, leC, leL, leVL, rnR, rnV, rnC, rnO, rho_0, hputs, herases, rho, h1, ← ho, Lif.D]
theorem lfin_code : cfun Try.prog [] 42 = some ⟨(.seq (.region 0 [⟨(some 2), (.box (.t 0)), none⟩, ⟨(some 4), (.alloc [.nil0, .nil0]), none⟩, ⟨(some 5), (.mov (.k (.int .i64 0))), none⟩]) (.seq (.region 1 [⟨(some 10), (.load true 2 (.t 2)), none⟩, ⟨(some 11), (.call 67 [(.t 10)]), none⟩, ⟨(some 9), (.mov (.t 11)), none⟩, ⟨(some 12), (.ext (.t 9) 0), none⟩, ⟨(some 13), (.ext (.t 9) 1), none⟩, ⟨(some 6), (.mov (.t 12)), none⟩, ⟨(some 7), (.mov (.t 13)), none⟩]) (.seq (.seq (.region 2 [⟨(some 14), (.mov (.t 7)), none⟩, ⟨(some 15), (.bin .neq (.t 14) (.k (.int .i64 0))), none⟩]) (.cond 15 (.seq (.region 3 [⟨(some 16), (.build [.nil0, .nil0] []), none⟩, ⟨(some 17), (.mov (.t 7)), none⟩, ⟨none, (.store 2 (.t 4) (.t 16)), none⟩, ⟨(some 5), (.mov (.t 17)), none⟩]) .ret) .skip)) (.seq (.region 4 [⟨(some 18), (.mov (.t 6)), none⟩, ⟨(some 19), (.mov (.t 1)), none⟩, ⟨(some 20), (.call 74 [(.t 18), (.t 19)]), none⟩, ⟨(some 8), (.mov (.t 20)), none⟩]) (.seq (.seq (.region 5 [⟨(some 21), (.mov (.t 8)), none⟩, ⟨(some 22), (.eqp false (.t 21) (.k .nilp)), none⟩, ⟨(some 23), (.mov (.t 22)), none⟩, ⟨(some 24), (.mov (.t 8)), (some (23, false))⟩, ⟨(some 25), (.nchk (.t 24)), (some (23, false))⟩, ⟨(some 26), (.fad 1 (.t 25)), (some (23, false))⟩, ⟨(some 27), (.load false 1 (.t 26)), (some (23, false))⟩, ⟨(some 28), (.bin .neq (.t 27) (.k (.int .i64 3))), (some (23, false))⟩, ⟨(some 29), (.pick (.t 23) (.k (.bool true)) (.t 28)), none⟩]) (.cond 29 (.seq (.region 6 [⟨(some 30), (.build [.nil0, .nil0] []), none⟩, ⟨none, (.store 2 (.t 4) (.t 30)), none⟩, ⟨(some 5), (.mov (.k (.int .i64 8))), none⟩]) .ret) .skip)) (.seq (.region 7 [⟨(some 31), (.mov (.t 8)), none⟩, ⟨(some 32), (.nchk (.t 31)), none⟩, ⟨(some 33), (.fad 1 (.t 32)), none⟩, ⟨none, (.store 1 (.t 33) (.k (.int .i64 4))), none⟩]) (.seq (.region 8 [⟨(some 34), (.mov (.t 6)), none⟩, ⟨(some 35), (.nchk (.t 34)), none⟩, ⟨(some 36), (.fad 0 (.t 35)), none⟩, ⟨(some 37), (.load true 2 (.t 36)), none⟩, ⟨none, (.store 2 (.t 4) (.t 37)), none⟩, ⟨(some 5), (.mov (.k (.int .i64 0))), none⟩]) .ret))))))), [(.c 4 true 2), (.t 5)], 38⟩ := by kernel_rfl
theorem lfin_pf (L : List Lif) (R : List Rqs) (b : Int) (hb : BookOk L R) : PF Try.prog 42 [bookD L R, I b] (.tup [bookD (finishM L b).1 (if (finishM L b).2 = 0 then R else []), I (finishM L b).2]) := by
  have hop := lopen_hf L R hb
  have hfd := lfind_hf L R b hb.ll
  unfold bkH at hfd
  unfold bookD at hop ⊢
  refine PF.of follows_ok lfin_code (by simp) (by simp [argOk]) (by simp [noV, noC]) fun B hBN hB0 => acode_sound [0, 1, 2, 4, 5, 6, 7, 8, 15, 29] [] _ _ _ ?_
  simp [AK_at, acode_seq, acode_region, acode_draw, acode_cond, ↓CB_t, ↓CB_f, CB_u, acode_block, acode_loop, acode_exit, acode_scope, acode_ret, acode_skip, seqQ_n, seqQ_e, seqQ_r, blockQ_n, blockQ_e, blockQ_r, TK_at, OK_at, SK_at, aops_nil, aops_cons, asch_done, asch_one, asch_two, asch_top, astep, aop_eq, isLoud, aloud, aloud1, isWrite, qv, evS, strip, gof, eget, hget, putO, eput, herase, oks, opnds, gS, afin, afin0, binD, arith, D.cells, takeD, fillD, keep, trim, envOf, Fin, aresl, aresv, resD, argOk, pickV, isP, deq, deqs, boundD, slD, lenD, isT, isSl, ptrIds, chunks, mn_min, mx_max, D.cells, splice_one, splice_more, Rbr_at, Rfr_at, frR, frV, frC, flatC, brwR, brwV, brwC, omap, leR, leV, leC, leL, leVL]
  refine WCall.hf0 hop (by simp [oks, opnds, gS, gof, eget]) (by simp [evS, eget, strip]) (by simp [argOk]) (by simp [noV, noC]) ?_
  rintro d H' nx' ⟨rfl, rfl, rfl⟩
  simp [AK_at, acode_seq, acode_region, acode_draw, acode_cond, ↓CB_t, ↓CB_f, CB_u, acode_block, acode_loop, acode_exit, acode_scope, acode_ret, acode_skip, seqQ_n, seqQ_e, seqQ_r, blockQ_n, blockQ_e, blockQ_r, TK_at, OK_at, SK_at, aops_nil, aops_cons, asch_done, asch_one, asch_two, asch_top, astep, aop_eq, isLoud, aloud, aloud1, isWrite, qv, evS, strip, gof, eget, hget, putO, eput, herase, oks, opnds, gS, afin, afin0, binD, arith, D.cells, takeD, fillD, keep, trim, envOf, Fin, aresl, aresv, resD, argOk, pickV, isP, deq, deqs, boundD, slD, lenD, isT, isSl, ptrIds, chunks, mn_min, mx_max, D.cells, splice_one, splice_more, Rbr_at, Rfr_at, frR, frV, frC, flatC, brwR, brwV, brwC, omap, leR, leV, leC, leL, leVL, rnR, rnV, rnC, rnO, rho_0, hputs, herases, bkH]
  refine WCall.hf [2, 3, 4] (hfd) (by simp [oks, opnds, gS, gof, eget]) rfl rfl (by decide) (by simp) (by simp [evS, eget, strip, rnV, rnC, rho]) (by simp [argOk]) (by simp [LtV, LtC]) (by simp [rho, rnO, rnC, hget, LtO, LtC]) ?_
  rintro d H' nx' ⟨rfl, rfl, rfl⟩
  by_cases h0 : findM L b < 0
  · have hfD : findD L b = .nilp := by unfold findD; rw [if_pos h0]
    have hj : finishM L b = ([], 8) := by unfold finishM; simp only; rw [if_pos h0]
    rw [hfD, hj]
    simp [AK_at, acode_seq, acode_region, acode_draw, acode_cond, ↓CB_t, ↓CB_f, CB_u, acode_block, acode_loop, acode_exit, acode_scope, acode_ret, acode_skip, seqQ_n, seqQ_e, seqQ_r, blockQ_n, blockQ_e, blockQ_r, TK_at, OK_at, SK_at, aops_nil, aops_cons, asch_done, asch_one, asch_two, asch_top, astep, aop_eq, isLoud, aloud, aloud1, isWrite, qv, evS, strip, gof, eget, hget, putO, eput, herase, oks, opnds, gS, afin, afin0, binD, arith, D.cells, takeD, fillD, keep, trim, envOf, Fin, aresl, aresv, resD, argOk, pickV, isP, deq, deqs, boundD, slD, lenD, isT, isSl, ptrIds, chunks, mn_min, mx_max, D.cells, splice_one, splice_more, Rbr_at, Rfr_at, frR, frV, frC, flatC, brwR, brwV, brwC, omap, leR, leV, leC, leL, leVL, rnR, rnV, rnC, rnO, rho_0, hputs, herases, rho]
  · have hfD : findD L b = .pel 1 (findM L b).toNat 6 0 := by unfold findD; rw [if_neg h0]
    obtain ⟨h1, h2, h3⟩ := findM_at (by omega : 0 ≤ findM L b)
    have hj : finishM L b = let x := L.getD (findM L b).toNat default; if x.state = 3 then (L.set (findM L b).toNat { x with state := 4 }, 0) else ([], 8) := by
      unfold finishM; simp only; rw [if_neg h0]
    simp only [h3] at hj
    rw [hfD]
    clear hfD h3 h0
    generalize (findM L b).toNat = i at h1 h2 hj
    obtain ⟨o, ho⟩ : ∃ o, o = L[i] := ⟨_, rfl⟩
    rw [← ho] at hj
    by_cases s3 : o.state = 3
    · rw [if_pos s3] at hj
      rw [hj]
      simp [AK_at, acode_seq, acode_region, acode_draw, acode_cond, ↓CB_t, ↓CB_f, CB_u, acode_block, acode_loop, acode_exit, acode_scope, acode_ret, acode_skip, seqQ_n, seqQ_e, seqQ_r, blockQ_n, blockQ_e, blockQ_r, TK_at, OK_at, SK_at, aops_nil, aops_cons, asch_done, asch_one, asch_two, asch_top, astep, aop_eq, isLoud, aloud, aloud1, isWrite, qv, evS, strip, gof, eget, hget, putO, eput, herase, oks, opnds, gS, afin, afin0, binD, arith, D.cells, takeD, fillD, keep, trim, envOf, Fin, aresl, aresv, resD, argOk, pickV, isP, deq, deqs, boundD, slD, lenD, isT, isSl, ptrIds, chunks, mn_min, mx_max, D.cells, splice_one, splice_more, Rbr_at, Rfr_at, frR, frV, frC, flatC, brwR, brwV, brwC, omap, leR, leV, leC, leL, leVL, rnR, rnV, rnC, rnO, rho_0, hputs, herases, rho, h1, ← ho, Lif.D, s3]
    · rw [if_neg s3] at hj
      rw [hj]
      simp [AK_at, acode_seq, acode_region, acode_draw, acode_cond, ↓CB_t, ↓CB_f, CB_u, acode_block, acode_loop, acode_exit, acode_scope, acode_ret, acode_skip, seqQ_n, seqQ_e, seqQ_r, blockQ_n, blockQ_e, blockQ_r, TK_at, OK_at, SK_at, aops_nil, aops_cons, asch_done, asch_one, asch_two, asch_top, astep, aop_eq, isLoud, aloud, aloud1, isWrite, qv, evS, strip, gof, eget, hget, putO, eput, herase, oks, opnds, gS, afin, afin0, binD, arith, D.cells, takeD, fillD, keep, trim, envOf, Fin, aresl, aresv, resD, argOk, pickV, isP, deq, deqs, boundD, slD, lenD, isT, isSl, ptrIds, chunks, mn_min, mx_max, D.cells, splice_one, splice_more, Rbr_at, Rfr_at, frR, frV, frC, flatC, brwR, brwV, brwC, omap, leR, leV, leC, leL, leVL, rnR, rnV, rnC, rnO, rho_0, hputs, herases, rho, h1, ← ho, Lif.D, s3]
def midW (L : List Lif) (now : Int) (i : Nat) : List Lif := (L.take i).map (wakeX now) ++ L.drop i
theorem midW_len (L : List Lif) (now : Int) (i : Nat) (h : i ≤ L.length) : (midW L now i).length = L.length := by simp [midW]; omega
theorem midW_get (L : List Lif) (now : Int) (i : Nat) (h : i < L.length) : (midW L now i)[i]? = some L[i] := by
  unfold midW
  rw [List.getElem?_append_right (by simp; omega)]
  simp [Nat.min_eq_left (Nat.le_of_lt h), List.getElem?_eq_getElem h]
theorem midW_set (L : List Lif) (now : Int) (i : Nat) (h : i < L.length) : (midW L now i).set i (wakeX now L[i]) = midW L now (i + 1) := by
  unfold midW
  have hl : ((L.take i).map (wakeX now)).length = i := by simp; omega
  rw [List.set_append_right _ _ (by omega), hl, Nat.sub_self, List.take_succ_eq_append_getElem h, List.map_append, List.append_assoc]
  congr 1
  rw [List.drop_eq_getElem_cons h]
  rfl
theorem midW_same (L : List Lif) (now : Int) (i : Nat) (h : i < L.length) (hs : L[i].state ≠ 1) : midW L now i = midW L now (i + 1) := by
  have h2 : wakeX now L[i] = L[i] := by unfold wakeX; rw [if_neg hs]
  unfold midW
  rw [List.take_succ_eq_append_getElem h, List.map_append, List.append_assoc]
  congr 1
  rw [List.drop_eq_getElem_cons h, List.map_cons, List.map_nil, h2]
  rfl
theorem woken_succ (L : List Lif) (i : Nat) (h : i < L.length) : wokenM (L.take (i + 1)) = wokenM (L.take i) ++ (if L[i].state = 1 then [L[i].backend] else []) := by
  unfold wokenM
  rw [List.take_succ_eq_append_getElem h, List.filter_append, List.map_append]
  split
  · rename_i hs; simp [hs]
  · rename_i hs; simp [hs]
theorem woken_len (L : List Lif) : (wokenM L).length ≤ L.length := by
  unfold wokenM
  rw [List.length_map]
  exact List.length_filter_le ..
theorem lwake_code : cfun Try.prog [] 35 = some ⟨(.seq (.region 0 [⟨(some 2), (.box (.t 0)), none⟩, ⟨(some 4), (.alloc [.nil0, .nil0]), none⟩, ⟨(some 5), (.mov (.k .nil0)), none⟩, ⟨(some 6), (.mov (.k (.int .i64 0))), none⟩]) (.seq (.region 1 [⟨(some 13), (.load true 2 (.t 2)), none⟩, ⟨(some 14), (.call 67 [(.t 13)]), none⟩, ⟨(some 12), (.mov (.t 14)), none⟩, ⟨(some 15), (.ext (.t 12) 0), none⟩, ⟨(some 16), (.ext (.t 12) 1), none⟩, ⟨(some 7), (.mov (.t 15)), none⟩, ⟨(some 8), (.mov (.t 16)), none⟩]) (.seq (.seq (.region 2 [⟨(some 17), (.mov (.t 8)), none⟩, ⟨(some 18), (.bin .neq (.t 17) (.k (.int .i64 0))), none⟩]) (.cond 18 (.seq (.region 3 [⟨(some 19), (.build [.nil0, .nil0] []), none⟩, ⟨(some 20), (.mov (.t 8)), none⟩, ⟨none, (.store 2 (.t 4) (.t 19)), none⟩, ⟨(some 5), (.mov (.k .nil0)), none⟩, ⟨(some 6), (.mov (.t 20)), none⟩]) .ret) .skip)) (.seq (.seq (.region 4 [⟨(some 21), (.mov (.t 1)), none⟩, ⟨(some 22), (.bin .lss (.t 21) (.k (.int .i64 0))), none⟩, ⟨(some 23), (.mov (.t 22)), none⟩, ⟨(some 24), (.mov (.t 1)), (some (23, false))⟩, ⟨(some 25), (.bin .gtr (.t 24) (.k (.int .i64 1099511627776))), (some (23, false))⟩, ⟨(some 26), (.pick (.t 23) (.k (.bool true)) (.t 25)), none⟩]) (.cond 26 (.seq (.region 5 [⟨(some 27), (.build [.nil0, .nil0] []), none⟩, ⟨none, (.store 2 (.t 4) (.t 27)), none⟩, ⟨(some 5), (.mov (.k .nil0)), none⟩, ⟨(some 6), (.mov (.k (.int .i64 2))), none⟩]) .ret) .skip)) (.seq (.region 6 [⟨(some 9), (.mov (.k .nil0)), none⟩]) (.seq (.seq (.region 7 [⟨(some 28), (.mov (.t 7)), none⟩, ⟨(some 29), (.nchk (.t 28)), none⟩, ⟨(some 30), (.fad 0 (.t 29)), none⟩, ⟨(some 31), (.fad 0 (.t 30)), none⟩, ⟨(some 32), (.load false 1 (.t 31)), none⟩, ⟨(some 33), (.len (.t 32)), none⟩, ⟨(some 34), (.mov (.k (.int .i64 0))), none⟩]) (.block 0 (.loop (.seq (.region 8 [⟨(some 35), (.bin .lss (.t 34) (.t 33)), none⟩]) (.seq (.cond 35 .skip (.exit 0)) (.seq (.block 1 (.seq (.region 9 [⟨(some 36), (.mov (.t 34)), none⟩, ⟨(some 10), (.mov (.t 36)), none⟩]) (.seq (.region 10 [⟨(some 37), (.mov (.t 7)), none⟩, ⟨(some 38), (.nchk (.t 37)), none⟩, ⟨(some 39), (.fad 0 (.t 38)), none⟩, ⟨(some 40), (.fad 0 (.t 39)), none⟩, ⟨(some 41), (.load false 1 (.t 40)), none⟩, ⟨(some 42), (.mov (.t 10)), none⟩, ⟨(some 43), (.iads 6 (.t 41) (.t 42)), none⟩, ⟨(some 11), (.mov (.t 43)), none⟩]) (.seq (.region 11 [⟨(some 44), (.mov (.t 11)), none⟩, ⟨(some 45), (.nchk (.t 44)), none⟩, ⟨(some 46), (.fad 1 (.t 45)), none⟩, ⟨(some 47), (.load false 1 (.t 46)), none⟩, ⟨(some 48), (.bin .eql (.t 47) (.k (.int .i64 1))), none⟩]) (.cond 48 (.seq (.region 12 [⟨(some 49), (.mov (.t 11)), none⟩, ⟨(some 50), (.mov (.t 11)), none⟩, ⟨(some 51), (.mov (.t 1)), none⟩, ⟨(some 52), (.nchk (.t 49)), none⟩, ⟨(some 53), (.fad 1 (.t 52)), none⟩, ⟨none, (.store 1 (.t 53) (.k (.int .i64 2))), none⟩, ⟨(some 54), (.nchk (.t 50)), none⟩, ⟨(some 55), (.fad 3 (.t 54)), none⟩, ⟨none, (.store 1 (.t 55) (.t 51)), none⟩]) (.region 13 [⟨(some 56), (.mov (.t 9)), none⟩, ⟨(some 57), (.mov (.t 11)), none⟩, ⟨(some 58), (.nchk (.t 57)), none⟩, ⟨(some 59), (.fad 0 (.t 58)), none⟩, ⟨(some 60), (.load false 1 (.t 59)), none⟩, ⟨(some 61), (.bslice 1 1 [(.int .i64 0)] [(0, (.t 60))]), none⟩, ⟨(some 62), (.app 1 8 [(.int .i64 0)] (.t 56) (.t 61)), none⟩, ⟨(some 9), (.mov (.t 62)), none⟩])) .skip))))) (.region 14 [⟨(some 63), (.bin .add (.t 34) (.k (.int .i64 1))), none⟩, ⟨(some 34), (.mov (.t 63)), none⟩]))))))) (.seq (.region 15 [⟨(some 64), (.mov (.t 7)), none⟩, ⟨(some 65), (.nchk (.t 64)), none⟩, ⟨(some 66), (.fad 0 (.t 65)), none⟩, ⟨(some 67), (.load true 2 (.t 66)), none⟩, ⟨(some 68), (.mov (.t 9)), none⟩, ⟨none, (.store 2 (.t 4) (.t 67)), none⟩, ⟨(some 5), (.mov (.t 68)), none⟩, ⟨(some 6), (.mov (.k (.int .i64 0))), none⟩]) .ret))))))), [(.c 4 true 2), (.t 5), (.t 6)], 69⟩ := by kernel_rfl
theorem lwake_pf (L : List Lif) (R : List Rqs) (now : Int) (hb : BookOk L R) (n0 : 0 ≤ now) (n1 : now ≤ 1099511627776) :
    PF Try.prog 35 [bookD L R, I now] (.tup [bookD (wakeM L now) R, .rows 1 ((wokenM L).map fun z => [I z]), I 0]) := by
  have hop := lopen_hf L R hb
  have hll := hb.ll
  have c1 : ¬ now < 0 := by omega
  have c2 : ¬ 1099511627776 < now := by omega
  unfold bookD at hop ⊢
  refine PF.of follows_ok lwake_code (by simp) (by simp [argOk]) (by simp [noV, noC]) fun B hBN hB0 => acode_sound [0, 1, 2, 4, 5, 6, 7, 8, 9, 10, 11, 18, 26, 33, 34, 35, 48] [] _ _ _ ?_
  simp [AK_at, acode_seq, acode_region, acode_draw, acode_cond, ↓CB_t, ↓CB_f, CB_u, acode_block, acode_loop, acode_exit, acode_scope, acode_ret, acode_skip, seqQ_n, seqQ_e, seqQ_r, blockQ_n, blockQ_e, blockQ_r, TK_at, OK_at, SK_at, aops_nil, aops_cons, asch_done, asch_one, asch_two, asch_top, astep, aop_eq, isLoud, aloud, aloud1, isWrite, qv, evS, strip, gof, eget, hget, putO, eput, herase, oks, opnds, gS, afin, afin0, binD, arith, D.cells, takeD, fillD, keep, trim, envOf, Fin, aresl, aresv, resD, argOk, pickV, isP, deq, deqs, boundD, slD, lenD, isT, isSl, ptrIds, chunks, mn_min, mx_max, D.cells, splice_one, splice_more, Rbr_at, Rfr_at, frR, frV, frC, flatC, brwR, brwV, brwC, omap, leR, leV, leC, leL, leVL]
  refine WCall.hf0 hop (by simp [oks, opnds, gS, gof, eget]) (by simp [evS, eget, strip]) (by simp [argOk]) (by simp [noV, noC]) ?_
  rintro d H' nx' ⟨rfl, rfl, rfl⟩
  simp [AK_at, acode_seq, acode_region, acode_draw, acode_cond, ↓CB_t, ↓CB_f, CB_u, acode_block, acode_loop, acode_exit, acode_scope, acode_ret, acode_skip, seqQ_n, seqQ_e, seqQ_r, blockQ_n, blockQ_e, blockQ_r, TK_at, OK_at, SK_at, aops_nil, aops_cons, asch_done, asch_one, asch_two, asch_top, astep, aop_eq, isLoud, aloud, aloud1, isWrite, qv, evS, strip, gof, eget, hget, putO, eput, herase, oks, opnds, gS, afin, afin0, binD, arith, D.cells, takeD, fillD, keep, trim, envOf, Fin, aresl, aresv, resD, argOk, pickV, isP, deq, deqs, boundD, slD, lenD, isT, isSl, ptrIds, chunks, mn_min, mx_max, D.cells, splice_one, splice_more, Rbr_at, Rfr_at, frR, frV, frC, flatC, brwR, brwV, brwC, omap, leR, leV, leC, leL, leVL, rnR, rnV, rnC, rnO, rho_0, hputs, herases, bkH, c1, c2]
  refine W.loopS (fun i : Nat => ⟨[(34, I i), (33, I L.length), (9, .own 5), (7, .ptr 2 0), (6, I 0), (5, .nil0), (4, .ptr 1 0), (1, I now)], [(5, .row 1 ((wokenM (L.take i)).map fun z => [I z])), (4, .row 5 (R.map Rqs.D)), (3, .row 6 ((midW L now i).map Lif.D)), (2, .cells [.own 3, .own 4]), (1, .cells [.nil0, .nil0])], 6⟩)
    (fun n i => n = L.length - i ∧ i ≤ L.length) ?_ ?_
  · refine ⟨_, 0, (Gh.adopt 9 1 (by omega) (by simp [eget])).trans ?_, rfl, by omega⟩
    simp [eput]
    exact (Gh.ren [0, 1, 2, 3, 4, 5] (by simp [hB0]) (by simp [hB0] <;> decide) (by simp [eget, rnS, rnR, rnV, rnC, LtS, LtR, LtV, LtC, lget, midW, wokenM]) (by simp [hget, rnO, rnC, LtO, LtC, lget, midW, wokenM]) (.inl (by simp [lget, midW, wokenM])))
  rintro n i ⟨hn, hi⟩
  refine acode_sound [0, 1, 2, 4, 5, 6, 7, 8, 9, 10, 11, 18, 26, 33, 34, 35, 48] [] _ _ _ ?_
  have hml := midW_len L now i hi
  by_cases hlt : i < L.length
  · have hmg := midW_get L now i hlt
    have hms := midW_set L now i hlt
    have hws := woken_succ L i hlt
    have hsame := midW_same L now i hlt
    have hwl := woken_len (L.take i)
    rw [List.length_take] at hwl
    have hcap : ((wokenM (L.take i)).length + 1) * 8 ≤ 140737488355328 := by omega
    obtain ⟨o, ho⟩ : ∃ o, o = L[i] := ⟨_, rfl⟩
    rw [← ho] at hmg hms hws hsame
    have hmg2 : ∀ h, (midW L now i)[i]'h = o := fun h => by
      rw [List.getElem?_eq_getElem h] at hmg; exact Option.some.inj hmg
    have ii : InR ((i : Int) + 1) := inW (by omega) (by omega)
    by_cases s1 : o.state = 1
    · rw [if_pos s1] at hws
      have hwx : wakeX now o = ⟨o.backend, 2, o.weight, now, o.til, o.req⟩ := by unfold wakeX; rw [if_pos s1]
      rw [hwx] at hms
      have hms' : ((midW L now i).map Lif.D).set i [I o.backend, I 2, I o.weight, I now, I o.til, I o.req] = (midW L now (i + 1)).map Lif.D := by
        rw [← hms, List.map_set]; rfl
      simp [AK_at, acode_seq, acode_region, acode_draw, acode_cond, ↓CB_t, ↓CB_f, CB_u, acode_block, acode_loop, acode_exit, acode_scope, acode_ret, acode_skip, seqQ_n, seqQ_e, seqQ_r, blockQ_n, blockQ_e, blockQ_r, TK_at, OK_at, SK_at, aops_nil, aops_cons, asch_done, asch_one, asch_two, asch_top, astep, aop_eq, isLoud, aloud, aloud1, isWrite, qv, evS, strip, gof, eget, hget, putO, eput, herase, oks, opnds, gS, afin, afin0, binD, arith, D.cells, takeD, fillD, keep, trim, envOf, Fin, aresl, aresv, resD, argOk, pickV, isP, deq, deqs, boundD, slD, lenD, isT, isSl, ptrIds, chunks, mn_min, mx_max, D.cells, splice_one, splice_more, Rbr_at, Rfr_at, frR, frV, frC, flatC, brwR, brwV, brwC, omap, leR, leV, leC, leL, leVL, hlt, hml, hmg, hmg2, Lif.D, s1, hcap, ii]
      exact ⟨_, i + 1, (Gh.ren [7, 1, 2, 3, 4, 7] (by simp [hB0]) (by simp [hB0] <;> decide) (by simp [eget, rnS, rnR, rnV, rnC, LtS, LtR, LtV, LtC, lget, hws, hms']) (by simp [hget, rnO, rnC, LtO, LtC, lget, hws, hms']) (.inl (by simp [lget, hws, hms']))), by omega, rfl, by omega⟩
    · rw [if_neg s1, List.append_nil] at hws
      simp [AK_at, acode_seq, acode_region, acode_draw, acode_cond, ↓CB_t, ↓CB_f, CB_u, acode_block, acode_loop, acode_exit, acode_scope, acode_ret, acode_skip, seqQ_n, seqQ_e, seqQ_r, blockQ_n, blockQ_e, blockQ_r, TK_at, OK_at, SK_at, aops_nil, aops_cons, asch_done, asch_one, asch_two, asch_top, astep, aop_eq, isLoud, aloud, aloud1, isWrite, qv, evS, strip, gof, eget, hget, putO, eput, herase, oks, opnds, gS, afin, afin0, binD, arith, D.cells, takeD, fillD, keep, trim, envOf, Fin, aresl, aresv, resD, argOk, pickV, isP, deq, deqs, boundD, slD, lenD, isT, isSl, ptrIds, chunks, mn_min, mx_max, D.cells, splice_one, splice_more, Rbr_at, Rfr_at, frR, frV, frC, flatC, brwR, brwV, brwC, omap, leR, leV, leC, leL, leVL, hlt, hml, hmg, hmg2, Lif.D, s1, ii]
      exact ⟨_, i + 1, (Gh.ren [0, 1, 2, 3, 4, 5] (by simp [hB0]) (by simp [hB0] <;> decide) (by simp [eget, rnS, rnR, rnV, rnC, LtS, LtR, LtV, LtC, lget, hws, hsame s1]) (by simp [hget, rnO, rnC, LtO, LtC, lget, hws, hsame s1]) (.inl (by simp [lget, hws, hsame s1]))), by omega, rfl, by omega⟩
  · obtain rfl : i = L.length := by omega
    have hm : midW L now L.length = wakeM L now := by simp [midW, wakeM]
    simp [AK_at, acode_seq, acode_region, acode_draw, acode_cond, ↓CB_t, ↓CB_f, CB_u, acode_block, acode_loop, acode_exit, acode_scope, acode_ret, acode_skip, seqQ_n, seqQ_e, seqQ_r, blockQ_n, blockQ_e, blockQ_r, TK_at, OK_at, SK_at, aops_nil, aops_cons, asch_done, asch_one, asch_two, asch_top, astep, aop_eq, isLoud, aloud, aloud1, isWrite, qv, evS, strip, gof, eget, hget, putO, eput, herase, oks, opnds, gS, afin, afin0, binD, arith, D.cells, takeD, fillD, keep, trim, envOf, Fin, aresl, aresv, resD, argOk, pickV, isP, deq, deqs, boundD, slD, lenD, isT, isSl, ptrIds, chunks, mn_min, mx_max, D.cells, splice_one, splice_more, Rbr_at, Rfr_at, frR, frV, frC, flatC, brwR, brwV, brwC, omap, leR, leV, leC, leL, leVL, hm]
end Go.Proofs.Ytfkeddefajkobaa

set_option linter.unusedSimpArgs false
set_option linter.unusedVariables false
set_option maxRecDepth 100000
namespace Go.Proofs.Ytfkeddefajkobaa
def plea (x : List Int) : Rqs := ⟨pickedZ (x.getD 0 0) 12, 1 + pickedZ (x.getD 1 0) 2, pickedZ (x.getD 2 0) 5, pickedZ (x.getD 3 0) 10, 0⟩
def pleaT (x : List Int) : Int := pickedZ (x.getD 4 0) 3
structure Bk where
  L : List Lif
  R : List Rqs
  now : Int
def askStep (s : Bk) (x : List Int) : Bk :=
  if pleaT x = 0 then ⟨(askM s.L s.R (plea x) s.now 9).L, (askM s.L s.R (plea x) s.now 9).R, s.now⟩
  else ⟨wakeM (askM s.L s.R (plea x) s.now 9).L (s.now + pleaT x), (askM s.L s.R (plea x) s.now 9).R, s.now + pleaT x⟩
def askedF (l : List (List Int)) : Bk := l.foldl askStep ⟨[], [], 0⟩
def askedM (l : List (List Int)) : Bk := askedF (l.take 30)
theorem askedF_succ (l : List (List Int)) (i : Nat) (h : i < l.length) : askedF (l.take (i + 1)) = askStep (askedF (l.take i)) l[i] := by
  unfold askedF
  rw [List.take_succ_eq_append_getElem h, List.foldl_append]; rfl
theorem plea_ok (x : List Int) : RqsOk (plea x) := by
  have h1 := pickedZ_range (x.getD 0 0) 12 (by omega)
  have h2 := pickedZ_range (x.getD 1 0) 2 (by omega)
  exact ⟨by simp only [plea]; omega, by simp only [plea]; omega, by simp only [plea]; omega⟩
theorem ask_mem {L : List Lif} {R : List Rqs} {r : Rqs} {now d : Int} : ∀ x ∈ (askM L R r now d).L, (∃ y ∈ L, x.backend = y.backend ∧ x.since = y.since) ∨ (x.backend = r.backend ∧ x.since = 0) := by
  intro x hx
  have same : ∀ z ∈ L, (∃ y ∈ L, z.backend = y.backend ∧ z.since = y.since) ∨ (z.backend = r.backend ∧ z.since = 0) := fun z hz => .inl ⟨z, hz, rfl, rfl⟩
  unfold askM at hx
  split at hx
  · exact same x hx
  · split at hx
    · exact same x hx
    · split at hx
      · simp only at hx
        unfold joinM at hx
        split at hx
        · exact same x hx
        · split at hx
          · split at hx
            · rcases List.mem_or_eq_of_mem_set hx with hx | rfl
              · exact same x hx
              · exact .inr ⟨rfl, rfl⟩
            · exact same x hx
          · rcases List.mem_append.1 hx with hx | hx
            · rcases List.mem_append.1 hx with hx | hx
              · exact same x (List.mem_of_mem_take hx)
              · rw [List.mem_singleton.1 hx]; exact .inr ⟨rfl, rfl⟩
            · exact same x (List.mem_of_mem_drop hx)
      · simp only at hx
        unfold retireM at hx
        simp only at hx
        split at hx
        · exact same x hx
        · rename_i h0
          obtain ⟨h1, h2, h3⟩ := findM_at (by omega : 0 ≤ findM L r.backend)
          rw [h3] at hx
          split at hx
          · exact same x hx
          · split at hx
            · exact same x hx
            · rcases List.mem_or_eq_of_mem_set hx with hx | rfl
              · exact same x hx
              · exact .inl ⟨_, List.getElem_mem h1, rfl, rfl⟩
theorem ask_reqs {L : List Lif} {R : List Rqs} {r : Rqs} {now d : Int} : ((askM L R r now d).R = R ∧ (askM L R r now d).fresh = false ∧ (0 ≤ idxZ (qI r.id) R ∨ R.length = 100)) ∨ (∃ q : Rqs, q.id = r.id ∧ q.answer = (askM L R r now d).answer ∧ (askM L R r now d).R = R ++ [q] ∧ (askM L R r now d).fresh = true ∧ ¬ 0 ≤ idxZ (qI r.id) R ∧ R.length ≠ 100) := by
  unfold askM
  split
  · rename_i h; exact .inl ⟨rfl, rfl, .inl h⟩
  · rename_i h1
    split
    · rename_i h; exact .inl ⟨rfl, rfl, .inr h⟩
    · rename_i h2
      split
      · exact .inr ⟨{ r with answer := (joinM L r).2 }, rfl, rfl, rfl, rfl, h1, h2⟩
      · exact .inr ⟨{ r with weight := 0, answer := (retireM L r now d).2 }, rfl, rfl, rfl, rfl, h1, h2⟩
structure AInv (n : Nat) (s : Bk) : Prop where
  ok : BookOk s.L s.R
  n0 : 0 ≤ s.now
  n1 : s.now ≤ 2 * n
  rl : s.R.length ≤ n
  r1 : 0 < n → s.R ≠ []
  ri : ∀ r ∈ s.R, r.id < 12
  lb : ∀ x ∈ s.L, x.backend < 5 ∧ x.since ≤ s.now
theorem wake_mem {L : List Lif} {now : Int} : ∀ x ∈ wakeM L now, ∃ y ∈ L, x.backend = y.backend ∧ (x.since = y.since ∨ x.since = now) := fun x hx => by
  obtain ⟨y, hy, rfl⟩ := List.mem_map.1 hx
  refine ⟨y, hy, ?_⟩
  unfold wakeX
  split
  · exact ⟨rfl, .inr rfl⟩
  · exact ⟨rfl, .inl rfl⟩
theorem askStep_inv {n : Nat} {s : Bk} (h : AInv n s) (x : List Int) (hn : n < 30) : AInv (n + 1) (askStep s x) := by
  have ht := pickedZ_range (x.getD 4 0) 3 (by omega)
  have hid := pickedZ_range (x.getD 0 0) 12 (by omega)
  have hbk := pickedZ_range (x.getD 2 0) 5 (by omega)
  have hn1 := h.n1
  have hn0 := h.n0
  have hok := ask_ok h.ok (plea x) (plea_ok x) s.now 9 h.n0 (by omega) (by omega) (by omega)
  have hm := ask_mem (L := s.L) (R := s.R) (r := plea x) (now := s.now) (d := 9)
  have hrl := h.rl
  have hr := ask_reqs (L := s.L) (R := s.R) (r := plea x) (now := s.now) (d := 9)
  have hR : (askM s.L s.R (plea x) s.now 9).R.length ≤ n + 1 ∧ (askM s.L s.R (plea x) s.now 9).R ≠ [] ∧ ∀ r ∈ (askM s.L s.R (plea x) s.now 9).R, r.id < 12 := by
    rcases hr with ⟨h1, _, h2⟩ | ⟨q, hq, _, h1, _⟩
    · rw [h1]
      refine ⟨by omega, ?_, h.ri⟩
      rcases h2 with h2 | h2
      · intro e; rw [e] at h2; simp [idxZ] at h2
      · omega
    · rw [h1]
      refine ⟨by simp; omega, by simp, fun r hr => ?_⟩
      rcases List.mem_append.1 hr with hr | hr
      · exact h.ri r hr
      · rw [List.mem_singleton.1 hr, hq]; simp only [plea]; omega
  have hL : ∀ y ∈ (askM s.L s.R (plea x) s.now 9).L, y.backend < 5 ∧ y.since ≤ s.now := fun y hy => by
    rcases hm y hy with ⟨z, hz, h1, h2⟩ | ⟨h1, h2⟩
    · rw [h1, h2]; exact h.lb z hz
    · rw [h1, h2]; simp only [plea]; omega
  unfold askStep pleaT
  generalize askM s.L s.R (plea x) s.now 9 = a at hok hR hL ⊢
  split
  · exact ⟨hok, hn0, by simp only; omega, hR.1, fun _ => hR.2.1, hR.2.2, hL⟩
  · refine ⟨wake_ok hok _ (by omega) (by omega), by simp only; omega, by simp only; omega, hR.1, fun _ => hR.2.1, hR.2.2, fun y hy => ?_⟩
    obtain ⟨z, hz, h1, h2⟩ := wake_mem y hy
    have := hL z hz
    simp only
    rw [h1]
    refine ⟨this.1, ?_⟩
    rcases h2 with h2 | h2 <;> omega
theorem askedF_inv (l : List (List Int)) : ∀ i, i ≤ l.length → i ≤ 30 → AInv i (askedF (l.take i))
  | 0, _, _ => ⟨⟨by simp [askedF], by simp [askedF], by simp [askedF], by simp [askedF], by simp [askedF], by simp [askedF]⟩, by simp [askedF], by simp [askedF], by simp [askedF], fun h => by omega, by simp [askedF], by simp [askedF]⟩
  | i + 1, h, h30 => by
    rw [askedF_succ l i h]
    exact askStep_inv (askedF_inv l i (by omega) (by omega)) _ (by omega)
theorem askedM_inv (l : List (List Int)) : AInv (min 30 l.length) (askedM l) := by
  have := askedF_inv (l.take 30) (l.take 30).length (Nat.le_refl _) (by simp; omega)
  rw [List.take_length, List.length_take] at this
  exact this
theorem idx_old {R : List Rqs} {i : Int} (h : ∀ r ∈ R, r.id < i) : ¬ 0 ≤ idxZ (qI i) R := fun h0 => by
  obtain ⟨h1, h2, _⟩ := idxZ_get _ R h0
  have := h _ (List.getElem_mem h1)
  simp only [qI, decide_eq_true_eq] at h2
  omega
/-- a request that comes again -/
theorem ask_again {L : List Lif} {R : List Rqs} {q : Rqs} {r : Rqs} {now d : Int} (hid : (∀ x ∈ R, x.id ≠ r.id)) (hq : q.id = r.id) : askM L (R ++ [q]) r now d = ⟨L, R ++ [q], q.answer, false⟩ := by
  have h1 : idxZ (qI r.id) (R ++ [q]) = R.length := by
    refine idxZ_at _ _ R.length (by simp) (fun j hj => ?_) ?_
    · rw [List.getElem_append_left hj]
      simpa [qI] using hid _ (List.getElem_mem hj)
    · simp [qI, hq]
  unfold askM
  rw [h1, if_pos (by omega)]
  simp
theorem find_ins {L : List Lif} {x : Lif} {n : Int} (p : Nat) (hx : x.backend ≠ n) : (L.take p ++ [x] ++ L.drop p).find? (qB n) = L.find? (qB n) := by
  have h1 : [x].find? (qB n) = none := by simp [qB, hx]
  conv => rhs; rw [← List.take_append_drop p L]
  rw [List.append_assoc, List.find?_append, List.find?_append, List.find?_append, h1]
  simp
theorem find_set {L : List Lif} {x : Lif} {n : Int} {i : Nat} (hi : i < L.length) (h0 : L[i].backend ≠ n) (hx : x.backend ≠ n) : (L.set i x).find? (qB n) = L.find? (qB n) := by
  have e1 : L.set i x = L.take i ++ (x :: L.drop (i + 1)) := by rw [List.set_eq_take_append_cons_drop, if_pos hi]
  have e2 : L = L.take i ++ (L[i] :: L.drop (i + 1)) := by rw [← List.drop_eq_getElem_cons hi, List.take_append_drop]
  rw [e1]
  conv => rhs; rw [e2]
  rw [List.find?_append, List.find?_append, List.find?_cons, List.find?_cons]
  simp [qB, hx, h0]
theorem ofM_find (L : List Lif) (n : Int) : ofM L n = match L.find? (qB n) with | some x => (x, 0) | none => (default, 8) := by
  unfold ofM
  split
  · rename_i h
    have h1 := findM_neg h
    have : L.find? (qB n) = none := List.find?_eq_none.2 fun x hx => by simpa [qB] using h1 x hx
    rw [this]
  · rename_i h
    obtain ⟨h1, h2, h3⟩ := findM_at (by omega : 0 ≤ findM L n)
    obtain ⟨_, _, h4⟩ := idxZ_get (qB n) L (by unfold findM at h; omega)
    have : L.find? (qB n) = some L[(findM L n).toNat] := by
      rw [List.find?_eq_some_iff_getElem]
      exact ⟨decide_eq_true h2, (findM L n).toNat, h1, rfl, fun j hj => by
        have := h4 j hj
        simp only [Bool.not_eq_true']
        exact this⟩
    simp only [this, h3]
    rfl
/-- what is asked of one changes no other -/
theorem ask_other {L : List Lif} {R : List Rqs} {r : Rqs} {now d n : Int} (hn : r.backend ≠ n) : ofM (askM L R r now d).L n = ofM L n := by
  rw [ofM_find, ofM_find]
  have e : (askM L R r now d).L.find? (qB n) = L.find? (qB n) := by
    unfold askM
    split
    · rfl
    · split
      · rfl
      · split
        · simp only
          unfold joinM
          split
          · rfl
          · split
            · rename_i h0
              obtain ⟨h1, h2, h3⟩ := findM_at h0
              split
              · exact find_set h1 (by rw [h2]; exact hn) hn
              · rfl
            · exact find_ins _ hn
        · simp only
          unfold retireM
          simp only
          split
          · rfl
          · rename_i h0
            obtain ⟨h1, h2, h3⟩ := findM_at (by omega : 0 ≤ findM L r.backend)
            rw [h3]
            split
            · rfl
            · split
              · rfl
              · exact find_set h1 (by rw [h2]; exact hn) (by simp only; rw [h2]; exact hn)
  rw [e]
theorem wake_wake (L : List Lif) (now : Int) : wakeM (wakeM L now) now = wakeM L now ∧ wokenM (wakeM L now) = [] := by
  have hs : ∀ x ∈ wakeM L now, x.state ≠ 1 := fun x hx => by
    obtain ⟨y, hy, rfl⟩ := List.mem_map.1 hx
    unfold wakeX
    split
    · simp
    · assumption
  constructor
  · have : wakeM (wakeM L now) now = (wakeM L now).map id := List.map_congr_left fun x hx => by
      unfold wakeX; rw [if_neg (hs x hx)]; rfl
    rw [this, List.map_id]
  · unfold wokenM
    rw [List.filter_eq_nil_iff.2 fun x hx => by simpa using hs x hx]; rfl
end Go.Proofs.Ytfkeddefajkobaa

set_option linter.unusedSimpArgs false
set_option linter.unusedVariables false
set_option maxRecDepth 100000
set_option maxHeartbeats 4000000
namespace Go.Proofs.Ytfkeddefajkobaa
open Go.RowKit
theorem five {r : List Int} (h : r.length = 5) : ∃ a b c d e, r = [a, b, c, d, e] := by
  match r, h with
  | [a, b, c, d, e], _ => exact ⟨a, b, c, d, e, rfl⟩
theorem asked_code : cfun Try.prog [] 34 = some ⟨(.seq (.region 0 [⟨(some 2), (.alloc [.nil0, .nil0]), none⟩, ⟨(some 3), (.mov (.k (.int .i64 0))), none⟩, ⟨(some 4), (.mov (.k (.bool false))), none⟩]) (.seq (.region 1 [⟨(some 5), (.alloc [.nil0, .nil0]), none⟩]) (.seq (.region 2 [⟨(some 6), (.mov (.k (.int .i64 0))), none⟩]) (.seq (.seq (.region 3 [⟨(some 7), (.mov (.k (.int .i64 0))), none⟩]) (.block 0 (.loop (.seq (.seq (.region 4 [⟨(some 17), (.mov (.t 7)), none⟩, ⟨(some 18), (.mov (.t 0)), none⟩, ⟨(some 19), (.len (.t 18)), none⟩, ⟨(some 20), (.bin .lss (.t 17) (.t 19)), none⟩, ⟨(some 21), (.mov (.t 20)), none⟩, ⟨(some 22), (.mov (.t 7)), (some (21, true))⟩, ⟨(some 23), (.bin .lss (.t 22) (.k (.int .i64 30))), (some (21, true))⟩, ⟨(some 24), (.pick (.t 21) (.t 23) (.k (.bool false))), none⟩]) (.cond 24 .skip (.exit 0))) (.seq (.block 1 (.seq (.region 6 [⟨(some 27), (.mov (.t 0)), none⟩, ⟨(some 28), (.mov (.t 7)), none⟩, ⟨(some 29), (.iads 5 (.t 27) (.t 28)), none⟩, ⟨(some 30), (.load true 5 (.t 29)), none⟩, ⟨(some 8), (.alloc [(.int .i64 0), (.int .i64 0), (.int .i64 0), (.int .i64 0), (.int .i64 0)]), none⟩, ⟨none, (.store 5 (.t 8) (.t 30)), none⟩]) (.seq (.draw 7 (.one true ⟨(some 31), (.fad 0 (.t 8)), none⟩ (.one true ⟨(some 32), (.load false 1 (.t 31)), none⟩ (.one true ⟨(some 34), (.fad 1 (.t 8)), none⟩ (.one true ⟨(some 35), (.load false 1 (.t 34)), none⟩ (.one true ⟨(some 38), (.fad 2 (.t 8)), none⟩ (.one true ⟨(some 39), (.load false 1 (.t 38)), none⟩ (.one true ⟨(some 41), (.fad 3 (.t 8)), none⟩ (.one true ⟨(some 42), (.load false 1 (.t 41)), none⟩ (.two (.one true ⟨(some 33), (.call 25 [(.t 32), (.k (.int .i64 12))]), none⟩ (.two (.one true ⟨(some 36), (.call 25 [(.t 35), (.k (.int .i64 2))]), none⟩ (.one true ⟨(some 37), (.bin .add (.k (.int .i64 1)) (.t 36)), none⟩ (.two (.one true ⟨(some 40), (.call 25 [(.t 39), (.k (.int .i64 5))]), none⟩ (.two (.one true ⟨(some 43), (.call 25 [(.t 42), (.k (.int .i64 10))]), none⟩ (.one true ⟨(some 44), (.build [(.int .i64 0), (.int .i64 0), (.int .i64 0), (.int .i64 0), (.int .i64 0)] [(0, (1, (.t 33))), (1, (1, (.t 37))), (2, (1, (.t 40))), (3, (1, (.t 43)))]), none⟩ (.one true ⟨(some 9), (.alloc [(.int .i64 0), (.int .i64 0), (.int .i64 0), (.int .i64 0), (.int .i64 0)]), none⟩ (.one false ⟨none, (.store 5 (.t 9) (.t 44)), none⟩ .done)))) (.two (.one true ⟨(some 9), (.alloc [(.int .i64 0), (.int .i64 0), (.int .i64 0), (.int .i64 0), (.int .i64 0)]), none⟩ (.one true ⟨(some 43), (.call 25 [(.t 42), (.k (.int .i64 10))]), none⟩ (.one true ⟨(some 44), (.build [(.int .i64 0), (.int .i64 0), (.int .i64 0), (.int .i64 0), (.int .i64 0)] [(0, (1, (.t 33))), (1, (1, (.t 37))), (2, (1, (.t 40))), (3, (1, (.t 43)))]), none⟩ (.one false ⟨none, (.store 5 (.t 9) (.t 44)), none⟩ .done)))) .top))) (.two (.one true ⟨(some 9), (.alloc [(.int .i64 0), (.int .i64 0), (.int .i64 0), (.int .i64 0), (.int .i64 0)]), none⟩ (.one true ⟨(some 40), (.call 25 [(.t 39), (.k (.int .i64 5))]), none⟩ (.one true ⟨(some 43), (.call 25 [(.t 42), (.k (.int .i64 10))]), none⟩ (.one true ⟨(some 44), (.build [(.int .i64 0), (.int .i64 0), (.int .i64 0), (.int .i64 0), (.int .i64 0)] [(0, (1, (.t 33))), (1, (1, (.t 37))), (2, (1, (.t 40))), (3, (1, (.t 43)))]), none⟩ (.one false ⟨none, (.store 5 (.t 9) (.t 44)), none⟩ .done))))) .top)))) (.two (.one true ⟨(some 9), (.alloc [(.int .i64 0), (.int .i64 0), (.int .i64 0), (.int .i64 0), (.int .i64 0)]), none⟩ (.one true ⟨(some 36), (.call 25 [(.t 35), (.k (.int .i64 2))]), none⟩ (.one true ⟨(some 37), (.bin .add (.k (.int .i64 1)) (.t 36)), none⟩ (.one true ⟨(some 40), (.call 25 [(.t 39), (.k (.int .i64 5))]), none⟩ (.one true ⟨(some 43), (.call 25 [(.t 42), (.k (.int .i64 10))]), none⟩ (.one true ⟨(some 44), (.build [(.int .i64 0), (.int .i64 0), (.int .i64 0), (.int .i64 0), (.int .i64 0)] [(0, (1, (.t 33))), (1, (1, (.t 37))), (2, (1, (.t 40))), (3, (1, (.t 43)))]), none⟩ (.one false ⟨none, (.store 5 (.t 9) (.t 44)), none⟩ .done))))))) .top))) (.two (.one true ⟨(some 9), (.alloc [(.int .i64 0), (.int .i64 0), (.int .i64 0), (.int .i64 0), (.int .i64 0)]), none⟩ (.one true ⟨(some 33), (.call 25 [(.t 32), (.k (.int .i64 12))]), none⟩ (.one true ⟨(some 36), (.call 25 [(.t 35), (.k (.int .i64 2))]), none⟩ (.one true ⟨(some 37), (.bin .add (.k (.int .i64 1)) (.t 36)), none⟩ (.one true ⟨(some 40), (.call 25 [(.t 39), (.k (.int .i64 5))]), none⟩ (.one true ⟨(some 43), (.call 25 [(.t 42), (.k (.int .i64 10))]), none⟩ (.one true ⟨(some 44), (.build [(.int .i64 0), (.int .i64 0), (.int .i64 0), (.int .i64 0), (.int .i64 0)] [(0, (1, (.t 33))), (1, (1, (.t 37))), (2, (1, (.t 40))), (3, (1, (.t 43)))]), none⟩ (.one false ⟨none, (.store 5 (.t 9) (.t 44)), none⟩ .done)))))))) .top))))))))))) (.seq (.region 8 [⟨(some 46), (.load true 2 (.t 5)), none⟩, ⟨(some 47), (.load true 5 (.t 9)), none⟩, ⟨(some 48), (.mov (.t 6)), none⟩, ⟨(some 49), (.call 32 [(.t 46), (.t 47), (.t 48), (.k (.int .i64 9))]), none⟩, ⟨(some 45), (.mov (.t 49)), none⟩, ⟨(some 50), (.ext (.t 45) 0), none⟩, ⟨(some 51), (.ext (.t 45) 1), none⟩, ⟨(some 52), (.ext (.t 45) 2), none⟩, ⟨(some 53), (.ext (.t 45) 3), none⟩, ⟨(some 10), (.alloc [.nil0, .nil0]), none⟩, ⟨none, (.store 2 (.t 10) (.t 50)), none⟩, ⟨(some 11), (.mov (.t 51)), none⟩, ⟨(some 12), (.mov (.t 52)), none⟩, ⟨(some 13), (.mov (.t 53)), none⟩]) (.seq (.seq (.region 9 [⟨(some 54), (.mov (.t 13)), none⟩, ⟨(some 55), (.bin .neq (.t 54) (.k (.int .i64 0))), none⟩, ⟨(some 56), (.mov (.t 55)), none⟩, ⟨(some 57), (.fad 1 (.t 10)), (some (56, false))⟩, ⟨(some 58), (.load false 1 (.t 57)), (some (56, false))⟩, ⟨(some 59), (.len (.t 58)), (some (56, false))⟩, ⟨(some 60), (.bin .eql (.t 59) (.k (.int .i64 0))), (some (56, false))⟩, ⟨(some 61), (.pick (.t 56) (.k (.bool true)) (.t 60)), none⟩]) (.cond 61 (.seq (.region 10 [⟨(some 62), (.load true 2 (.t 5)), none⟩, ⟨(some 63), (.mov (.t 6)), none⟩, ⟨none, (.store 2 (.t 2) (.t 62)), none⟩, ⟨(some 3), (.mov (.t 63)), none⟩, ⟨(some 4), (.mov (.k (.bool false))), none⟩]) .ret) .skip)) (.seq (.region 11 [⟨(some 64), (.load true 2 (.t 10)), none⟩, ⟨none, (.store 2 (.t 5) (.t 64)), none⟩]) (.seq (.seq (.region 12 [⟨(some 65), (.fad 4 (.t 8)), none⟩, ⟨(some 66), (.load false 1 (.t 65)), none⟩, ⟨(some 67), (.call 25 [(.t 66), (.k (.int .i64 3))]), none⟩, ⟨(some 68), (.bin .eql (.t 67) (.k (.int .i64 0))), none⟩]) (.cond 68 (.exit 1) .skip)) (.seq (.region 13 [⟨(some 69), (.mov (.t 6)), none⟩, ⟨(some 70), (.fad 4 (.t 8)), none⟩, ⟨(some 71), (.load false 1 (.t 70)), none⟩, ⟨(some 72), (.call 25 [(.t 71), (.k (.int .i64 3))]), none⟩, ⟨(some 73), (.bin .add (.t 69) (.t 72)), none⟩, ⟨(some 6), (.mov (.t 73)), none⟩]) (.seq (.region 14 [⟨(some 75), (.load true 2 (.t 5)), none⟩, ⟨(some 76), (.mov (.t 6)), none⟩, ⟨(some 77), (.call 35 [(.t 75), (.t 76)]), none⟩, ⟨(some 74), (.mov (.t 77)), none⟩, ⟨(some 78), (.ext (.t 74) 0), none⟩, ⟨(some 79), (.ext (.t 74) 1), none⟩, ⟨(some 80), (.ext (.t 74) 2), none⟩, ⟨(some 14), (.alloc [.nil0, .nil0]), none⟩, ⟨none, (.store 2 (.t 14) (.t 78)), none⟩, ⟨(some 15), (.mov (.t 79)), none⟩, ⟨(some 16), (.mov (.t 80)), none⟩]) (.seq (.seq (.region 15 [⟨(some 81), (.mov (.t 16)), none⟩, ⟨(some 82), (.bin .neq (.t 81) (.k (.int .i64 0))), none⟩]) (.cond 82 (.seq (.region 16 [⟨(some 83), (.load true 2 (.t 5)), none⟩, ⟨(some 84), (.mov (.t 6)), none⟩, ⟨none, (.store 2 (.t 2) (.t 83)), none⟩, ⟨(some 3), (.mov (.t 84)), none⟩, ⟨(some 4), (.mov (.k (.bool false))), none⟩]) .ret) .skip)) (.region 17 [⟨(some 85), (.load true 2 (.t 14)), none⟩, ⟨none, (.store 2 (.t 5) (.t 85)), none⟩]))))))))))) (.region 5 [⟨(some 25), (.mov (.t 7)), none⟩, ⟨(some 26), (.bin .add (.t 25) (.k (.int .i64 1))), none⟩, ⟨(some 7), (.mov (.t 26)), none⟩])))))) (.seq (.region 18 [⟨(some 86), (.load true 2 (.t 5)), none⟩, ⟨(some 87), (.mov (.t 6)), none⟩, ⟨none, (.store 2 (.t 2) (.t 86)), none⟩, ⟨(some 3), (.mov (.t 87)), none⟩, ⟨(some 4), (.mov (.k (.bool true))), none⟩]) .ret))))), [(.c 2 true 2), (.t 3), (.t 4)], 88⟩ := by kernel_rfl
theorem asked_pf (l : List (List Int)) (hl : l.length ≤ Go.maxLen) (hr : ∀ r ∈ l, r.length = 5 ∧ ∀ z ∈ r, InR z) : PF Try.prog 34 [.rows 5 (l.map fun r => r.map I)] (.tup [bookD (askedM l).L (askedM l).R, I (askedM l).now, .bool true]) := by
  unfold Go.maxLen at hl
  unfold bookD
  refine PF.of follows_ok asked_code (by simp) (by simp [argOk]) (by simp [noV, noC]) fun B hBN hB0 => acode_sound [0, 2, 3, 4, 5, 6, 7, 8, 9, 10, 13, 14, 16, 24, 61, 68, 82] [] _ _ _ ?_
  simp [AK_at, acode_seq, acode_region, acode_draw, acode_cond, ↓CB_t, ↓CB_f, CB_u, acode_block, acode_loop, acode_exit, acode_scope, acode_ret, acode_skip, seqQ_n, seqQ_e, seqQ_r, blockQ_n, blockQ_e, blockQ_r, TK_at, OK_at, SK_at, aops_nil, aops_cons, asch_done, asch_one, asch_two, asch_top, astep, aop_eq, isLoud, aloud, aloud1, isWrite, qv, evS, strip, gof, eget, hget, putO, eput, herase, oks, opnds, gS, afin, afin0, binD, arith, D.cells, takeD, fillD, keep, trim, envOf, Fin, aresl, aresv, resD, argOk, pickV, isP, deq, deqs, boundD, slD, lenD, isT, isSl, ptrIds, chunks, mn_min, mx_max, D.cells, splice_one, splice_more, Rbr_at, Rfr_at, frR, frV, frC, flatC, brwR, brwV, brwC, omap, leR, leV, leC, leL, leVL]
  refine W.loopS (fun i : Nat => ⟨[(7, I i), (6, I (askedF (l.take i)).now), (5, .ptr 1 0), (4, .bool false), (3, I 0), (2, .ptr 0 0), (0, D.rows 5 (l.map fun r => r.map I))], [(1, .cells [.rows 6 ((askedF (l.take i)).L.map Lif.D), .rows 5 ((askedF (l.take i)).R.map Rqs.D)]), (0, .cells [.nil0, .nil0])], 2⟩)
    (fun n i => n = 30 - i ∧ i ≤ 30 ∧ i ≤ l.length) ?_ ?_
  · refine ⟨_, 0, (Gh.nilC 1 0 6 [.nil0, .nil0] (by simp [hget]) rfl).trans ((Gh.nilC 1 1 5 [.rows 6 [], .nil0] (by simp [hget, eput]) rfl).trans ?_), rfl, by omega, by omega⟩
    simp [eput]
    exact (Gh.ren [0, 1] (by simp [hB0]) (by simp [hB0] <;> decide) (by simp [eget, rnS, rnR, rnV, rnC, LtS, LtR, LtV, LtC, lget, askedF]) (by simp [hget, rnO, rnC, LtO, LtC, lget, askedF]) (.inl (by simp [lget, askedF])))
  rintro n i ⟨hn, h30, hi⟩
  refine acode_sound [0, 2, 3, 4, 5, 6, 7, 8, 9, 10, 13, 14, 16, 24, 61, 68, 82] [] _ _ _ ?_
  by_cases hlt : i < l.length ∧ i < 30
  · obtain ⟨hlt, hlt2⟩ := hlt
    have hz : (i : Int) < 30 := by omega
    have hs := askedF_succ l i hlt
    have hinv := askedF_inv l i hi h30
    obtain ⟨hx1, hx2⟩ := hr _ (List.getElem_mem hlt)
    obtain ⟨a, b, c, d, e, hab⟩ := five hx1
    rw [hab] at hx2 hs
    have p1 := picked_pf a 12 (hx2 a (by simp)) (by omega)
    have p2 := picked_pf b 2 (hx2 b (by simp)) (by omega)
    have p3 := picked_pf c 5 (hx2 c (by simp)) (by omega)
    have p4 := picked_pf d 10 (hx2 d (by simp)) (by omega)
    have p5 := picked_pf e 3 (hx2 e (by simp)) (by omega)
    have ht := pickedZ_range e 3 (by omega)
    have hk2 := pickedZ_range b 2 (by omega)
    have hpk : plea [a, b, c, d, e] = ⟨pickedZ a 12, 1 + pickedZ b 2, pickedZ c 5, pickedZ d 10, 0⟩ := rfl
    have hpt : pleaT [a, b, c, d, e] = pickedZ e 3 := rfl
    generalize askedF (l.take i) = s at hs hinv
    have hn0 := hinv.n0
    have hn1 := hinv.n1
    have hinv2 := askStep_inv hinv [a, b, c, d, e] hlt2
    have hask := lask_pf s.L s.R (plea [a, b, c, d, e]) s.now 9 hinv.ok (plea_ok _) hinv.n0 (by omega) (by omega) (by omega)
    have haok := ask_ok hinv.ok (plea [a, b, c, d, e]) (plea_ok _) s.now 9 hinv.n0 (by omega) (by omega) (by omega)
    have hR0 : (askM s.L s.R (plea [a, b, c, d, e]) s.now 9).R ≠ [] := by
      have := hinv2.r1 (by omega)
      unfold askStep at this
      split at this <;> exact this
    have hst : askStep s [a, b, c, d, e] = if pickedZ e 3 = 0 then ⟨(askM s.L s.R (plea [a, b, c, d, e]) s.now 9).L, (askM s.L s.R (plea [a, b, c, d, e]) s.now 9).R, s.now⟩
      else ⟨wakeM (askM s.L s.R (plea [a, b, c, d, e]) s.now 9).L (s.now + pickedZ e 3), (askM s.L s.R (plea [a, b, c, d, e]) s.now 9).R, s.now + pickedZ e 3⟩ := rfl
    rw [hst] at hs
    have hwk := lwake_pf (askM s.L s.R (plea [a, b, c, d, e]) s.now 9).L (askM s.L s.R (plea [a, b, c, d, e]) s.now 9).R (s.now + pickedZ e 3) haok (by omega) (by omega)
    clear hst hinv2 haok
    rw [hpk] at hask hs hwk hR0
    generalize askM s.L s.R ⟨pickedZ a 12, 1 + pickedZ b 2, pickedZ c 5, pickedZ d 10, 0⟩ s.now 9 = A at hask hs hwk hR0
    unfold bookD at hask hwk
    have i1 : InR (1 + pickedZ b 2) := inW (by omega) (by omega)
    have i2 : InR (s.now + pickedZ e 3) := inW (by omega) (by omega)
    have ii : InR ((i : Int) + 1) := inW (by omega) (by omega)
    have hA0 : ¬ A.R.length = 0 := fun h => hR0 (List.eq_nil_of_length_eq_zero h)
    by_cases h0 : pickedZ e 3 = 0
    · rw [if_pos h0] at hs
      repeat' (first
        | simp [AK_at, acode_seq, acode_region, acode_draw, acode_cond, ↓CB_t, ↓CB_f, CB_u, acode_block, acode_loop, acode_exit, acode_scope, acode_ret, acode_skip, seqQ_n, seqQ_e, seqQ_r, blockQ_n, blockQ_e, blockQ_r, TK_at, OK_at, SK_at, aops_nil, aops_cons, asch_done, asch_one, asch_two, asch_top, astep, aop_eq, isLoud, aloud, aloud1, isWrite, qv, evS, strip, gof, eget, hget, putO, eput, herase, oks, opnds, gS, afin, afin0, binD, arith, D.cells, takeD, fillD, keep, trim, envOf, Fin, aresl, aresv, resD, argOk, pickV, isP, deq, deqs, boundD, slD, lenD, isT, isSl, ptrIds, chunks, mn_min, mx_max, D.cells, splice_one, splice_more, Rbr_at, Rfr_at, frR, frV, frC, flatC, brwR, brwV, brwC, omap, leR, leV, leC, leL, leVL, hz, hlt, hab, i1, i2, ii, hA0, hR0, h0, Rqs.D]
        | (refine WCall.pf (p1) ?_ ?_ ?_ ?_; (focus (simp [oks, opnds, gS, gof, eget]; done)); (focus (simp [omap, brwV, brwC, evS, eget, strip, hget, leVL, leV, leC, leL, hz, hlt, hab, i1, i2, ii, hA0, hR0, h0, Rqs.D]; done)); (focus (simp [noV, noC, flatR, flatV, flatC, evS, eget, strip, hz, hlt, hab, i1, i2, ii, hA0, hR0, h0, Rqs.D]; done)))
        | (refine ⟨WCall.pf (p1) ?_ ?_ ?_ ?_, ?_⟩; (focus (simp [oks, opnds, gS, gof, eget]; done)); (focus (simp [omap, brwV, brwC, evS, eget, strip, hget, leVL, leV, leC, leL, hz, hlt, hab, i1, i2, ii, hA0, hR0, h0, Rqs.D]; done)); (focus (simp [noV, noC, flatR, flatV, flatC, evS, eget, strip, hz, hlt, hab, i1, i2, ii, hA0, hR0, h0, Rqs.D]; done)))
        | (refine WCall.pf (p2) ?_ ?_ ?_ ?_; (focus (simp [oks, opnds, gS, gof, eget]; done)); (focus (simp [omap, brwV, brwC, evS, eget, strip, hget, leVL, leV, leC, leL, hz, hlt, hab, i1, i2, ii, hA0, hR0, h0, Rqs.D]; done)); (focus (simp [noV, noC, flatR, flatV, flatC, evS, eget, strip, hz, hlt, hab, i1, i2, ii, hA0, hR0, h0, Rqs.D]; done)))
        | (refine ⟨WCall.pf (p2) ?_ ?_ ?_ ?_, ?_⟩; (focus (simp [oks, opnds, gS, gof, eget]; done)); (focus (simp [omap, brwV, brwC, evS, eget, strip, hget, leVL, leV, leC, leL, hz, hlt, hab, i1, i2, ii, hA0, hR0, h0, Rqs.D]; done)); (focus (simp [noV, noC, flatR, flatV, flatC, evS, eget, strip, hz, hlt, hab, i1, i2, ii, hA0, hR0, h0, Rqs.D]; done)))
        | (refine WCall.pf (p3) ?_ ?_ ?_ ?_; (focus (simp [oks, opnds, gS, gof, eget]; done)); (focus (simp [omap, brwV, brwC, evS, eget, strip, hget, leVL, leV, leC, leL, hz, hlt, hab, i1, i2, ii, hA0, hR0, h0, Rqs.D]; done)); (focus (simp [noV, noC, flatR, flatV, flatC, evS, eget, strip, hz, hlt, hab, i1, i2, ii, hA0, hR0, h0, Rqs.D]; done)))
        | (refine ⟨WCall.pf (p3) ?_ ?_ ?_ ?_, ?_⟩; (focus (simp [oks, opnds, gS, gof, eget]; done)); (focus (simp [omap, brwV, brwC, evS, eget, strip, hget, leVL, leV, leC, leL, hz, hlt, hab, i1, i2, ii, hA0, hR0, h0, Rqs.D]; done)); (focus (simp [noV, noC, flatR, flatV, flatC, evS, eget, strip, hz, hlt, hab, i1, i2, ii, hA0, hR0, h0, Rqs.D]; done)))
        | (refine WCall.pf (p4) ?_ ?_ ?_ ?_; (focus (simp [oks, opnds, gS, gof, eget]; done)); (focus (simp [omap, brwV, brwC, evS, eget, strip, hget, leVL, leV, leC, leL, hz, hlt, hab, i1, i2, ii, hA0, hR0, h0, Rqs.D]; done)); (focus (simp [noV, noC, flatR, flatV, flatC, evS, eget, strip, hz, hlt, hab, i1, i2, ii, hA0, hR0, h0, Rqs.D]; done)))
        | (refine ⟨WCall.pf (p4) ?_ ?_ ?_ ?_, ?_⟩; (focus (simp [oks, opnds, gS, gof, eget]; done)); (focus (simp [omap, brwV, brwC, evS, eget, strip, hget, leVL, leV, leC, leL, hz, hlt, hab, i1, i2, ii, hA0, hR0, h0, Rqs.D]; done)); (focus (simp [noV, noC, flatR, flatV, flatC, evS, eget, strip, hz, hlt, hab, i1, i2, ii, hA0, hR0, h0, Rqs.D]; done)))
        | (refine WCall.pf (p5) ?_ ?_ ?_ ?_; (focus (simp [oks, opnds, gS, gof, eget]; done)); (focus (simp [omap, brwV, brwC, evS, eget, strip, hget, leVL, leV, leC, leL, hz, hlt, hab, i1, i2, ii, hA0, hR0, h0, Rqs.D]; done)); (focus (simp [noV, noC, flatR, flatV, flatC, evS, eget, strip, hz, hlt, hab, i1, i2, ii, hA0, hR0, h0, Rqs.D]; done)))
        | (refine ⟨WCall.pf (p5) ?_ ?_ ?_ ?_, ?_⟩; (focus (simp [oks, opnds, gS, gof, eget]; done)); (focus (simp [omap, brwV, brwC, evS, eget, strip, hget, leVL, leV, leC, leL, hz, hlt, hab, i1, i2, ii, hA0, hR0, h0, Rqs.D]; done)); (focus (simp [noV, noC, flatR, flatV, flatC, evS, eget, strip, hz, hlt, hab, i1, i2, ii, hA0, hR0, h0, Rqs.D]; done)))
        | (refine WCall.pf (hask) ?_ ?_ ?_ ?_; (focus (simp [oks, opnds, gS, gof, eget]; done)); (focus (simp [omap, brwV, brwC, evS, eget, strip, hget, leVL, leV, leC, leL, hz, hlt, hab, i1, i2, ii, hA0, hR0, h0, Rqs.D]; done)); (focus (simp [noV, noC, flatR, flatV, flatC, evS, eget, strip, hz, hlt, hab, i1, i2, ii, hA0, hR0, h0, Rqs.D]; done)))
        | (refine ⟨WCall.pf (hask) ?_ ?_ ?_ ?_, ?_⟩; (focus (simp [oks, opnds, gS, gof, eget]; done)); (focus (simp [omap, brwV, brwC, evS, eget, strip, hget, leVL, leV, leC, leL, hz, hlt, hab, i1, i2, ii, hA0, hR0, h0, Rqs.D]; done)); (focus (simp [noV, noC, flatR, flatV, flatC, evS, eget, strip, hz, hlt, hab, i1, i2, ii, hA0, hR0, h0, Rqs.D]; done)))
        | (refine WCall.pf (hwk) ?_ ?_ ?_ ?_; (focus (simp [oks, opnds, gS, gof, eget]; done)); (focus (simp [omap, brwV, brwC, evS, eget, strip, hget, leVL, leV, leC, leL, hz, hlt, hab, i1, i2, ii, hA0, hR0, h0, Rqs.D]; done)); (focus (simp [noV, noC, flatR, flatV, flatC, evS, eget, strip, hz, hlt, hab, i1, i2, ii, hA0, hR0, h0, Rqs.D]; done)))
        | (refine ⟨WCall.pf (hwk) ?_ ?_ ?_ ?_, ?_⟩; (focus (simp [oks, opnds, gS, gof, eget]; done)); (focus (simp [omap, brwV, brwC, evS, eget, strip, hget, leVL, leV, leC, leL, hz, hlt, hab, i1, i2, ii, hA0, hR0, h0, Rqs.D]; done)); (focus (simp [noV, noC, flatR, flatV, flatC, evS, eget, strip, hz, hlt, hab, i1, i2, ii, hA0, hR0, h0, Rqs.D]; done)))
        | (with_reducible refine And.intro (And.intro ?_ ?_) ?_)
        | fail)
      all_goals exact ⟨_, i + 1, (Gh.ren [0, 1] (by simp [hB0]) (by simp [hB0] <;> decide) (by simp [eget, rnS, rnR, rnV, rnC, LtS, LtR, LtV, LtC, lget, hs]) (by simp [hget, rnO, rnC, LtO, LtC, lget, hs]) (.inl (by simp [lget, hs]))), by omega, rfl, by omega, by omega⟩
    · rw [if_neg h0] at hs
      repeat' (first
        | simp [AK_at, acode_seq, acode_region, acode_draw, acode_cond, ↓CB_t, ↓CB_f, CB_u, acode_block, acode_loop, acode_exit, acode_scope, acode_ret, acode_skip, seqQ_n, seqQ_e, seqQ_r, blockQ_n, blockQ_e, blockQ_r, TK_at, OK_at, SK_at, aops_nil, aops_cons, asch_done, asch_one, asch_two, asch_top, astep, aop_eq, isLoud, aloud, aloud1, isWrite, qv, evS, strip, gof, eget, hget, putO, eput, herase, oks, opnds, gS, afin, afin0, binD, arith, D.cells, takeD, fillD, keep, trim, envOf, Fin, aresl, aresv, resD, argOk, pickV, isP, deq, deqs, boundD, slD, lenD, isT, isSl, ptrIds, chunks, mn_min, mx_max, D.cells, splice_one, splice_more, Rbr_at, Rfr_at, frR, frV, frC, flatC, brwR, brwV, brwC, omap, leR, leV, leC, leL, leVL, hz, hlt, hab, i1, i2, ii, hA0, hR0, h0, Rqs.D]
        | (refine WCall.pf (p1) ?_ ?_ ?_ ?_; (focus (simp [oks, opnds, gS, gof, eget]; done)); (focus (simp [omap, brwV, brwC, evS, eget, strip, hget, leVL, leV, leC, leL, hz, hlt, hab, i1, i2, ii, hA0, hR0, h0, Rqs.D]; done)); (focus (simp [noV, noC, flatR, flatV, flatC, evS, eget, strip, hz, hlt, hab, i1, i2, ii, hA0, hR0, h0, Rqs.D]; done)))
        | (refine ⟨WCall.pf (p1) ?_ ?_ ?_ ?_, ?_⟩; (focus (simp [oks, opnds, gS, gof, eget]; done)); (focus (simp [omap, brwV, brwC, evS, eget, strip, hget, leVL, leV, leC, leL, hz, hlt, hab, i1, i2, ii, hA0, hR0, h0, Rqs.D]; done)); (focus (simp [noV, noC, flatR, flatV, flatC, evS, eget, strip, hz, hlt, hab, i1, i2, ii, hA0, hR0, h0, Rqs.D]; done)))
        | (refine WCall.pf (p2) ?_ ?_ ?_ ?_; (focus (simp [oks, opnds, gS, gof, eget]; done)); (focus (simp [omap, brwV, brwC, evS, eget, strip, hget, leVL, leV, leC, leL, hz, hlt, hab, i1, i2, ii, hA0, hR0, h0, Rqs.D]; done)); (focus (simp [noV, noC, flatR, flatV, flatC, evS, eget, strip, hz, hlt, hab, i1, i2, ii, hA0, hR0, h0, Rqs.D]; done)))
        | (refine ⟨WCall.pf (p2) ?_ ?_ ?_ ?_, ?_⟩; (focus (simp [oks, opnds, gS, gof, eget]; done)); (focus (simp [omap, brwV, brwC, evS, eget, strip, hget, leVL, leV, leC, leL, hz, hlt, hab, i1, i2, ii, hA0, hR0, h0, Rqs.D]; done)); (focus (simp [noV, noC, flatR, flatV, flatC, evS, eget, strip, hz, hlt, hab, i1, i2, ii, hA0, hR0, h0, Rqs.D]; done)))
        | (refine WCall.pf (p3) ?_ ?_ ?_ ?_; (focus (simp [oks, opnds, gS, gof, eget]; done)); (focus (simp [omap, brwV, brwC, evS, eget, strip, hget, leVL, leV, leC, leL, hz, hlt, hab, i1, i2, ii, hA0, hR0, h0, Rqs.D]; done)); (focus (simp [noV, noC, flatR, flatV, flatC, evS, eget, strip, hz, hlt, hab, i1, i2, ii, hA0, hR0, h0, Rqs.D]; done)))
        | (refine ⟨WCall.pf (p3) ?_ ?_ ?_ ?_, ?_⟩; (focus (simp [oks, opnds, gS, gof, eget]; done)); (focus (simp [omap, brwV, brwC, evS, eget, strip, hget, leVL, leV, leC, leL, hz, hlt, hab, i1, i2, ii, hA0, hR0, h0, Rqs.D]; done)); (focus (simp [noV, noC, flatR, flatV, flatC, evS, eget, strip, hz, hlt, hab, i1, i2, ii, hA0, hR0, h0, Rqs.D]; done)))
        | (refine WCall.pf (p4) ?_ ?_ ?_ ?_; (focus (simp [oks, opnds, gS, gof, eget]; done)); (focus (simp [omap, brwV, brwC, evS, eget, strip, hget, leVL, leV, leC, leL, hz, hlt, hab, i1, i2, ii, hA0, hR0, h0, Rqs.D]; done)); (focus (simp [noV, noC, flatR, flatV, flatC, evS, eget, strip, hz, hlt, hab, i1, i2, ii, hA0, hR0, h0, Rqs.D]; done)))
        | (refine ⟨WCall.pf (p4) ?_ ?_ ?_ ?_, ?_⟩; (focus (simp [oks, opnds, gS, gof, eget]; done)); (focus (simp [omap, brwV, brwC, evS, eget, strip, hget, leVL, leV, leC, leL, hz, hlt, hab, i1, i2, ii, hA0, hR0, h0, Rqs.D]; done)); (focus (simp [noV, noC, flatR, flatV, flatC, evS, eget, strip, hz, hlt, hab, i1, i2, ii, hA0, hR0, h0, Rqs.D]; done)))
        | (refine WCall.pf (p5) ?_ ?_ ?_ ?_; (focus (simp [oks, opnds, gS, gof, eget]; done)); (focus (simp [omap, brwV, brwC, evS, eget, strip, hget, leVL, leV, leC, leL, hz, hlt, hab, i1, i2, ii, hA0, hR0, h0, Rqs.D]; done)); (focus (simp [noV, noC, flatR, flatV, flatC, evS, eget, strip, hz, hlt, hab, i1, i2, ii, hA0, hR0, h0, Rqs.D]; done)))
        | (refine ⟨WCall.pf (p5) ?_ ?_ ?_ ?_, ?_⟩; (focus (simp [oks, opnds, gS, gof, eget]; done)); (focus (simp [omap, brwV, brwC, evS, eget, strip, hget, leVL, leV, leC, leL, hz, hlt, hab, i1, i2, ii, hA0, hR0, h0, Rqs.D]; done)); (focus (simp [noV, noC, flatR, flatV, flatC, evS, eget, strip, hz, hlt, hab, i1, i2, ii, hA0, hR0, h0, Rqs.D]; done)))
        | (refine WCall.pf (hask) ?_ ?_ ?_ ?_; (focus (simp [oks, opnds, gS, gof, eget]; done)); (focus (simp [omap, brwV, brwC, evS, eget, strip, hget, leVL, leV, leC, leL, hz, hlt, hab, i1, i2, ii, hA0, hR0, h0, Rqs.D]; done)); (focus (simp [noV, noC, flatR, flatV, flatC, evS, eget, strip, hz, hlt, hab, i1, i2, ii, hA0, hR0, h0, Rqs.D]; done)))
        | (refine ⟨WCall.pf (hask) ?_ ?_ ?_ ?_, ?_⟩; (focus (simp [oks, opnds, gS, gof, eget]; done)); (focus (simp [omap, brwV, brwC, evS, eget, strip, hget, leVL, leV, leC, leL, hz, hlt, hab, i1, i2, ii, hA0, hR0, h0, Rqs.D]; done)); (focus (simp [noV, noC, flatR, flatV, flatC, evS, eget, strip, hz, hlt, hab, i1, i2, ii, hA0, hR0, h0, Rqs.D]; done)))
        | (refine WCall.pf (hwk) ?_ ?_ ?_ ?_; (focus (simp [oks, opnds, gS, gof, eget]; done)); (focus (simp [omap, brwV, brwC, evS, eget, strip, hget, leVL, leV, leC, leL, hz, hlt, hab, i1, i2, ii, hA0, hR0, h0, Rqs.D]; done)); (focus (simp [noV, noC, flatR, flatV, flatC, evS, eget, strip, hz, hlt, hab, i1, i2, ii, hA0, hR0, h0, Rqs.D]; done)))
        | (refine ⟨WCall.pf (hwk) ?_ ?_ ?_ ?_, ?_⟩; (focus (simp [oks, opnds, gS, gof, eget]; done)); (focus (simp [omap, brwV, brwC, evS, eget, strip, hget, leVL, leV, leC, leL, hz, hlt, hab, i1, i2, ii, hA0, hR0, h0, Rqs.D]; done)); (focus (simp [noV, noC, flatR, flatV, flatC, evS, eget, strip, hz, hlt, hab, i1, i2, ii, hA0, hR0, h0, Rqs.D]; done)))
        | (with_reducible refine And.intro (And.intro ?_ ?_) ?_)
        | fail)
      all_goals exact ⟨_, i + 1, (Gh.ren [0, 1] (by simp [hB0]) (by simp [hB0] <;> decide) (by simp [eget, rnS, rnR, rnV, rnC, LtS, LtR, LtV, LtC, lget, hs]) (by simp [hget, rnO, rnC, LtO, LtC, lget, hs]) (.inl (by simp [lget, hs]))), by omega, rfl, by omega, by omega⟩
  · have hm : askedM l = askedF (l.take i) := by
      unfold askedM
      by_cases h : i = 30
      · rw [h]
      · have : i = l.length := by omega
        rw [this, List.take_length, List.take_of_length_le (by omega)]
    rw [hm]
    by_cases h : i = 30
    · subst h
      by_cases hll : 30 < l.length
      · simp [AK_at, acode_seq, acode_region, acode_draw, acode_cond, ↓CB_t, ↓CB_f, CB_u, acode_block, acode_loop, acode_exit, acode_scope, acode_ret, acode_skip, seqQ_n, seqQ_e, seqQ_r, blockQ_n, blockQ_e, blockQ_r, TK_at, OK_at, SK_at, aops_nil, aops_cons, asch_done, asch_one, asch_two, asch_top, astep, aop_eq, isLoud, aloud, aloud1, isWrite, qv, evS, strip, gof, eget, hget, putO, eput, herase, oks, opnds, gS, afin, afin0, binD, arith, D.cells, takeD, fillD, keep, trim, envOf, Fin, aresl, aresv, resD, argOk, pickV, isP, deq, deqs, boundD, slD, lenD, isT, isSl, ptrIds, chunks, mn_min, mx_max, D.cells, splice_one, splice_more, Rbr_at, Rfr_at, frR, frV, frC, flatC, brwR, brwV, brwC, omap, leR, leV, leC, leL, leVL, hll]
      · simp [AK_at, acode_seq, acode_region, acode_draw, acode_cond, ↓CB_t, ↓CB_f, CB_u, acode_block, acode_loop, acode_exit, acode_scope, acode_ret, acode_skip, seqQ_n, seqQ_e, seqQ_r, blockQ_n, blockQ_e, blockQ_r, TK_at, OK_at, SK_at, aops_nil, aops_cons, asch_done, asch_one, asch_two, asch_top, astep, aop_eq, isLoud, aloud, aloud1, isWrite, qv, evS, strip, gof, eget, hget, putO, eput, herase, oks, opnds, gS, afin, afin0, binD, arith, D.cells, takeD, fillD, keep, trim, envOf, Fin, aresl, aresv, resD, argOk, pickV, isP, deq, deqs, boundD, slD, lenD, isT, isSl, ptrIds, chunks, mn_min, mx_max, D.cells, splice_one, splice_more, Rbr_at, Rfr_at, frR, frV, frC, flatC, brwR, brwV, brwC, omap, leR, leV, leC, leL, leVL, hll]
    · have : i = l.length := by omega
      subst this
      simp [AK_at, acode_seq, acode_region, acode_draw, acode_cond, ↓CB_t, ↓CB_f, CB_u, acode_block, acode_loop, acode_exit, acode_scope, acode_ret, acode_skip, seqQ_n, seqQ_e, seqQ_r, blockQ_n, blockQ_e, blockQ_r, TK_at, OK_at, SK_at, aops_nil, aops_cons, asch_done, asch_one, asch_two, asch_top, astep, aop_eq, isLoud, aloud, aloud1, isWrite, qv, evS, strip, gof, eget, hget, putO, eput, herase, oks, opnds, gS, afin, afin0, binD, arith, D.cells, takeD, fillD, keep, trim, envOf, Fin, aresl, aresv, resD, argOk, pickV, isP, deq, deqs, boundD, slD, lenD, isT, isSl, ptrIds, chunks, mn_min, mx_max, D.cells, splice_one, splice_more, Rbr_at, Rfr_at, frR, frV, frC, flatC, brwR, brwV, brwC, omap, leR, leV, leC, leL, leVL]
theorem sbook_code : cfun Try.prog [] 33 = some ⟨(.seq (.region 0 [⟨(some 2), (.box (.t 0)), none⟩, ⟨(some 3), (.box (.t 1)), none⟩, ⟨(some 4), (.mov (.k (.bool false))), none⟩]) (.seq (.seq (.region 1 [⟨(some 7), (.fad 0 (.t 2)), none⟩, ⟨(some 8), (.load false 1 (.t 7)), none⟩, ⟨(some 9), (.len (.t 8)), none⟩, ⟨(some 10), (.fad 0 (.t 3)), none⟩, ⟨(some 11), (.load false 1 (.t 10)), none⟩, ⟨(some 12), (.len (.t 11)), none⟩, ⟨(some 13), (.bin .neq (.t 9) (.t 12)), none⟩, ⟨(some 14), (.mov (.t 13)), none⟩, ⟨(some 15), (.fad 1 (.t 2)), (some (14, false))⟩, ⟨(some 16), (.load false 1 (.t 15)), (some (14, false))⟩, ⟨(some 17), (.len (.t 16)), (some (14, false))⟩, ⟨(some 18), (.fad 1 (.t 3)), (some (14, false))⟩, ⟨(some 19), (.load false 1 (.t 18)), (some (14, false))⟩, ⟨(some 20), (.len (.t 19)), (some (14, false))⟩, ⟨(some 21), (.bin .neq (.t 17) (.t 20)), (some (14, false))⟩, ⟨(some 22), (.pick (.t 14) (.k (.bool true)) (.t 21)), none⟩]) (.cond 22 (.seq (.region 2 [⟨(some 4), (.mov (.k (.bool false))), none⟩]) .ret) .skip)) (.seq (.seq (.region 3 [⟨(some 5), (.mov (.k (.int .i64 0))), none⟩]) (.block 0 (.loop (.seq (.seq (.region 4 [⟨(some 23), (.mov (.t 5)), none⟩, ⟨(some 24), (.fad 0 (.t 2)), none⟩, ⟨(some 25), (.load false 1 (.t 24)), none⟩, ⟨(some 26), (.len (.t 25)), none⟩, ⟨(some 27), (.bin .lss (.t 23) (.t 26)), none⟩]) (.cond 27 .skip (.exit 0))) (.seq (.block 1 (.seq (.draw 6 (.one true ⟨(some 30), (.fad 0 (.t 2)), none⟩ (.one true ⟨(some 31), (.load false 1 (.t 30)), none⟩ (.one true ⟨(some 32), (.mov (.t 5)), none⟩ (.one true ⟨(some 33), (.iads 6 (.t 31) (.t 32)), none⟩ (.one true ⟨(some 34), (.load true 6 (.t 33)), none⟩ (.one true ⟨(some 35), (.fad 0 (.t 3)), none⟩ (.one true ⟨(some 36), (.load false 1 (.t 35)), none⟩ (.one true ⟨(some 37), (.mov (.t 5)), none⟩ (.one true ⟨(some 38), (.iads 6 (.t 36) (.t 37)), none⟩ (.one true ⟨(some 39), (.load true 6 (.t 38)), none⟩ (.one true ⟨(some 40), (.eqa true [.i, .i, .i, .i, .i, .i] (.t 34) (.t 39)), none⟩ .done)))))))))))) (.cond 40 (.seq (.region 7 [⟨(some 4), (.mov (.k (.bool false))), none⟩]) .ret) .skip))) (.region 5 [⟨(some 28), (.mov (.t 5)), none⟩, ⟨(some 29), (.bin .add (.t 28) (.k (.int .i64 1))), none⟩, ⟨(some 5), (.mov (.t 29)), none⟩])))))) (.seq (.seq (.region 8 [⟨(some 6), (.mov (.k (.int .i64 0))), none⟩]) (.block 2 (.loop (.seq (.seq (.region 9 [⟨(some 41), (.mov (.t 6)), none⟩, ⟨(some 42), (.fad 1 (.t 2)), none⟩, ⟨(some 43), (.load false 1 (.t 42)), none⟩, ⟨(some 44), (.len (.t 43)), none⟩, ⟨(some 45), (.bin .lss (.t 41) (.t 44)), none⟩]) (.cond 45 .skip (.exit 2))) (.seq (.block 3 (.seq (.draw 11 (.one true ⟨(some 48), (.fad 1 (.t 2)), none⟩ (.one true ⟨(some 49), (.load false 1 (.t 48)), none⟩ (.one true ⟨(some 50), (.mov (.t 6)), none⟩ (.one true ⟨(some 51), (.iads 5 (.t 49) (.t 50)), none⟩ (.one true ⟨(some 52), (.load true 5 (.t 51)), none⟩ (.one true ⟨(some 53), (.fad 1 (.t 3)), none⟩ (.one true ⟨(some 54), (.load false 1 (.t 53)), none⟩ (.one true ⟨(some 55), (.mov (.t 6)), none⟩ (.one true ⟨(some 56), (.iads 5 (.t 54) (.t 55)), none⟩ (.one true ⟨(some 57), (.load true 5 (.t 56)), none⟩ (.one true ⟨(some 58), (.eqa true [.i, .i, .i, .i, .i] (.t 52) (.t 57)), none⟩ .done)))))))))))) (.cond 58 (.seq (.region 12 [⟨(some 4), (.mov (.k (.bool false))), none⟩]) .ret) .skip))) (.region 10 [⟨(some 46), (.mov (.t 6)), none⟩, ⟨(some 47), (.bin .add (.t 46) (.k (.int .i64 1))), none⟩, ⟨(some 6), (.mov (.t 47)), none⟩])))))) (.seq (.region 13 [⟨(some 4), (.mov (.k (.bool true))), none⟩]) .ret))))), [(.t 4)], 59⟩ := by kernel_rfl
theorem sbook_pf (L : List Lif) (R : List Rqs) (hL : L.length ≤ 12) (hR : R.length ≤ 100) : PF Try.prog 33 [bookD L R, bookD L R] (.bool true) := by
  unfold bookD
  refine PF.of follows_ok sbook_code (by simp) (by simp [argOk]) (by simp [noV, noC]) fun B hBN hB0 => acode_sound [0, 1, 2, 3, 4, 5, 6, 22, 27, 40, 45, 58] [] _ _ _ ?_
  simp [AK_at, acode_seq, acode_region, acode_draw, acode_cond, ↓CB_t, ↓CB_f, CB_u, acode_block, acode_loop, acode_exit, acode_scope, acode_ret, acode_skip, seqQ_n, seqQ_e, seqQ_r, blockQ_n, blockQ_e, blockQ_r, TK_at, OK_at, SK_at, aops_nil, aops_cons, asch_done, asch_one, asch_two, asch_top, astep, aop_eq, isLoud, aloud, aloud1, isWrite, qv, evS, strip, gof, eget, hget, putO, eput, herase, oks, opnds, gS, afin, afin0, binD, arith, D.cells, takeD, fillD, keep, trim, envOf, Fin, aresl, aresv, resD, argOk, pickV, isP, deq, deqs, boundD, slD, lenD, isT, isSl, ptrIds, chunks, mn_min, mx_max, D.cells, splice_one, splice_more, Rbr_at, Rfr_at, frR, frV, frC, flatC, brwR, brwV, brwC, omap, leR, leV, leC, leL, leVL]
  refine W.loopS (fun i : Nat => ⟨[(5, I i), (4, .bool false), (3, .ptr 1 0), (2, .ptr 0 0)], [(1, .cells [.rows 6 (L.map Lif.D), .rows 5 (R.map Rqs.D)]), (0, .cells [.rows 6 (L.map Lif.D), .rows 5 (R.map Rqs.D)])], 2⟩)
    (fun n i => n = L.length - i ∧ i ≤ L.length) ?_ ?_
  · exact ⟨_, 0, (Gh.ren [0, 1] (by simp [hB0]) (by simp [hB0] <;> decide) (by simp [eget, rnS, rnR, rnV, rnC, LtS, LtR, LtV, LtC, lget]) (by simp [hget, rnO, rnC, LtO, LtC, lget]) (.inl (by simp [lget]))), rfl, by omega⟩
  rintro n i ⟨hn, hi⟩
  refine acode_sound [0, 1, 2, 3, 4, 5, 6, 22, 27, 40, 45, 58] [] _ _ _ ?_
  by_cases hlt : i < L.length
  · have ii : InR ((i : Int) + 1) := inW (by omega) (by omega)
    simp [AK_at, acode_seq, acode_region, acode_draw, acode_cond, ↓CB_t, ↓CB_f, CB_u, acode_block, acode_loop, acode_exit, acode_scope, acode_ret, acode_skip, seqQ_n, seqQ_e, seqQ_r, blockQ_n, blockQ_e, blockQ_r, TK_at, OK_at, SK_at, aops_nil, aops_cons, asch_done, asch_one, asch_two, asch_top, astep, aop_eq, isLoud, aloud, aloud1, isWrite, qv, evS, strip, gof, eget, hget, putO, eput, herase, oks, opnds, gS, afin, afin0, binD, arith, D.cells, takeD, fillD, keep, trim, envOf, Fin, aresl, aresv, resD, argOk, pickV, isP, deq, deqs, boundD, slD, lenD, isT, isSl, ptrIds, chunks, mn_min, mx_max, D.cells, splice_one, splice_more, Rbr_at, Rfr_at, frR, frV, frC, flatC, brwR, brwV, brwC, omap, leR, leV, leC, leL, leVL, hlt, ii, Lif.D]
    exact ⟨_, i + 1, (Gh.ren [0, 1] (by simp [hB0]) (by simp [hB0] <;> decide) (by simp [eget, rnS, rnR, rnV, rnC, LtS, LtR, LtV, LtC, lget]) (by simp [hget, rnO, rnC, LtO, LtC, lget]) (.inl (by simp [lget]))), by omega, rfl, by omega⟩
  · obtain rfl : i = L.length := by omega
    simp [AK_at, acode_seq, acode_region, acode_draw, acode_cond, ↓CB_t, ↓CB_f, CB_u, acode_block, acode_loop, acode_exit, acode_scope, acode_ret, acode_skip, seqQ_n, seqQ_e, seqQ_r, blockQ_n, blockQ_e, blockQ_r, TK_at, OK_at, SK_at, aops_nil, aops_cons, asch_done, asch_one, asch_two, asch_top, astep, aop_eq, isLoud, aloud, aloud1, isWrite, qv, evS, strip, gof, eget, hget, putO, eput, herase, oks, opnds, gS, afin, afin0, binD, arith, D.cells, takeD, fillD, keep, trim, envOf, Fin, aresl, aresv, resD, argOk, pickV, isP, deq, deqs, boundD, slD, lenD, isT, isSl, ptrIds, chunks, mn_min, mx_max, D.cells, splice_one, splice_more, Rbr_at, Rfr_at, frR, frV, frC, flatC, brwR, brwV, brwC, omap, leR, leV, leC, leL, leVL]
    refine W.loopS (fun i : Nat => ⟨[(6, I i), (4, .bool false), (3, .ptr 1 0), (2, .ptr 0 0)], [(1, .cells [.rows 6 (L.map Lif.D), .rows 5 (R.map Rqs.D)]), (0, .cells [.rows 6 (L.map Lif.D), .rows 5 (R.map Rqs.D)])], 2⟩)
      (fun n i => n = R.length - i ∧ i ≤ R.length) ?_ ?_
    · exact ⟨_, 0, (Gh.ren [0, 1] (by simp [hB0]) (by simp [hB0] <;> decide) (by simp [eget, rnS, rnR, rnV, rnC, LtS, LtR, LtV, LtC, lget]) (by simp [hget, rnO, rnC, LtO, LtC, lget]) (.inl (by simp [lget]))), rfl, by omega⟩
    rintro n i ⟨hn, hi⟩
    refine acode_sound [0, 1, 2, 3, 4, 5, 6, 22, 27, 40, 45, 58] [] _ _ _ ?_
    by_cases hlt : i < R.length
    · have ii : InR ((i : Int) + 1) := inW (by omega) (by omega)
      simp [AK_at, acode_seq, acode_region, acode_draw, acode_cond, ↓CB_t, ↓CB_f, CB_u, acode_block, acode_loop, acode_exit, acode_scope, acode_ret, acode_skip, seqQ_n, seqQ_e, seqQ_r, blockQ_n, blockQ_e, blockQ_r, TK_at, OK_at, SK_at, aops_nil, aops_cons, asch_done, asch_one, asch_two, asch_top, astep, aop_eq, isLoud, aloud, aloud1, isWrite, qv, evS, strip, gof, eget, hget, putO, eput, herase, oks, opnds, gS, afin, afin0, binD, arith, D.cells, takeD, fillD, keep, trim, envOf, Fin, aresl, aresv, resD, argOk, pickV, isP, deq, deqs, boundD, slD, lenD, isT, isSl, ptrIds, chunks, mn_min, mx_max, D.cells, splice_one, splice_more, Rbr_at, Rfr_at, frR, frV, frC, flatC, brwR, brwV, brwC, omap, leR, leV, leC, leL, leVL, hlt, ii, Rqs.D]
      exact ⟨_, i + 1, (Gh.ren [0, 1] (by simp [hB0]) (by simp [hB0] <;> decide) (by simp [eget, rnS, rnR, rnV, rnC, LtS, LtR, LtV, LtC, lget]) (by simp [hget, rnO, rnC, LtO, LtC, lget]) (.inl (by simp [lget]))), by omega, rfl, by omega⟩
    · obtain rfl : i = R.length := by omega
      simp [AK_at, acode_seq, acode_region, acode_draw, acode_cond, ↓CB_t, ↓CB_f, CB_u, acode_block, acode_loop, acode_exit, acode_scope, acode_ret, acode_skip, seqQ_n, seqQ_e, seqQ_r, blockQ_n, blockQ_e, blockQ_r, TK_at, OK_at, SK_at, aops_nil, aops_cons, asch_done, asch_one, asch_two, asch_top, astep, aop_eq, isLoud, aloud, aloud1, isWrite, qv, evS, strip, gof, eget, hget, putO, eput, herase, oks, opnds, gS, afin, afin0, binD, arith, D.cells, takeD, fillD, keep, trim, envOf, Fin, aresl, aresv, resD, argOk, pickV, isP, deq, deqs, boundD, slD, lenD, isT, isSl, ptrIds, chunks, mn_min, mx_max, D.cells, splice_one, splice_more, Rbr_at, Rfr_at, frR, frV, frC, flatC, brwR, brwV, brwC, omap, leR, leV, leC, leL, leVL]
end Go.Proofs.Ytfkeddefajkobaa

set_option linter.unusedSimpArgs false
set_option linter.unusedVariables false
set_option maxRecDepth 100000
set_option maxHeartbeats 4000000
namespace Go.Proofs.Ytfkeddefajkobaa
open Go.RowKit
def fulR (j : Nat) : Rqs := ⟨j, 1, (j : Int) % 12, 1 + (j : Int) % 8, if j < 12 then 0 else 7⟩
def fulX (j : Nat) : Lif := ⟨j, 1, 1 + (j : Int) % 8, 0, 0, 0⟩
def fulL (i : Nat) : List Lif := (List.range (min i 12)).map fulX
def fulRs (i : Nat) : List Rqs := (List.range i).map fulR
theorem fulL_lt (i : Nat) (h : i < 12) : fulL (i + 1) = fulL i ++ [fulX i] := by
  unfold fulL
  rw [Nat.min_eq_left (by omega), Nat.min_eq_left (by omega), List.range_succ, List.map_append]; rfl
theorem fulL_ge (i : Nat) (h : 12 ≤ i) : fulL (i + 1) = fulL i := by
  unfold fulL
  rw [Nat.min_eq_right (by omega), Nat.min_eq_right (by omega)]
theorem fulR_succ (i : Nat) : fulRs (i + 1) = fulRs i ++ [fulR i] := by
  unfold fulRs
  rw [List.range_succ, List.map_append]; rfl
theorem fulL_len (i : Nat) : (fulL i).length = min i 12 := by simp [fulL]
theorem fulL_get (i j : Nat) (h : j < (fulL i).length) : (fulL i)[j] = fulX j := by simp [fulL]
theorem ful_ids (i : Nat) : ∀ r ∈ fulRs i, r.id < i := fun r hr => by
  obtain ⟨j, hj, rfl⟩ := List.mem_map.1 hr
  have := List.mem_range.1 hj
  simp only [fulR]; omega
theorem ful_ask (i : Nat) (h : i < 100) : askM (fulL i) (fulRs i) ⟨i, 1, (i : Int) % 12, 1 + (i : Int) % 8, 0⟩ 3 4 = ⟨fulL (i + 1), fulRs (i + 1), if i < 12 then 0 else 7, true⟩ := by
  have h1 : ¬ 0 ≤ idxZ (qI (i : Int)) (fulRs i) := idx_old (ful_ids i)
  have h2 : (fulRs i).length ≠ 100 := by simp [fulRs]; omega
  have hlen := fulL_len i
  unfold askM
  rw [if_neg h1, if_neg h2, if_pos rfl]
  have hj : joinM (fulL i) ⟨i, 1, (i : Int) % 12, 1 + (i : Int) % 8, 0⟩ = (fulL (i + 1), if i < 12 then 0 else 7) := by
    unfold joinM
    rw [if_neg (by simp only; omega)]
    by_cases h12 : i < 12
    · have hm : (i : Int) % 12 = i := by omega
      have hne : ∀ x ∈ fulL i, x.backend < (i : Int) := fun x hx => by
        obtain ⟨j, hj, rfl⟩ := List.mem_map.1 hx
        have := List.mem_range.1 hj
        simp only [fulX]; omega
      have hf : ¬ 0 ≤ findM (fulL i) ((i : Int) % 12) := fun h0 => by
        obtain ⟨k1, k2, k3⟩ := findM_at h0
        have := hne _ (List.getElem_mem k1)
        omega
      have hp : joinPos (fulL i) ((i : Int) % 12) = (fulL i).length := by
        refine lowB_at _ _ _ (Nat.le_refl _) (fun j hj _ => ?_) (fun h => by omega)
        have := hne _ (List.getElem_mem hj)
        simp only [decide_eq_true_eq]; omega
      simp only
      rw [if_neg hf, hp, List.take_length, List.drop_length, List.append_nil, fulL_lt i h12, if_pos h12, hm]
      rfl
    · have hlen12 : (fulL i).length = 12 := by omega
      have hb : ((i : Int) % 12).toNat < (fulL i).length := by omega
      have hg := fulL_get i _ hb
      have h0 : 0 ≤ findM (fulL i) ((i : Int) % 12) := idxZ_some _ _ ⟨_, List.getElem_mem hb, by rw [hg]; simp [qB, fulX]; omega⟩
      obtain ⟨k1, k2, k3⟩ := findM_at h0
      simp only
      rw [if_pos h0, k3, fulL_get, if_neg (by simp [fulX]), fulL_ge i (by omega), if_neg h12]
  rw [hj, fulR_succ]
  rfl
theorem ful_ok : ∀ i : Nat, i ≤ 100 → BookOk (fulL i) (fulRs i)
  | 0, _ => ⟨by simp [fulL], by simp [fulRs], by simp [fulL], by simp [fulRs], by simp [fulL], by simp [fulRs]⟩
  | i + 1, h => by
    have := ask_ok (ful_ok i (by omega)) ⟨i, 1, (i : Int) % 12, 1 + (i : Int) % 8, 0⟩ ⟨by simp, by simp only; omega, .inl rfl⟩ 3 4 (by omega) (by omega) (by omega) (by omega)
    rwa [ful_ask i (by omega)] at this
theorem lfull_code : cfun Try.prog [] 7 = some ⟨(.seq (.region 0 [⟨(some 6), (.mov (.k (.bool false))), none⟩]) (.seq (.region 1 [⟨(some 7), (.alloc [.nil0, .nil0]), none⟩]) (.seq (.seq (.region 2 [⟨(some 8), (.mov (.k (.int .i64 0))), none⟩]) (.block 0 (.loop (.seq (.seq (.region 3 [⟨(some 23), (.mov (.t 8)), none⟩, ⟨(some 24), (.bin .lss (.t 23) (.k (.int .i64 100))), none⟩]) (.cond 24 .skip (.exit 0))) (.seq (.block 1 (.seq (.region 5 [⟨(some 28), (.load true 2 (.t 7)), none⟩, ⟨(some 29), (.mov (.t 8)), none⟩, ⟨(some 30), (.mov (.t 8)), none⟩, ⟨(some 31), (.bin .rem (.t 30) (.k (.int .i64 12))), none⟩, ⟨(some 32), (.mov (.t 8)), none⟩, ⟨(some 33), (.bin .rem (.t 32) (.k (.int .i64 8))), none⟩, ⟨(some 34), (.bin .add (.k (.int .i64 1)) (.t 33)), none⟩, ⟨(some 35), (.build [(.int .i64 0), (.int .i64 0), (.int .i64 0), (.int .i64 0), (.int .i64 0)] [(0, (1, (.t 29))), (1, (1, (.k (.int .i64 1)))), (2, (1, (.t 31))), (3, (1, (.t 34)))]), none⟩, ⟨(some 36), (.call 32 [(.t 28), (.t 35), (.k (.int .i64 3)), (.k (.int .i64 4))]), none⟩, ⟨(some 27), (.mov (.t 36)), none⟩, ⟨(some 37), (.ext (.t 27) 0), none⟩, ⟨(some 38), (.ext (.t 27) 1), none⟩, ⟨(some 39), (.ext (.t 27) 2), none⟩, ⟨(some 40), (.ext (.t 27) 3), none⟩, ⟨(some 9), (.alloc [.nil0, .nil0]), none⟩, ⟨none, (.store 2 (.t 9) (.t 37)), none⟩, ⟨(some 10), (.mov (.t 38)), none⟩, ⟨(some 11), (.mov (.t 39)), none⟩, ⟨(some 12), (.mov (.t 40)), none⟩]) (.seq (.seq (.region 6 [⟨(some 41), (.mov (.t 12)), none⟩, ⟨(some 42), (.bin .neq (.t 41) (.k (.int .i64 0))), none⟩, ⟨(some 43), (.mov (.t 42)), none⟩, ⟨(some 44), (.mov (.t 11)), (some (43, false))⟩, ⟨(some 45), (.not (.t 44)), (some (43, false))⟩, ⟨(some 46), (.pick (.t 43) (.k (.bool true)) (.t 45)), none⟩]) (.cond 46 (.seq (.region 7 [⟨(some 6), (.mov (.k (.bool false))), none⟩]) .ret) .skip)) (.region 8 [⟨(some 47), (.load true 2 (.t 9)), none⟩, ⟨none, (.store 2 (.t 7) (.t 47)), none⟩])))) (.region 4 [⟨(some 25), (.mov (.t 8)), none⟩, ⟨(some 26), (.bin .add (.t 25) (.k (.int .i64 1))), none⟩, ⟨(some 8), (.mov (.t 26)), none⟩])))))) (.seq (.draw 9 (.one true ⟨(some 49), (.load true 2 (.t 7)), none⟩ (.one true ⟨(some 50), (.mov (.t 0)), none⟩ (.one true ⟨(some 53), (.mov (.t 1)), none⟩ (.two (.one true ⟨(some 51), (.call 25 [(.t 50), (.k (.int .i64 1000))]), none⟩ (.one true ⟨(some 52), (.bin .add (.k (.int .i64 100)) (.t 51)), none⟩ (.two (.one true ⟨(some 54), (.call 25 [(.t 53), (.k (.int .i64 12))]), none⟩ (.one true ⟨(some 55), (.build [(.int .i64 0), (.int .i64 0), (.int .i64 0), (.int .i64 0), (.int .i64 0)] [(0, (1, (.t 52))), (1, (1, (.k (.int .i64 2)))), (2, (1, (.t 54)))]), none⟩ (.two (.one true ⟨(some 56), (.call 32 [(.t 49), (.t 55), (.k (.int .i64 3)), (.k (.int .i64 4))]), none⟩ (.one true ⟨(some 48), (.mov (.t 56)), none⟩ (.one true ⟨(some 57), (.ext (.t 48) 0), none⟩ (.one true ⟨(some 58), (.ext (.t 48) 1), none⟩ (.one true ⟨(some 59), (.ext (.t 48) 2), none⟩ (.one true ⟨(some 60), (.ext (.t 48) 3), none⟩ (.one true ⟨(some 13), (.alloc [.nil0, .nil0]), none⟩ (.one false ⟨none, (.store 2 (.t 13) (.t 57)), none⟩ (.one true ⟨(some 14), (.mov (.t 58)), none⟩ (.one true ⟨(some 15), (.mov (.t 59)), none⟩ (.one true ⟨(some 16), (.mov (.t 60)), none⟩ .done))))))))))) (.two (.one true ⟨(some 13), (.alloc [.nil0, .nil0]), none⟩ (.one true ⟨(some 56), (.call 32 [(.t 49), (.t 55), (.k (.int .i64 3)), (.k (.int .i64 4))]), none⟩ (.one true ⟨(some 48), (.mov (.t 56)), none⟩ (.one true ⟨(some 57), (.ext (.t 48) 0), none⟩ (.one true ⟨(some 58), (.ext (.t 48) 1), none⟩ (.one true ⟨(some 59), (.ext (.t 48) 2), none⟩ (.one true ⟨(some 60), (.ext (.t 48) 3), none⟩ (.one false ⟨none, (.store 2 (.t 13) (.t 57)), none⟩ (.one true ⟨(some 14), (.mov (.t 58)), none⟩ (.one true ⟨(some 15), (.mov (.t 59)), none⟩ (.one true ⟨(some 16), (.mov (.t 60)), none⟩ .done))))))))))) .top)))) (.two (.one true ⟨(some 13), (.alloc [.nil0, .nil0]), none⟩ (.one true ⟨(some 54), (.call 25 [(.t 53), (.k (.int .i64 12))]), none⟩ (.one true ⟨(some 55), (.build [(.int .i64 0), (.int .i64 0), (.int .i64 0), (.int .i64 0), (.int .i64 0)] [(0, (1, (.t 52))), (1, (1, (.k (.int .i64 2)))), (2, (1, (.t 54)))]), none⟩ (.one true ⟨(some 56), (.call 32 [(.t 49), (.t 55), (.k (.int .i64 3)), (.k (.int .i64 4))]), none⟩ (.one true ⟨(some 48), (.mov (.t 56)), none⟩ (.one true ⟨(some 57), (.ext (.t 48) 0), none⟩ (.one true ⟨(some 58), (.ext (.t 48) 1), none⟩ (.one true ⟨(some 59), (.ext (.t 48) 2), none⟩ (.one true ⟨(some 60), (.ext (.t 48) 3), none⟩ (.one false ⟨none, (.store 2 (.t 13) (.t 57)), none⟩ (.one true ⟨(some 14), (.mov (.t 58)), none⟩ (.one true ⟨(some 15), (.mov (.t 59)), none⟩ (.one true ⟨(some 16), (.mov (.t 60)), none⟩ .done))))))))))))) .top)))) (.two (.one true ⟨(some 13), (.alloc [.nil0, .nil0]), none⟩ (.one true ⟨(some 51), (.call 25 [(.t 50), (.k (.int .i64 1000))]), none⟩ (.one true ⟨(some 52), (.bin .add (.k (.int .i64 100)) (.t 51)), none⟩ (.one true ⟨(some 54), (.call 25 [(.t 53), (.k (.int .i64 12))]), none⟩ (.one true ⟨(some 55), (.build [(.int .i64 0), (.int .i64 0), (.int .i64 0), (.int .i64 0), (.int .i64 0)] [(0, (1, (.t 52))), (1, (1, (.k (.int .i64 2)))), (2, (1, (.t 54)))]), none⟩ (.one true ⟨(some 56), (.call 32 [(.t 49), (.t 55), (.k (.int .i64 3)), (.k (.int .i64 4))]), none⟩ (.one true ⟨(some 48), (.mov (.t 56)), none⟩ (.one true ⟨(some 57), (.ext (.t 48) 0), none⟩ (.one true ⟨(some 58), (.ext (.t 48) 1), none⟩ (.one true ⟨(some 59), (.ext (.t 48) 2), none⟩ (.one true ⟨(some 60), (.ext (.t 48) 3), none⟩ (.one false ⟨none, (.store 2 (.t 13) (.t 57)), none⟩ (.one true ⟨(some 14), (.mov (.t 58)), none⟩ (.one true ⟨(some 15), (.mov (.t 59)), none⟩ (.one true ⟨(some 16), (.mov (.t 60)), none⟩ .done))))))))))))))) .top)))))) (.seq (.region 10 [⟨(some 61), (.mov (.t 2)), none⟩, ⟨(some 62), (.call 25 [(.t 61), (.k (.int .i64 100))]), none⟩, ⟨(some 17), (.mov (.t 62)), none⟩]) (.seq (.region 11 [⟨(some 64), (.load true 2 (.t 7)), none⟩, ⟨(some 65), (.mov (.t 17)), none⟩, ⟨(some 66), (.build [(.int .i64 0), (.int .i64 0), (.int .i64 0), (.int .i64 0), (.int .i64 0)] [(0, (1, (.t 65))), (1, (1, (.k (.int .i64 2))))]), none⟩, ⟨(some 67), (.call 32 [(.t 64), (.t 66), (.k (.int .i64 3)), (.k (.int .i64 4))]), none⟩, ⟨(some 63), (.mov (.t 67)), none⟩, ⟨(some 68), (.ext (.t 63) 0), none⟩, ⟨(some 69), (.ext (.t 63) 1), none⟩, ⟨(some 70), (.ext (.t 63) 2), none⟩, ⟨(some 71), (.ext (.t 63) 3), none⟩, ⟨(some 18), (.alloc [.nil0, .nil0]), none⟩, ⟨none, (.store 2 (.t 18) (.t 68)), none⟩, ⟨(some 19), (.mov (.t 69)), none⟩, ⟨(some 20), (.mov (.t 70)), none⟩, ⟨(some 21), (.mov (.t 71)), none⟩]) (.seq (.region 12 [⟨(some 22), (.mov (.k (.int .i64 0))), none⟩]) (.seq (.seq (.region 13 [⟨(some 72), (.mov (.t 17)), none⟩, ⟨(some 73), (.bin .geq (.t 72) (.k (.int .i64 12))), none⟩]) (.cond 73 (.region 14 [⟨(some 22), (.mov (.k (.int .i64 7))), none⟩]) .skip)) (.seq (.region 15 [⟨(some 74), (.mov (.t 16)), none⟩, ⟨(some 75), (.bin .eql (.t 74) (.k (.int .i64 0))), none⟩, ⟨(some 76), (.mov (.t 75)), none⟩, ⟨(some 77), (.mov (.t 21)), (some (76, true))⟩, ⟨(some 78), (.bin .eql (.t 77) (.k (.int .i64 0))), (some (76, true))⟩, ⟨(some 79), (.pick (.t 76) (.t 78) (.k (.bool false))), none⟩, ⟨(some 80), (.mov (.t 79)), none⟩, ⟨(some 81), (.mov (.t 15)), (some (80, true))⟩, ⟨(some 82), (.not (.t 81)), (some (80, true))⟩, ⟨(some 83), (.pick (.t 80) (.t 82) (.k (.bool false))), none⟩, ⟨(some 84), (.mov (.t 83)), none⟩, ⟨(some 85), (.mov (.t 20)), (some (84, true))⟩, ⟨(some 86), (.not (.t 85)), (some (84, true))⟩, ⟨(some 87), (.pick (.t 84) (.t 86) (.k (.bool false))), none⟩, ⟨(some 88), (.mov (.t 87)), none⟩, ⟨(some 89), (.mov (.t 14)), (some (88, true))⟩, ⟨(some 90), (.bin .eql (.t 89) (.k (.int .i64 9))), (some (88, true))⟩, ⟨(some 91), (.pick (.t 88) (.t 90) (.k (.bool false))), none⟩, ⟨(some 92), (.mov (.t 91)), none⟩, ⟨(some 93), (.mov (.t 19)), (some (92, true))⟩, ⟨(some 94), (.mov (.t 22)), (some (92, true))⟩, ⟨(some 95), (.bin .eql (.t 93) (.t 94)), (some (92, true))⟩, ⟨(some 96), (.pick (.t 92) (.t 95) (.k (.bool false))), none⟩, ⟨(some 97), (.mov (.t 96)), none⟩, ⟨(some 98), (.load true 2 (.t 7)), (some (97, true))⟩, ⟨(some 99), (.load true 2 (.t 13)), (some (97, true))⟩, ⟨(some 100), (.call 33 [(.t 98), (.t 99)]), (some (97, true))⟩, ⟨(some 101), (.pick (.t 97) (.t 100) (.k (.bool false))), none⟩, ⟨(some 102), (.mov (.t 101)), none⟩, ⟨(some 103), (.load true 2 (.t 7)), (some (102, true))⟩, ⟨(some 104), (.load true 2 (.t 18)), (some (102, true))⟩, ⟨(some 105), (.call 33 [(.t 103), (.t 104)]), (some (102, true))⟩, ⟨(some 106), (.pick (.t 102) (.t 105) (.k (.bool false))), none⟩, ⟨(some 6), (.mov (.t 106)), none⟩]) .ret))))))))), [(.t 6)], 107⟩ := by kernel_rfl
theorem lfull_pf (id backend again : Int) (i1 : InR id) (i2 : InR backend) (i3 : InR again) : PF Try.prog 7 [I id, I backend, I again] (.bool true) := by
  have p1 := picked_pf id 1000 i1 (by omega)
  have p2 := picked_pf backend 12 i2 (by omega)
  have p3 := picked_pf again 100 i3 (by omega)
  have q1 := pickedZ_range id 1000 (by omega)
  have q2 := pickedZ_range backend 12 (by omega)
  have q3 := pickedZ_range again 100 (by omega)
  generalize pickedZ id 1000 = a at p1 q1
  generalize pickedZ backend 12 = b at p2 q2
  generalize pickedZ again 100 = k at p3 q3
  obtain ⟨k, rfl⟩ : ∃ n : Nat, k = n := ⟨k.toNat, by omega⟩
  have hl := ful_ok 100 (by omega)
  have hRl : (fulRs 100).length = 100 := by simp [fulRs]
  have hk1 := lask_pf (fulL 100) (fulRs 100) ⟨100 + a, 2, b, 0, 0⟩ 3 4 hl ⟨by simp only; omega, by simp only; omega, .inr rfl⟩ (by omega) (by omega) (by omega) (by omega)
  have e1 : askM (fulL 100) (fulRs 100) ⟨100 + a, 2, b, 0, 0⟩ 3 4 = ⟨fulL 100, fulRs 100, 9, false⟩ := by
    unfold askM
    rw [if_neg (idx_old fun r hr => by have := ful_ids 100 r hr; simp only; omega), if_pos hRl]
  rw [e1] at hk1
  have hk2 := lask_pf (fulL 100) (fulRs 100) ⟨k, 2, 0, 0, 0⟩ 3 4 hl ⟨by simp, by simp only; omega, .inr rfl⟩ (by omega) (by omega) (by omega) (by omega)
  have e2 : askM (fulL 100) (fulRs 100) ⟨k, 2, 0, 0, 0⟩ 3 4 = ⟨fulL 100, fulRs 100, if k < 12 then 0 else 7, false⟩ := by
    have hg : ∀ j (h : j < (fulRs 100).length), (fulRs 100)[j] = fulR j := fun j h => by simp [fulRs]
    have hi : idxZ (qI (k : Int)) (fulRs 100) = k := by
      refine idxZ_at _ _ k (by omega) (fun j hj => ?_) ?_
      · rw [hg j (by omega)]; exact decide_eq_false (by simp only [fulR]; omega)
      · rw [hg k (by omega)]; exact decide_eq_true rfl
    unfold askM
    simp only
    rw [hi, if_pos (by omega)]
    have : (fulRs 100).getD (k : Int).toNat default = fulR k := by
      rw [List.getD_eq_getElem?_getD, List.getElem?_eq_getElem (by omega)]
      simp [hg]
    rw [this]
    rfl
  rw [e2] at hk2
  have hsb := sbook_pf (fulL 100) (fulRs 100) hl.ll hl.lr
  unfold bookD at hk1 hk2 hsb
  refine PF.of follows_ok lfull_code (by simp) (by simp [argOk]) (by simp [noV, noC]) fun B hBN hB0 => acode_sound [0, 1, 2, 6, 7, 8, 9, 11, 12, 13, 14, 15, 16, 17, 18, 19, 20, 21, 22, 24, 46, 73] [] _ _ _ ?_
  simp [AK_at, acode_seq, acode_region, acode_draw, acode_cond, ↓CB_t, ↓CB_f, CB_u, acode_block, acode_loop, acode_exit, acode_scope, acode_ret, acode_skip, seqQ_n, seqQ_e, seqQ_r, blockQ_n, blockQ_e, blockQ_r, TK_at, OK_at, SK_at, aops_nil, aops_cons, asch_done, asch_one, asch_two, asch_top, astep, aop_eq, isLoud, aloud, aloud1, isWrite, qv, evS, strip, gof, eget, hget, putO, eput, herase, oks, opnds, gS, afin, afin0, binD, arith, D.cells, takeD, fillD, keep, trim, envOf, Fin, aresl, aresv, resD, argOk, pickV, isP, deq, deqs, boundD, slD, lenD, isT, isSl, ptrIds, chunks, mn_min, mx_max, D.cells, splice_one, splice_more, Rbr_at, Rfr_at, frR, frV, frC, flatC, brwR, brwV, brwC, omap, leR, leV, leC, leL, leVL]
  refine W.loopS (fun i : Nat => ⟨[(8, I i), (7, .ptr 0 0), (6, .bool false), (2, I again), (1, I backend), (0, I id)], [(0, .cells [.rows 6 ((fulL i).map Lif.D), .rows 5 ((fulRs i).map Rqs.D)])], 1⟩)
    (fun n i => n = 100 - i ∧ i ≤ 100) ?_ ?_
  · refine ⟨_, 0, (Gh.nilC 0 0 6 [.nil0, .nil0] (by simp [hget]) rfl).trans ((Gh.nilC 0 1 5 [.rows 6 [], .nil0] (by simp [hget, eput]) rfl).trans ?_), rfl, by omega⟩
    simp [eput]
    exact (Gh.ren [0] (by simp [hB0]) (by simp [hB0] <;> decide) (by simp [eget, rnS, rnR, rnV, rnC, LtS, LtR, LtV, LtC, lget, fulL, fulRs]) (by simp [hget, rnO, rnC, LtO, LtC, lget, fulL, fulRs]) (.inl (by simp [lget, fulL, fulRs])))
  rintro n i ⟨hn, hi⟩
  refine acode_sound [0, 1, 2, 6, 7, 8, 9, 11, 12, 13, 14, 15, 16, 17, 18, 19, 20, 21, 22, 24, 46, 73] [] _ _ _ ?_
  by_cases hlt : i < 100
  · have hz : (i : Int) < 100 := by omega
    have hask := lask_pf (fulL i) (fulRs i) ⟨i, 1, (i : Int) % 12, 1 + (i : Int) % 8, 0⟩ 3 4 (ful_ok i (by omega)) ⟨by simp, by simp only; omega, .inl rfl⟩ (by omega) (by omega) (by omega) (by omega)
    rw [ful_ask i hlt] at hask
    unfold bookD at hask
    have ii : InR ((i : Int) + 1) := inW (by omega) (by omega)
    have i8 : InR (1 + (i : Int) % 8) := inW (by omega) (by omega)
    repeat' (first
      | simp [AK_at, acode_seq, acode_region, acode_draw, acode_cond, ↓CB_t, ↓CB_f, CB_u, acode_block, acode_loop, acode_exit, acode_scope, acode_ret, acode_skip, seqQ_n, seqQ_e, seqQ_r, blockQ_n, blockQ_e, blockQ_r, TK_at, OK_at, SK_at, aops_nil, aops_cons, asch_done, asch_one, asch_two, asch_top, astep, aop_eq, isLoud, aloud, aloud1, isWrite, qv, evS, strip, gof, eget, hget, putO, eput, herase, oks, opnds, gS, afin, afin0, binD, arith, D.cells, takeD, fillD, keep, trim, envOf, Fin, aresl, aresv, resD, argOk, pickV, isP, deq, deqs, boundD, slD, lenD, isT, isSl, ptrIds, chunks, mn_min, mx_max, D.cells, splice_one, splice_more, Rbr_at, Rfr_at, frR, frV, frC, flatC, brwR, brwV, brwC, omap, leR, leV, leC, leL, leVL, hz, ii, i8, Rqs.D]
      | (refine WCall.pf (hask) ?_ ?_ ?_ ?_; (focus (simp [oks, opnds, gS, gof, eget]; done)); (focus (simp [omap, brwV, brwC, evS, eget, strip, hget, leVL, leV, leC, leL, hz, ii, i8, Rqs.D]; done)); (focus (simp [noV, noC, flatR, flatV, flatC, evS, eget, strip, hz, ii, i8, Rqs.D]; done)))
      | (refine ⟨WCall.pf (hask) ?_ ?_ ?_ ?_, ?_⟩; (focus (simp [oks, opnds, gS, gof, eget]; done)); (focus (simp [omap, brwV, brwC, evS, eget, strip, hget, leVL, leV, leC, leL, hz, ii, i8, Rqs.D]; done)); (focus (simp [noV, noC, flatR, flatV, flatC, evS, eget, strip, hz, ii, i8, Rqs.D]; done)))
      | (with_reducible refine And.intro (And.intro ?_ ?_) ?_)
      | fail)
    all_goals exact ⟨_, i + 1, (Gh.ren [0] (by simp [hB0]) (by simp [hB0] <;> decide) (by simp [eget, rnS, rnR, rnV, rnC, LtS, LtR, LtV, LtC, lget]) (by simp [hget, rnO, rnC, LtO, LtC, lget]) (.inl (by simp [lget]))), by omega, rfl, by omega⟩
  · obtain rfl : i = 100 := by omega
    have ia : InR (100 + a) := inW (by omega) (by omega)
    by_cases hk : k < 12
    · have c1 : ¬ (12 : Int) ≤ k := by omega
      rw [if_pos hk] at hk2
      repeat' (first
        | simp [AK_at, acode_seq, acode_region, acode_draw, acode_cond, ↓CB_t, ↓CB_f, CB_u, acode_block, acode_loop, acode_exit, acode_scope, acode_ret, acode_skip, seqQ_n, seqQ_e, seqQ_r, blockQ_n, blockQ_e, blockQ_r, TK_at, OK_at, SK_at, aops_nil, aops_cons, asch_done, asch_one, asch_two, asch_top, astep, aop_eq, isLoud, aloud, aloud1, isWrite, qv, evS, strip, gof, eget, hget, putO, eput, herase, oks, opnds, gS, afin, afin0, binD, arith, D.cells, takeD, fillD, keep, trim, envOf, Fin, aresl, aresv, resD, argOk, pickV, isP, deq, deqs, boundD, slD, lenD, isT, isSl, ptrIds, chunks, mn_min, mx_max, D.cells, splice_one, splice_more, Rbr_at, Rfr_at, frR, frV, frC, flatC, brwR, brwV, brwC, omap, leR, leV, leC, leL, leVL, ia, Rqs.D, c1]
        | (refine WCall.pf (p1) ?_ ?_ ?_ ?_; (focus (simp [oks, opnds, gS, gof, eget]; done)); (focus (simp [omap, brwV, brwC, evS, eget, strip, hget, leVL, leV, leC, leL, ia, Rqs.D, c1]; done)); (focus (simp [noV, noC, flatR, flatV, flatC, evS, eget, strip, ia, Rqs.D, c1]; done)))
        | (refine ⟨WCall.pf (p1) ?_ ?_ ?_ ?_, ?_⟩; (focus (simp [oks, opnds, gS, gof, eget]; done)); (focus (simp [omap, brwV, brwC, evS, eget, strip, hget, leVL, leV, leC, leL, ia, Rqs.D, c1]; done)); (focus (simp [noV, noC, flatR, flatV, flatC, evS, eget, strip, ia, Rqs.D, c1]; done)))
        | (refine WCall.pf (p2) ?_ ?_ ?_ ?_; (focus (simp [oks, opnds, gS, gof, eget]; done)); (focus (simp [omap, brwV, brwC, evS, eget, strip, hget, leVL, leV, leC, leL, ia, Rqs.D, c1]; done)); (focus (simp [noV, noC, flatR, flatV, flatC, evS, eget, strip, ia, Rqs.D, c1]; done)))
        | (refine ⟨WCall.pf (p2) ?_ ?_ ?_ ?_, ?_⟩; (focus (simp [oks, opnds, gS, gof, eget]; done)); (focus (simp [omap, brwV, brwC, evS, eget, strip, hget, leVL, leV, leC, leL, ia, Rqs.D, c1]; done)); (focus (simp [noV, noC, flatR, flatV, flatC, evS, eget, strip, ia, Rqs.D, c1]; done)))
        | (refine WCall.pf (p3) ?_ ?_ ?_ ?_; (focus (simp [oks, opnds, gS, gof, eget]; done)); (focus (simp [omap, brwV, brwC, evS, eget, strip, hget, leVL, leV, leC, leL, ia, Rqs.D, c1]; done)); (focus (simp [noV, noC, flatR, flatV, flatC, evS, eget, strip, ia, Rqs.D, c1]; done)))
        | (refine ⟨WCall.pf (p3) ?_ ?_ ?_ ?_, ?_⟩; (focus (simp [oks, opnds, gS, gof, eget]; done)); (focus (simp [omap, brwV, brwC, evS, eget, strip, hget, leVL, leV, leC, leL, ia, Rqs.D, c1]; done)); (focus (simp [noV, noC, flatR, flatV, flatC, evS, eget, strip, ia, Rqs.D, c1]; done)))
        | (refine WCall.pf (hk1) ?_ ?_ ?_ ?_; (focus (simp [oks, opnds, gS, gof, eget]; done)); (focus (simp [omap, brwV, brwC, evS, eget, strip, hget, leVL, leV, leC, leL, ia, Rqs.D, c1]; done)); (focus (simp [noV, noC, flatR, flatV, flatC, evS, eget, strip, ia, Rqs.D, c1]; done)))
        | (refine ⟨WCall.pf (hk1) ?_ ?_ ?_ ?_, ?_⟩; (focus (simp [oks, opnds, gS, gof, eget]; done)); (focus (simp [omap, brwV, brwC, evS, eget, strip, hget, leVL, leV, leC, leL, ia, Rqs.D, c1]; done)); (focus (simp [noV, noC, flatR, flatV, flatC, evS, eget, strip, ia, Rqs.D, c1]; done)))
        | (refine WCall.pf (hk2) ?_ ?_ ?_ ?_; (focus (simp [oks, opnds, gS, gof, eget]; done)); (focus (simp [omap, brwV, brwC, evS, eget, strip, hget, leVL, leV, leC, leL, ia, Rqs.D, c1]; done)); (focus (simp [noV, noC, flatR, flatV, flatC, evS, eget, strip, ia, Rqs.D, c1]; done)))
        | (refine ⟨WCall.pf (hk2) ?_ ?_ ?_ ?_, ?_⟩; (focus (simp [oks, opnds, gS, gof, eget]; done)); (focus (simp [omap, brwV, brwC, evS, eget, strip, hget, leVL, leV, leC, leL, ia, Rqs.D, c1]; done)); (focus (simp [noV, noC, flatR, flatV, flatC, evS, eget, strip, ia, Rqs.D, c1]; done)))
        | (refine WCall.pf (hsb) ?_ ?_ ?_ ?_; (focus (simp [oks, opnds, gS, gof, eget]; done)); (focus (simp [omap, brwV, brwC, evS, eget, strip, hget, leVL, leV, leC, leL, ia, Rqs.D, c1]; done)); (focus (simp [noV, noC, flatR, flatV, flatC, evS, eget, strip, ia, Rqs.D, c1]; done)))
        | (refine ⟨WCall.pf (hsb) ?_ ?_ ?_ ?_, ?_⟩; (focus (simp [oks, opnds, gS, gof, eget]; done)); (focus (simp [omap, brwV, brwC, evS, eget, strip, hget, leVL, leV, leC, leL, ia, Rqs.D, c1]; done)); (focus (simp [noV, noC, flatR, flatV, flatC, evS, eget, strip, ia, Rqs.D, c1]; done)))
        | (with_reducible refine And.intro (And.intro ?_ ?_) ?_)
        | fail)
    · have c1 : (12 : Int) ≤ k := by omega
      rw [if_neg hk] at hk2
      repeat' (first
        | simp [AK_at, acode_seq, acode_region, acode_draw, acode_cond, ↓CB_t, ↓CB_f, CB_u, acode_block, acode_loop, acode_exit, acode_scope, acode_ret, acode_skip, seqQ_n, seqQ_e, seqQ_r, blockQ_n, blockQ_e, blockQ_r, TK_at, OK_at, SK_at, aops_nil, aops_cons, asch_done, asch_one, asch_two, asch_top, astep, aop_eq, isLoud, aloud, aloud1, isWrite, qv, evS, strip, gof, eget, hget, putO, eput, herase, oks, opnds, gS, afin, afin0, binD, arith, D.cells, takeD, fillD, keep, trim, envOf, Fin, aresl, aresv, resD, argOk, pickV, isP, deq, deqs, boundD, slD, lenD, isT, isSl, ptrIds, chunks, mn_min, mx_max, D.cells, splice_one, splice_more, Rbr_at, Rfr_at, frR, frV, frC, flatC, brwR, brwV, brwC, omap, leR, leV, leC, leL, leVL, ia, Rqs.D, c1]
        | (refine WCall.pf (p1) ?_ ?_ ?_ ?_; (focus (simp [oks, opnds, gS, gof, eget]; done)); (focus (simp [omap, brwV, brwC, evS, eget, strip, hget, leVL, leV, leC, leL, ia, Rqs.D, c1]; done)); (focus (simp [noV, noC, flatR, flatV, flatC, evS, eget, strip, ia, Rqs.D, c1]; done)))
        | (refine ⟨WCall.pf (p1) ?_ ?_ ?_ ?_, ?_⟩; (focus (simp [oks, opnds, gS, gof, eget]; done)); (focus (simp [omap, brwV, brwC, evS, eget, strip, hget, leVL, leV, leC, leL, ia, Rqs.D, c1]; done)); (focus (simp [noV, noC, flatR, flatV, flatC, evS, eget, strip, ia, Rqs.D, c1]; done)))
        | (refine WCall.pf (p2) ?_ ?_ ?_ ?_; (focus (simp [oks, opnds, gS, gof, eget]; done)); (focus (simp [omap, brwV, brwC, evS, eget, strip, hget, leVL, leV, leC, leL, ia, Rqs.D, c1]; done)); (focus (simp [noV, noC, flatR, flatV, flatC, evS, eget, strip, ia, Rqs.D, c1]; done)))
        | (refine ⟨WCall.pf (p2) ?_ ?_ ?_ ?_, ?_⟩; (focus (simp [oks, opnds, gS, gof, eget]; done)); (focus (simp [omap, brwV, brwC, evS, eget, strip, hget, leVL, leV, leC, leL, ia, Rqs.D, c1]; done)); (focus (simp [noV, noC, flatR, flatV, flatC, evS, eget, strip, ia, Rqs.D, c1]; done)))
        | (refine WCall.pf (p3) ?_ ?_ ?_ ?_; (focus (simp [oks, opnds, gS, gof, eget]; done)); (focus (simp [omap, brwV, brwC, evS, eget, strip, hget, leVL, leV, leC, leL, ia, Rqs.D, c1]; done)); (focus (simp [noV, noC, flatR, flatV, flatC, evS, eget, strip, ia, Rqs.D, c1]; done)))
        | (refine ⟨WCall.pf (p3) ?_ ?_ ?_ ?_, ?_⟩; (focus (simp [oks, opnds, gS, gof, eget]; done)); (focus (simp [omap, brwV, brwC, evS, eget, strip, hget, leVL, leV, leC, leL, ia, Rqs.D, c1]; done)); (focus (simp [noV, noC, flatR, flatV, flatC, evS, eget, strip, ia, Rqs.D, c1]; done)))
        | (refine WCall.pf (hk1) ?_ ?_ ?_ ?_; (focus (simp [oks, opnds, gS, gof, eget]; done)); (focus (simp [omap, brwV, brwC, evS, eget, strip, hget, leVL, leV, leC, leL, ia, Rqs.D, c1]; done)); (focus (simp [noV, noC, flatR, flatV, flatC, evS, eget, strip, ia, Rqs.D, c1]; done)))
        | (refine ⟨WCall.pf (hk1) ?_ ?_ ?_ ?_, ?_⟩; (focus (simp [oks, opnds, gS, gof, eget]; done)); (focus (simp [omap, brwV, brwC, evS, eget, strip, hget, leVL, leV, leC, leL, ia, Rqs.D, c1]; done)); (focus (simp [noV, noC, flatR, flatV, flatC, evS, eget, strip, ia, Rqs.D, c1]; done)))
        | (refine WCall.pf (hk2) ?_ ?_ ?_ ?_; (focus (simp [oks, opnds, gS, gof, eget]; done)); (focus (simp [omap, brwV, brwC, evS, eget, strip, hget, leVL, leV, leC, leL, ia, Rqs.D, c1]; done)); (focus (simp [noV, noC, flatR, flatV, flatC, evS, eget, strip, ia, Rqs.D, c1]; done)))
        | (refine ⟨WCall.pf (hk2) ?_ ?_ ?_ ?_, ?_⟩; (focus (simp [oks, opnds, gS, gof, eget]; done)); (focus (simp [omap, brwV, brwC, evS, eget, strip, hget, leVL, leV, leC, leL, ia, Rqs.D, c1]; done)); (focus (simp [noV, noC, flatR, flatV, flatC, evS, eget, strip, ia, Rqs.D, c1]; done)))
        | (refine WCall.pf (hsb) ?_ ?_ ?_ ?_; (focus (simp [oks, opnds, gS, gof, eget]; done)); (focus (simp [omap, brwV, brwC, evS, eget, strip, hget, leVL, leV, leC, leL, ia, Rqs.D, c1]; done)); (focus (simp [noV, noC, flatR, flatV, flatC, evS, eget, strip, ia, Rqs.D, c1]; done)))
        | (refine ⟨WCall.pf (hsb) ?_ ?_ ?_ ?_, ?_⟩; (focus (simp [oks, opnds, gS, gof, eget]; done)); (focus (simp [omap, brwV, brwC, evS, eget, strip, hget, leVL, leV, leC, leL, ia, Rqs.D, c1]; done)); (focus (simp [noV, noC, flatR, flatV, flatC, evS, eget, strip, ia, Rqs.D, c1]; done)))
        | (with_reducible refine And.intro (And.intro ?_ ?_) ?_)
        | fail)
theorem find_none {L : List Lif} {n : Int} (h : ∀ x ∈ L, x.backend < n) : findM L n = -1 := idxZ_none _ _ fun x hx => decide_eq_false (by have := h x hx; omega)
theorem find_last {L : List Lif} {n : Int} {x : Lif} (h : ∀ x ∈ L, x.backend < n) (hx : x.backend = n) : findM (L ++ [x]) n = L.length := by
  refine idxZ_at _ _ L.length (by simp) (fun j hj => ?_) ?_
  · rw [List.getElem_append_left hj]
    exact decide_eq_false (by have := h _ (List.getElem_mem hj); omega)
  · simp [qB, hx]
theorem pos_last {L : List Lif} {n : Int} (h : ∀ x ∈ L, x.backend < n) : joinPos L n = L.length := by
  refine lowB_at _ _ _ (Nat.le_refl _) (fun j hj _ => ?_) (fun h => by omega)
  have := h _ (List.getElem_mem hj)
  simp only [decide_eq_true_eq]; omega
theorem getD_last (L : List Lif) (x d : Lif) : (L ++ [x]).getD L.length d = x := by simp
theorem set_last (L : List Lif) (x y : Lif) : (L ++ [x]).set L.length y = L ++ [y] := by simp
/-- what is asked anew of the last one -/
theorem ask_join0 {L : List Lif} {R : List Rqs} {n w i now d : Int} (h : ∀ x ∈ L, x.backend < n) (hn : 0 ≤ n ∧ n < 12) (hw : 1 ≤ w ∧ w ≤ 8) (hi : ∀ r ∈ R, r.id < i) (hl : R.length ≠ 100) :
    askM L R ⟨i, 1, n, w, 0⟩ now d = ⟨L ++ [⟨n, 1, w, 0, 0, 0⟩], R ++ [⟨i, 1, n, w, 0⟩], 0, true⟩ := by
  unfold askM
  simp only
  rw [if_neg (idx_old hi), if_neg hl, if_pos trivial]
  have : joinM L ⟨i, 1, n, w, 0⟩ = (L ++ [⟨n, 1, w, 0, 0, 0⟩], 0) := by
    unfold joinM
    simp only
    rw [if_neg (by omega), find_none h, if_neg (by omega), pos_last h, List.take_length, List.drop_length, List.append_nil]
  rw [this]
theorem ask_join1 {L : List Lif} {R : List Rqs} {n w i now d : Int} {x : Lif} (h : ∀ x ∈ L, x.backend < n) (hx : x.backend = n) (hn : 0 ≤ n ∧ n < 12) (hw : 1 ≤ w ∧ w ≤ 8) (hi : ∀ r ∈ R, r.id < i) (hl : R.length ≠ 100) :
    askM (L ++ [x]) R ⟨i, 1, n, w, 0⟩ now d = if x.state = 4 then ⟨L ++ [⟨n, 1, w, 0, 0, 0⟩], R ++ [⟨i, 1, n, w, 0⟩], 0, true⟩ else ⟨L ++ [x], R ++ [⟨i, 1, n, w, 7⟩], 7, true⟩ := by
  unfold askM
  simp only
  rw [if_neg (idx_old hi), if_neg hl, if_pos trivial]
  have : joinM (L ++ [x]) ⟨i, 1, n, w, 0⟩ = if x.state = 4 then (L ++ [⟨n, 1, w, 0, 0, 0⟩], 0) else (L ++ [x], 7) := by
    unfold joinM
    simp only
    rw [if_neg (by omega), find_last h hx, if_pos (by omega), Int.toNat_natCast, getD_last, set_last]
  rw [this]
  split <;> rfl
theorem ask_ret0 {L : List Lif} {R : List Rqs} {n i now d : Int} (h : ∀ x ∈ L, x.backend < n) (hi : ∀ r ∈ R, r.id < i) (hl : R.length ≠ 100) :
    askM L R ⟨i, 2, n, 0, 0⟩ now d = ⟨L, R ++ [⟨i, 2, n, 0, 8⟩], 8, true⟩ := by
  unfold askM
  simp only
  rw [if_neg (idx_old hi), if_neg hl, if_neg (by omega)]
  have : retireM L ⟨i, 2, n, 0, 0⟩ now d = (L, 8) := by
    unfold retireM
    simp only
    rw [find_none h, if_pos (by omega)]
  rw [this]
theorem ask_ret1 {L : List Lif} {R : List Rqs} {n i now d : Int} {x : Lif} (h : ∀ x ∈ L, x.backend < n) (hx : x.backend = n) (hi : ∀ r ∈ R, r.id < i) (hl : R.length ≠ 100) (h4 : x.state ≠ 4) (h1 : x.state ≠ 1) :
    askM (L ++ [x]) R ⟨i, 2, n, 0, 0⟩ now d = if x.state = 3 then ⟨L ++ [x], R ++ [⟨i, 2, n, 0, 12⟩], 12, true⟩ else ⟨L ++ [{ x with state := 3, til := now + d, req := i }], R ++ [⟨i, 2, n, 0, 0⟩], 0, true⟩ := by
  unfold askM
  simp only
  rw [if_neg (idx_old hi), if_neg hl, if_neg (by omega)]
  have : retireM (L ++ [x]) ⟨i, 2, n, 0, 0⟩ now d = if x.state = 3 then (L ++ [x], 12) else (L ++ [{ x with state := 3, til := now + d, req := i }], 0) := by
    unfold retireM
    simp only
    rw [find_last h hx, if_neg (by omega), Int.toNat_natCast, getD_last, set_last, if_neg h4, if_neg h1]
  rw [this]
  split <;> rfl
theorem of_last {L : List Lif} {n : Int} {x : Lif} (h : ∀ x ∈ L, x.backend < n) (hx : x.backend = n) : ofM (L ++ [x]) n = (x, 0) := by
  unfold ofM
  rw [find_last h hx, if_neg (by omega), Int.toNat_natCast, getD_last]
theorem fin_last {L : List Lif} {n : Int} {x : Lif} (h : ∀ x ∈ L, x.backend < n) (hx : x.backend = n) (h3 : x.state = 3) : finishM (L ++ [x]) n = (L ++ [{ x with state := 4 }], 0) := by
  unfold finishM
  simp only
  rw [find_last h hx, if_neg (by omega), Int.toNat_natCast, getD_last, if_pos h3, set_last]
theorem wake_last {L : List Lif} {now : Int} {x : Lif} (h1 : x.state = 1) : wakeM (L ++ [x]) now = wakeM L now ++ [{ x with state := 2, since := now }] := by
  simp [wakeM, wakeX, h1]
end Go.Proofs.Ytfkeddefajkobaa

set_option linter.unusedSimpArgs false
set_option linter.unusedVariables false
set_option maxRecDepth 100000
set_option maxHeartbeats 4000000
namespace Go.Proofs.Ytfkeddefajkobaa
open Go.RowKit
theorem ids_snoc {R : List Rqs} {i j : Int} (h : ∀ r ∈ R, r.id < i) (x : Rqs) (hx : x.id < j) (hij : i ≤ j) : ∀ r ∈ R ++ [x], r.id < j := fun r hr => by
  rcases List.mem_append.1 hr with h1 | h1
  · have := h r h1; omega
  · obtain rfl := List.mem_singleton.1 h1; exact hx
/-- the whole cycle of one newcomer -/
theorem cyc {L0 : List Lif} {R0 : List Rqs} {n w t : Int} (hok : BookOk L0 R0) (hlb : ∀ x ∈ L0, x.backend < n) (hi : ∀ r ∈ R0, r.id < 101) (hl : R0.length ≤ 30) (hn : 0 ≤ n ∧ n < 12) (hw : 1 ≤ w ∧ w ≤ 8) (ht : 0 ≤ t ∧ t ≤ 1000) :
    ∃ R1 L2 R2 L3 R3 L4 L5 R5 L6 R6 L7 L8 R8,
      askM L0 R0 ⟨101, 2, n, 0, 0⟩ t 9 = ⟨L0, R1, 8, true⟩ ∧ BookOk L0 R1 ∧
      askM L0 R1 ⟨102, 1, n, w, 0⟩ t 9 = ⟨L2, R2, 0, true⟩ ∧ BookOk L2 R2 ∧
      askM L2 R2 ⟨103, 1, n, w, 0⟩ t 9 = ⟨L3, R3, 7, true⟩ ∧ BookOk L3 R3 ∧
      wakeM L3 (t + 1) = L4 ∧ BookOk L4 R3 ∧
      ofM L4 n = (⟨n, 2, w, t + 1, 0, 0⟩, 0) ∧
      askM L4 R3 ⟨104, 2, n, 0, 0⟩ (t + 2) 9 = ⟨L5, R5, 0, true⟩ ∧ BookOk L5 R5 ∧
      ofM L5 n = (⟨n, 3, w, t + 1, t + 11, 104⟩, 0) ∧
      askM L5 R5 ⟨105, 2, n, 0, 0⟩ (t + 2) 9 = ⟨L6, R6, 12, true⟩ ∧ BookOk L6 R6 ∧
      finishM L6 n = (L7, 0) ∧ BookOk L7 R6 ∧
      ofM L7 n = (⟨n, 4, w, t + 1, t + 11, 104⟩, 0) ∧
      askM L7 R6 ⟨106, 1, n, w, 0⟩ (t + 3) 9 = ⟨L8, R8, 0, true⟩ ∧ BookOk L8 R8 := by
  have e1 := ask_ret0 (R := R0) (i := 101) (now := t) (d := 9) hlb hi (by omega)
  have k1 := ask_ok hok ⟨101, 2, n, 0, 0⟩ ⟨by simp only; omega, by simp only; omega, .inr rfl⟩ t 9 ht.1 (by omega) (by omega) (by omega)
  rw [e1] at k1
  have i1 := ids_snoc hi ⟨101, 2, n, 0, 8⟩ (j := 102) (by simp) (by omega)
  have l1 : (R0 ++ [(⟨101, 2, n, 0, 8⟩ : Rqs)]).length ≤ 31 := by simp; omega
  generalize R0 ++ [(⟨101, 2, n, 0, 8⟩ : Rqs)] = R1 at e1 k1 i1 l1
  have e2 := ask_join0 (R := R1) (w := w) (i := 102) (now := t) (d := 9) hlb hn hw i1 (by omega)
  have k2 := ask_ok k1 ⟨102, 1, n, w, 0⟩ ⟨by simp only; omega, by simp only; omega, .inl rfl⟩ t 9 ht.1 (by omega) (by omega) (by omega)
  rw [e2] at k2
  have i2 := ids_snoc i1 ⟨102, 1, n, w, 0⟩ (j := 103) (by simp) (by omega)
  have l2 : (R1 ++ [(⟨102, 1, n, w, 0⟩ : Rqs)]).length ≤ 32 := by simp; omega
  generalize R1 ++ [(⟨102, 1, n, w, 0⟩ : Rqs)] = R2 at e2 k2 i2 l2
  have e3 := ask_join1 (R := R2) (w := w) (i := 103) (now := t) (d := 9) (x := ⟨n, 1, w, 0, 0, 0⟩) hlb rfl hn hw i2 (by omega)
  rw [if_neg (by simp)] at e3
  have k3 := ask_ok k2 ⟨103, 1, n, w, 0⟩ ⟨by simp only; omega, by simp only; omega, .inl rfl⟩ t 9 ht.1 (by omega) (by omega) (by omega)
  rw [e3] at k3
  have i3 := ids_snoc i2 ⟨103, 1, n, w, 7⟩ (j := 104) (by simp) (by omega)
  have l3 : (R2 ++ [(⟨103, 1, n, w, 7⟩ : Rqs)]).length ≤ 33 := by simp; omega
  generalize R2 ++ [(⟨103, 1, n, w, 7⟩ : Rqs)] = R3 at e3 k3 i3 l3
  have e4 := wake_last (L := L0) (now := t + 1) (x := ⟨n, 1, w, 0, 0, 0⟩) rfl
  have k4 := wake_ok k3 (t + 1) (by omega) (by omega)
  simp only at k4
  rw [e4] at k4
  have hlb4 : ∀ x ∈ wakeM L0 (t + 1), x.backend < n := fun x hx => by
    obtain ⟨y, hy, h, _⟩ := wake_mem x hx
    rw [h]; exact hlb y hy
  generalize wakeM L0 (t + 1) = M at e4 k4 hlb4
  have o4 := of_last (x := ⟨n, 2, w, t + 1, 0, 0⟩) hlb4 rfl
  have e5 := ask_ret1 (R := R3) (i := 104) (now := t + 2) (d := 9) (x := ⟨n, 2, w, t + 1, 0, 0⟩) hlb4 rfl i3 (by omega) (by simp) (by simp)
  rw [if_neg (by simp)] at e5
  simp only [show t + 2 + 9 = t + 11 by omega] at e5
  have k5 := ask_ok k4 ⟨104, 2, n, 0, 0⟩ ⟨by simp only; omega, by simp only; omega, .inr rfl⟩ (t + 2) 9 (by omega) (by omega) (by omega) (by omega)
  simp only at k5
  rw [e5] at k5
  have i5 := ids_snoc i3 ⟨104, 2, n, 0, 0⟩ (j := 105) (by simp) (by omega)
  have l5 : (R3 ++ [(⟨104, 2, n, 0, 0⟩ : Rqs)]).length ≤ 34 := by simp; omega
  generalize R3 ++ [(⟨104, 2, n, 0, 0⟩ : Rqs)] = R5 at e5 k5 i5 l5
  have o5 := of_last (x := ⟨n, 3, w, t + 1, t + 11, 104⟩) hlb4 rfl
  have e6 := ask_ret1 (R := R5) (i := 105) (now := t + 2) (d := 9) (x := ⟨n, 3, w, t + 1, t + 11, 104⟩) hlb4 rfl i5 (by omega) (by simp) (by simp)
  rw [if_pos rfl] at e6
  have k6 := ask_ok k5 ⟨105, 2, n, 0, 0⟩ ⟨by simp only; omega, by simp only; omega, .inr rfl⟩ (t + 2) 9 (by omega) (by omega) (by omega) (by omega)
  simp only at k6
  rw [e6] at k6
  have i6 := ids_snoc i5 ⟨105, 2, n, 0, 12⟩ (j := 106) (by simp) (by omega)
  have l6 : (R5 ++ [(⟨105, 2, n, 0, 12⟩ : Rqs)]).length ≤ 35 := by simp; omega
  generalize R5 ++ [(⟨105, 2, n, 0, 12⟩ : Rqs)] = R6 at e6 k6 i6 l6
  have e7 := fin_last (x := ⟨n, 3, w, t + 1, t + 11, 104⟩) hlb4 rfl rfl
  have k7 := finish_ok k6 n
  simp only at k7
  rw [e7] at k7
  have k7 := k7 rfl
  have o7 := of_last (x := ⟨n, 4, w, t + 1, t + 11, 104⟩) hlb4 rfl
  have e8 := ask_join1 (R := R6) (w := w) (i := 106) (now := t + 3) (d := 9) (x := ⟨n, 4, w, t + 1, t + 11, 104⟩) hlb4 rfl hn hw i6 (by omega)
  rw [if_pos rfl] at e8
  have k8 := ask_ok k7 ⟨106, 1, n, w, 0⟩ ⟨by simp only; omega, by simp only; omega, .inl rfl⟩ (t + 3) 9 (by omega) (by omega) (by omega) (by omega)
  simp only at k8
  rw [e8] at k8
  exact ⟨_, _, _, _, _, _, _, _, _, _, _, _, _, e1, k1, e2, k2, e3, k3, e4, k4, o4, e5, k5, o5, e6, k6, e7, k7, o7, e8, k8⟩
theorem lcyc_code : cfun Try.prog [] 13 = some ⟨(.seq (.region 0 [⟨(some 8), (.mov (.k (.bool false))), none⟩]) (.seq (.region 1 [⟨(some 44), (.mov (.t 0)), none⟩, ⟨(some 45), (.call 34 [(.t 44)]), none⟩, ⟨(some 43), (.mov (.t 45)), none⟩, ⟨(some 46), (.ext (.t 43) 0), none⟩, ⟨(some 47), (.ext (.t 43) 1), none⟩, ⟨(some 48), (.ext (.t 43) 2), none⟩, ⟨(some 9), (.alloc [.nil0, .nil0]), none⟩, ⟨none, (.store 2 (.t 9) (.t 46)), none⟩, ⟨(some 10), (.mov (.t 47)), none⟩, ⟨(some 11), (.mov (.t 48)), none⟩]) (.seq (.region 2 [⟨(some 49), (.mov (.t 1)), none⟩, ⟨(some 50), (.call 25 [(.t 49), (.k (.int .i64 5))]), none⟩, ⟨(some 51), (.bin .add (.k (.int .i64 5)) (.t 50)), none⟩, ⟨(some 12), (.mov (.t 51)), none⟩]) (.seq (.region 3 [⟨(some 52), (.mov (.t 2)), none⟩, ⟨(some 53), (.call 25 [(.t 52), (.k (.int .i64 8))]), none⟩, ⟨(some 54), (.bin .add (.k (.int .i64 1)) (.t 53)), none⟩, ⟨(some 13), (.mov (.t 54)), none⟩]) (.seq (.region 4 [⟨(some 55), (.mov (.t 10)), none⟩, ⟨(some 56), (.mov (.t 3)), none⟩, ⟨(some 57), (.call 25 [(.t 56), (.k (.int .i64 100))]), none⟩, ⟨(some 58), (.bin .add (.t 55) (.t 57)), none⟩, ⟨(some 14), (.mov (.t 58)), none⟩]) (.seq (.region 5 [⟨(some 60), (.load true 2 (.t 9)), none⟩, ⟨(some 61), (.mov (.t 12)), none⟩, ⟨(some 62), (.build [(.int .i64 0), (.int .i64 0), (.int .i64 0), (.int .i64 0), (.int .i64 0)] [(0, (1, (.k (.int .i64 101)))), (1, (1, (.k (.int .i64 2)))), (2, (1, (.t 61)))]), none⟩, ⟨(some 63), (.mov (.t 14)), none⟩, ⟨(some 64), (.call 32 [(.t 60), (.t 62), (.t 63), (.k (.int .i64 9))]), none⟩, ⟨(some 59), (.mov (.t 64)), none⟩, ⟨(some 65), (.ext (.t 59) 0), none⟩, ⟨(some 66), (.ext (.t 59) 1), none⟩, ⟨(some 67), (.ext (.t 59) 2), none⟩, ⟨(some 68), (.ext (.t 59) 3), none⟩, ⟨none, (.store 2 (.t 9) (.t 65)), none⟩, ⟨(some 15), (.mov (.t 66)), none⟩, ⟨(some 16), (.mov (.t 67)), none⟩, ⟨(some 17), (.mov (.t 68)), none⟩]) (.seq (.region 6 [⟨(some 70), (.load true 2 (.t 9)), none⟩, ⟨(some 71), (.mov (.t 12)), none⟩, ⟨(some 72), (.mov (.t 13)), none⟩, ⟨(some 73), (.build [(.int .i64 0), (.int .i64 0), (.int .i64 0), (.int .i64 0), (.int .i64 0)] [(0, (1, (.k (.int .i64 102)))), (1, (1, (.k (.int .i64 1)))), (2, (1, (.t 71))), (3, (1, (.t 72)))]), none⟩, ⟨(some 74), (.mov (.t 14)), none⟩, ⟨(some 75), (.call 32 [(.t 70), (.t 73), (.t 74), (.k (.int .i64 9))]), none⟩, ⟨(some 69), (.mov (.t 75)), none⟩, ⟨(some 76), (.ext (.t 69) 0), none⟩, ⟨(some 77), (.ext (.t 69) 1), none⟩, ⟨(some 78), (.ext (.t 69) 2), none⟩, ⟨(some 79), (.ext (.t 69) 3), none⟩, ⟨none, (.store 2 (.t 9) (.t 76)), none⟩, ⟨(some 18), (.mov (.t 77)), none⟩, ⟨(some 19), (.mov (.t 78)), none⟩, ⟨(some 20), (.mov (.t 79)), none⟩]) (.seq (.region 7 [⟨(some 81), (.load true 2 (.t 9)), none⟩, ⟨(some 82), (.mov (.t 12)), none⟩, ⟨(some 83), (.mov (.t 13)), none⟩, ⟨(some 84), (.build [(.int .i64 0), (.int .i64 0), (.int .i64 0), (.int .i64 0), (.int .i64 0)] [(0, (1, (.k (.int .i64 103)))), (1, (1, (.k (.int .i64 1)))), (2, (1, (.t 82))), (3, (1, (.t 83)))]), none⟩, ⟨(some 85), (.mov (.t 14)), none⟩, ⟨(some 86), (.call 32 [(.t 81), (.t 84), (.t 85), (.k (.int .i64 9))]), none⟩, ⟨(some 80), (.mov (.t 86)), none⟩, ⟨(some 87), (.ext (.t 80) 0), none⟩, ⟨(some 88), (.ext (.t 80) 1), none⟩, ⟨(some 89), (.ext (.t 80) 2), none⟩, ⟨(some 90), (.ext (.t 80) 3), none⟩, ⟨none, (.store 2 (.t 9) (.t 87)), none⟩, ⟨(some 21), (.mov (.t 88)), none⟩, ⟨(some 22), (.mov (.t 89)), none⟩, ⟨(some 23), (.mov (.t 90)), none⟩]) (.seq (.region 8 [⟨(some 92), (.load true 2 (.t 9)), none⟩, ⟨(some 93), (.mov (.t 14)), none⟩, ⟨(some 94), (.bin .add (.t 93) (.k (.int .i64 1))), none⟩, ⟨(some 95), (.call 35 [(.t 92), (.t 94)]), none⟩, ⟨(some 91), (.mov (.t 95)), none⟩, ⟨(some 96), (.ext (.t 91) 0), none⟩, ⟨(some 97), (.ext (.t 91) 1), none⟩, ⟨(some 98), (.ext (.t 91) 2), none⟩, ⟨none, (.store 2 (.t 9) (.t 96)), none⟩, ⟨(some 24), (.mov (.t 97)), none⟩, ⟨(some 25), (.mov (.t 98)), none⟩]) (.seq (.region 9 [⟨(some 100), (.load true 2 (.t 9)), none⟩, ⟨(some 101), (.mov (.t 12)), none⟩, ⟨(some 102), (.call 37 [(.t 100), (.t 101)]), none⟩, ⟨(some 99), (.mov (.t 102)), none⟩, ⟨(some 103), (.ext (.t 99) 0), none⟩, ⟨(some 104), (.ext (.t 99) 1), none⟩, ⟨(some 26), (.alloc [(.int .i64 0), (.int .i64 0), (.int .i64 0), (.int .i64 0), (.int .i64 0), (.int .i64 0)]), none⟩, ⟨none, (.store 6 (.t 26) (.t 103)), none⟩, ⟨(some 27), (.mov (.t 104)), none⟩]) (.seq (.region 10 [⟨(some 106), (.load true 2 (.t 9)), none⟩, ⟨(some 107), (.mov (.t 12)), none⟩, ⟨(some 108), (.build [(.int .i64 0), (.int .i64 0), (.int .i64 0), (.int .i64 0), (.int .i64 0)] [(0, (1, (.k (.int .i64 104)))), (1, (1, (.k (.int .i64 2)))), (2, (1, (.t 107)))]), none⟩, ⟨(some 109), (.mov (.t 14)), none⟩, ⟨(some 110), (.bin .add (.t 109) (.k (.int .i64 2))), none⟩, ⟨(some 111), (.call 32 [(.t 106), (.t 108), (.t 110), (.k (.int .i64 9))]), none⟩, ⟨(some 105), (.mov (.t 111)), none⟩, ⟨(some 112), (.ext (.t 105) 0), none⟩, ⟨(some 113), (.ext (.t 105) 1), none⟩, ⟨(some 114), (.ext (.t 105) 2), none⟩, ⟨(some 115), (.ext (.t 105) 3), none⟩, ⟨none, (.store 2 (.t 9) (.t 112)), none⟩, ⟨(some 28), (.mov (.t 113)), none⟩, ⟨(some 29), (.mov (.t 114)), none⟩, ⟨(some 30), (.mov (.t 115)), none⟩]) (.seq (.region 11 [⟨(some 117), (.load true 2 (.t 9)), none⟩, ⟨(some 118), (.mov (.t 12)), none⟩, ⟨(some 119), (.call 37 [(.t 117), (.t 118)]), none⟩, ⟨(some 116), (.mov (.t 119)), none⟩, ⟨(some 120), (.ext (.t 116) 0), none⟩, ⟨(some 121), (.ext (.t 116) 1), none⟩, ⟨(some 31), (.alloc [(.int .i64 0), (.int .i64 0), (.int .i64 0), (.int .i64 0), (.int .i64 0), (.int .i64 0)]), none⟩, ⟨none, (.store 6 (.t 31) (.t 120)), none⟩, ⟨(some 32), (.mov (.t 121)), none⟩]) (.seq (.region 12 [⟨(some 123), (.load true 2 (.t 9)), none⟩, ⟨(some 124), (.mov (.t 12)), none⟩, ⟨(some 125), (.build [(.int .i64 0), (.int .i64 0), (.int .i64 0), (.int .i64 0), (.int .i64 0)] [(0, (1, (.k (.int .i64 105)))), (1, (1, (.k (.int .i64 2)))), (2, (1, (.t 124)))]), none⟩, ⟨(some 126), (.mov (.t 14)), none⟩, ⟨(some 127), (.bin .add (.t 126) (.k (.int .i64 2))), none⟩, ⟨(some 128), (.call 32 [(.t 123), (.t 125), (.t 127), (.k (.int .i64 9))]), none⟩, ⟨(some 122), (.mov (.t 128)), none⟩, ⟨(some 129), (.ext (.t 122) 0), none⟩, ⟨(some 130), (.ext (.t 122) 1), none⟩, ⟨(some 131), (.ext (.t 122) 2), none⟩, ⟨(some 132), (.ext (.t 122) 3), none⟩, ⟨none, (.store 2 (.t 9) (.t 129)), none⟩, ⟨(some 33), (.mov (.t 130)), none⟩, ⟨(some 34), (.mov (.t 131)), none⟩, ⟨(some 35), (.mov (.t 132)), none⟩]) (.seq (.region 13 [⟨(some 134), (.load true 2 (.t 9)), none⟩, ⟨(some 135), (.mov (.t 12)), none⟩, ⟨(some 136), (.call 42 [(.t 134), (.t 135)]), none⟩, ⟨(some 133), (.mov (.t 136)), none⟩, ⟨(some 137), (.ext (.t 133) 0), none⟩, ⟨(some 138), (.ext (.t 133) 1), none⟩, ⟨none, (.store 2 (.t 9) (.t 137)), none⟩, ⟨(some 36), (.mov (.t 138)), none⟩]) (.seq (.region 14 [⟨(some 140), (.load true 2 (.t 9)), none⟩, ⟨(some 141), (.mov (.t 12)), none⟩, ⟨(some 142), (.call 37 [(.t 140), (.t 141)]), none⟩, ⟨(some 139), (.mov (.t 142)), none⟩, ⟨(some 143), (.ext (.t 139) 0), none⟩, ⟨(some 144), (.ext (.t 139) 1), none⟩, ⟨(some 37), (.alloc [(.int .i64 0), (.int .i64 0), (.int .i64 0), (.int .i64 0), (.int .i64 0), (.int .i64 0)]), none⟩, ⟨none, (.store 6 (.t 37) (.t 143)), none⟩, ⟨(some 38), (.mov (.t 144)), none⟩]) (.seq (.region 15 [⟨(some 146), (.load true 2 (.t 9)), none⟩, ⟨(some 147), (.mov (.t 12)), none⟩, ⟨(some 148), (.mov (.t 13)), none⟩, ⟨(some 149), (.build [(.int .i64 0), (.int .i64 0), (.int .i64 0), (.int .i64 0), (.int .i64 0)] [(0, (1, (.k (.int .i64 106)))), (1, (1, (.k (.int .i64 1)))), (2, (1, (.t 147))), (3, (1, (.t 148)))]), none⟩, ⟨(some 150), (.mov (.t 14)), none⟩, ⟨(some 151), (.bin .add (.t 150) (.k (.int .i64 3))), none⟩, ⟨(some 152), (.call 32 [(.t 146), (.t 149), (.t 151), (.k (.int .i64 9))]), none⟩, ⟨(some 145), (.mov (.t 152)), none⟩, ⟨(some 153), (.ext (.t 145) 0), none⟩, ⟨(some 154), (.ext (.t 145) 1), none⟩, ⟨(some 155), (.ext (.t 145) 2), none⟩, ⟨(some 156), (.ext (.t 145) 3), none⟩, ⟨(some 39), (.alloc [.nil0, .nil0]), none⟩, ⟨none, (.store 2 (.t 39) (.t 153)), none⟩, ⟨(some 40), (.mov (.t 154)), none⟩, ⟨(some 41), (.mov (.t 155)), none⟩, ⟨(some 42), (.mov (.t 156)), none⟩]) (.seq (.seq (.region 16 [⟨(some 157), (.mov (.t 11)), none⟩, ⟨(some 158), (.not (.t 157)), none⟩, ⟨(some 159), (.mov (.t 158)), none⟩, ⟨(some 160), (.mov (.t 17)), (some (159, false))⟩, ⟨(some 161), (.bin .neq (.t 160) (.k (.int .i64 0))), (some (159, false))⟩, ⟨(some 162), (.pick (.t 159) (.k (.bool true)) (.t 161)), none⟩, ⟨(some 163), (.mov (.t 162)), none⟩, ⟨(some 164), (.mov (.t 20)), (some (163, false))⟩, ⟨(some 165), (.bin .neq (.t 164) (.k (.int .i64 0))), (some (163, false))⟩, ⟨(some 166), (.pick (.t 163) (.k (.bool true)) (.t 165)), none⟩, ⟨(some 167), (.mov (.t 166)), none⟩, ⟨(some 168), (.mov (.t 23)), (some (167, false))⟩, ⟨(some 169), (.bin .neq (.t 168) (.k (.int .i64 0))), (some (167, false))⟩, ⟨(some 170), (.pick (.t 167) (.k (.bool true)) (.t 169)), none⟩, ⟨(some 171), (.mov (.t 170)), none⟩, ⟨(some 172), (.mov (.t 25)), (some (171, false))⟩, ⟨(some 173), (.bin .neq (.t 172) (.k (.int .i64 0))), (some (171, false))⟩, ⟨(some 174), (.pick (.t 171) (.k (.bool true)) (.t 173)), none⟩, ⟨(some 175), (.mov (.t 174)), none⟩, ⟨(some 176), (.mov (.t 27)), (some (175, false))⟩, ⟨(some 177), (.bin .neq (.t 176) (.k (.int .i64 0))), (some (175, false))⟩, ⟨(some 178), (.pick (.t 175) (.k (.bool true)) (.t 177)), none⟩, ⟨(some 179), (.mov (.t 178)), none⟩, ⟨(some 180), (.mov (.t 30)), (some (179, false))⟩, ⟨(some 181), (.bin .neq (.t 180) (.k (.int .i64 0))), (some (179, false))⟩, ⟨(some 182), (.pick (.t 179) (.k (.bool true)) (.t 181)), none⟩, ⟨(some 183), (.mov (.t 182)), none⟩, ⟨(some 184), (.mov (.t 32)), (some (183, false))⟩, ⟨(some 185), (.bin .neq (.t 184) (.k (.int .i64 0))), (some (183, false))⟩, ⟨(some 186), (.pick (.t 183) (.k (.bool true)) (.t 185)), none⟩, ⟨(some 187), (.mov (.t 186)), none⟩, ⟨(some 188), (.mov (.t 35)), (some (187, false))⟩, ⟨(some 189), (.bin .neq (.t 188) (.k (.int .i64 0))), (some (187, false))⟩, ⟨(some 190), (.pick (.t 187) (.k (.bool true)) (.t 189)), none⟩, ⟨(some 191), (.mov (.t 190)), none⟩, ⟨(some 192), (.mov (.t 36)), (some (191, false))⟩, ⟨(some 193), (.bin .neq (.t 192) (.k (.int .i64 0))), (some (191, false))⟩, ⟨(some 194), (.pick (.t 191) (.k (.bool true)) (.t 193)), none⟩, ⟨(some 195), (.mov (.t 194)), none⟩, ⟨(some 196), (.mov (.t 38)), (some (195, false))⟩, ⟨(some 197), (.bin .neq (.t 196) (.k (.int .i64 0))), (some (195, false))⟩, ⟨(some 198), (.pick (.t 195) (.k (.bool true)) (.t 197)), none⟩, ⟨(some 199), (.mov (.t 198)), none⟩, ⟨(some 200), (.mov (.t 42)), (some (199, false))⟩, ⟨(some 201), (.bin .neq (.t 200) (.k (.int .i64 0))), (some (199, false))⟩, ⟨(some 202), (.pick (.t 199) (.k (.bool true)) (.t 201)), none⟩]) (.cond 202 (.seq (.region 17 [⟨(some 8), (.mov (.k (.bool false))), none⟩]) .ret) .skip)) (.seq (.seq (.region 18 [⟨(some 203), (.mov (.t 15)), none⟩, ⟨(some 204), (.bin .neq (.t 203) (.k (.int .i64 8))), none⟩, ⟨(some 205), (.mov (.t 204)), none⟩, ⟨(some 206), (.mov (.t 18)), (some (205, false))⟩, ⟨(some 207), (.bin .neq (.t 206) (.k (.int .i64 0))), (some (205, false))⟩, ⟨(some 208), (.pick (.t 205) (.k (.bool true)) (.t 207)), none⟩, ⟨(some 209), (.mov (.t 208)), none⟩, ⟨(some 210), (.mov (.t 21)), (some (209, false))⟩, ⟨(some 211), (.bin .neq (.t 210) (.k (.int .i64 7))), (some (209, false))⟩, ⟨(some 212), (.pick (.t 209) (.k (.bool true)) (.t 211)), none⟩, ⟨(some 213), (.mov (.t 212)), none⟩, ⟨(some 214), (.mov (.t 28)), (some (213, false))⟩, ⟨(some 215), (.bin .neq (.t 214) (.k (.int .i64 0))), (some (213, false))⟩, ⟨(some 216), (.pick (.t 213) (.k (.bool true)) (.t 215)), none⟩, ⟨(some 217), (.mov (.t 216)), none⟩, ⟨(some 218), (.mov (.t 33)), (some (217, false))⟩, ⟨(some 219), (.bin .neq (.t 218) (.k (.int .i64 12))), (some (217, false))⟩, ⟨(some 220), (.pick (.t 217) (.k (.bool true)) (.t 219)), none⟩, ⟨(some 221), (.mov (.t 220)), none⟩, ⟨(some 222), (.mov (.t 40)), (some (221, false))⟩, ⟨(some 223), (.bin .neq (.t 222) (.k (.int .i64 0))), (some (221, false))⟩, ⟨(some 224), (.pick (.t 221) (.k (.bool true)) (.t 223)), none⟩]) (.cond 224 (.seq (.region 19 [⟨(some 8), (.mov (.k (.bool false))), none⟩]) .ret) .skip)) (.seq (.region 20 [⟨(some 225), (.fad 1 (.t 26)), none⟩, ⟨(some 226), (.load false 1 (.t 225)), none⟩, ⟨(some 227), (.bin .eql (.t 226) (.k (.int .i64 2))), none⟩, ⟨(some 228), (.mov (.t 227)), none⟩, ⟨(some 229), (.fad 3 (.t 26)), (some (228, true))⟩, ⟨(some 230), (.load false 1 (.t 229)), (some (228, true))⟩, ⟨(some 231), (.mov (.t 14)), (some (228, true))⟩, ⟨(some 232), (.bin .add (.t 231) (.k (.int .i64 1))), (some (228, true))⟩, ⟨(some 233), (.bin .eql (.t 230) (.t 232)), (some (228, true))⟩, ⟨(some 234), (.pick (.t 228) (.t 233) (.k (.bool false))), none⟩, ⟨(some 235), (.mov (.t 234)), none⟩, ⟨(some 236), (.fad 2 (.t 26)), (some (235, true))⟩, ⟨(some 237), (.load false 1 (.t 236)), (some (235, true))⟩, ⟨(some 238), (.mov (.t 13)), (some (235, true))⟩, ⟨(some 239), (.bin .eql (.t 237) (.t 238)), (some (235, true))⟩, ⟨(some 240), (.pick (.t 235) (.t 239) (.k (.bool false))), none⟩, ⟨(some 241), (.mov (.t 240)), none⟩, ⟨(some 242), (.fad 1 (.t 31)), (some (241, true))⟩, ⟨(some 243), (.load false 1 (.t 242)), (some (241, true))⟩, ⟨(some 244), (.bin .eql (.t 243) (.k (.int .i64 3))), (some (241, true))⟩, ⟨(some 245), (.pick (.t 241) (.t 244) (.k (.bool false))), none⟩, ⟨(some 246), (.mov (.t 245)), none⟩, ⟨(some 247), (.fad 4 (.t 31)), (some (246, true))⟩, ⟨(some 248), (.load false 1 (.t 247)), (some (246, true))⟩, ⟨(some 249), (.mov (.t 14)), (some (246, true))⟩, ⟨(some 250), (.bin .add (.t 249) (.k (.int .i64 11))), (some (246, true))⟩, ⟨(some 251), (.bin .eql (.t 248) (.t 250)), (some (246, true))⟩, ⟨(some 252), (.pick (.t 246) (.t 251) (.k (.bool false))), none⟩, ⟨(some 253), (.mov (.t 252)), none⟩, ⟨(some 254), (.fad 5 (.t 31)), (some (253, true))⟩, ⟨(some 255), (.load false 1 (.t 254)), (some (253, true))⟩, ⟨(some 256), (.bin .eql (.t 255) (.k (.int .i64 104))), (some (253, true))⟩, ⟨(some 257), (.pick (.t 253) (.t 256) (.k (.bool false))), none⟩, ⟨(some 258), (.mov (.t 257)), none⟩, ⟨(some 259), (.fad 1 (.t 37)), (some (258, true))⟩, ⟨(some 260), (.load false 1 (.t 259)), (some (258, true))⟩, ⟨(some 261), (.bin .eql (.t 260) (.k (.int .i64 4))), (some (258, true))⟩, ⟨(some 262), (.pick (.t 258) (.t 261) (.k (.bool false))), none⟩, ⟨(some 8), (.mov (.t 262)), none⟩]) .ret))))))))))))))))))), [(.t 8)], 263⟩ := by kernel_rfl
theorem lcyc_pf (l : List (List Int)) (backend weight at_ : Int) (hl : l.length ≤ Go.maxLen) (hr : ∀ r ∈ l, r.length = 5 ∧ ∀ z ∈ r, InR z) (ib : InR backend) (iw : InR weight) (ia : InR at_) :
    PF Try.prog 13 [.rows 5 (l.map fun r => r.map I), I backend, I weight, I at_] (.bool true) := by
  have has := asked_pf l hl hr
  have hinv := askedM_inv l
  have p1 := picked_pf backend 5 ib (by omega)
  have p2 := picked_pf weight 8 iw (by omega)
  have p3 := picked_pf at_ 100 ia (by omega)
  have q1 := pickedZ_range backend 5 (by omega)
  have q2 := pickedZ_range weight 8 (by omega)
  have q3 := pickedZ_range at_ 100 (by omega)
  generalize pickedZ backend 5 = a at p1 q1
  generalize pickedZ weight 8 = b at p2 q2
  generalize pickedZ at_ 100 = c at p3 q3
  generalize askedM l = s at has hinv
  obtain ⟨L, R, now⟩ := s
  obtain ⟨hok, n0, n1, hrl, _, hri, hlb⟩ := hinv
  simp only at has hok n0 n1 hrl hri hlb
  have hn1 : now ≤ 60 := by omega
  obtain ⟨R1, L2, R2, L3, R3, L4, L5, R5, L6, R6, L7, L8, R8, e1, k1, e2, k2, e3, k3, e4, k4, o4, e5, k5, o5, e6, k6, e7, k7, o7, e8, k8⟩ :=
    cyc (n := 5 + a) (w := 1 + b) (t := now + c) hok (fun x hx => by have := (hlb x hx).1; omega) (fun r h => by have := hri r h; omega) (by omega) (by omega) (by omega) (by omega)
  have h1 := lask_pf L R ⟨101, 2, 5 + a, 0, 0⟩ (now + c) 9 hok ⟨by simp only; omega, by simp only; omega, .inr rfl⟩ (by omega) (by omega) (by omega) (by omega)
  have h2 := lask_pf L R1 ⟨102, 1, 5 + a, 1 + b, 0⟩ (now + c) 9 k1 ⟨by simp only; omega, by simp only; omega, .inl rfl⟩ (by omega) (by omega) (by omega) (by omega)
  have h3 := lask_pf L2 R2 ⟨103, 1, 5 + a, 1 + b, 0⟩ (now + c) 9 k2 ⟨by simp only; omega, by simp only; omega, .inl rfl⟩ (by omega) (by omega) (by omega) (by omega)
  have h4 := lwake_pf L3 R3 (now + c + 1) k3 (by omega) (by omega)
  have h4o := lof_pf L4 R3 (5 + a) k4
  have h5 := lask_pf L4 R3 ⟨104, 2, 5 + a, 0, 0⟩ (now + c + 2) 9 k4 ⟨by simp only; omega, by simp only; omega, .inr rfl⟩ (by omega) (by omega) (by omega) (by omega)
  have h5o := lof_pf L5 R5 (5 + a) k5
  have h6 := lask_pf L5 R5 ⟨105, 2, 5 + a, 0, 0⟩ (now + c + 2) 9 k5 ⟨by simp only; omega, by simp only; omega, .inr rfl⟩ (by omega) (by omega) (by omega) (by omega)
  have h7 := lfin_pf L6 R6 (5 + a) k6
  have h7o := lof_pf L7 R6 (5 + a) k7
  have h8 := lask_pf L7 R6 ⟨106, 1, 5 + a, 1 + b, 0⟩ (now + c + 3) 9 k7 ⟨by simp only; omega, by simp only; omega, .inl rfl⟩ (by omega) (by omega) (by omega) (by omega)
  rw [e1] at h1
  rw [e2] at h2
  rw [e3] at h3
  rw [e4] at h4
  rw [o4] at h4o
  rw [e5] at h5
  rw [o5] at h5o
  rw [e6] at h6
  rw [e7] at h7
  rw [o7] at h7o
  rw [e8] at h8
  simp only [if_true] at h7
  have lw : (wokenM L3).length ≤ 12 := Nat.le_trans (List.length_filter_le _ _ |> fun h => by simpa [wokenM] using h) k3.ll
  have := hok.ll; have := hok.lr; have := k1.lr; have := k2.ll; have := k2.lr; have := k3.ll; have := k3.lr; have := k4.ll
  have := k5.ll; have := k5.lr; have := k6.ll; have := k6.lr; have := k7.ll; have := k8.ll; have := k8.lr
  generalize (wokenM L3).map (fun z => [I z]) = wk at h4
  unfold bookD at has h1 h2 h3 h4 h4o h5 h5o h6 h7 h7o h8
  have i1 : InR (5 + a) := inW (by omega) (by omega)
  have i2 : InR (1 + b) := inW (by omega) (by omega)
  have i3 : InR (now + c) := inW (by omega) (by omega)
  have i4 : InR (now + c + 1) := inW (by omega) (by omega)
  have i5 : InR (now + c + 2) := inW (by omega) (by omega)
  have i6 : InR (now + c + 3) := inW (by omega) (by omega)
  have i7 : InR (now + c + 11) := inW (by omega) (by omega)
  refine PF.of follows_ok lcyc_code (by simp) (by simp [argOk]) (by simp [noV, noC]) fun B hBN hB0 => acode_sound [0, 1, 2, 3, 8, 9, 10, 11, 12, 13, 14, 15, 17, 18, 20, 21, 23, 25, 26, 27, 28, 30, 31, 32, 33, 35, 36, 37, 38, 40, 42, 202, 224] [] _ _ _ ?_
  repeat' (first
    | simp [AK_at, acode_seq, acode_region, acode_draw, acode_cond, ↓CB_t, ↓CB_f, CB_u, acode_block, acode_loop, acode_exit, acode_scope, acode_ret, acode_skip, seqQ_n, seqQ_e, seqQ_r, blockQ_n, blockQ_e, blockQ_r, TK_at, OK_at, SK_at, aops_nil, aops_cons, asch_done, asch_one, asch_two, asch_top, astep, aop_eq, isLoud, aloud, aloud1, isWrite, qv, evS, strip, gof, eget, hget, putO, eput, herase, oks, opnds, gS, afin, afin0, binD, arith, D.cells, takeD, fillD, keep, trim, envOf, Fin, aresl, aresv, resD, argOk, pickV, isP, deq, deqs, boundD, slD, lenD, isT, isSl, ptrIds, chunks, mn_min, mx_max, D.cells, splice_one, splice_more, Rbr_at, Rfr_at, frR, frV, frC, flatC, brwR, brwV, brwC, omap, leR, leV, leC, leL, leVL, Lif.D, Rqs.D, i1, i2, i3, i4, i5, i6, i7]
    | (refine WCall.pf (has) ?_ ?_ ?_ ?_; (focus (simp [oks, opnds, gS, gof, eget]; done)); (focus (simp [omap, brwV, brwC, evS, eget, strip, hget, leVL, leV, leC, leL, Lif.D, Rqs.D, i1, i2, i3, i4, i5, i6, i7]; done)); (focus (simp [noV, noC, flatR, flatV, flatC, evS, eget, strip, Lif.D, Rqs.D, i1, i2, i3, i4, i5, i6, i7]; done)))
    | (refine ⟨WCall.pf (has) ?_ ?_ ?_ ?_, ?_⟩; (focus (simp [oks, opnds, gS, gof, eget]; done)); (focus (simp [omap, brwV, brwC, evS, eget, strip, hget, leVL, leV, leC, leL, Lif.D, Rqs.D, i1, i2, i3, i4, i5, i6, i7]; done)); (focus (simp [noV, noC, flatR, flatV, flatC, evS, eget, strip, Lif.D, Rqs.D, i1, i2, i3, i4, i5, i6, i7]; done)))
    | (refine WCall.pf (p1) ?_ ?_ ?_ ?_; (focus (simp [oks, opnds, gS, gof, eget]; done)); (focus (simp [omap, brwV, brwC, evS, eget, strip, hget, leVL, leV, leC, leL, Lif.D, Rqs.D, i1, i2, i3, i4, i5, i6, i7]; done)); (focus (simp [noV, noC, flatR, flatV, flatC, evS, eget, strip, Lif.D, Rqs.D, i1, i2, i3, i4, i5, i6, i7]; done)))
    | (refine ⟨WCall.pf (p1) ?_ ?_ ?_ ?_, ?_⟩; (focus (simp [oks, opnds, gS, gof, eget]; done)); (focus (simp [omap, brwV, brwC, evS, eget, strip, hget, leVL, leV, leC, leL, Lif.D, Rqs.D, i1, i2, i3, i4, i5, i6, i7]; done)); (focus (simp [noV, noC, flatR, flatV, flatC, evS, eget, strip, Lif.D, Rqs.D, i1, i2, i3, i4, i5, i6, i7]; done)))
    | (refine WCall.pf (p2) ?_ ?_ ?_ ?_; (focus (simp [oks, opnds, gS, gof, eget]; done)); (focus (simp [omap, brwV, brwC, evS, eget, strip, hget, leVL, leV, leC, leL, Lif.D, Rqs.D, i1, i2, i3, i4, i5, i6, i7]; done)); (focus (simp [noV, noC, flatR, flatV, flatC, evS, eget, strip, Lif.D, Rqs.D, i1, i2, i3, i4, i5, i6, i7]; done)))
    | (refine ⟨WCall.pf (p2) ?_ ?_ ?_ ?_, ?_⟩; (focus (simp [oks, opnds, gS, gof, eget]; done)); (focus (simp [omap, brwV, brwC, evS, eget, strip, hget, leVL, leV, leC, leL, Lif.D, Rqs.D, i1, i2, i3, i4, i5, i6, i7]; done)); (focus (simp [noV, noC, flatR, flatV, flatC, evS, eget, strip, Lif.D, Rqs.D, i1, i2, i3, i4, i5, i6, i7]; done)))
    | (refine WCall.pf (p3) ?_ ?_ ?_ ?_; (focus (simp [oks, opnds, gS, gof, eget]; done)); (focus (simp [omap, brwV, brwC, evS, eget, strip, hget, leVL, leV, leC, leL, Lif.D, Rqs.D, i1, i2, i3, i4, i5, i6, i7]; done)); (focus (simp [noV, noC, flatR, flatV, flatC, evS, eget, strip, Lif.D, Rqs.D, i1, i2, i3, i4, i5, i6, i7]; done)))
    | (refine ⟨WCall.pf (p3) ?_ ?_ ?_ ?_, ?_⟩; (focus (simp [oks, opnds, gS, gof, eget]; done)); (focus (simp [omap, brwV, brwC, evS, eget, strip, hget, leVL, leV, leC, leL, Lif.D, Rqs.D, i1, i2, i3, i4, i5, i6, i7]; done)); (focus (simp [noV, noC, flatR, flatV, flatC, evS, eget, strip, Lif.D, Rqs.D, i1, i2, i3, i4, i5, i6, i7]; done)))
    | (refine WCall.pf (h1) ?_ ?_ ?_ ?_; (focus (simp [oks, opnds, gS, gof, eget]; done)); (focus (simp [omap, brwV, brwC, evS, eget, strip, hget, leVL, leV, leC, leL, Lif.D, Rqs.D, i1, i2, i3, i4, i5, i6, i7]; done)); (focus (simp [noV, noC, flatR, flatV, flatC, evS, eget, strip, Lif.D, Rqs.D, i1, i2, i3, i4, i5, i6, i7]; done)))
    | (refine ⟨WCall.pf (h1) ?_ ?_ ?_ ?_, ?_⟩; (focus (simp [oks, opnds, gS, gof, eget]; done)); (focus (simp [omap, brwV, brwC, evS, eget, strip, hget, leVL, leV, leC, leL, Lif.D, Rqs.D, i1, i2, i3, i4, i5, i6, i7]; done)); (focus (simp [noV, noC, flatR, flatV, flatC, evS, eget, strip, Lif.D, Rqs.D, i1, i2, i3, i4, i5, i6, i7]; done)))
    | (refine WCall.pf (h2) ?_ ?_ ?_ ?_; (focus (simp [oks, opnds, gS, gof, eget]; done)); (focus (simp [omap, brwV, brwC, evS, eget, strip, hget, leVL, leV, leC, leL, Lif.D, Rqs.D, i1, i2, i3, i4, i5, i6, i7]; done)); (focus (simp [noV, noC, flatR, flatV, flatC, evS, eget, strip, Lif.D, Rqs.D, i1, i2, i3, i4, i5, i6, i7]; done)))
    | (refine ⟨WCall.pf (h2) ?_ ?_ ?_ ?_, ?_⟩; (focus (simp [oks, opnds, gS, gof, eget]; done)); (focus (simp [omap, brwV, brwC, evS, eget, strip, hget, leVL, leV, leC, leL, Lif.D, Rqs.D, i1, i2, i3, i4, i5, i6, i7]; done)); (focus (simp [noV, noC, flatR, flatV, flatC, evS, eget, strip, Lif.D, Rqs.D, i1, i2, i3, i4, i5, i6, i7]; done)))
    | (refine WCall.pf (h3) ?_ ?_ ?_ ?_; (focus (simp [oks, opnds, gS, gof, eget]; done)); (focus (simp [omap, brwV, brwC, evS, eget, strip, hget, leVL, leV, leC, leL, Lif.D, Rqs.D, i1, i2, i3, i4, i5, i6, i7]; done)); (focus (simp [noV, noC, flatR, flatV, flatC, evS, eget, strip, Lif.D, Rqs.D, i1, i2, i3, i4, i5, i6, i7]; done)))
    | (refine ⟨WCall.pf (h3) ?_ ?_ ?_ ?_, ?_⟩; (focus (simp [oks, opnds, gS, gof, eget]; done)); (focus (simp [omap, brwV, brwC, evS, eget, strip, hget, leVL, leV, leC, leL, Lif.D, Rqs.D, i1, i2, i3, i4, i5, i6, i7]; done)); (focus (simp [noV, noC, flatR, flatV, flatC, evS, eget, strip, Lif.D, Rqs.D, i1, i2, i3, i4, i5, i6, i7]; done)))
    | (refine WCall.pf (h4) ?_ ?_ ?_ ?_; (focus (simp [oks, opnds, gS, gof, eget]; done)); (focus (simp [omap, brwV, brwC, evS, eget, strip, hget, leVL, leV, leC, leL, Lif.D, Rqs.D, i1, i2, i3, i4, i5, i6, i7]; done)); (focus (simp [noV, noC, flatR, flatV, flatC, evS, eget, strip, Lif.D, Rqs.D, i1, i2, i3, i4, i5, i6, i7]; done)))
    | (refine ⟨WCall.pf (h4) ?_ ?_ ?_ ?_, ?_⟩; (focus (simp [oks, opnds, gS, gof, eget]; done)); (focus (simp [omap, brwV, brwC, evS, eget, strip, hget, leVL, leV, leC, leL, Lif.D, Rqs.D, i1, i2, i3, i4, i5, i6, i7]; done)); (focus (simp [noV, noC, flatR, flatV, flatC, evS, eget, strip, Lif.D, Rqs.D, i1, i2, i3, i4, i5, i6, i7]; done)))
    | (refine WCall.pf (h4o) ?_ ?_ ?_ ?_; (focus (simp [oks, opnds, gS, gof, eget]; done)); (focus (simp [omap, brwV, brwC, evS, eget, strip, hget, leVL, leV, leC, leL, Lif.D, Rqs.D, i1, i2, i3, i4, i5, i6, i7]; done)); (focus (simp [noV, noC, flatR, flatV, flatC, evS, eget, strip, Lif.D, Rqs.D, i1, i2, i3, i4, i5, i6, i7]; done)))
    | (refine ⟨WCall.pf (h4o) ?_ ?_ ?_ ?_, ?_⟩; (focus (simp [oks, opnds, gS, gof, eget]; done)); (focus (simp [omap, brwV, brwC, evS, eget, strip, hget, leVL, leV, leC, leL, Lif.D, Rqs.D, i1, i2, i3, i4, i5, i6, i7]; done)); (focus (simp [noV, noC, flatR, flatV, flatC, evS, eget, strip, Lif.D, Rqs.D, i1, i2, i3, i4, i5, i6, i7]; done)))
    | (refine WCall.pf (h5) ?_ ?_ ?_ ?_; (focus (simp [oks, opnds, gS, gof, eget]; done)); (focus (simp [omap, brwV, brwC, evS, eget, strip, hget, leVL, leV, leC, leL, Lif.D, Rqs.D, i1, i2, i3, i4, i5, i6, i7]; done)); (focus (simp [noV, noC, flatR, flatV, flatC, evS, eget, strip, Lif.D, Rqs.D, i1, i2, i3, i4, i5, i6, i7]; done)))
    | (refine ⟨WCall.pf (h5) ?_ ?_ ?_ ?_, ?_⟩; (focus (simp [oks, opnds, gS, gof, eget]; done)); (focus (simp [omap, brwV, brwC, evS, eget, strip, hget, leVL, leV, leC, leL, Lif.D, Rqs.D, i1, i2, i3, i4, i5, i6, i7]; done)); (focus (simp [noV, noC, flatR, flatV, flatC, evS, eget, strip, Lif.D, Rqs.D, i1, i2, i3, i4, i5, i6, i7]; done)))
    | (refine WCall.pf (h5o) ?_ ?_ ?_ ?_; (focus (simp [oks, opnds, gS, gof, eget]; done)); (focus (simp [omap, brwV, brwC, evS, eget, strip, hget, leVL, leV, leC, leL, Lif.D, Rqs.D, i1, i2, i3, i4, i5, i6, i7]; done)); (focus (simp [noV, noC, flatR, flatV, flatC, evS, eget, strip, Lif.D, Rqs.D, i1, i2, i3, i4, i5, i6, i7]; done)))
    | (refine ⟨WCall.pf (h5o) ?_ ?_ ?_ ?_, ?_⟩; (focus (simp [oks, opnds, gS, gof, eget]; done)); (focus (simp [omap, brwV, brwC, evS, eget, strip, hget, leVL, leV, leC, leL, Lif.D, Rqs.D, i1, i2, i3, i4, i5, i6, i7]; done)); (focus (simp [noV, noC, flatR, flatV, flatC, evS, eget, strip, Lif.D, Rqs.D, i1, i2, i3, i4, i5, i6, i7]; done)))
    | (refine WCall.pf (h6) ?_ ?_ ?_ ?_; (focus (simp [oks, opnds, gS, gof, eget]; done)); (focus (simp [omap, brwV, brwC, evS, eget, strip, hget, leVL, leV, leC, leL, Lif.D, Rqs.D, i1, i2, i3, i4, i5, i6, i7]; done)); (focus (simp [noV, noC, flatR, flatV, flatC, evS, eget, strip, Lif.D, Rqs.D, i1, i2, i3, i4, i5, i6, i7]; done)))
    | (refine ⟨WCall.pf (h6) ?_ ?_ ?_ ?_, ?_⟩; (focus (simp [oks, opnds, gS, gof, eget]; done)); (focus (simp [omap, brwV, brwC, evS, eget, strip, hget, leVL, leV, leC, leL, Lif.D, Rqs.D, i1, i2, i3, i4, i5, i6, i7]; done)); (focus (simp [noV, noC, flatR, flatV, flatC, evS, eget, strip, Lif.D, Rqs.D, i1, i2, i3, i4, i5, i6, i7]; done)))
    | (refine WCall.pf (h7) ?_ ?_ ?_ ?_; (focus (simp [oks, opnds, gS, gof, eget]; done)); (focus (simp [omap, brwV, brwC, evS, eget, strip, hget, leVL, leV, leC, leL, Lif.D, Rqs.D, i1, i2, i3, i4, i5, i6, i7]; done)); (focus (simp [noV, noC, flatR, flatV, flatC, evS, eget, strip, Lif.D, Rqs.D, i1, i2, i3, i4, i5, i6, i7]; done)))
    | (refine ⟨WCall.pf (h7) ?_ ?_ ?_ ?_, ?_⟩; (focus (simp [oks, opnds, gS, gof, eget]; done)); (focus (simp [omap, brwV, brwC, evS, eget, strip, hget, leVL, leV, leC, leL, Lif.D, Rqs.D, i1, i2, i3, i4, i5, i6, i7]; done)); (focus (simp [noV, noC, flatR, flatV, flatC, evS, eget, strip, Lif.D, Rqs.D, i1, i2, i3, i4, i5, i6, i7]; done)))
    | (refine WCall.pf (h7o) ?_ ?_ ?_ ?_; (focus (simp [oks, opnds, gS, gof, eget]; done)); (focus (simp [omap, brwV, brwC, evS, eget, strip, hget, leVL, leV, leC, leL, Lif.D, Rqs.D, i1, i2, i3, i4, i5, i6, i7]; done)); (focus (simp [noV, noC, flatR, flatV, flatC, evS, eget, strip, Lif.D, Rqs.D, i1, i2, i3, i4, i5, i6, i7]; done)))
    | (refine ⟨WCall.pf (h7o) ?_ ?_ ?_ ?_, ?_⟩; (focus (simp [oks, opnds, gS, gof, eget]; done)); (focus (simp [omap, brwV, brwC, evS, eget, strip, hget, leVL, leV, leC, leL, Lif.D, Rqs.D, i1, i2, i3, i4, i5, i6, i7]; done)); (focus (simp [noV, noC, flatR, flatV, flatC, evS, eget, strip, Lif.D, Rqs.D, i1, i2, i3, i4, i5, i6, i7]; done)))
    | (refine WCall.pf (h8) ?_ ?_ ?_ ?_; (focus (simp [oks, opnds, gS, gof, eget]; done)); (focus (simp [omap, brwV, brwC, evS, eget, strip, hget, leVL, leV, leC, leL, Lif.D, Rqs.D, i1, i2, i3, i4, i5, i6, i7]; done)); (focus (simp [noV, noC, flatR, flatV, flatC, evS, eget, strip, Lif.D, Rqs.D, i1, i2, i3, i4, i5, i6, i7]; done)))
    | (refine ⟨WCall.pf (h8) ?_ ?_ ?_ ?_, ?_⟩; (focus (simp [oks, opnds, gS, gof, eget]; done)); (focus (simp [omap, brwV, brwC, evS, eget, strip, hget, leVL, leV, leC, leL, Lif.D, Rqs.D, i1, i2, i3, i4, i5, i6, i7]; done)); (focus (simp [noV, noC, flatR, flatV, flatC, evS, eget, strip, Lif.D, Rqs.D, i1, i2, i3, i4, i5, i6, i7]; done)))
    | (with_reducible refine And.intro (And.intro ?_ ?_) ?_)
    | fail)
end Go.Proofs.Ytfkeddefajkobaa

set_option linter.unusedSimpArgs false
set_option linter.unusedVariables false
set_option maxRecDepth 100000
namespace Go.Proofs.Ytfkeddefajkobaa
open Go.ChangeShapes Go.WideShapes Go.ChangeAt Go.RowKit
theorem byte_wf {z : Int} (h : (Lit.int .u8 z).wf = true) : Byte z := by
  have h1 : IntKind.u8.min = 0 := rfl
  have h2 : IntKind.u8.max = 255 := rfl
  simp only [Lit.wf, Bool.and_eq_true, decide_eq_true_eq] at h
  exact ⟨by omega, by omega⟩
theorem open_struct {H : Type} {enc : TypeId × Value → H} {w : World} {base : Nat} {spare : Nat → Bool} {held : Bool} {t : TypeId} {n : Nat} {v : Value} {d : DataW H} {ps : List MemPlace}
    (h2 : 2 ≤ n) (he : Nums Try.prog t n) (h : DataW.Trod enc Try.prog w base spare held t v d ps) :
    ∃ r : List Int, VV s0 (allZ w) (.agg (r.map I)) v ∧ r.length = n ∧ ∀ z ∈ r, InR z := by
  obtain ⟨fuel, hf⟩ := h
  obtain ⟨r, hc, hl, hk⟩ := he hf
  refine ⟨r, ?_, hl, fun z hz => nums_wf (hk z hz)⟩
  have hlen : v.cells.toList.length = n := by rw [hc]; simpa [numsE] using hl
  cases v with
  | agg vs =>
    obtain ⟨vs⟩ := vs
    have e : vs = numsE r := by simpa [Value.cells] using hc
    subst e
    refine ⟨_, rfl, by simp [numsE], fun j x hx => ?_⟩
    obtain ⟨z, hz, rfl⟩ := (map_get _ _ _ _).1 hx
    have : (numsE r).toArray.getD j undef = .int .i64 z := by
      have : (numsE r)[j]? = some (.int .i64 z) := (map_get _ _ _ _).2 ⟨z, hz, rfl⟩
      simp [Array.getD_eq_getD_getElem?, this]
    rw [this]
    exact VT.int .i64 z
  | _ => simp [Value.cells] at hlen; omega
theorem Elt.byte {P : Program} {t : TypeId} (ht : P.underlying t = some (.int .u8)) : Elt P t 1 (fun z : Int => [Value.int .u8 z]) Byte := fun h => by
  obtain ⟨z, rfl, _, hw⟩ := DataW.trod_int ht h
  exact ⟨z, rfl, rfl, byte_wf hw⟩
theorem vt_bytes {W : World} {v : Value} {l : List Int} (h : Sl W 1 (fun z : Int => [Value.int .u8 z]) v l) : VT (allZ W) (.rows 1 (l.map PB)) v :=
  h.rows fun z _ => ⟨rfl, rfl, fun j d hd => by
    cases j with
    | zero => simp [PB] at hd; subst hd; exact ⟨_, rfl, fun Z => VT.int .u8 z⟩
    | succ j => simp [PB] at hd⟩
theorem open_bytes {H : Type} {enc : TypeId × Value → H} {w : World} {base : Nat} {spare : Nat → Bool} {held : Bool} {r0 : Reach} {b0 : Nat} {t e : TypeId} {v : Value} {d : DataW H} {ps : List MemPlace}
    (ht : Try.prog.underlying t = some (.slice e)) (hc : Try.prog.cellsOf e = 1) (he : Try.prog.underlying e = some (.int .u8)) (hv : Value.okWide Try.prog w r0 b0 t v) (h : DataW.Trod enc Try.prog w base spare held t v d ps) :
    ∃ l : List Int, l.length ≤ maxLen ∧ VV s0 (allZ w) (.rows 1 (l.map PB)) v ∧ ∀ z ∈ l, Byte z := by
  obtain ⟨l, h1, h2, h3⟩ := open_elts ht hc (by omega) (Elt.byte he) hv h
  exact ⟨l, h1, vt_bytes h3, fun z hz => (h2 z hz).2⟩
end Go.Proofs.Ytfkeddefajkobaa

