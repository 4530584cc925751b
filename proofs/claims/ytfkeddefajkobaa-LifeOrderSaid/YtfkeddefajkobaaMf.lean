/- This text holds, one behind the other, the texts that say what the program computes, step by step, and the rules that they need. They have no condition of their own. -/
import Derived.Test.YtfkeddefajkobaaMe
import Derived.Test.YtfkeddefajkobaaMc
set_option linter.unusedSimpArgs false
set_option linter.unusedVariables false
set_option maxRecDepth 100000
set_option maxHeartbeats 4000000
namespace Go.Proofs.Ytfkeddefajkobaa
open Go.RowKit
theorem lof_code : cfun Try.prog [] 37 = some ⟨(.seq (.region 0 [⟨(some 2), (.box (.t 0)), none⟩, ⟨(some 4), (.alloc [(.int .i64 0), (.int .i64 0), (.int .i64 0), (.int .i64 0), (.int .i64 0), (.int .i64 0)]), none⟩, ⟨(some 5), (.mov (.k (.int .i64 0))), none⟩]) (.seq (.region 1 [⟨(some 10), (.load true 2 (.t 2)), none⟩, ⟨(some 11), (.call 67 [(.t 10)]), none⟩, ⟨(some 9), (.mov (.t 11)), none⟩, ⟨(some 12), (.ext (.t 9) 0), none⟩, ⟨(some 13), (.ext (.t 9) 1), none⟩, ⟨(some 6), (.mov (.t 12)), none⟩, ⟨(some 7), (.mov (.t 13)), none⟩]) (.seq (.seq (.region 2 [⟨(some 14), (.mov (.t 7)), none⟩, ⟨(some 15), (.bin .neq (.t 14) (.k (.int .i64 0))), none⟩]) (.cond 15 (.seq (.region 3 [⟨(some 16), (.build [(.int .i64 0), (.int .i64 0), (.int .i64 0), (.int .i64 0), (.int .i64 0), (.int .i64 0)] []), none⟩, ⟨(some 17), (.mov (.t 7)), none⟩, ⟨none, (.store 6 (.t 4) (.t 16)), none⟩, ⟨(some 5), (.mov (.t 17)), none⟩]) .ret) .skip)) (.seq (.region 4 [⟨(some 18), (.mov (.t 6)), none⟩, ⟨(some 19), (.mov (.t 1)), none⟩, ⟨(some 20), (.call 74 [(.t 18), (.t 19)]), none⟩, ⟨(some 8), (.mov (.t 20)), none⟩]) (.seq (.seq (.region 5 [⟨(some 21), (.mov (.t 8)), none⟩, ⟨(some 22), (.eqp false (.t 21) (.k .nilp)), none⟩]) (.cond 22 (.seq (.region 6 [⟨(some 23), (.build [(.int .i64 0), (.int .i64 0), (.int .i64 0), (.int .i64 0), (.int .i64 0), (.int .i64 0)] []), none⟩, ⟨none, (.store 6 (.t 4) (.t 23)), none⟩, ⟨(some 5), (.mov (.k (.int .i64 8))), none⟩]) .ret) .skip)) (.seq (.region 7 [⟨(some 24), (.mov (.t 8)), none⟩, ⟨(some 25), (.nchk (.t 24)), none⟩, ⟨(some 26), (.load true 6 (.t 25)), none⟩, ⟨none, (.store 6 (.t 4) (.t 26)), none⟩, ⟨(some 5), (.mov (.k (.int .i64 0))), none⟩]) .ret)))))), [(.c 4 true 6), (.t 5)], 27⟩ := by kernel_rfl
theorem lof_pf (L : List Lif) (R : List Rqs) (b : Int) (hb : BookOk L R) : PF Try.prog 37 [bookD L R, I b] (.tup [.agg (ofM L b).1.D, I (ofM L b).2]) := by
  have hop := lopen_hf L R hb
  have hfd := lfind_hf L R b hb.ll
  unfold bkH at hfd
  unfold bookD at hop ⊢
  refine PF.of follows_ok lof_code (by simp) (by simp [argOk]) (by simp [noV, noC]) fun B hBN hB0 => acode_sound [0, 1, 2, 4, 5, 6, 7, 8, 15, 22] [] _ _ _ ?_
  simp [AK_at, acode_seq, acode_region, acode_draw, acode_cond, ↓CB_t, ↓CB_f, CB_u, acode_block, acode_loop, acode_exit, acode_scope, acode_ret, acode_skip, seqQ_n, seqQ_e, seqQ_r, blockQ_n, blockQ_e, blockQ_r, TK_at, OK_at, SK_at, aops_nil, aops_cons, asch_done, asch_one, asch_two, asch_top, astep, aop_eq, isLoud, aloud, aloud1, isWrite, qv, evS, strip, gof, eget, hget, putO, eput, herase, oks, opnds, gS, afin, afin0, binD, arith, D.cells, takeD, fillD, keep, trim, envOf, Fin, aresl, aresv, resD, argOk, pickV, isP, deq, deqs, boundD, slD, lenD, isT, isSl, ptrIds, chunks, mn_min, mx_max, D.cells, splice_one, splice_more, Rbr_at, Rfr_at, frR, frV, frC, flatC, brwR, brwV, brwC, omap, leR, leV, leC, leL, leVL]
  refine WCall.hf0 hop (by simp [oks, opnds, gS, gof, eget]) (by simp [evS, eget, strip]) (by simp [argOk]) (by simp [noV, noC]) ?_
  rintro d H' nx' ⟨rfl, rfl, rfl⟩
  simp [AK_at, acode_seq, acode_region, acode_draw, acode_cond, ↓CB_t, ↓CB_f, CB_u, acode_block, acode_loop, acode_exit, acode_scope, acode_ret, acode_skip, seqQ_n, seqQ_e, seqQ_r, blockQ_n, blockQ_e, blockQ_r, TK_at, OK_at, SK_at, aops_nil, aops_cons, asch_done, asch_one, asch_two, asch_top, astep, aop_eq, isLoud, aloud, aloud1, isWrite, qv, evS, strip, gof, eget, hget, putO, eput, herase, oks, opnds, gS, afin, afin0, binD, arith, D.cells, takeD, fillD, keep, trim, envOf, Fin, aresl, aresv, resD, argOk, pickV, isP, deq, deqs, boundD, slD, lenD, isT, isSl, ptrIds, chunks, mn_min, mx_max, D.cells, splice_one, splice_more, Rbr_at, Rfr_at, frR, frV, frC, flatC, brwR, brwV, brwC, omap, leR, leV, leC, leL, leVL, rnR, rnV, rnC, rnO, rho_0, hputs, herases, bkH]
  refine WCall.hf [2, 3, 4] (hfd) (by simp [oks, opnds, gS, gof, eget]) rfl rfl (by decide) (by simp) (by simp [evS, eget, strip, rnV, rnC, rho]) (by simp [argOk]) (by simp [LtV, LtC]) (by simp [rho, rnO, rnC, hget, LtO, LtC]) ?_
  rintro d H' nx' ⟨rfl, rfl, rfl⟩
  by_cases h0 : findM L b < 0
  · have hfD : findD L b = .nilp := by unfold findD; rw [if_pos h0]
    have hj : ofM L b = (default, 8) := by unfold ofM; rw [if_pos h0]
    rw [hfD, hj]
    simp [AK_at, acode_seq, acode_region, acode_draw, acode_cond, ↓CB_t, ↓CB_f, CB_u, acode_block, acode_loop, acode_exit, acode_scope, acode_ret, acode_skip, seqQ_n, seqQ_e, seqQ_r, blockQ_n, blockQ_e, blockQ_r, TK_at, OK_at, SK_at, aops_nil, aops_cons, asch_done, asch_one, asch_two, asch_top, astep, aop_eq, isLoud, aloud, aloud1, isWrite, qv, evS, strip, gof, eget, hget, putO, eput, herase, oks, opnds, gS, afin, afin0, binD, arith, D.cells, takeD, fillD, keep, trim, envOf, Fin, aresl, aresv, resD, argOk, pickV, isP, deq, deqs, boundD, slD, lenD, isT, isSl, ptrIds, chunks, mn_min, mx_max, D.cells, splice_one, splice_more, Rbr_at, Rfr_at, frR, frV, frC, flatC, brwR, brwV, brwC, omap, leR, leV, leC, leL, leVL, rnR, rnV, rnC, rnO, rho_0, hputs, herases, rho, Lif.D, default, instInhabitedLif.default]
  · have hfD : findD L b = .pel 1 (findM L b).toNat 6 0 := by unfold findD; rw [if_neg h0]
    obtain ⟨h1, h2, h3⟩ := findM_at (by omega : 0 ≤ findM L b)
    have hj : ofM L b = (L.getD (findM L b).toNat default, 0) := by unfold ofM; rw [if_neg h0]
    rw [h3] at hj
    rw [hfD, hj]
    clear hfD h3 h0 hj
    generalize (findM L b).toNat = i at h1 h2
    obtain ⟨o, ho⟩ : ∃ o, o = L[i] := ⟨_, rfl⟩
    rw [← ho]
    simp [AK_at, acode_seq, acode_region, acode_draw, acode_cond, ↓CB_t, ↓CB_f, CB_u, acode_block, acode_loop, acode_exit, acode_scope, acode_ret, acode_skip, seqQ_n, seqQ_e, seqQ_r, blockQ_n, blockQ_e, blockQ_r, TK_at, OK_at, SK_at, aops_nil, aops_cons, asch_done, asch_one, asch_two, asch_top, astep, aop_eq, isLoud, aloud, aloud1, isWrite, qv, evS, strip, gof, eget, hget, putO, eput, herase, oks, opnds, gS, afin, afin0, binD, arith, D.cells, takeD, fillD, keep, trim, envOf, Fin, aresl, aresv, resD, argOk, pickV, isP, deq, deqs, boundD, slD, lenD, isT, isSl, ptrIds, chunks, mn_min, mx_max, D.cells, splice_one, splice_more, Rbr_at, Rfr_at, frR, frV, frC, flatC, brwR, brwV, brwC, omap, leR, leV, leC, leL, leVL, rnR, rnV, rnC, rnO, rho_0, hputs, herases, rho, h1, ← ho, Lif.D]
theorem lfin_code : cfun Try.prog [] 42 = some ⟨(.seq (.region 0 [⟨(some 2), (.box (.t 0)), none⟩, ⟨(some 4), (.alloc [.nil0, .nil0]), none⟩, ⟨(some 5), (.mov (.k (.int .i64 0))), none⟩]) (.seq (.region 1 [⟨(some 10), (.load true 2 (.t 2)), none⟩, ⟨(some 11), (.call 67 [(.t 10)]), none⟩, ⟨(some 9), (.mov (.t 11)), none⟩, ⟨(some 12), (.ext (.t 9) 0), none⟩, ⟨(some 13), (.ext (.t 9) 1), none⟩, ⟨(some 6), (.mov (.t 12)), none⟩, ⟨(some 7), (.mov (.t 13)), none⟩]) (.seq (.seq (.region 2 [⟨(some 14), (.mov (.t 7)), none⟩, ⟨(some 15), (.bin .neq (.t 14) (.k (.int .i64 0))), none⟩]) (.cond 15 (.seq (.region 3 [⟨(some 16), (.build [.nil0, .nil0] []), none⟩, ⟨(some 17), (.mov (.t 7)), none⟩, ⟨none, (.store 2 (.t 4) (.t 16)), none⟩, ⟨(some 5), (.mov (.t 17)), none⟩]) .ret) .skip)) (.seq (.region 4 [⟨(some 18), (.mov (.t 6)), none⟩, ⟨(some 19), (.mov (.t 1)), none⟩, ⟨(some 20), (.call 74 [(.t 18), (.t 19)]), none⟩, ⟨(some 8), (.mov (.t 20)), none⟩]) (.seq (.seq (.region 5 [⟨(some 21), (.mov (.t 8)), none⟩, ⟨(some 22), (.eqp false (.t 21) (.k .nilp)), none⟩, ⟨(some 23), (.mov (.t 22)), none⟩, ⟨(some 24), (.mov (.t 8)), (some (23, false))⟩, ⟨(some 25), (.nchk (.t 24)), (some (23, false))⟩, ⟨(some 26), (.fad 1 (.t 25)), (some (23, false))⟩, ⟨(some 27), (.load false 1 (.t 26)), (some (23, false))⟩, ⟨(some 28), (.bin .neq (.t 27) (.k (.int .i64 3))), (some (23, false))⟩, ⟨(some 29), (.pick (.t 23) (.k (.bool true)) (.t 28)), none⟩]) (.cond 29 (.seq (.region 6 [⟨(some 30), (.build [.nil0, .nil0] []), none⟩, ⟨none, (.store 2 (.t 4) (.t 30)), none⟩, ⟨(some 5), (.mov (.k (.int .i64 8))), none⟩]) .ret) .skip)) (.seq (.region 7 [⟨(some 31), (.mov (.t 8)), none⟩, ⟨(some 32), (.nchk (.t 31)), none⟩, ⟨(some 33), (.fad 1 (.t 32)), none⟩, ⟨none, (.store 1 (.t 33) (.k (.int .i64 4))), none⟩]) (.seq (.region 8 [⟨(some 34), (.mov (.t 6)), none⟩, ⟨(some 35), (.nchk (.t 34)), none⟩, ⟨(some 36), (.fad 0 (.t 35)), none⟩, ⟨(some 37), (.load true 2 (.t 36)), none⟩, ⟨none, (.store 2 (.t 4) (.t 37)), none⟩, ⟨(some 5), (.mov (.k (.int .i64 0))), none⟩]) .ret))))))), [(.c 4 true 2), (.t 5)], 38⟩ := by kernel_rfl
theorem lfin_pf (L : List Lif) (R : List Rqs) (b : Int) (hb : BookOk L R) : PF Try.prog 42 [bookD L R, I b] (.tup [bookD (finishM L b).1 (if (finishM L b).2 = 0 then R else []), I (finishM L b).2]) := by
  have hop := lopen_hf L R hb
  have hfd := lfind_hf L R b hb.ll
  unfold bkH at hfd
  unfold bookD at hop ⊢
  refine PF.of follows_ok lfin_code (by simp) (by simp [argOk]) (by simp [noV, noC]) fun B hBN hB0 => acode_sound [0, 1, 2, 4, 5, 6, 7, 8, 15, 29] [] _ _ _ ?_
  simp [AK_at, acode_seq, acode_region, acode_draw, acode_cond, ↓CB_t, ↓CB_f, CB_u, acode_block, acode_loop, acode_exit, acode_scope, acode_ret, acode_skip, seqQ_n, seqQ_e, seqQ_r, blockQ_n, blockQ_e, blockQ_r, TK_at, OK_at, SK_at, aops_nil, aops_cons, asch_done, asch_one, asch_two, asch_top, astep, aop_eq, isLoud, aloud, aloud1, isWrite, qv, evS, strip, gof, eget, hget, putO, eput, herase, oks, opnds, gS, afin, afin0, binD, arith, D.cells, takeD, fillD, keep, trim, envOf, Fin, aresl, aresv, resD, argOk, pickV, isP, deq, deqs, boundD, slD, lenD, isT, isSl, ptrIds, chunks, mn_min, mx_max, D.cells, splice_one, splice_more, Rbr_at, Rfr_at, frR, frV, frC, flatC, brwR, brwV, brwC, omap, leR, leV, leC, leL, leVL]
  refine WCall.hf0 hop (by simp [oks, opnds, gS, gof, eget]) (by simp [evS, eget, strip]) (by simp [argOk]) (by simp [noV, noC]) ?_
  rintro d H' nx' ⟨rfl, rfl, rfl⟩
  simp [AK_at, acode_seq, acode_region, acode_draw, acode_cond, ↓CB_t, ↓CB_f, CB_u, acode_block, acode_loop, acode_exit, acode_scope, acode_ret, acode_skip, seqQ_n, seqQ_e, seqQ_r, blockQ_n, blockQ_e, blockQ_r, TK_at, OK_at, SK_at, aops_nil, aops_cons, asch_done, asch_one, asch_two, asch_top, astep, aop_eq, isLoud, aloud, aloud1, isWrite, qv, evS, strip, gof, eget, hget, putO, eput, herase, oks, opnds, gS, afin, afin0, binD, arith, D.cells, takeD, fillD, keep, trim, envOf, Fin, aresl, aresv, resD, argOk, pickV, isP, deq, deqs, boundD, slD, lenD, isT, isSl, ptrIds, chunks, mn_min, mx_max, D.cells, splice_one, splice_more, Rbr_at, Rfr_at, frR, frV, frC, flatC, brwR, brwV, brwC, omap, leR, leV, leC, leL, leVL, rnR, rnV, rnC, rnO, rho_0, hputs, herases, bkH]
  refine WCall.hf [2, 3, 4] (hfd) (by simp [oks, opnds, gS, gof, eget]) rfl rfl (by decide) (by simp) (by simp [evS, eget, strip, rnV, rnC, rho]) (by simp [argOk]) (by simp [LtV, LtC]) (by simp [rho, rnO, rnC, hget, LtO, LtC]) ?_
  rintro d H' nx' ⟨rfl, rfl, rfl⟩
  by_cases h0 : findM L b < 0
  · have hfD : findD L b = .nilp := by unfold findD; rw [if_pos h0]
    have hj : finishM L b = ([], 8) := by unfold finishM; simp only; rw [if_pos h0]
    rw [hfD, hj]
    simp [AK_at, acode_seq, acode_region, acode_draw, acode_cond, ↓CB_t, ↓CB_f, CB_u, acode_block, acode_loop, acode_exit, acode_scope, acode_ret, acode_skip, seqQ_n, seqQ_e, seqQ_r, blockQ_n, blockQ_e, blockQ_r, TK_at, OK_at, SK_at, aops_nil, aops_cons, asch_done, asch_one, asch_two, asch_top, astep, aop_eq, isLoud, aloud, aloud1, isWrite, qv, evS, strip, gof, eget, hget, putO, eput, herase, oks, opnds, gS, afin, afin0, binD, arith, D.cells, takeD, fillD, keep, trim, envOf, Fin, aresl, aresv, resD, argOk, pickV, isP, deq, deqs, boundD, slD, lenD, isT, isSl, ptrIds, chunks, mn_min, mx_max, D.cells, splice_one, splice_more, Rbr_at, Rfr_at, frR, frV, frC, flatC, brwR, brwV, brwC, omap, leR, leV, leC, leL, leVL, rnR, rnV, rnC, rnO, rho_0, hputs, herases, rho]
  · have hfD : findD L b = .pel 1 (findM L b).toNat 6 0 := by unfold findD; rw [if_neg h0]
    obtain ⟨h1, h2, h3⟩ := findM_at (by omega : 0 ≤ findM L b)
    have hj : finishM L b = let x := L.getD (findM L b).toNat default; if x.state = 3 then (L.set (findM L b).toNat { x with state := 4 }, 0) else ([], 8) := by
      unfold finishM; simp only; rw [if_neg h0]
    simp only [h3] at hj
    rw [hfD]
    clear hfD h3 h0
    generalize (findM L b).toNat = i at h1 h2 hj
    obtain ⟨o, ho⟩ : ∃ o, o = L[i] := ⟨_, rfl⟩
    rw [← ho] at hj
    by_cases s3 : o.state = 3
    · rw [if_pos s3] at hj
      rw [hj]
      simp [AK_at, acode_seq, acode_region, acode_draw, acode_cond, ↓CB_t, ↓CB_f, CB_u, acode_block, acode_loop, acode_exit, acode_scope, acode_ret, acode_skip, seqQ_n, seqQ_e, seqQ_r, blockQ_n, blockQ_e, blockQ_r, TK_at, OK_at, SK_at, aops_nil, aops_cons, asch_done, asch_one, asch_two, asch_top, astep, aop_eq, isLoud, aloud, aloud1, isWrite, qv, evS, strip, gof, eget, hget, putO, eput, herase, oks, opnds, gS, afin, afin0, binD, arith, D.cells, takeD, fillD, keep, trim, envOf, Fin, aresl, aresv, resD, argOk, pickV, isP, deq, deqs, boundD, slD, lenD, isT, isSl, ptrIds, chunks, mn_min, mx_max, D.cells, splice_one, splice_more, Rbr_at, Rfr_at, frR, frV, frC, flatC, brwR, brwV, brwC, omap, leR, leV, leC, leL, leVL, rnR, rnV, rnC, rnO, rho_0, hputs, herases, rho, h1, ← ho, Lif.D, s3]
    · rw [if_neg s3] at hj
      rw [hj]
      simp [AK_at, acode_seq, acode_region, acode_draw, acode_cond, ↓CB_t, ↓CB_f, CB_u, acode_block, acode_loop, acode_exit, acode_scope, acode_ret, acode_skip, seqQ_n, seqQ_e, seqQ_r, blockQ_n, blockQ_e, blockQ_r, TK_at, OK_at, SK_at, aops_nil, aops_cons, asch_done, asch_one, asch_two, asch_top, astep, aop_eq, isLoud, aloud, aloud1, isWrite, qv, evS, strip, gof, eget, hget, putO, eput, herase, oks, opnds, gS, afin, afin0, binD, arith, D.cells, takeD, fillD, keep, trim, envOf, Fin, aresl, aresv, resD, argOk, pickV, isP, deq, deqs, boundD, slD, lenD, isT, isSl, ptrIds, chunks, mn_min, mx_max, D.cells, splice_one, splice_more, Rbr_at, Rfr_at, frR, frV, frC, flatC, brwR, brwV, brwC, omap, leR, leV, leC, leL, leVL, rnR, rnV, rnC, rnO, rho_0, hputs, herases, rho, h1, ← ho, Lif.D, s3]
def midW (L : List Lif) (now : Int) (i : Nat) : List Lif := (L.take i).map (wakeX now) ++ L.drop i
theorem midW_len (L : List Lif) (now : Int) (i : Nat) (h : i ≤ L.length) : (midW L now i).length = L.length := by simp [midW]; omega
theorem midW_get (L : List Lif) (now : Int) (i : Nat) (h : i < L.length) : (midW L now i)[i]? = some L[i] := by
  unfold midW
  rw [List.getElem?_append_right (by simp; omega)]
  simp [Nat.min_eq_left (Nat.le_of_lt h), List.getElem?_eq_getElem h]
theorem midW_set (L : List Lif) (now : Int) (i : Nat) (h : i < L.length) : (midW L now i).set i (wakeX now L[i]) = midW L now (i + 1) := by
  unfold midW
  have hl : ((L.take i).map (wakeX now)).length = i := by simp; omega
  rw [List.set_append_right _ _ (by omega), hl, Nat.sub_self, List.take_succ_eq_append_getElem h, List.map_append, List.append_assoc]
  congr 1
  rw [List.drop_eq_getElem_cons h]
  rfl
theorem midW_same (L : List Lif) (now : Int) (i : Nat) (h : i < L.length) (hs : L[i].state ≠ 1) : midW L now i = midW L now (i + 1) := by
  have h2 : wakeX now L[i] = L[i] := by unfold wakeX; rw [if_neg hs]
  unfold midW
  rw [List.take_succ_eq_append_getElem h, List.map_append, List.append_assoc]
  congr 1
  rw [List.drop_eq_getElem_cons h, List.map_cons, List.map_nil, h2]
  rfl
theorem woken_succ (L : List Lif) (i : Nat) (h : i < L.length) : wokenM (L.take (i + 1)) = wokenM (L.take i) ++ (if L[i].state = 1 then [L[i].backend] else []) := by
  unfold wokenM
  rw [List.take_succ_eq_append_getElem h, List.filter_append, List.map_append]
  split
  · rename_i hs; simp [hs]
  · rename_i hs; simp [hs]
theorem woken_len (L : List Lif) : (wokenM L).length ≤ L.length := by
  unfold wokenM
  rw [List.length_map]
  exact List.length_filter_le ..
theorem lwake_code : cfun Try.prog [] 35 = some ⟨(.seq (.region 0 [⟨(some 2), (.box (.t 0)), none⟩, ⟨(some 4), (.alloc [.nil0, .nil0]), none⟩, ⟨(some 5), (.mov (.k .nil0)), none⟩, ⟨(some 6), (.mov (.k (.int .i64 0))), none⟩]) (.seq (.region 1 [⟨(some 13), (.load true 2 (.t 2)), none⟩, ⟨(some 14), (.call 67 [(.t 13)]), none⟩, ⟨(some 12), (.mov (.t 14)), none⟩, ⟨(some 15), (.ext (.t 12) 0), none⟩, ⟨(some 16), (.ext (.t 12) 1), none⟩, ⟨(some 7), (.mov (.t 15)), none⟩, ⟨(some 8), (.mov (.t 16)), none⟩]) (.seq (.seq (.region 2 [⟨(some 17), (.mov (.t 8)), none⟩, ⟨(some 18), (.bin .neq (.t 17) (.k (.int .i64 0))), none⟩]) (.cond 18 (.seq (.region 3 [⟨(some 19), (.build [.nil0, .nil0] []), none⟩, ⟨(some 20), (.mov (.t 8)), none⟩, ⟨none, (.store 2 (.t 4) (.t 19)), none⟩, ⟨(some 5), (.mov (.k .nil0)), none⟩, ⟨(some 6), (.mov (.t 20)), none⟩]) .ret) .skip)) (.seq (.seq (.region 4 [⟨(some 21), (.mov (.t 1)), none⟩, ⟨(some 22), (.bin .lss (.t 21) (.k (.int .i64 0))), none⟩, ⟨(some 23), (.mov (.t 22)), none⟩, ⟨(some 24), (.mov (.t 1)), (some (23, false))⟩, ⟨(some 25), (.bin .gtr (.t 24) (.k (.int .i64 1099511627776))), (some (23, false))⟩, ⟨(some 26), (.pick (.t 23) (.k (.bool true)) (.t 25)), none⟩]) (.cond 26 (.seq (.region 5 [⟨(some 27), (.build [.nil0, .nil0] []), none⟩, ⟨none, (.store 2 (.t 4) (.t 27)), none⟩, ⟨(some 5), (.mov (.k .nil0)), none⟩, ⟨(some 6), (.mov (.k (.int .i64 2))), none⟩]) .ret) .skip)) (.seq (.region 6 [⟨(some 9), (.mov (.k .nil0)), none⟩]) (.seq (.seq (.region 7 [⟨(some 28), (.mov (.t 7)), none⟩, ⟨(some 29), (.nchk (.t 28)), none⟩, ⟨(some 30), (.fad 0 (.t 29)), none⟩, ⟨(some 31), (.fad 0 (.t 30)), none⟩, ⟨(some 32), (.load false 1 (.t 31)), none⟩, ⟨(some 33), (.len (.t 32)), none⟩, ⟨(some 34), (.mov (.k (.int .i64 0))), none⟩]) (.block 0 (.loop (.seq (.region 8 [⟨(some 35), (.bin .lss (.t 34) (.t 33)), none⟩]) (.seq (.cond 35 .skip (.exit 0)) (.seq (.block 1 (.seq (.region 9 [⟨(some 36), (.mov (.t 34)), none⟩, ⟨(some 10), (.mov (.t 36)), none⟩]) (.seq (.region 10 [⟨(some 37), (.mov (.t 7)), none⟩, ⟨(some 38), (.nchk (.t 37)), none⟩, ⟨(some 39), (.fad 0 (.t 38)), none⟩, ⟨(some 40), (.fad 0 (.t 39)), none⟩, ⟨(some 41), (.load false 1 (.t 40)), none⟩, ⟨(some 42), (.mov (.t 10)), none⟩, ⟨(some 43), (.iads 6 (.t 41) (.t 42)), none⟩, ⟨(some 11), (.mov (.t 43)), none⟩]) (.seq (.region 11 [⟨(some 44), (.mov (.t 11)), none⟩, ⟨(some 45), (.nchk (.t 44)), none⟩, ⟨(some 46), (.fad 1 (.t 45)), none⟩, ⟨(some 47), (.load false 1 (.t 46)), none⟩, ⟨(some 48), (.bin .eql (.t 47) (.k (.int .i64 1))), none⟩]) (.cond 48 (.seq (.region 12 [⟨(some 49), (.mov (.t 11)), none⟩, ⟨(some 50), (.mov (.t 11)), none⟩, ⟨(some 51), (.mov (.t 1)), none⟩, ⟨(some 52), (.nchk (.t 49)), none⟩, ⟨(some 53), (.fad 1 (.t 52)), none⟩, ⟨none, (.store 1 (.t 53) (.k (.int .i64 2))), none⟩, ⟨(some 54), (.nchk (.t 50)), none⟩, ⟨(some 55), (.fad 3 (.t 54)), none⟩, ⟨none, (.store 1 (.t 55) (.t 51)), none⟩]) (.region 13 [⟨(some 56), (.mov (.t 9)), none⟩, ⟨(some 57), (.mov (.t 11)), none⟩, ⟨(some 58), (.nchk (.t 57)), none⟩, ⟨(some 59), (.fad 0 (.t 58)), none⟩, ⟨(some 60), (.load false 1 (.t 59)), none⟩, ⟨(some 61), (.bslice 1 1 [(.int .i64 0)] [(0, (.t 60))]), none⟩, ⟨(some 62), (.app 1 8 [(.int .i64 0)] (.t 56) (.t 61)), none⟩, ⟨(some 9), (.mov (.t 62)), none⟩])) .skip))))) (.region 14 [⟨(some 63), (.bin .add (.t 34) (.k (.int .i64 1))), none⟩, ⟨(some 34), (.mov (.t 63)), none⟩]))))))) (.seq (.region 15 [⟨(some 64), (.mov (.t 7)), none⟩, ⟨(some 65), (.nchk (.t 64)), none⟩, ⟨(some 66), (.fad 0 (.t 65)), none⟩, ⟨(some 67), (.load true 2 (.t 66)), none⟩, ⟨(some 68), (.mov (.t 9)), none⟩, ⟨none, (.store 2 (.t 4) (.t 67)), none⟩, ⟨(some 5), (.mov (.t 68)), none⟩, ⟨(some 6), (.mov (.k (.int .i64 0))), none⟩]) .ret))))))), [(.c 4 true 2), (.t 5), (.t 6)], 69⟩ := by kernel_rfl
theorem lwake_pf (L : List Lif) (R : List Rqs) (now : Int) (hb : BookOk L R) (n0 : 0 ≤ now) (n1 : now ≤ 1099511627776) :
    PF Try.prog 35 [bookD L R, I now] (.tup [bookD (wakeM L now) R, .rows 1 ((wokenM L).map fun z => [I z]), I 0]) := by
  have hop := lopen_hf L R hb
  have hll := hb.ll
  have c1 : ¬ now < 0 := by omega
  have c2 : ¬ 1099511627776 < now := by omega
  unfold bookD at hop ⊢
  refine PF.of follows_ok lwake_code (by simp) (by simp [argOk]) (by simp [noV, noC]) fun B hBN hB0 => acode_sound [0, 1, 2, 4, 5, 6, 7, 8, 9, 10, 11, 18, 26, 33, 34, 35, 48] [] _ _ _ ?_
  simp [AK_at, acode_seq, acode_region, acode_draw, acode_cond, ↓CB_t, ↓CB_f, CB_u, acode_block, acode_loop, acode_exit, acode_scope, acode_ret, acode_skip, seqQ_n, seqQ_e, seqQ_r, blockQ_n, blockQ_e, blockQ_r, TK_at, OK_at, SK_at, aops_nil, aops_cons, asch_done, asch_one, asch_two, asch_top, astep, aop_eq, isLoud, aloud, aloud1, isWrite, qv, evS, strip, gof, eget, hget, putO, eput, herase, oks, opnds, gS, afin, afin0, binD, arith, D.cells, takeD, fillD, keep, trim, envOf, Fin, aresl, aresv, resD, argOk, pickV, isP, deq, deqs, boundD, slD, lenD, isT, isSl, ptrIds, chunks, mn_min, mx_max, D.cells, splice_one, splice_more, Rbr_at, Rfr_at, frR, frV, frC, flatC, brwR, brwV, brwC, omap, leR, leV, leC, leL, leVL]
  refine WCall.hf0 hop (by simp [oks, opnds, gS, gof, eget]) (by simp [evS, eget, strip]) (by simp [argOk]) (by simp [noV, noC]) ?_
  rintro d H' nx' ⟨rfl, rfl, rfl⟩
  simp [AK_at, acode_seq, acode_region, acode_draw, acode_cond, ↓CB_t, ↓CB_f, CB_u, acode_block, acode_loop, acode_exit, acode_scope, acode_ret, acode_skip, seqQ_n, seqQ_e, seqQ_r, blockQ_n, blockQ_e, blockQ_r, TK_at, OK_at, SK_at, aops_nil, aops_cons, asch_done, asch_one, asch_two, asch_top, astep, aop_eq, isLoud, aloud, aloud1, isWrite, qv, evS, strip, gof, eget, hget, putO, eput, herase, oks, opnds, gS, afin, afin0, binD, arith, D.cells, takeD, fillD, keep, trim, envOf, Fin, aresl, aresv, resD, argOk, pickV, isP, deq, deqs, boundD, slD, lenD, isT, isSl, ptrIds, chunks, mn_min, mx_max, D.cells, splice_one, splice_more, Rbr_at, Rfr_at, frR, frV, frC, flatC, brwR, brwV, brwC, omap, leR, leV, leC, leL, leVL, rnR, rnV, rnC, rnO, rho_0, hputs, herases, bkH, c1, c2]
  refine W.loopS (fun i : Nat => ⟨[(34, I i), (33, I L.length), (9, .own 5), (7, .ptr 2 0), (6, I 0), (5, .nil0), (4, .ptr 1 0), (1, I now)], [(5, .row 1 ((wokenM (L.take i)).map fun z => [I z])), (4, .row 5 (R.map Rqs.D)), (3, .row 6 ((midW L now i).map Lif.D)), (2, .cells [.own 3, .own 4]), (1, .cells [.nil0, .nil0])], 6⟩)
    (fun n i => n = L.length - i ∧ i ≤ L.length) ?_ ?_
  · refine ⟨_, 0, (Gh.adopt 9 1 (by omega) (by simp [eget])).trans ?_, rfl, by omega⟩
    simp [eput]
    exact (Gh.ren [0, 1, 2, 3, 4, 5] (by simp [hB0]) (by simp [hB0] <;> decide) (by simp [eget, rnS, rnR, rnV, rnC, LtS, LtR, LtV, LtC, lget, midW, wokenM]) (by simp [hget, rnO, rnC, LtO, LtC, lget, midW, wokenM]) (.inl (by simp [lget, midW, wokenM])))
  rintro n i ⟨hn, hi⟩
  refine acode_sound [0, 1, 2, 4, 5, 6, 7, 8, 9, 10, 11, 18, 26, 33, 34, 35, 48] [] _ _ _ ?_
  have hml := midW_len L now i hi
  by_cases hlt : i < L.length
  · have hmg := midW_get L now i hlt
    have hms := midW_set L now i hlt
    have hws := woken_succ L i hlt
    have hsame := midW_same L now i hlt
    have hwl := woken_len (L.take i)
    rw [List.length_take] at hwl
    have hcap : ((wokenM (L.take i)).length + 1) * 8 ≤ 140737488355328 := by omega
    obtain ⟨o, ho⟩ : ∃ o, o = L[i] := ⟨_, rfl⟩
    rw [← ho] at hmg hms hws hsame
    have hmg2 : ∀ h, (midW L now i)[i]'h = o := fun h => by
      rw [List.getElem?_eq_getElem h] at hmg; exact Option.some.inj hmg
    have ii : InR ((i : Int) + 1) := inW (by omega) (by omega)
    by_cases s1 : o.state = 1
    · rw [if_pos s1] at hws
      have hwx : wakeX now o = ⟨o.backend, 2, o.weight, now, o.til, o.req⟩ := by unfold wakeX; rw [if_pos s1]
      rw [hwx] at hms
      have hms' : ((midW L now i).map Lif.D).set i [I o.backend, I 2, I o.weight, I now, I o.til, I o.req] = (midW L now (i + 1)).map Lif.D := by
        rw [← hms, List.map_set]; rfl
      simp [AK_at, acode_seq, acode_region, acode_draw, acode_cond, ↓CB_t, ↓CB_f, CB_u, acode_block, acode_loop, acode_exit, acode_scope, acode_ret, acode_skip, seqQ_n, seqQ_e, seqQ_r, blockQ_n, blockQ_e, blockQ_r, TK_at, OK_at, SK_at, aops_nil, aops_cons, asch_done, asch_one, asch_two, asch_top, astep, aop_eq, isLoud, aloud, aloud1, isWrite, qv, evS, strip, gof, eget, hget, putO, eput, herase, oks, opnds, gS, afin, afin0, binD, arith, D.cells, takeD, fillD, keep, trim, envOf, Fin, aresl, aresv, resD, argOk, pickV, isP, deq, deqs, boundD, slD, lenD, isT, isSl, ptrIds, chunks, mn_min, mx_max, D.cells, splice_one, splice_more, Rbr_at, Rfr_at, frR, frV, frC, flatC, brwR, brwV, brwC, omap, leR, leV, leC, leL, leVL, hlt, hml, hmg, hmg2, Lif.D, s1, hcap, ii]
      exact ⟨_, i + 1, (Gh.ren [7, 1, 2, 3, 4, 7] (by simp [hB0]) (by simp [hB0] <;> decide) (by simp [eget, rnS, rnR, rnV, rnC, LtS, LtR, LtV, LtC, lget, hws, hms']) (by simp [hget, rnO, rnC, LtO, LtC, lget, hws, hms']) (.inl (by simp [lget, hws, hms']))), by omega, rfl, by omega⟩
    · rw [if_neg s1, List.append_nil] at hws
      simp [AK_at, acode_seq, acode_region, acode_draw, acode_cond, ↓CB_t, ↓CB_f, CB_u, acode_block, acode_loop, acode_exit, acode_scope, acode_ret, acode_skip, seqQ_n, seqQ_e, seqQ_r, blockQ_n, blockQ_e, blockQ_r, TK_at, OK_at, SK_at, aops_nil, aops_cons, asch_done, asch_one, asch_two, asch_top, astep, aop_eq, isLoud, aloud, aloud1, isWrite, qv, evS, strip, gof, eget, hget, putO, eput, herase, oks, opnds, gS, afin, afin0, binD, arith, D.cells, takeD, fillD, keep, trim, envOf, Fin, aresl, aresv, resD, argOk, pickV, isP, deq, deqs, boundD, slD, lenD, isT, isSl, ptrIds, chunks, mn_min, mx_max, D.cells, splice_one, splice_more, Rbr_at, Rfr_at, frR, frV, frC, flatC, brwR, brwV, brwC, omap, leR, leV, leC, leL, leVL, hlt, hml, hmg, hmg2, Lif.D, s1, ii]
      exact ⟨_, i + 1, (Gh.ren [0, 1, 2, 3, 4, 5] (by simp [hB0]) (by simp [hB0] <;> decide) (by simp [eget, rnS, rnR, rnV, rnC, LtS, LtR, LtV, LtC, lget, hws, hsame s1]) (by simp [hget, rnO, rnC, LtO, LtC, lget, hws, hsame s1]) (.inl (by simp [lget, hws, hsame s1]))), by omega, rfl, by omega⟩
  · obtain rfl : i = L.length := by omega
    have hm : midW L now L.length = wakeM L now := by simp [midW, wakeM]
    simp [AK_at, acode_seq, acode_region, acode_draw, acode_cond, ↓CB_t, ↓CB_f, CB_u, acode_block, acode_loop, acode_exit, acode_scope, acode_ret, acode_skip, seqQ_n, seqQ_e, seqQ_r, blockQ_n, blockQ_e, blockQ_r, TK_at, OK_at, SK_at, aops_nil, aops_cons, asch_done, asch_one, asch_two, asch_top, astep, aop_eq, isLoud, aloud, aloud1, isWrite, qv, evS, strip, gof, eget, hget, putO, eput, herase, oks, opnds, gS, afin, afin0, binD, arith, D.cells, takeD, fillD, keep, trim, envOf, Fin, aresl, aresv, resD, argOk, pickV, isP, deq, deqs, boundD, slD, lenD, isT, isSl, ptrIds, chunks, mn_min, mx_max, D.cells, splice_one, splice_more, Rbr_at, Rfr_at, frR, frV, frC, flatC, brwR, brwV, brwC, omap, leR, leV, leC, leL, leVL, hm]
end Go.Proofs.Ytfkeddefajkobaa

set_option linter.unusedSimpArgs false
set_option linter.unusedVariables false
set_option maxRecDepth 100000
namespace Go.Proofs.Ytfkeddefajkobaa
def plea (x : List Int) : Rqs := ⟨pickedZ (x.getD 0 0) 12, 1 + pickedZ (x.getD 1 0) 2, pickedZ (x.getD 2 0) 5, pickedZ (x.getD 3 0) 10, 0⟩
def pleaT (x : List Int) : Int := pickedZ (x.getD 4 0) 3
structure Bk where
  L : List Lif
  R : List Rqs
  now : Int
def askStep (s : Bk) (x : List Int) : Bk :=
  if pleaT x = 0 then ⟨(askM s.L s.R (plea x) s.now 9).L, (askM s.L s.R (plea x) s.now 9).R, s.now⟩
  else ⟨wakeM (askM s.L s.R (plea x) s.now 9).L (s.now + pleaT x), (askM s.L s.R (plea x) s.now 9).R, s.now + pleaT x⟩
def askedF (l : List (List Int)) : Bk := l.foldl askStep ⟨[], [], 0⟩
def askedM (l : List (List Int)) : Bk := askedF (l.take 30)
theorem askedF_succ (l : List (List Int)) (i : Nat) (h : i < l.length) : askedF (l.take (i + 1)) = askStep (askedF (l.take i)) l[i] := by
  unfold askedF
  rw [List.take_succ_eq_append_getElem h, List.foldl_append]; rfl
theorem plea_ok (x : List Int) : RqsOk (plea x) := by
  have h1 := pickedZ_range (x.getD 0 0) 12 (by omega)
  have h2 := pickedZ_range (x.getD 1 0) 2 (by omega)
  exact ⟨by simp only [plea]; omega, by simp only [plea]; omega, by simp only [plea]; omega⟩
theorem ask_mem {L : List Lif} {R : List Rqs} {r : Rqs} {now d : Int} : ∀ x ∈ (askM L R r now d).L, (∃ y ∈ L, x.backend = y.backend ∧ x.since = y.since) ∨ (x.backend = r.backend ∧ x.since = 0) := by
  intro x hx
  have same : ∀ z ∈ L, (∃ y ∈ L, z.backend = y.backend ∧ z.since = y.since) ∨ (z.backend = r.backend ∧ z.since = 0) := fun z hz => .inl ⟨z, hz, rfl, rfl⟩
  unfold askM at hx
  split at hx
  · exact same x hx
  · split at hx
    · exact same x hx
    · split at hx
      · simp only at hx
        unfold joinM at hx
        split at hx
        · exact same x hx
        · split at hx
          · split at hx
            · rcases List.mem_or_eq_of_mem_set hx with hx | rfl
              · exact same x hx
              · exact .inr ⟨rfl, rfl⟩
            · exact same x hx
          · rcases List.mem_append.1 hx with hx | hx
            · rcases List.mem_append.1 hx with hx | hx
              · exact same x (List.mem_of_mem_take hx)
              · rw [List.mem_singleton.1 hx]; exact .inr ⟨rfl, rfl⟩
            · exact same x (List.mem_of_mem_drop hx)
      · simp only at hx
        unfold retireM at hx
        simp only at hx
        split at hx
        · exact same x hx
        · rename_i h0
          obtain ⟨h1, h2, h3⟩ := findM_at (by omega : 0 ≤ findM L r.backend)
          rw [h3] at hx
          split at hx
          · exact same x hx
          · split at hx
            · exact same x hx
            · rcases List.mem_or_eq_of_mem_set hx with hx | rfl
              · exact same x hx
              · exact .inl ⟨_, List.getElem_mem h1, rfl, rfl⟩
theorem ask_reqs {L : List Lif} {R : List Rqs} {r : Rqs} {now d : Int} : ((askM L R r now d).R = R ∧ (askM L R r now d).fresh = false ∧ (0 ≤ idxZ (qI r.id) R ∨ R.length = 100)) ∨ (∃ q : Rqs, q.id = r.id ∧ q.answer = (askM L R r now d).answer ∧ (askM L R r now d).R = R ++ [q] ∧ (askM L R r now d).fresh = true ∧ ¬ 0 ≤ idxZ (qI r.id) R ∧ R.length ≠ 100) := by
  unfold askM
  split
  · rename_i h; exact .inl ⟨rfl, rfl, .inl h⟩
  · rename_i h1
    split
    · rename_i h; exact .inl ⟨rfl, rfl, .inr h⟩
    · rename_i h2
      split
      · exact .inr ⟨{ r with answer := (joinM L r).2 }, rfl, rfl, rfl, rfl, h1, h2⟩
      · exact .inr ⟨{ r with weight := 0, answer := (retireM L r now d).2 }, rfl, rfl, rfl, rfl, h1, h2⟩
structure AInv (n : Nat) (s : Bk) : Prop where
  ok : BookOk s.L s.R
  n0 : 0 ≤ s.now
  n1 : s.now ≤ 2 * n
  rl : s.R.length ≤ n
  r1 : 0 < n → s.R ≠ []
  ri : ∀ r ∈ s.R, r.id < 12
  lb : ∀ x ∈ s.L, x.backend < 5 ∧ x.since ≤ s.now
theorem wake_mem {L : List Lif} {now : Int} : ∀ x ∈ wakeM L now, ∃ y ∈ L, x.backend = y.backend ∧ (x.since = y.since ∨ x.since = now) := fun x hx => by
  obtain ⟨y, hy, rfl⟩ := List.mem_map.1 hx
  refine ⟨y, hy, ?_⟩
  unfold wakeX
  split
  · exact ⟨rfl, .inr rfl⟩
  · exact ⟨rfl, .inl rfl⟩
theorem askStep_inv {n : Nat} {s : Bk} (h : AInv n s) (x : List Int) (hn : n < 30) : AInv (n + 1) (askStep s x) := by
  have ht := pickedZ_range (x.getD 4 0) 3 (by omega)
  have hid := pickedZ_range (x.getD 0 0) 12 (by omega)
  have hbk := pickedZ_range (x.getD 2 0) 5 (by omega)
  have hn1 := h.n1
  have hn0 := h.n0
  have hok := ask_ok h.ok (plea x) (plea_ok x) s.now 9 h.n0 (by omega) (by omega) (by omega)
  have hm := ask_mem (L := s.L) (R := s.R) (r := plea x) (now := s.now) (d := 9)
  have hrl := h.rl
  have hr := ask_reqs (L := s.L) (R := s.R) (r := plea x) (now := s.now) (d := 9)
  have hR : (askM s.L s.R (plea x) s.now 9).R.length ≤ n + 1 ∧ (askM s.L s.R (plea x) s.now 9).R ≠ [] ∧ ∀ r ∈ (askM s.L s.R (plea x) s.now 9).R, r.id < 12 := by
    rcases hr with ⟨h1, _, h2⟩ | ⟨q, hq, _, h1, _⟩
    · rw [h1]
      refine ⟨by omega, ?_, h.ri⟩
      rcases h2 with h2 | h2
      · intro e; rw [e] at h2; simp [idxZ] at h2
      · omega
    · rw [h1]
      refine ⟨by simp; omega, by simp, fun r hr => ?_⟩
      rcases List.mem_append.1 hr with hr | hr
      · exact h.ri r hr
      · rw [List.mem_singleton.1 hr, hq]; simp only [plea]; omega
  have hL : ∀ y ∈ (askM s.L s.R (plea x) s.now 9).L, y.backend < 5 ∧ y.since ≤ s.now := fun y hy => by
    rcases hm y hy with ⟨z, hz, h1, h2⟩ | ⟨h1, h2⟩
    · rw [h1, h2]; exact h.lb z hz
    · rw [h1, h2]; simp only [plea]; omega
  unfold askStep pleaT
  generalize askM s.L s.R (plea x) s.now 9 = a at hok hR hL ⊢
  split
  · exact ⟨hok, hn0, by simp only; omega, hR.1, fun _ => hR.2.1, hR.2.2, hL⟩
  · refine ⟨wake_ok hok _ (by omega) (by omega), by simp only; omega, by simp only; omega, hR.1, fun _ => hR.2.1, hR.2.2, fun y hy => ?_⟩
    obtain ⟨z, hz, h1, h2⟩ := wake_mem y hy
    have := hL z hz
    simp only
    rw [h1]
    refine ⟨this.1, ?_⟩
    rcases h2 with h2 | h2 <;> omega
theorem askedF_inv (l : List (List Int)) : ∀ i, i ≤ l.length → i ≤ 30 → AInv i (askedF (l.take i))
  | 0, _, _ => ⟨⟨by simp [askedF], by simp [askedF], by simp [askedF], by simp [askedF], by simp [askedF], by simp [askedF]⟩, by simp [askedF], by simp [askedF], by simp [askedF], fun h => by omega, by simp [askedF], by simp [askedF]⟩
  | i + 1, h, h30 => by
    rw [askedF_succ l i h]
    exact askStep_inv (askedF_inv l i (by omega) (by omega)) _ (by omega)
theorem askedM_inv (l : List (List Int)) : AInv (min 30 l.length) (askedM l) := by
  have := askedF_inv (l.take 30) (l.take 30).length (Nat.le_refl _) (by simp; omega)
  rw [List.take_length, List.length_take] at this
  exact this
theorem idx_old {R : List Rqs} {i : Int} (h : ∀ r ∈ R, r.id < i) : ¬ 0 ≤ idxZ (qI i) R := fun h0 => by
  obtain ⟨h1, h2, _⟩ := idxZ_get _ R h0
  have := h _ (List.getElem_mem h1)
  simp only [qI, decide_eq_true_eq] at h2
  omega
/-- a request that comes again -/
theorem ask_again {L : List Lif} {R : List Rqs} {q : Rqs} {r : Rqs} {now d : Int} (hid : (∀ x ∈ R, x.id ≠ r.id)) (hq : q.id = r.id) : askM L (R ++ [q]) r now d = ⟨L, R ++ [q], q.answer, false⟩ := by
  have h1 : idxZ (qI r.id) (R ++ [q]) = R.length := by
    refine idxZ_at _ _ R.length (by simp) (fun j hj => ?_) ?_
    · rw [List.getElem_append_left hj]
      simpa [qI] using hid _ (List.getElem_mem hj)
    · simp [qI, hq]
  unfold askM
  rw [h1, if_pos (by omega)]
  simp
theorem find_ins {L : List Lif} {x : Lif} {n : Int} (p : Nat) (hx : x.backend ≠ n) : (L.take p ++ [x] ++ L.drop p).find? (qB n) = L.find? (qB n) := by
  have h1 : [x].find? (qB n) = none := by simp [qB, hx]
  conv => rhs; rw [← List.take_append_drop p L]
  rw [List.append_assoc, List.find?_append, List.find?_append, List.find?_append, h1]
  simp
theorem find_set {L : List Lif} {x : Lif} {n : Int} {i : Nat} (hi : i < L.length) (h0 : L[i].backend ≠ n) (hx : x.backend ≠ n) : (L.set i x).find? (qB n) = L.find? (qB n) := by
  have e1 : L.set i x = L.take i ++ (x :: L.drop (i + 1)) := by rw [List.set_eq_take_append_cons_drop, if_pos hi]
  have e2 : L = L.take i ++ (L[i] :: L.drop (i + 1)) := by rw [← List.drop_eq_getElem_cons hi, List.take_append_drop]
  rw [e1]
  conv => rhs; rw [e2]
  rw [List.find?_append, List.find?_append, List.find?_cons, List.find?_cons]
  simp [qB, hx, h0]
theorem ofM_find (L : List Lif) (n : Int) : ofM L n = match L.find? (qB n) with | some x => (x, 0) | none => (default, 8) := by
  unfold ofM
  split
  · rename_i h
    have h1 := findM_neg h
    have : L.find? (qB n) = none := List.find?_eq_none.2 fun x hx => by simpa [qB] using h1 x hx
    rw [this]
  · rename_i h
    obtain ⟨h1, h2, h3⟩ := findM_at (by omega : 0 ≤ findM L n)
    obtain ⟨_, _, h4⟩ := idxZ_get (qB n) L (by unfold findM at h; omega)
    have : L.find? (qB n) = some L[(findM L n).toNat] := by
      rw [List.find?_eq_some_iff_getElem]
      exact ⟨decide_eq_true h2, (findM L n).toNat, h1, rfl, fun j hj => by
        have := h4 j hj
        simp only [Bool.not_eq_true']
        exact this⟩
    simp only [this, h3]
    rfl
/-- what is asked of one changes no other -/
theorem ask_other {L : List Lif} {R : List Rqs} {r : Rqs} {now d n : Int} (hn : r.backend ≠ n) : ofM (askM L R r now d).L n = ofM L n := by
  rw [ofM_find, ofM_find]
  have e : (askM L R r now d).L.find? (qB n) = L.find? (qB n) := by
    unfold askM
    split
    · rfl
    · split
      · rfl
      · split
        · simp only
          unfold joinM
          split
          · rfl
          · split
            · rename_i h0
              obtain ⟨h1, h2, h3⟩ := findM_at h0
              split
              · exact find_set h1 (by rw [h2]; exact hn) hn
              · rfl
            · exact find_ins _ hn
        · simp only
          unfold retireM
          simp only
          split
          · rfl
          · rename_i h0
            obtain ⟨h1, h2, h3⟩ := findM_at (by omega : 0 ≤ findM L r.backend)
            rw [h3]
            split
            · rfl
            · split
              · rfl
              · exact find_set h1 (by rw [h2]; exact hn) (by simp only; rw [h2]; exact hn)
  rw [e]
theorem wake_wake (L : List Lif) (now : Int) : wakeM (wakeM L now) now = wakeM L now ∧ wokenM (wakeM L now) = [] := by
  have hs : ∀ x ∈ wakeM L now, x.state ≠ 1 := fun x hx => by
    obtain ⟨y, hy, rfl⟩ := List.mem_map.1 hx
    unfold wakeX
    split
    · simp
    · assumption
  constructor
  · have : wakeM (wakeM L now) now = (wakeM L now).map id := List.map_congr_left fun x hx => by
      unfold wakeX; rw [if_neg (hs x hx)]; rfl
    rw [this, List.map_id]
  · unfold wokenM
    rw [List.filter_eq_nil_iff.2 fun x hx => by simpa using hs x hx]; rfl
end Go.Proofs.Ytfkeddefajkobaa

set_option linter.unusedSimpArgs false
set_option linter.unusedVariables false
set_option maxRecDepth 100000
set_option maxHeartbeats 4000000
namespace Go.Proofs.Ytfkeddefajkobaa
open Go.RowKit
theorem five {r : List Int} (h : r.length = 5) : ∃ a b c d e, r = [a, b, c, d, e] := by
  match r, h with
  | [a, b, c, d, e], _ => exact ⟨a, b, c, d, e, rfl⟩
theorem asked_code : cfun Try.prog [] 34 = some ⟨(.seq (.region 0 [⟨(some 2), (.alloc [.nil0, .nil0]), none⟩, ⟨(some 3), (.mov (.k (.int .i64 0))), none⟩, ⟨(some 4), (.mov (.k (.bool false))), none⟩]) (.seq (.region 1 [⟨(some 5), (.alloc [.nil0, .nil0]), none⟩]) (.seq (.region 2 [⟨(some 6), (.mov (.k (.int .i64 0))), none⟩]) (.seq (.seq (.region 3 [⟨(some 7), (.mov (.k (.int .i64 0))), none⟩]) (.block 0 (.loop (.seq (.seq (.region 4 [⟨(some 17), (.mov (.t 7)), none⟩, ⟨(some 18), (.mov (.t 0)), none⟩, ⟨(some 19), (.len (.t 18)), none⟩, ⟨(some 20), (.bin .lss (.t 17) (.t 19)), none⟩, ⟨(some 21), (.mov (.t 20)), none⟩, ⟨(some 22), (.mov (.t 7)), (some (21, true))⟩, ⟨(some 23), (.bin .lss (.t 22) (.k (.int .i64 30))), (some (21, true))⟩, ⟨(some 24), (.pick (.t 21) (.t 23) (.k (.bool false))), none⟩]) (.cond 24 .skip (.exit 0))) (.seq (.block 1 (.seq (.region 6 [⟨(some 27), (.mov (.t 0)), none⟩, ⟨(some 28), (.mov (.t 7)), none⟩, ⟨(some 29), (.iads 5 (.t 27) (.t 28)), none⟩, ⟨(some 30), (.load true 5 (.t 29)), none⟩, ⟨(some 8), (.alloc [(.int .i64 0), (.int .i64 0), (.int .i64 0), (.int .i64 0), (.int .i64 0)]), none⟩, ⟨none, (.store 5 (.t 8) (.t 30)), none⟩]) (.seq (.draw 7 (.one true ⟨(some 31), (.fad 0 (.t 8)), none⟩ (.one true ⟨(some 32), (.load false 1 (.t 31)), none⟩ (.one true ⟨(some 34), (.fad 1 (.t 8)), none⟩ (.one true ⟨(some 35), (.load false 1 (.t 34)), none⟩ (.one true ⟨(some 38), (.fad 2 (.t 8)), none⟩ (.one true ⟨(some 39), (.load false 1 (.t 38)), none⟩ (.one true ⟨(some 41), (.fad 3 (.t 8)), none⟩ (.one true ⟨(some 42), (.load false 1 (.t 41)), none⟩ (.two (.one true ⟨(some 33), (.call 25 [(.t 32), (.k (.int .i64 12))]), none⟩ (.two (.one true ⟨(some 36), (.call 25 [(.t 35), (.k (.int .i64 2))]), none⟩ (.one true ⟨(some 37), (.bin .add (.k (.int .i64 1)) (.t 36)), none⟩ (.two (.one true ⟨(some 40), (.call 25 [(.t 39), (.k (.int .i64 5))]), none⟩ (.two (.one true ⟨(some 43), (.call 25 [(.t 42), (.k (.int .i64 10))]), none⟩ (.one true ⟨(some 44), (.build [(.int .i64 0), (.int .i64 0), (.int .i64 0), (.int .i64 0), (.int .i64 0)] [(0, (1, (.t 33))), (1, (1, (.t 37))), (2, (1, (.t 40))), (3, (1, (.t 43)))]), none⟩ (.one true ⟨(some 9), (.alloc [(.int .i64 0), (.int .i64 0), (.int .i64 0), (.int .i64 0), (.int .i64 0)]), none⟩ (.one false ⟨none, (.store 5 (.t 9) (.t 44)), none⟩ .done)))) (.two (.one true ⟨(some 9), (.alloc [(.int .i64 0), (.int .i64 0), (.int .i64 0), (.int .i64 0), (.int .i64 0)]), none⟩ (.one true ⟨(some 43), (.call 25 [(.t 42), (.k (.int .i64 10))]), none⟩ (.one true ⟨(some 44), (.build [(.int .i64 0), (.int .i64 0), (.int .i64 0), (.int .i64 0), (.int .i64 0)] [(0, (1, (.t 33))), (1, (1, (.t 37))), (2, (1, (.t 40))), (3, (1, (.t 43)))]), none⟩ (.one false ⟨none, (.store 5 (.t 9) (.t 44)), none⟩ .done)))) .top))) (.two (.one true ⟨(some 9), (.alloc [(.int .i64 0), (.int .i64 0), (.int .i64 0), (.int .i64 0), (.int .i64 0)]), none⟩ (.one true ⟨(some 40), (.call 25 [(.t 39), (.k (.int .i64 5))]), none⟩ (.one true ⟨(some 43), (.call 25 [(.t 42), (.k (.int .i64 10))]), none⟩ (.one true ⟨(some 44), (.build [(.int .i64 0), (.int .i64 0), (.int .i64 0), (.int .i64 0), (.int .i64 0)] [(0, (1, (.t 33))), (1, (1, (.t 37))), (2, (1, (.t 40))), (3, (1, (.t 43)))]), none⟩ (.one false ⟨none, (.store 5 (.t 9) (.t 44)), none⟩ .done))))) .top)))) (.two (.one true ⟨(some 9), (.alloc [(.int .i64 0), (.int .i64 0), (.int .i64 0), (.int .i64 0), (.int .i64 0)]), none⟩ (.one true ⟨(some 36), (.call 25 [(.t 35), (.k (.int .i64 2))]), none⟩ (.one true ⟨(some 37), (.bin .add (.k (.int .i64 1)) (.t 36)), none⟩ (.one true ⟨(some 40), (.call 25 [(.t 39), (.k (.int .i64 5))]), none⟩ (.one true ⟨(some 43), (.call 25 [(.t 42), (.k (.int .i64 10))]), none⟩ (.one true ⟨(some 44), (.build [(.int .i64 0), (.int .i64 0), (.int .i64 0), (.int .i64 0), (.int .i64 0)] [(0, (1, (.t 33))), (1, (1, (.t 37))), (2, (1, (.t 40))), (3, (1, (.t 43)))]), none⟩ (.one false ⟨none, (.store 5 (.t 9) (.t 44)), none⟩ .done))))))) .top))) (.two (.one true ⟨(some 9), (.alloc [(.int .i64 0), (.int .i64 0), (.int .i64 0), (.int .i64 0), (.int .i64 0)]), none⟩ (.one true ⟨(some 33), (.call 25 [(.t 32), (.k (.int .i64 12))]), none⟩ (.one true ⟨(some 36), (.call 25 [(.t 35), (.k (.int .i64 2))]), none⟩ (.one true ⟨(some 37), (.bin .add (.k (.int .i64 1)) (.t 36)), none⟩ (.one true ⟨(some 40), (.call 25 [(.t 39), (.k (.int .i64 5))]), none⟩ (.one true ⟨(some 43), (.call 25 [(.t 42), (.k (.int .i64 10))]), none⟩ (.one true ⟨(some 44), (.build [(.int .i64 0), (.int .i64 0), (.int .i64 0), (.int .i64 0), (.int .i64 0)] [(0, (1, (.t 33))), (1, (1, (.t 37))), (2, (1, (.t 40))), (3, (1, (.t 43)))]), none⟩ (.one false ⟨none, (.store 5 (.t 9) (.t 44)), none⟩ .done)))))))) .top))))))))))) (.seq (.region 8 [⟨(some 46), (.load true 2 (.t 5)), none⟩, ⟨(some 47), (.load true 5 (.t 9)), none⟩, ⟨(some 48), (.mov (.t 6)), none⟩, ⟨(some 49), (.call 32 [(.t 46), (.t 47), (.t 48), (.k (.int .i64 9))]), none⟩, ⟨(some 45), (.mov (.t 49)), none⟩, ⟨(some 50), (.ext (.t 45) 0), none⟩, ⟨(some 51), (.ext (.t 45) 1), none⟩, ⟨(some 52), (.ext (.t 45) 2), none⟩, ⟨(some 53), (.ext (.t 45) 3), none⟩, ⟨(some 10), (.alloc [.nil0, .nil0]), none⟩, ⟨none, (.store 2 (.t 10) (.t 50)), none⟩, ⟨(some 11), (.mov (.t 51)), none⟩, ⟨(some 12), (.mov (.t 52)), none⟩, ⟨(some 13), (.mov (.t 53)), none⟩]) (.seq (.seq (.region 9 [⟨(some 54), (.mov (.t 13)), none⟩, ⟨(some 55), (.bin .neq (.t 54) (.k (.int .i64 0))), none⟩, ⟨(some 56), (.mov (.t 55)), none⟩, ⟨(some 57), (.fad 1 (.t 10)), (some (56, false))⟩, ⟨(some 58), (.load false 1 (.t 57)), (some (56, false))⟩, ⟨(some 59), (.len (.t 58)), (some (56, false))⟩, ⟨(some 60), (.bin .eql (.t 59) (.k (.int .i64 0))), (some (56, false))⟩, ⟨(some 61), (.pick (.t 56) (.k (.bool true)) (.t 60)), none⟩]) (.cond 61 (.seq (.region 10 [⟨(some 62), (.load true 2 (.t 5)), none⟩, ⟨(some 63), (.mov (.t 6)), none⟩, ⟨none, (.store 2 (.t 2) (.t 62)), none⟩, ⟨(some 3), (.mov (.t 63)), none⟩, ⟨(some 4), (.mov (.k (.bool false))), none⟩]) .ret) .skip)) (.seq (.region 11 [⟨(some 64), (.load true 2 (.t 10)), none⟩, ⟨none, (.store 2 (.t 5) (.t 64)), none⟩]) (.seq (.seq (.region 12 [⟨(some 65), (.fad 4 (.t 8)), none⟩, ⟨(some 66), (.load false 1 (.t 65)), none⟩, ⟨(some 67), (.call 25 [(.t 66), (.k (.int .i64 3))]), none⟩, ⟨(some 68), (.bin .eql (.t 67) (.k (.int .i64 0))), none⟩]) (.cond 68 (.exit 1) .skip)) (.seq (.region 13 [⟨(some 69), (.mov (.t 6)), none⟩, ⟨(some 70), (.fad 4 (.t 8)), none⟩, ⟨(some 71), (.load false 1 (.t 70)), none⟩, ⟨(some 72), (.call 25 [(.t 71), (.k (.int .i64 3))]), none⟩, ⟨(some 73), (.bin .add (.t 69) (.t 72)), none⟩, ⟨(some 6), (.mov (.t 73)), none⟩]) (.seq (.region 14 [⟨(some 75), (.load true 2 (.t 5)), none⟩, ⟨(some 76), (.mov (.t 6)), none⟩, ⟨(some 77), (.call 35 [(.t 75), (.t 76)]), none⟩, ⟨(some 74), (.mov (.t 77)), none⟩, ⟨(some 78), (.ext (.t 74) 0), none⟩, ⟨(some 79), (.ext (.t 74) 1), none⟩, ⟨(some 80), (.ext (.t 74) 2), none⟩, ⟨(some 14), (.alloc [.nil0, .nil0]), none⟩, ⟨none, (.store 2 (.t 14) (.t 78)), none⟩, ⟨(some 15), (.mov (.t 79)), none⟩, ⟨(some 16), (.mov (.t 80)), none⟩]) (.seq (.seq (.region 15 [⟨(some 81), (.mov (.t 16)), none⟩, ⟨(some 82), (.bin .neq (.t 81) (.k (.int .i64 0))), none⟩]) (.cond 82 (.seq (.region 16 [⟨(some 83), (.load true 2 (.t 5)), none⟩, ⟨(some 84), (.mov (.t 6)), none⟩, ⟨none, (.store 2 (.t 2) (.t 83)), none⟩, ⟨(some 3), (.mov (.t 84)), none⟩, ⟨(some 4), (.mov (.k (.bool false))), none⟩]) .ret) .skip)) (.region 17 [⟨(some 85), (.load true 2 (.t 14)), none⟩, ⟨none, (.store 2 (.t 5) (.t 85)), none⟩]))))))))))) (.region 5 [⟨(some 25), (.mov (.t 7)), none⟩, ⟨(some 26), (.bin .add (.t 25) (.k (.int .i64 1))), none⟩, ⟨(some 7), (.mov (.t 26)), none⟩])))))) (.seq (.region 18 [⟨(some 86), (.load true 2 (.t 5)), none⟩, ⟨(some 87), (.mov (.t 6)), none⟩, ⟨none, (.store 2 (.t 2) (.t 86)), none⟩, ⟨(some 3), (.mov (.t 87)), none⟩, ⟨(some 4), (.mov (.k (.bool true))), none⟩]) .ret))))), [(.c 2 true 2), (.t 3), (.t 4)], 88⟩ := by kernel_rfl
theorem asked_pf (l : List (List Int)) (hl : l.length ≤ Go.maxLen) (hr : ∀ r ∈ l, r.length = 5 ∧ ∀ z ∈ r, InR z) : PF Try.prog 34 [.rows 5 (l.map fun r => r.map I)] (.tup [bookD (askedM l).L (askedM l).R, I (askedM l).now, .bool true]) := by
  unfold Go.maxLen at hl
  unfold bookD
  refine PF.of follows_ok asked_code (by simp) (by simp [argOk]) (by simp [noV, noC]) fun B hBN hB0 => acode_sound [0, 2, 3, 4, 5, 6, 7, 8, 9, 10, 13, 14, 16, 24, 61, 68, 82] [] _ _ _ ?_
  simp [AK_at, acode_seq, acode_region, acode_draw, acode_cond, ↓CB_t, ↓CB_f, CB_u, acode_block, acode_loop, acode_exit, acode_scope, acode_ret, acode_skip, seqQ_n, seqQ_e, seqQ_r, blockQ_n, blockQ_e, blockQ_r, TK_at, OK_at, SK_at, aops_nil, aops_cons, asch_done, asch_one, asch_two, asch_top, astep, aop_eq, isLoud, aloud, aloud1, isWrite, qv, evS, strip, gof, eget, hget, putO, eput, herase, oks, opnds, gS, afin, afin0, binD, arith, D.cells, takeD, fillD, keep, trim, envOf, Fin, aresl, aresv, resD, argOk, pickV, isP, deq, deqs, boundD, slD, lenD, isT, isSl, ptrIds, chunks, mn_min, mx_max, D.cells, splice_one, splice_more, Rbr_at, Rfr_at, frR, frV, frC, flatC, brwR, brwV, brwC, omap, leR, leV, leC, leL, leVL]
  refine W.loopS (fun i : Nat => ⟨[(7, I i), (6, I (askedF (l.take i)).now), (5, .ptr 1 0), (4, .bool false), (3, I 0), (2, .ptr 0 0), (0, D.rows 5 (l.map fun r => r.map I))], [(1, .cells [.rows 6 ((askedF (l.take i)).L.map Lif.D), .rows 5 ((askedF (l.take i)).R.map Rqs.D)]), (0, .cells [.nil0, .nil0])], 2⟩)
    (fun n i => n = 30 - i ∧ i ≤ 30 ∧ i ≤ l.length) ?_ ?_
  · refine ⟨_, 0, (Gh.nilC 1 0 6 [.nil0, .nil0] (by simp [hget]) rfl).trans ((Gh.nilC 1 1 5 [.rows 6 [], .nil0] (by simp [hget, eput]) rfl).trans ?_), rfl, by omega, by omega⟩
    simp [eput]
    exact (Gh.ren [0, 1] (by simp [hB0]) (by simp [hB0] <;> decide) (by simp [eget, rnS, rnR, rnV, rnC, LtS, LtR, LtV, LtC, lget, askedF]) (by simp [hget, rnO, rnC, LtO, LtC, lget, askedF]) (.inl (by simp [lget, askedF])))
  rintro n i ⟨hn, h30, hi⟩
  refine acode_sound [0, 2, 3, 4, 5, 6, 7, 8, 9, 10, 13, 14, 16, 24, 61, 68, 82] [] _ _ _ ?_
  by_cases hlt : i < l.length ∧ i < 30
  · obtain ⟨hlt, hlt2⟩ := hlt
    have hz : (i : Int) < 30 := by omega
    have hs := askedF_succ l i hlt
    have hinv := askedF_inv l i hi h30
    obtain ⟨hx1, hx2⟩ := hr _ (List.getElem_mem hlt)
    obtain ⟨a, b, c, d, e, hab⟩ := five hx1
    rw [hab] at hx2 hs
    have p1 := picked_pf a 12 (hx2 a (by simp)) (by omega)
    have p2 := picked_pf b 2 (hx2 b (by simp)) (by omega)
    have p3 := picked_pf c 5 (hx2 c (by simp)) (by omega)
    have p4 := picked_pf d 10 (hx2 d (by simp)) (by omega)
    have p5 := picked_pf e 3 (hx2 e (by simp)) (by omega)
    have ht := pickedZ_range e 3 (by omega)
    have hk2 := pickedZ_range b 2 (by omega)
    have hpk : plea [a, b, c, d, e] = ⟨pickedZ a 12, 1 + pickedZ b 2, pickedZ c 5, pickedZ d 10, 0⟩ := rfl
    have hpt : pleaT [a, b, c, d, e] = pickedZ e 3 := rfl
    generalize askedF (l.take i) = s at hs hinv
    have hn0 := hinv.n0
    have hn1 := hinv.n1
    have hinv2 := askStep_inv hinv [a, b, c, d, e] hlt2
    have hask := lask_pf s.L s.R (plea [a, b, c, d, e]) s.now 9 hinv.ok (plea_ok _) hinv.n0 (by omega) (by omega) (by omega)
    have haok := ask_ok hinv.ok (plea [a, b, c, d, e]) (plea_ok _) s.now 9 hinv.n0 (by omega) (by omega) (by omega)
    have hR0 : (askM s.L s.R (plea [a, b, c, d, e]) s.now 9).R ≠ [] := by
      have := hinv2.r1 (by omega)
      unfold askStep at this
      split at this <;> exact this
    have hst : askStep s [a, b, c, d, e] = if pickedZ e 3 = 0 then ⟨(askM s.L s.R (plea [a, b, c, d, e]) s.now 9).L, (askM s.L s.R (plea [a, b, c, d, e]) s.now 9).R, s.now⟩
      else ⟨wakeM (askM s.L s.R (plea [a, b, c, d, e]) s.now 9).L (s.now + pickedZ e 3), (askM s.L s.R (plea [a, b, c, d, e]) s.now 9).R, s.now + pickedZ e 3⟩ := rfl
    rw [hst] at hs
    have hwk := lwake_pf (askM s.L s.R (plea [a, b, c, d, e]) s.now 9).L (askM s.L s.R (plea [a, b, c, d, e]) s.now 9).R (s.now + pickedZ e 3) haok (by omega) (by omega)
    clear hst hinv2 haok
    rw [hpk] at hask hs hwk hR0
    generalize askM s.L s.R ⟨pickedZ a 12, 1 + pickedZ b 2, pickedZ c 5, pickedZ d 10, 0⟩ s.now 9 = A at hask hs hwk hR0
    unfold bookD at hask hwk
    have i1 : InR (1 + pickedZ b 2) := inW (by omega) (by omega)
    have i2 : InR (s.now + pickedZ e 3) := inW (by omega) (by omega)
    have ii : InR ((i : Int) + 1) := inW (by omega) (by omega)
    have hA0 : ¬ A.R.length = 0 := fun h => hR0 (List.eq_nil_of_length_eq_zero h)
    by_cases h0 : pickedZ e 3 = 0
    · rw [if_pos h0] at hs
      repeat' (first
        | simp [AK_at, acode_seq, acode_region, acode_draw, acode_cond, ↓CB_t, ↓CB_f, CB_u, acode_block, acode_loop, acode_exit, acode_scope, acode_ret, acode_skip, seqQ_n, seqQ_e, seqQ_r, blockQ_n, blockQ_e, blockQ_r, TK_at, OK_at, SK_at, aops_nil, aops_cons, asch_done, asch_one, asch_two, asch_top, astep, aop_eq, isLoud, aloud, aloud1, isWrite, qv, evS, strip, gof, eget, hget, putO, eput, herase, oks, opnds, gS, afin, afin0, binD, arith, D.cells, takeD, fillD, keep, trim, envOf, Fin, aresl, aresv, resD, argOk, pickV, isP, deq, deqs, boundD, slD, lenD, isT, isSl, ptrIds, chunks, mn_min, mx_max, D.cells, splice_one, splice_more, Rbr_at, Rfr_at, frR, frV, frC, flatC, brwR, brwV, brwC, omap, leR, leV, leC, leL, leVL, hz, hlt, hab, i1, i2, ii, hA0, hR0, h0, Rqs.D]
        | (refine WCall.pf (p1) ?_ ?_ ?_ ?_; (focus (simp [oks, opnds, gS, gof, eget]; done)); (focus (simp [omap, brwV, brwC, evS, eget, strip, hget, leVL, leV, leC, leL, hz, hlt, hab, i1, i2, ii, hA0, hR0, h0, Rqs.D]; done)); (focus (simp [noV, noC, flatR, flatV, flatC, evS, eget, strip, hz, hlt, hab, i1, i2, ii, hA0, hR0, h0, Rqs.D]; done)))
        | (refine ⟨WCall.pf (p1) ?_ ?_ ?_ ?_, ?_⟩; (focus (simp [oks, opnds, gS, gof, eget]; done)); (focus (simp [omap, brwV, brwC, evS, eget, strip, hget, leVL, leV, leC, leL, hz, hlt, hab, i1, i2, ii, hA0, hR0, h0, Rqs.D]; done)); (focus (simp [noV, noC, flatR, flatV, flatC, evS, eget, strip, hz, hlt, hab, i1, i2, ii, hA0, hR0, h0, Rqs.D]; done)))
        | (refine WCall.pf (p2) ?_ ?_ ?_ ?_; (focus (simp [oks, opnds, gS, gof, eget]; done)); (focus (simp [omap, brwV, brwC, evS, eget, strip, hget, leVL, leV, leC, leL, hz, hlt, hab, i1, i2, ii, hA0, hR0, h0, Rqs.D]; done)); (focus (simp [noV, noC, flatR, flatV, flatC, evS, eget, strip, hz, hlt, hab, i1, i2, ii, hA0, hR0, h0, Rqs.D]; done)))
        | (refine ⟨WCall.pf (p2) ?_ ?_ ?_ ?_, ?_⟩; (focus (simp [oks, opnds, gS, gof, eget]; done)); (focus (simp [omap, brwV, brwC, evS, eget, strip, hget, leVL, leV, leC, leL, hz, hlt, hab, i1, i2, ii, hA0, hR0, h0, Rqs.D]; done)); (focus (simp [noV, noC, flatR, flatV, flatC, evS, eget, strip, hz, hlt, hab, i1, i2, ii, hA0, hR0, h0, Rqs.D]; done)))
        | (refine WCall.pf (p3) ?_ ?_ ?_ ?_; (focus (simp [oks, opnds, gS, gof, eget]; done)); (focus (simp [omap, brwV, brwC, evS, eget, strip, hget, leVL, leV, leC, leL, hz, hlt, hab, i1, i2, ii, hA0, hR0, h0, Rqs.D]; done)); (focus (simp [noV, noC, flatR, flatV, flatC, evS, eget, strip, hz, hlt, hab, i1, i2, ii, hA0, hR0, h0, Rqs.D]; done)))
        | (refine ⟨WCall.pf (p3) ?_ ?_ ?_ ?_, ?_⟩; (focus (simp [oks, opnds, gS, gof, eget]; done)); (focus (simp [omap, brwV, brwC, evS, eget, strip, hget, leVL, leV, leC, leL, hz, hlt, hab, i1, i2, ii, hA0, hR0, h0, Rqs.D]; done)); (focus (simp [noV, noC, flatR, flatV, flatC, evS, eget, strip, hz, hlt, hab, i1, i2, ii, hA0, hR0, h0, Rqs.D]; done)))
        | (refine WCall.pf (p4) ?_ ?_ ?_ ?_; (focus (simp [oks, opnds, gS, gof, eget]; done)); (focus (simp [omap, brwV, brwC, evS, eget, strip, hget, leVL, leV, leC, leL, hz, hlt, hab, i1, i2, ii, hA0, hR0, h0, Rqs.D]; done)); (focus (simp [noV, noC, flatR, flatV, flatC, evS, eget, strip, hz, hlt, hab, i1, i2, ii, hA0, hR0, h0, Rqs.D]; done)))
        | (refine ⟨WCall.pf (p4) ?_ ?_ ?_ ?_, ?_⟩; (focus (simp [oks, opnds, gS, gof, eget]; done)); (focus (simp [omap, brwV, brwC, evS, eget, strip, hget, leVL, leV, leC, leL, hz, hlt, hab, i1, i2, ii, hA0, hR0, h0, Rqs.D]; done)); (focus (simp [noV, noC, flatR, flatV, flatC, evS, eget, strip, hz, hlt, hab, i1, i2, ii, hA0, hR0, h0, Rqs.D]; done)))
        | (refine WCall.pf (p5) ?_ ?_ ?_ ?_; (focus (simp [oks, opnds, gS, gof, eget]; done)); (focus (simp [omap, brwV, brwC, evS, eget, strip, hget, leVL, leV, leC, leL, hz, hlt, hab, i1, i2, ii, hA0, hR0, h0, Rqs.D]; done)); (focus (simp [noV, noC, flatR, flatV, flatC, evS, eget, strip, hz, hlt, hab, i1, i2, ii, hA0, hR0, h0, Rqs.D]; done)))
        | (refine ⟨WCall.pf (p5) ?_ ?_ ?_ ?_, ?_⟩; (focus (simp [oks, opnds, gS, gof, eget]; done)); (focus (simp [omap, brwV, brwC, evS, eget, strip, hget, leVL, leV, leC, leL, hz, hlt, hab, i1, i2, ii, hA0, hR0, h0, Rqs.D]; done)); (focus (simp [noV, noC, flatR, flatV, flatC, evS, eget, strip, hz, hlt, hab, i1, i2, ii, hA0, hR0, h0, Rqs.D]; done)))
        | (refine WCall.pf (hask) ?_ ?_ ?_ ?_; (focus (simp [oks, opnds, gS, gof, eget]; done)); (focus (simp [omap, brwV, brwC, evS, eget, strip, hget, leVL, leV, leC, leL, hz, hlt, hab, i1, i2, ii, hA0, hR0, h0, Rqs.D]; done)); (focus (simp [noV, noC, flatR, flatV, flatC, evS, eget, strip, hz, hlt, hab, i1, i2, ii, hA0, hR0, h0, Rqs.D]; done)))
        | (refine ⟨WCall.pf (hask) ?_ ?_ ?_ ?_, ?_⟩; (focus (simp [oks, opnds, gS, gof, eget]; done)); (focus (simp [omap, brwV, brwC, evS, eget, strip, hget, leVL, leV, leC, leL, hz, hlt, hab, i1, i2, ii, hA0, hR0, h0, Rqs.D]; done)); (focus (simp [noV, noC, flatR, flatV, flatC, evS, eget, strip, hz, hlt, hab, i1, i2, ii, hA0, hR0, h0, Rqs.D]; done)))
        | (refine WCall.pf (hwk) ?_ ?_ ?_ ?_; (focus (simp [oks, opnds, gS, gof, eget]; done)); (focus (simp [omap, brwV, brwC, evS, eget, strip, hget, leVL, leV, leC, leL, hz, hlt, hab, i1, i2, ii, hA0, hR0, h0, Rqs.D]; done)); (focus (simp [noV, noC, flatR, flatV, flatC, evS, eget, strip, hz, hlt, hab, i1, i2, ii, hA0, hR0, h0, Rqs.D]; done)))
        | (refine ⟨WCall.pf (hwk) ?_ ?_ ?_ ?_, ?_⟩; (focus (simp [oks, opnds, gS, gof, eget]; done)); (focus (simp [omap, brwV, brwC, evS, eget, strip, hget, leVL, leV, leC, leL, hz, hlt, hab, i1, i2, ii, hA0, hR0, h0, Rqs.D]; done)); (focus (simp [noV, noC, flatR, flatV, flatC, evS, eget, strip, hz, hlt, hab, i1, i2, ii, hA0, hR0, h0, Rqs.D]; done)))
        | (with_reducible refine And.intro (And.intro ?_ ?_) ?_)
        | fail)
      all_goals exact ⟨_, i + 1, (Gh.ren [0, 1] (by simp [hB0]) (by simp [hB0] <;> decide) (by simp [eget, rnS, rnR, rnV, rnC, LtS, LtR, LtV, LtC, lget, hs]) (by simp [hget, rnO, rnC, LtO, LtC, lget, hs]) (.inl (by simp [lget, hs]))), by omega, rfl, by omega, by omega⟩
    · rw [if_neg h0] at hs
      repeat' (first
        | simp [AK_at, acode_seq, acode_region, acode_draw, acode_cond, ↓CB_t, ↓CB_f, CB_u, acode_block, acode_loop, acode_exit, acode_scope, acode_ret, acode_skip, seqQ_n, seqQ_e, seqQ_r, blockQ_n, blockQ_e, blockQ_r, TK_at, OK_at, SK_at, aops_nil, aops_cons, asch_done, asch_one, asch_two, asch_top, astep, aop_eq, isLoud, aloud, aloud1, isWrite, qv, evS, strip, gof, eget, hget, putO, eput, herase, oks, opnds, gS, afin, afin0, binD, arith, D.cells, takeD, fillD, keep, trim, envOf, Fin, aresl, aresv, resD, argOk, pickV, isP, deq, deqs, boundD, slD, lenD, isT, isSl, ptrIds, chunks, mn_min, mx_max, D.cells, splice_one, splice_more, Rbr_at, Rfr_at, frR, frV, frC, flatC, brwR, brwV, brwC, omap, leR, leV, leC, leL, leVL, hz, hlt, hab, i1, i2, ii, hA0, hR0, h0, Rqs.D]
        | (refine WCall.pf (p1) ?_ ?_ ?_ ?_; (focus (simp [oks, opnds, gS, gof, eget]; done)); (focus (simp [omap, brwV, brwC, evS, eget, strip, hget, leVL, leV, leC, leL, hz, hlt, hab, i1, i2, ii, hA0, hR0, h0, Rqs.D]; done)); (focus (simp [noV, noC, flatR, flatV, flatC, evS, eget, strip, hz, hlt, hab, i1, i2, ii, hA0, hR0, h0, Rqs.D]; done)))
        | (refine ⟨WCall.pf (p1) ?_ ?_ ?_ ?_, ?_⟩; (focus (simp [oks, opnds, gS, gof, eget]; done)); (focus (simp [omap, brwV, brwC, evS, eget, strip, hget, leVL, leV, leC, leL, hz, hlt, hab, i1, i2, ii, hA0, hR0, h0, Rqs.D]; done)); (focus (simp [noV, noC, flatR, flatV, flatC, evS, eget, strip, hz, hlt, hab, i1, i2, ii, hA0, hR0, h0, Rqs.D]; done)))
        | (refine WCall.pf (p2) ?_ ?_ ?_ ?_; (focus (simp [oks, opnds, gS, gof, eget]; done)); (focus (simp [omap, brwV, brwC, evS, eget, strip, hget, leVL, leV, leC, leL, hz, hlt, hab, i1, i2, ii, hA0, hR0, h0, Rqs.D]; done)); (focus (simp [noV, noC, flatR, flatV, flatC, evS, eget, strip, hz, hlt, hab, i1, i2, ii, hA0, hR0, h0, Rqs.D]; done)))
        | (refine ⟨WCall.pf (p2) ?_ ?_ ?_ ?_, ?_⟩; (focus (simp [oks, opnds, gS, gof, eget]; done)); (focus (simp [omap, brwV, brwC, evS, eget, strip, hget, leVL, leV, leC, leL, hz, hlt, hab, i1, i2, ii, hA0, hR0, h0, Rqs.D]; done)); (focus (simp [noV, noC, flatR, flatV, flatC, evS, eget, strip, hz, hlt, hab, i1, i2, ii, hA0, hR0, h0, Rqs.D]; done)))
        | (refine WCall.pf (p3) ?_ ?_ ?_ ?_; (focus (simp [oks, opnds, gS, gof, eget]; done)); (focus (simp [omap, brwV, brwC, evS, eget, strip, hget, leVL, leV, leC, leL, hz, hlt, hab, i1, i2, ii, hA0, hR0, h0, Rqs.D]; done)); (focus (simp [noV, noC, flatR, flatV, flatC, evS, eget, strip, hz, hlt, hab, i1, i2, ii, hA0, hR0, h0, Rqs.D]; done)))
        | (refine ⟨WCall.pf (p3) ?_ ?_ ?_ ?_, ?_⟩; (focus (simp [oks, opnds, gS, gof, eget]; done)); (focus (simp [omap, brwV, brwC, evS, eget, strip, hget, leVL, leV, leC, leL, hz, hlt, hab, i1, i2, ii, hA0, hR0, h0, Rqs.D]; done)); (focus (simp [noV, noC, flatR, flatV, flatC, evS, eget, strip, hz, hlt, hab, i1, i2, ii, hA0, hR0, h0, Rqs.D]; done)))
        | (refine WCall.pf (p4) ?_ ?_ ?_ ?_; (focus (simp [oks, opnds, gS, gof, eget]; done)); (focus (simp [omap, brwV, brwC, evS, eget, strip, hget, leVL, leV, leC, leL, hz, hlt, hab, i1, i2, ii, hA0, hR0, h0, Rqs.D]; done)); (focus (simp [noV, noC, flatR, flatV, flatC, evS, eget, strip, hz, hlt, hab, i1, i2, ii, hA0, hR0, h0, Rqs.D]; done)))
        | (refine ⟨WCall.pf (p4) ?_ ?_ ?_ ?_, ?_⟩; (focus (simp [oks, opnds, gS, gof, eget]; done)); (focus (simp [omap, brwV, brwC, evS, eget, strip, hget, leVL, leV, leC, leL, hz, hlt, hab, i1, i2, ii, hA0, hR0, h0, Rqs.D]; done)); (focus (simp [noV, noC, flatR, flatV, flatC, evS, eget, strip, hz, hlt, hab, i1, i2, ii, hA0, hR0, h0, Rqs.D]; done)))
        | (refine WCall.pf (p5) ?_ ?_ ?_ ?_; (focus (simp [oks, opnds, gS, gof, eget]; done)); (focus (simp [omap, brwV, brwC, evS, eget, strip, hget, leVL, leV, leC, leL, hz, hlt, hab, i1, i2, ii, hA0, hR0, h0, Rqs.D]; done)); (focus (simp [noV, noC, flatR, flatV, flatC, evS, eget, strip, hz, hlt, hab, i1, i2, ii, hA0, hR0, h0, Rqs.D]; done)))
        | (refine ⟨WCall.pf (p5) ?_ ?_ ?_ ?_, ?_⟩; (focus (simp [oks, opnds, gS, gof, eget]; done)); (focus (simp [omap, brwV, brwC, evS, eget, strip, hget, leVL, leV, leC, leL, hz, hlt, hab, i1, i2, ii, hA0, hR0, h0, Rqs.D]; done)); (focus (simp [noV, noC, flatR, flatV, flatC, evS, eget, strip, hz, hlt, hab, i1, i2, ii, hA0, hR0, h0, Rqs.D]; done)))
        | (refine WCall.pf (hask) ?_ ?_ ?_ ?_; (focus (simp [oks, opnds, gS, gof, eget]; done)); (focus (simp [omap, brwV, brwC, evS, eget, strip, hget, leVL, leV, leC, leL, hz, hlt, hab, i1, i2, ii, hA0, hR0, h0, Rqs.D]; done)); (focus (simp [noV, noC, flatR, flatV, flatC, evS, eget, strip, hz, hlt, hab, i1, i2, ii, hA0, hR0, h0, Rqs.D]; done)))
        | (refine ⟨WCall.pf (hask) ?_ ?_ ?_ ?_, ?_⟩; (focus (simp [oks, opnds, gS, gof, eget]; done)); (focus (simp [omap, brwV, brwC, evS, eget, strip, hget, leVL, leV, leC, leL, hz, hlt, hab, i1, i2, ii, hA0, hR0, h0, Rqs.D]; done)); (focus (simp [noV, noC, flatR, flatV, flatC, evS, eget, strip, hz, hlt, hab, i1, i2, ii, hA0, hR0, h0, Rqs.D]; done)))
        | (refine WCall.pf (hwk) ?_ ?_ ?_ ?_; (focus (simp [oks, opnds, gS, gof, eget]; done)); (focus (simp [omap, brwV, brwC, evS, eget, strip, hget, leVL, leV, leC, leL, hz, hlt, hab, i1, i2, ii, hA0, hR0, h0, Rqs.D]; done)); (focus (simp [noV, noC, flatR, flatV, flatC, evS, eget, strip, hz, hlt, hab, i1, i2, ii, hA0, hR0, h0, Rqs.D]; done)))
        | (refine ⟨WCall.pf (hwk) ?_ ?_ ?_ ?_, ?_⟩; (focus (simp [oks, opnds, gS, gof, eget]; done)); (focus (simp [omap, brwV, brwC, evS, eget, strip, hget, leVL, leV, leC, leL, hz, hlt, hab, i1, i2, ii, hA0, hR0, h0, Rqs.D]; done)); (focus (simp [noV, noC, flatR, flatV, flatC, evS, eget, strip, hz, hlt, hab, i1, i2, ii, hA0, hR0, h0, Rqs.D]; done)))
        | (with_reducible refine And.intro (And.intro ?_ ?_) ?_)
        | fail)
      all_goals exact ⟨_, i + 1, (Gh.ren [0, 1] (by simp [hB0]) (by simp [hB0] <;> decide) (by simp [eget, rnS, rnR, rnV, rnC, LtS, LtR, LtV, LtC, lget, hs]) (by simp [hget, rnO, rnC, LtO, LtC, lget, hs]) (.inl (by simp [lget, hs]))), by omega, rfl, by omega, by omega⟩
  · have hm : askedM l = askedF (l.take i) := by
      unfold askedM
      by_cases h : i = 30
      · rw [h]
      · have : i = l.length := by omega
        rw [this, List.take_length, List.take_of_length_le (by omega)]
    rw [hm]
    by_cases h : i = 30
    · subst h
      by_cases hll : 30 < l.length
      · simp [AK_at, acode_seq, acode_region, acode_draw, acode_cond, ↓CB_t, ↓CB_f, CB_u, acode_block, acode_loop, acode_exit, acode_scope, acode_ret, acode_skip, seqQ_n, seqQ_e, seqQ_r, blockQ_n, blockQ_e, blockQ_r, TK_at, OK_at, SK_at, aops_nil, aops_cons, asch_done, asch_one, asch_two, asch_top, astep, aop_eq, isLoud, aloud, aloud1, isWrite, qv, evS, strip, gof, eget, hget, putO, eput, herase, oks, opnds, gS, afin, afin0, binD, arith, D.cells, takeD, fillD, keep, trim, envOf, Fin, aresl, aresv, resD, argOk, pickV, isP, deq, deqs, boundD, slD, lenD, isT, isSl, ptrIds, chunks, mn_min, mx_max, D.cells, splice_one, splice_more, Rbr_at, Rfr_at, frR, frV, frC, flatC, brwR, brwV, brwC, omap, leR, leV, leC, leL, leVL, hll]
      · simp [AK_at, acode_seq, acode_region, acode_draw, acode_cond, ↓CB_t, ↓CB_f, CB_u, acode_block, acode_loop, acode_exit, acode_scope, acode_ret, acode_skip, seqQ_n, seqQ_e, seqQ_r, blockQ_n, blockQ_e, blockQ_r, TK_at, OK_at, SK_at, aops_nil, aops_cons, asch_done, asch_one, asch_two, asch_top, astep, aop_eq, isLoud, aloud, aloud1, isWrite, qv, evS, strip, gof, eget, hget, putO, eput, herase, oks, opnds, gS, afin, afin0, binD, arith, D.cells, takeD, fillD, keep, trim, envOf, Fin, aresl, aresv, resD, argOk, pickV, isP, deq, deqs, boundD, slD, lenD, isT, isSl, ptrIds, chunks, mn_min, mx_max, D.cells, splice_one, splice_more, Rbr_at, Rfr_at, frR, frV, frC, flatC, brwR, brwV, brwC, omap, leR, leV, leC, leL, leVL, hll]
    · have : i = l.length := by omega
      subst this
      simp [AK_at, acode_seq, acode_region, acode_draw, acode_cond, ↓CB_t, ↓CB_f, CB_u, acode_block, acode_loop, acode_exit, acode_scope, acode_ret, acode_skip, seqQ_n, seqQ_e, seqQ_r, blockQ_n, blockQ_e, blockQ_r, TK_at, OK_at, SK_at, aops_nil, aops_cons, asch_done, asch_one, asch_two, asch_top, astep, aop_eq, isLoud, aloud, aloud1, isWrite, qv, evS, strip, gof, eget, hget, putO, eput, herase, oks, opnds, gS, afin, afin0, binD, arith, D.cells, takeD, fillD, keep, trim, envOf, Fin, aresl, aresv, resD, argOk, pickV, isP, deq, deqs, boundD, slD, lenD, isT, isSl, ptrIds, chunks, mn_min, mx_max, D.cells, splice_one, splice_more, Rbr_at, Rfr_at, frR, frV, frC, flatC, brwR, brwV, brwC, omap, leR, leV, leC, leL, leVL]
theorem sbook_code : cfun Try.prog [] 33 = some ⟨(.seq (.region 0 [⟨(some 2), (.box (.t 0)), none⟩, ⟨(some 3), (.box (.t 1)), none⟩, ⟨(some 4), (.mov (.k (.bool false))), none⟩]) (.seq (.seq (.region 1 [⟨(some 7), (.fad 0 (.t 2)), none⟩, ⟨(some 8), (.load false 1 (.t 7)), none⟩, ⟨(some 9), (.len (.t 8)), none⟩, ⟨(some 10), (.fad 0 (.t 3)), none⟩, ⟨(some 11), (.load false 1 (.t 10)), none⟩, ⟨(some 12), (.len (.t 11)), none⟩, ⟨(some 13), (.bin .neq (.t 9) (.t 12)), none⟩, ⟨(some 14), (.mov (.t 13)), none⟩, ⟨(some 15), (.fad 1 (.t 2)), (some (14, false))⟩, ⟨(some 16), (.load false 1 (.t 15)), (some (14, false))⟩, ⟨(some 17), (.len (.t 16)), (some (14, false))⟩, ⟨(some 18), (.fad 1 (.t 3)), (some (14, false))⟩, ⟨(some 19), (.load false 1 (.t 18)), (some (14, false))⟩, ⟨(some 20), (.len (.t 19)), (some (14, false))⟩, ⟨(some 21), (.bin .neq (.t 17) (.t 20)), (some (14, false))⟩, ⟨(some 22), (.pick (.t 14) (.k (.bool true)) (.t 21)), none⟩]) (.cond 22 (.seq (.region 2 [⟨(some 4), (.mov (.k (.bool false))), none⟩]) .ret) .skip)) (.seq (.seq (.region 3 [⟨(some 5), (.mov (.k (.int .i64 0))), none⟩]) (.block 0 (.loop (.seq (.seq (.region 4 [⟨(some 23), (.mov (.t 5)), none⟩, ⟨(some 24), (.fad 0 (.t 2)), none⟩, ⟨(some 25), (.load false 1 (.t 24)), none⟩, ⟨(some 26), (.len (.t 25)), none⟩, ⟨(some 27), (.bin .lss (.t 23) (.t 26)), none⟩]) (.cond 27 .skip (.exit 0))) (.seq (.block 1 (.seq (.draw 6 (.one true ⟨(some 30), (.fad 0 (.t 2)), none⟩ (.one true ⟨(some 31), (.load false 1 (.t 30)), none⟩ (.one true ⟨(some 32), (.mov (.t 5)), none⟩ (.one true ⟨(some 33), (.iads 6 (.t 31) (.t 32)), none⟩ (.one true ⟨(some 34), (.load true 6 (.t 33)), none⟩ (.one true ⟨(some 35), (.fad 0 (.t 3)), none⟩ (.one true ⟨(some 36), (.load false 1 (.t 35)), none⟩ (.one true ⟨(some 37), (.mov (.t 5)), none⟩ (.one true ⟨(some 38), (.iads 6 (.t 36) (.t 37)), none⟩ (.one true ⟨(some 39), (.load true 6 (.t 38)), none⟩ (.one true ⟨(some 40), (.eqa true [.i, .i, .i, .i, .i, .i] (.t 34) (.t 39)), none⟩ .done)))))))))))) (.cond 40 (.seq (.region 7 [⟨(some 4), (.mov (.k (.bool false))), none⟩]) .ret) .skip))) (.region 5 [⟨(some 28), (.mov (.t 5)), none⟩, ⟨(some 29), (.bin .add (.t 28) (.k (.int .i64 1))), none⟩, ⟨(some 5), (.mov (.t 29)), none⟩])))))) (.seq (.seq (.region 8 [⟨(some 6), (.mov (.k (.int .i64 0))), none⟩]) (.block 2 (.loop (.seq (.seq (.region 9 [⟨(some 41), (.mov (.t 6)), none⟩, ⟨(some 42), (.fad 1 (.t 2)), none⟩, ⟨(some 43), (.load false 1 (.t 42)), none⟩, ⟨(some 44), (.len (.t 43)), none⟩, ⟨(some 45), (.bin .lss (.t 41) (.t 44)), none⟩]) (.cond 45 .skip (.exit 2))) (.seq (.block 3 (.seq (.draw 11 (.one true ⟨(some 48), (.fad 1 (.t 2)), none⟩ (.one true ⟨(some 49), (.load false 1 (.t 48)), none⟩ (.one true ⟨(some 50), (.mov (.t 6)), none⟩ (.one true ⟨(some 51), (.iads 5 (.t 49) (.t 50)), none⟩ (.one true ⟨(some 52), (.load true 5 (.t 51)), none⟩ (.one true ⟨(some 53), (.fad 1 (.t 3)), none⟩ (.one true ⟨(some 54), (.load false 1 (.t 53)), none⟩ (.one true ⟨(some 55), (.mov (.t 6)), none⟩ (.one true ⟨(some 56), (.iads 5 (.t 54) (.t 55)), none⟩ (.one true ⟨(some 57), (.load true 5 (.t 56)), none⟩ (.one true ⟨(some 58), (.eqa true [.i, .i, .i, .i, .i] (.t 52) (.t 57)), none⟩ .done)))))))))))) (.cond 58 (.seq (.region 12 [⟨(some 4), (.mov (.k (.bool false))), none⟩]) .ret) .skip))) (.region 10 [⟨(some 46), (.mov (.t 6)), none⟩, ⟨(some 47), (.bin .add (.t 46) (.k (.int .i64 1))), none⟩, ⟨(some 6), (.mov (.t 47)), none⟩])))))) (.seq (.region 13 [⟨(some 4), (.mov (.k (.bool true))), none⟩]) .ret))))), [(.t 4)], 59⟩ := by kernel_rfl
theorem sbook_pf (L : List Lif) (R : List Rqs) (hL : L.length ≤ 12) (hR : R.length ≤ 100) : PF Try.prog 33 [bookD L R, bookD L R] (.bool true) := by
  unfold bookD
  refine PF.of follows_ok sbook_code (by simp) (by simp [argOk]) (by simp [noV, noC]) fun B hBN hB0 => acode_sound [0, 1, 2, 3, 4, 5, 6, 22, 27, 40, 45, 58] [] _ _ _ ?_
  simp [AK_at, acode_seq, acode_region, acode_draw, acode_cond, ↓CB_t, ↓CB_f, CB_u, acode_block, acode_loop, acode_exit, acode_scope, acode_ret, acode_skip, seqQ_n, seqQ_e, seqQ_r, blockQ_n, blockQ_e, blockQ_r, TK_at, OK_at, SK_at, aops_nil, aops_cons, asch_done, asch_one, asch_two, asch_top, astep, aop_eq, isLoud, aloud, aloud1, isWrite, qv, evS, strip, gof, eget, hget, putO, eput, herase, oks, opnds, gS, afin, afin0, binD, arith, D.cells, takeD, fillD, keep, trim, envOf, Fin, aresl, aresv, resD, argOk, pickV, isP, deq, deqs, boundD, slD, lenD, isT, isSl, ptrIds, chunks, mn_min, mx_max, D.cells, splice_one, splice_more, Rbr_at, Rfr_at, frR, frV, frC, flatC, brwR, brwV, brwC, omap, leR, leV, leC, leL, leVL]
  refine W.loopS (fun i : Nat => ⟨[(5, I i), (4, .bool false), (3, .ptr 1 0), (2, .ptr 0 0)], [(1, .cells [.rows 6 (L.map Lif.D), .rows 5 (R.map Rqs.D)]), (0, .cells [.rows 6 (L.map Lif.D), .rows 5 (R.map Rqs.D)])], 2⟩)
    (fun n i => n = L.length - i ∧ i ≤ L.length) ?_ ?_
  · exact ⟨_, 0, (Gh.ren [0, 1] (by simp [hB0]) (by simp [hB0] <;> decide) (by simp [eget, rnS, rnR, rnV, rnC, LtS, LtR, LtV, LtC, lget]) (by simp [hget, rnO, rnC, LtO, LtC, lget]) (.inl (by simp [lget]))), rfl, by omega⟩
  rintro n i ⟨hn, hi⟩
  refine acode_sound [0, 1, 2, 3, 4, 5, 6, 22, 27, 40, 45, 58] [] _ _ _ ?_
  by_cases hlt : i < L.length
  · have ii : InR ((i : Int) + 1) := inW (by omega) (by omega)
    simp [AK_at, acode_seq, acode_region, acode_draw, acode_cond, ↓CB_t, ↓CB_f, CB_u, acode_block, acode_loop, acode_exit, acode_scope, acode_ret, acode_skip, seqQ_n, seqQ_e, seqQ_r, blockQ_n, blockQ_e, blockQ_r, TK_at, OK_at, SK_at, aops_nil, aops_cons, asch_done, asch_one, asch_two, asch_top, astep, aop_eq, isLoud, aloud, aloud1, isWrite, qv, evS, strip, gof, eget, hget, putO, eput, herase, oks, opnds, gS, afin, afin0, binD, arith, D.cells, takeD, fillD, keep, trim, envOf, Fin, aresl, aresv, resD, argOk, pickV, isP, deq, deqs, boundD, slD, lenD, isT, isSl, ptrIds, chunks, mn_min, mx_max, D.cells, splice_one, splice_more, Rbr_at, Rfr_at, frR, frV, frC, flatC, brwR, brwV, brwC, omap, leR, leV, leC, leL, leVL, hlt, ii, Lif.D]
    exact ⟨_, i + 1, (Gh.ren [0, 1] (by simp [hB0]) (by simp [hB0] <;> decide) (by simp [eget, rnS, rnR, rnV, rnC, LtS, LtR, LtV, LtC, lget]) (by simp [hget, rnO, rnC, LtO, LtC, lget]) (.inl (by simp [lget]))), by omega, rfl, by omega⟩
  · obtain rfl : i = L.length := by omega
    simp [AK_at, acode_seq, acode_region, acode_draw, acode_cond, ↓CB_t, ↓CB_f, CB_u, acode_block, acode_loop, acode_exit, acode_scope, acode_ret, acode_skip, seqQ_n, seqQ_e, seqQ_r, blockQ_n, blockQ_e, blockQ_r, TK_at, OK_at, SK_at, aops_nil, aops_cons, asch_done, asch_one, asch_two, asch_top, astep, aop_eq, isLoud, aloud, aloud1, isWrite, qv, evS, strip, gof, eget, hget, putO, eput, herase, oks, opnds, gS, afin, afin0, binD, arith, D.cells, takeD, fillD, keep, trim, envOf, Fin, aresl, aresv, resD, argOk, pickV, isP, deq, deqs, boundD, slD, lenD, isT, isSl, ptrIds, chunks, mn_min, mx_max, D.cells, splice_one, splice_more, Rbr_at, Rfr_at, frR, frV, frC, flatC, brwR, brwV, brwC, omap, leR, leV, leC, leL, leVL]
    refine W.loopS (fun i : Nat => ⟨[(6, I i), (4, .bool false), (3, .ptr 1 0), (2, .ptr 0 0)], [(1, .cells [.rows 6 (L.map Lif.D), .rows 5 (R.map Rqs.D)]), (0, .cells [.rows 6 (L.map Lif.D), .rows 5 (R.map Rqs.D)])], 2⟩)
      (fun n i => n = R.length - i ∧ i ≤ R.length) ?_ ?_
    · exact ⟨_, 0, (Gh.ren [0, 1] (by simp [hB0]) (by simp [hB0] <;> decide) (by simp [eget, rnS, rnR, rnV, rnC, LtS, LtR, LtV, LtC, lget]) (by simp [hget, rnO, rnC, LtO, LtC, lget]) (.inl (by simp [lget]))), rfl, by omega⟩
    rintro n i ⟨hn, hi⟩
    refine acode_sound [0, 1, 2, 3, 4, 5, 6, 22, 27, 40, 45, 58] [] _ _ _ ?_
    by_cases hlt : i < R.length
    · have ii : InR ((i : Int) + 1) := inW (by omega) (by omega)
      simp [AK_at, acode_seq, acode_region, acode_draw, acode_cond, ↓CB_t, ↓CB_f, CB_u, acode_block, acode_loop, acode_exit, acode_scope, acode_ret, acode_skip, seqQ_n, seqQ_e, seqQ_r, blockQ_n, blockQ_e, blockQ_r, TK_at, OK_at, SK_at, aops_nil, aops_cons, asch_done, asch_one, asch_two, asch_top, astep, aop_eq, isLoud, aloud, aloud1, isWrite, qv, evS, strip, gof, eget, hget, putO, eput, herase, oks, opnds, gS, afin, afin0, binD, arith, D.cells, takeD, fillD, keep, trim, envOf, Fin, aresl, aresv, resD, argOk, pickV, isP, deq, deqs, boundD, slD, lenD, isT, isSl, ptrIds, chunks, mn_min, mx_max, D.cells, splice_one, splice_more, Rbr_at, Rfr_at, frR, frV, frC, flatC, brwR, brwV, brwC, omap, leR, leV, leC, leL, leVL, hlt, ii, Rqs.D]
      exact ⟨_, i + 1, (Gh.ren [0, 1] (by simp [hB0]) (by simp [hB0] <;> decide) (by simp [eget, rnS, rnR, rnV, rnC, LtS, LtR, LtV, LtC, lget]) (by simp [hget, rnO, rnC, LtO, LtC, lget]) (.inl (by simp [lget]))), by omega, rfl, by omega⟩
    · obtain rfl : i = R.length := by omega
      simp [AK_at, acode_seq, acode_region, acode_draw, acode_cond, ↓CB_t, ↓CB_f, CB_u, acode_block, acode_loop, acode_exit, acode_scope, acode_ret, acode_skip, seqQ_n, seqQ_e, seqQ_r, blockQ_n, blockQ_e, blockQ_r, TK_at, OK_at, SK_at, aops_nil, aops_cons, asch_done, asch_one, asch_two, asch_top, astep, aop_eq, isLoud, aloud, aloud1, isWrite, qv, evS, strip, gof, eget, hget, putO, eput, herase, oks, opnds, gS, afin, afin0, binD, arith, D.cells, takeD, fillD, keep, trim, envOf, Fin, aresl, aresv, resD, argOk, pickV, isP, deq, deqs, boundD, slD, lenD, isT, isSl, ptrIds, chunks, mn_min, mx_max, D.cells, splice_one, splice_more, Rbr_at, Rfr_at, frR, frV, frC, flatC, brwR, brwV, brwC, omap, leR, leV, leC, leL, leVL]
end Go.Proofs.Ytfkeddefajkobaa

set_option linter.unusedSimpArgs false
set_option linter.unusedVariables false
set_option maxRecDepth 100000
set_option maxHeartbeats 4000000
namespace Go.Proofs.Ytfkeddefajkobaa
open Go.RowKit
theorem lone2_code : cfun Try.prog [] 73 = some ⟨(.seq (.region 0 [⟨(some 1), (.box (.t 0)), none⟩, ⟨(some 2), (.mov (.k (.bool false))), none⟩]) (.seq (.seq (.region 1 [⟨(some 3), (.fad 0 (.t 1)), none⟩, ⟨(some 4), (.load false 1 (.t 3)), none⟩, ⟨(some 5), (.bin .lss (.t 4) (.k (.int .i64 0))), none⟩, ⟨(some 6), (.mov (.t 5)), none⟩, ⟨(some 7), (.fad 0 (.t 1)), (some (6, false))⟩, ⟨(some 8), (.load false 1 (.t 7)), (some (6, false))⟩, ⟨(some 9), (.bin .geq (.t 8) (.k (.int .i64 12))), (some (6, false))⟩, ⟨(some 10), (.pick (.t 6) (.k (.bool true)) (.t 9)), none⟩, ⟨(some 11), (.mov (.t 10)), none⟩, ⟨(some 12), (.fad 2 (.t 1)), (some (11, false))⟩, ⟨(some 13), (.load false 1 (.t 12)), (some (11, false))⟩, ⟨(some 14), (.bin .lss (.t 13) (.k (.int .i64 1))), (some (11, false))⟩, ⟨(some 15), (.pick (.t 11) (.k (.bool true)) (.t 14)), none⟩, ⟨(some 16), (.mov (.t 15)), none⟩, ⟨(some 17), (.fad 2 (.t 1)), (some (16, false))⟩, ⟨(some 18), (.load false 1 (.t 17)), (some (16, false))⟩, ⟨(some 19), (.bin .gtr (.t 18) (.k (.int .i64 8))), (some (16, false))⟩, ⟨(some 20), (.pick (.t 16) (.k (.bool true)) (.t 19)), none⟩]) (.cond 20 (.seq (.region 2 [⟨(some 2), (.mov (.k (.bool false))), none⟩]) .ret) .skip)) (.seq (.seq (.region 3 [⟨(some 21), (.fad 3 (.t 1)), none⟩, ⟨(some 22), (.load false 1 (.t 21)), none⟩, ⟨(some 23), (.bin .lss (.t 22) (.k (.int .i64 0))), none⟩, ⟨(some 24), (.mov (.t 23)), none⟩, ⟨(some 25), (.fad 3 (.t 1)), (some (24, false))⟩, ⟨(some 26), (.load false 1 (.t 25)), (some (24, false))⟩, ⟨(some 27), (.bin .gtr (.t 26) (.k (.int .i64 1099511627776))), (some (24, false))⟩, ⟨(some 28), (.pick (.t 24) (.k (.bool true)) (.t 27)), none⟩, ⟨(some 29), (.mov (.t 28)), none⟩, ⟨(some 30), (.fad 4 (.t 1)), (some (29, false))⟩, ⟨(some 31), (.load false 1 (.t 30)), (some (29, false))⟩, ⟨(some 32), (.bin .lss (.t 31) (.k (.int .i64 0))), (some (29, false))⟩, ⟨(some 33), (.pick (.t 29) (.k (.bool true)) (.t 32)), none⟩, ⟨(some 34), (.mov (.t 33)), none⟩, ⟨(some 35), (.fad 4 (.t 1)), (some (34, false))⟩, ⟨(some 36), (.load false 1 (.t 35)), (some (34, false))⟩, ⟨(some 37), (.bin .gtr (.t 36) (.k (.int .i64 1099511628276))), (some (34, false))⟩, ⟨(some 38), (.pick (.t 34) (.k (.bool true)) (.t 37)), none⟩, ⟨(some 39), (.mov (.t 38)), none⟩, ⟨(some 40), (.fad 5 (.t 1)), (some (39, false))⟩, ⟨(some 41), (.load false 1 (.t 40)), (some (39, false))⟩, ⟨(some 42), (.bin .lss (.t 41) (.k (.int .i64 0))), (some (39, false))⟩, ⟨(some 43), (.pick (.t 39) (.k (.bool true)) (.t 42)), none⟩, ⟨(some 44), (.mov (.t 43)), none⟩, ⟨(some 45), (.fad 5 (.t 1)), (some (44, false))⟩, ⟨(some 46), (.load false 1 (.t 45)), (some (44, false))⟩, ⟨(some 47), (.bin .gtr (.t 46) (.k (.int .i64 1048576))), (some (44, false))⟩, ⟨(some 48), (.pick (.t 44) (.k (.bool true)) (.t 47)), none⟩]) (.cond 48 (.seq (.region 4 [⟨(some 2), (.mov (.k (.bool false))), none⟩]) .ret) .skip)) (.seq (.seq (.region 5 [⟨(some 49), (.fad 1 (.t 1)), none⟩, ⟨(some 50), (.load false 1 (.t 49)), none⟩]) (.block 0 (.seq (.region 6 [⟨(some 52), (.bin .eql (.t 50) (.k (.int .i64 1))), none⟩, ⟨(some 51), (.mov (.t 52)), none⟩]) (.cond 51 (.seq (.region 7 [⟨(some 53), (.fad 3 (.t 1)), none⟩, ⟨(some 54), (.load false 1 (.t 53)), none⟩, ⟨(some 55), (.bin .eql (.t 54) (.k (.int .i64 0))), none⟩, ⟨(some 56), (.mov (.t 55)), none⟩, ⟨(some 57), (.fad 4 (.t 1)), (some (56, true))⟩, ⟨(some 58), (.load false 1 (.t 57)), (some (56, true))⟩, ⟨(some 59), (.bin .eql (.t 58) (.k (.int .i64 0))), (some (56, true))⟩, ⟨(some 60), (.pick (.t 56) (.t 59) (.k (.bool false))), none⟩, ⟨(some 61), (.mov (.t 60)), none⟩, ⟨(some 62), (.fad 5 (.t 1)), (some (61, true))⟩, ⟨(some 63), (.load false 1 (.t 62)), (some (61, true))⟩, ⟨(some 64), (.bin .eql (.t 63) (.k (.int .i64 0))), (some (61, true))⟩, ⟨(some 65), (.pick (.t 61) (.t 64) (.k (.bool false))), none⟩, ⟨(some 2), (.mov (.t 65)), none⟩]) .ret) (.seq (.region 8 [⟨(some 67), (.bin .eql (.t 50) (.k (.int .i64 2))), none⟩, ⟨(some 66), (.mov (.t 67)), none⟩]) (.cond 66 (.seq (.region 9 [⟨(some 68), (.fad 4 (.t 1)), none⟩, ⟨(some 69), (.load false 1 (.t 68)), none⟩, ⟨(some 70), (.bin .eql (.t 69) (.k (.int .i64 0))), none⟩, ⟨(some 71), (.mov (.t 70)), none⟩, ⟨(some 72), (.fad 5 (.t 1)), (some (71, true))⟩, ⟨(some 73), (.load false 1 (.t 72)), (some (71, true))⟩, ⟨(some 74), (.bin .eql (.t 73) (.k (.int .i64 0))), (some (71, true))⟩, ⟨(some 75), (.pick (.t 71) (.t 74) (.k (.bool false))), none⟩, ⟨(some 2), (.mov (.t 75)), none⟩]) .ret) .skip)))))) (.seq (.region 10 [⟨(some 76), (.fad 1 (.t 1)), none⟩, ⟨(some 77), (.load false 1 (.t 76)), none⟩, ⟨(some 78), (.bin .eql (.t 77) (.k (.int .i64 3))), none⟩, ⟨(some 79), (.mov (.t 78)), none⟩, ⟨(some 80), (.fad 1 (.t 1)), (some (79, false))⟩, ⟨(some 81), (.load false 1 (.t 80)), (some (79, false))⟩, ⟨(some 82), (.bin .eql (.t 81) (.k (.int .i64 4))), (some (79, false))⟩, ⟨(some 83), (.pick (.t 79) (.k (.bool true)) (.t 82)), none⟩, ⟨(some 2), (.mov (.t 83)), none⟩]) .ret))))), [(.t 2)], 84⟩ := by kernel_rfl
theorem lchk2_code : cfun Try.prog [] 36 = some ⟨(.seq (.region 0 [⟨(some 1), (.box (.t 0)), none⟩, ⟨(some 2), (.mov (.k (.int .i64 0))), none⟩]) (.seq (.seq (.region 1 [⟨(some 9), (.fad 0 (.t 1)), none⟩, ⟨(some 10), (.load false 1 (.t 9)), none⟩, ⟨(some 11), (.len (.t 10)), none⟩, ⟨(some 12), (.bin .gtr (.t 11) (.k (.int .i64 12))), none⟩, ⟨(some 13), (.mov (.t 12)), none⟩, ⟨(some 14), (.fad 1 (.t 1)), (some (13, false))⟩, ⟨(some 15), (.load false 1 (.t 14)), (some (13, false))⟩, ⟨(some 16), (.len (.t 15)), (some (13, false))⟩, ⟨(some 17), (.bin .gtr (.t 16) (.k (.int .i64 100))), (some (13, false))⟩, ⟨(some 18), (.pick (.t 13) (.k (.bool true)) (.t 17)), none⟩]) (.cond 18 (.seq (.region 2 [⟨(some 2), (.mov (.k (.int .i64 6))), none⟩]) .ret) .skip)) (.seq (.region 3 [⟨(some 3), (.mov (.k (.int .i64 (-1)))), none⟩]) (.seq (.seq (.region 4 [⟨(some 19), (.fad 0 (.t 1)), none⟩, ⟨(some 20), (.load false 1 (.t 19)), none⟩, ⟨(some 21), (.len (.t 20)), none⟩, ⟨(some 22), (.mov (.k (.int .i64 0))), none⟩]) (.block 0 (.loop (.seq (.region 5 [⟨(some 23), (.bin .lss (.t 22) (.t 21)), none⟩]) (.seq (.cond 23 .skip (.exit 0)) (.seq (.block 1 (.seq (.region 6 [⟨(some 24), (.iads 6 (.t 20) (.t 22)), none⟩, ⟨(some 25), (.load true 6 (.t 24)), none⟩, ⟨(some 5), (.alloc [(.int .i64 0), (.int .i64 0), (.int .i64 0), (.int .i64 0), (.int .i64 0), (.int .i64 0)]), none⟩, ⟨none, (.store 6 (.t 5) (.t 25)), none⟩]) (.seq (.seq (.region 7 [⟨(some 26), (.load true 6 (.t 5)), none⟩, ⟨(some 27), (.call 73 [(.t 26)]), none⟩, ⟨(some 28), (.not (.t 27)), none⟩, ⟨(some 29), (.mov (.t 28)), none⟩, ⟨(some 30), (.fad 0 (.t 5)), (some (29, false))⟩, ⟨(some 31), (.load false 1 (.t 30)), (some (29, false))⟩, ⟨(some 32), (.mov (.t 3)), (some (29, false))⟩, ⟨(some 33), (.bin .leq (.t 31) (.t 32)), (some (29, false))⟩, ⟨(some 34), (.pick (.t 29) (.k (.bool true)) (.t 33)), none⟩]) (.cond 34 (.seq (.region 8 [⟨(some 2), (.mov (.k (.int .i64 6))), none⟩]) .ret) .skip)) (.region 9 [⟨(some 35), (.fad 0 (.t 5)), none⟩, ⟨(some 36), (.load false 1 (.t 35)), none⟩, ⟨(some 3), (.mov (.t 36)), none⟩])))) (.region 10 [⟨(some 37), (.bin .add (.t 22) (.k (.int .i64 1))), none⟩, ⟨(some 22), (.mov (.t 37)), none⟩]))))))) (.seq (.region 11 [⟨(some 38), (.xop 0 [0] []), none⟩, ⟨(some 6), (.mov (.t 38)), none⟩]) (.seq (.seq (.region 12 [⟨(some 39), (.fad 1 (.t 1)), none⟩, ⟨(some 40), (.load false 1 (.t 39)), none⟩, ⟨(some 41), (.len (.t 40)), none⟩, ⟨(some 42), (.mov (.k (.int .i64 0))), none⟩]) (.block 2 (.loop (.seq (.region 13 [⟨(some 43), (.bin .lss (.t 42) (.t 41)), none⟩]) (.seq (.cond 43 .skip (.exit 2)) (.seq (.block 3 (.seq (.region 14 [⟨(some 44), (.iads 5 (.t 40) (.t 42)), none⟩, ⟨(some 45), (.load true 5 (.t 44)), none⟩, ⟨(some 8), (.alloc [(.int .i64 0), (.int .i64 0), (.int .i64 0), (.int .i64 0), (.int .i64 0)]), none⟩, ⟨none, (.store 5 (.t 8) (.t 45)), none⟩]) (.seq (.seq (.region 15 [⟨(some 46), (.load true 5 (.t 8)), none⟩, ⟨(some 47), (.call 68 [(.t 46)]), none⟩, ⟨(some 48), (.not (.t 47)), none⟩]) (.cond 48 (.seq (.region 16 [⟨(some 2), (.mov (.k (.int .i64 6))), none⟩]) .ret) .skip)) (.region 17 [⟨(some 49), (.mov (.t 6)), none⟩, ⟨(some 50), (.fad 0 (.t 8)), none⟩, ⟨(some 51), (.load false 1 (.t 50)), none⟩, ⟨(some 52), (.build [] []), none⟩, ⟨none, (.xop 1 [0] [(.t 49), (.t 51), (.t 52)]), none⟩])))) (.region 18 [⟨(some 53), (.bin .add (.t 42) (.k (.int .i64 1))), none⟩, ⟨(some 42), (.mov (.t 53)), none⟩]))))))) (.seq (.seq (.region 19 [⟨(some 54), (.mov (.t 6)), none⟩, ⟨(some 55), (.xop 3 [0] [(.t 54)]), none⟩, ⟨(some 56), (.fad 1 (.t 1)), none⟩, ⟨(some 57), (.load false 1 (.t 56)), none⟩, ⟨(some 58), (.len (.t 57)), none⟩, ⟨(some 59), (.bin .lss (.t 55) (.t 58)), none⟩]) (.cond 59 (.seq (.region 20 [⟨(some 2), (.mov (.k (.int .i64 6))), none⟩]) .ret) .skip)) (.seq (.region 21 [⟨(some 2), (.mov (.k (.int .i64 0))), none⟩]) .ret)))))))), [(.t 2)], 60⟩ := by kernel_rfl
theorem lone0_pf : PF Try.prog 73 [.agg [I 0, I 0, I 0, I 0, I 0, I 0]] (.bool false) := by
  refine PF.of follows_ok lone2_code (by simp) (by simp [argOk]) (by simp [noV, noC]) fun B hBN hB0 => acode_sound [0, 1, 2, 20, 48, 50, 51, 66] [] _ _ _ ?_
  simp [AK_at, acode_seq, acode_region, acode_draw, acode_cond, ↓CB_t, ↓CB_f, CB_u, acode_block, acode_loop, acode_exit, acode_scope, acode_ret, acode_skip, seqQ_n, seqQ_e, seqQ_r, blockQ_n, blockQ_e, blockQ_r, TK_at, OK_at, SK_at, aops_nil, aops_cons, asch_done, asch_one, asch_two, asch_top, astep, aop_eq, isLoud, aloud, aloud1, isWrite, qv, evS, strip, gof, eget, hget, putO, eput, herase, oks, opnds, gS, afin, afin0, binD, arith, D.cells, takeD, fillD, keep, trim, envOf, Fin, aresl, aresv, resD, argOk, pickV, isP, deq, deqs, boundD, slD, lenD, isT, isSl, ptrIds, chunks, mn_min, mx_max, D.cells, splice_one, splice_more, Rbr_at, Rfr_at, frR, frV, frC, flatC, brwR, brwV, brwC, omap, leR, leV, leC, leL, leVL]
theorem lchk0_pf : PF Try.prog 36 [.agg [.rows 6 [[I 0, I 0, I 0, I 0, I 0, I 0]], .rows 5 []]] (I 6) := by
  have h1 := lone0_pf
  refine PF.of follows_ok lchk2_code (by simp) (by simp [argOk]) (by simp [noV, noC]) fun B hBN hB0 => acode_sound [0, 1, 2, 3, 5, 6, 8, 18, 20, 21, 22, 23, 34, 40, 41, 42, 43, 48, 59] [] _ _ _ ?_
  simp [AK_at, acode_seq, acode_region, acode_draw, acode_cond, ↓CB_t, ↓CB_f, CB_u, acode_block, acode_loop, acode_exit, acode_scope, acode_ret, acode_skip, seqQ_n, seqQ_e, seqQ_r, blockQ_n, blockQ_e, blockQ_r, TK_at, OK_at, SK_at, aops_nil, aops_cons, asch_done, asch_one, asch_two, asch_top, astep, aop_eq, isLoud, aloud, aloud1, isWrite, qv, evS, strip, gof, eget, hget, putO, eput, herase, oks, opnds, gS, afin, afin0, binD, arith, D.cells, takeD, fillD, keep, trim, envOf, Fin, aresl, aresv, resD, argOk, pickV, isP, deq, deqs, boundD, slD, lenD, isT, isSl, ptrIds, chunks, mn_min, mx_max, D.cells, splice_one, splice_more, Rbr_at, Rfr_at, frR, frV, frC, flatC, brwR, brwV, brwC, omap, leR, leV, leC, leL, leVL]
  refine W.loopS (fun i : Nat => ⟨[(22, I i), (21, I 1), (20, D.rows 6 [[I 0, I 0, I 0, I 0, I 0, I 0]]), (3, I (-1)), (2, I 0), (1, .ptr 0 0)], [(0, .cells [.rows 6 [[I 0, I 0, I 0, I 0, I 0, I 0]], .rows 5 []])], 1⟩)
    (fun n i => n = 0 ∧ i = 0) ?_ ?_
  · exact ⟨_, 0, (Gh.ren [0] (by simp [hB0]) (by simp [hB0] <;> decide) (by simp [eget, rnS, rnR, rnV, rnC, LtS, LtR, LtV, LtC, lget]) (by simp [hget, rnO, rnC, LtO, LtC, lget]) (.inl (by simp [lget]))), rfl, rfl⟩
  rintro n i ⟨rfl, rfl⟩
  refine acode_sound [0, 1, 2, 3, 5, 6, 8, 18, 20, 21, 22, 23, 34, 40, 41, 42, 43, 48, 59] [] _ _ _ ?_
  repeat' (first
    | simp [AK_at, acode_seq, acode_region, acode_draw, acode_cond, ↓CB_t, ↓CB_f, CB_u, acode_block, acode_loop, acode_exit, acode_scope, acode_ret, acode_skip, seqQ_n, seqQ_e, seqQ_r, blockQ_n, blockQ_e, blockQ_r, TK_at, OK_at, SK_at, aops_nil, aops_cons, asch_done, asch_one, asch_two, asch_top, astep, aop_eq, isLoud, aloud, aloud1, isWrite, qv, evS, strip, gof, eget, hget, putO, eput, herase, oks, opnds, gS, afin, afin0, binD, arith, D.cells, takeD, fillD, keep, trim, envOf, Fin, aresl, aresv, resD, argOk, pickV, isP, deq, deqs, boundD, slD, lenD, isT, isSl, ptrIds, chunks, mn_min, mx_max, D.cells, splice_one, splice_more, Rbr_at, Rfr_at, frR, frV, frC, flatC, brwR, brwV, brwC, omap, leR, leV, leC, leL, leVL]
    | (refine WCall.pf (h1) ?_ ?_ ?_ ?_; (focus (simp [oks, opnds, gS, gof, eget]; done)); (focus (simp [omap, brwV, brwC, evS, eget, strip, hget, leVL, leV, leC, leL]; done)); (focus (simp [noV, noC, flatR, flatV, flatC, evS, eget, strip]; done)))
    | (refine ⟨WCall.pf (h1) ?_ ?_ ?_ ?_, ?_⟩; (focus (simp [oks, opnds, gS, gof, eget]; done)); (focus (simp [omap, brwV, brwC, evS, eget, strip, hget, leVL, leV, leC, leL]; done)); (focus (simp [noV, noC, flatR, flatV, flatC, evS, eget, strip]; done)))
    | (with_reducible refine And.intro (And.intro ?_ ?_) ?_)
    | fail)
theorem of_self {L : List Lif} {R : List Rqs} (h : BookOk L R) (i : Nat) (hi : i < L.length) : ofM L L[i].backend = (L[i], 0) := by
  have h0 : 0 ≤ findM L L[i].backend := idxZ_some _ L ⟨L[i], List.getElem_mem hi, by simp [qB]⟩
  obtain ⟨h1, h2, h3⟩ := findM_at h0
  have hp := List.pairwise_iff_getElem.1 h.sorted
  have : (findM L L[i].backend).toNat = i := by
    rcases Nat.lt_trichotomy (findM L L[i].backend).toNat i with h4 | h4 | h4
    · have := hp _ _ h1 hi h4; omega
    · exact h4
    · have := hp _ _ hi h1 h4; omega
  unfold ofM
  rw [if_neg (by omega), h3]
  simp only [this]
theorem lord_code : cfun Try.prog [] 11 = some ⟨(.seq (.region 0 [⟨(some 2), (.mov (.k (.bool false))), none⟩]) (.seq (.region 1 [⟨(some 13), (.mov (.t 0)), none⟩, ⟨(some 14), (.call 34 [(.t 13)]), none⟩, ⟨(some 12), (.mov (.t 14)), none⟩, ⟨(some 15), (.ext (.t 12) 0), none⟩, ⟨(some 16), (.ext (.t 12) 1), none⟩, ⟨(some 17), (.ext (.t 12) 2), none⟩, ⟨(some 3), (.alloc [.nil0, .nil0]), none⟩, ⟨none, (.store 2 (.t 3) (.t 15)), none⟩, ⟨(some 4), (.mov (.t 16)), none⟩, ⟨(some 5), (.mov (.t 17)), none⟩]) (.seq (.seq (.region 2 [⟨(some 6), (.mov (.k (.int .i64 0))), none⟩]) (.block 0 (.loop (.seq (.seq (.region 3 [⟨(some 18), (.mov (.t 6)), none⟩, ⟨(some 19), (.fad 0 (.t 3)), none⟩, ⟨(some 20), (.load false 1 (.t 19)), none⟩, ⟨(some 21), (.len (.t 20)), none⟩, ⟨(some 22), (.bin .lss (.t 18) (.t 21)), none⟩]) (.cond 22 .skip (.exit 0))) (.seq (.block 1 (.seq (.region 5 [⟨(some 25), (.fad 0 (.t 3)), none⟩, ⟨(some 26), (.load false 1 (.t 25)), none⟩, ⟨(some 27), (.mov (.t 6)), none⟩, ⟨(some 28), (.iads 6 (.t 26) (.t 27)), none⟩, ⟨(some 29), (.load true 6 (.t 28)), none⟩, ⟨(some 7), (.alloc [(.int .i64 0), (.int .i64 0), (.int .i64 0), (.int .i64 0), (.int .i64 0), (.int .i64 0)]), none⟩, ⟨none, (.store 6 (.t 7) (.t 29)), none⟩]) (.seq (.seq (.draw 6 (.one true ⟨(some 30), (.mov (.t 6)), none⟩ (.one true ⟨(some 31), (.bin .gtr (.t 30) (.k (.int .i64 0))), none⟩ (.one true ⟨(some 32), (.mov (.t 31)), none⟩ (.one true ⟨(some 33), (.fad 0 (.t 7)), (some (32, true))⟩ (.one true ⟨(some 34), (.load false 1 (.t 33)), (some (32, true))⟩ (.one true ⟨(some 35), (.fad 0 (.t 3)), (some (32, true))⟩ (.one true ⟨(some 36), (.load false 1 (.t 35)), (some (32, true))⟩ (.one true ⟨(some 37), (.mov (.t 6)), (some (32, true))⟩ (.one true ⟨(some 38), (.bin .sub (.t 37) (.k (.int .i64 1))), (some (32, true))⟩ (.one true ⟨(some 39), (.iads 6 (.t 36) (.t 38)), (some (32, true))⟩ (.one true ⟨(some 40), (.fad 0 (.t 39)), (some (32, true))⟩ (.one true ⟨(some 41), (.load false 1 (.t 40)), (some (32, true))⟩ (.one true ⟨(some 42), (.bin .leq (.t 34) (.t 41)), (some (32, true))⟩ (.one true ⟨(some 43), (.pick (.t 32) (.t 42) (.k (.bool false))), none⟩ (.one true ⟨(some 44), (.mov (.t 43)), none⟩ (.one true ⟨(some 45), (.fad 2 (.t 7)), (some (44, false))⟩ (.one true ⟨(some 46), (.load false 1 (.t 45)), (some (44, false))⟩ (.one true ⟨(some 47), (.bin .lss (.t 46) (.k (.int .i64 1))), (some (44, false))⟩ (.one true ⟨(some 48), (.pick (.t 44) (.k (.bool true)) (.t 47)), none⟩ (.one true ⟨(some 49), (.mov (.t 48)), none⟩ (.one true ⟨(some 50), (.fad 2 (.t 7)), (some (49, false))⟩ (.one true ⟨(some 51), (.load false 1 (.t 50)), (some (49, false))⟩ (.one true ⟨(some 52), (.bin .gtr (.t 51) (.k (.int .i64 8))), (some (49, false))⟩ (.one true ⟨(some 53), (.pick (.t 49) (.k (.bool true)) (.t 52)), none⟩ (.one true ⟨(some 54), (.mov (.t 53)), none⟩ (.one true ⟨(some 55), (.fad 3 (.t 7)), (some (54, false))⟩ (.one true ⟨(some 56), (.load false 1 (.t 55)), (some (54, false))⟩ (.one true ⟨(some 57), (.mov (.t 4)), (some (54, false))⟩ (.one true ⟨(some 58), (.bin .gtr (.t 56) (.t 57)), (some (54, false))⟩ (.one true ⟨(some 59), (.pick (.t 54) (.k (.bool true)) (.t 58)), none⟩ .done))))))))))))))))))))))))))))))) (.cond 59 (.seq (.region 7 [⟨(some 2), (.mov (.k (.bool false))), none⟩]) .ret) .skip)) (.seq (.region 8 [⟨(some 61), (.load true 2 (.t 3)), none⟩, ⟨(some 62), (.fad 0 (.t 7)), none⟩, ⟨(some 63), (.load false 1 (.t 62)), none⟩, ⟨(some 64), (.call 37 [(.t 61), (.t 63)]), none⟩, ⟨(some 60), (.mov (.t 64)), none⟩, ⟨(some 65), (.ext (.t 60) 0), none⟩, ⟨(some 66), (.ext (.t 60) 1), none⟩, ⟨(some 8), (.alloc [(.int .i64 0), (.int .i64 0), (.int .i64 0), (.int .i64 0), (.int .i64 0), (.int .i64 0)]), none⟩, ⟨none, (.store 6 (.t 8) (.t 65)), none⟩, ⟨(some 9), (.mov (.t 66)), none⟩]) (.seq (.region 9 [⟨(some 67), (.mov (.t 9)), none⟩, ⟨(some 68), (.bin .neq (.t 67) (.k (.int .i64 0))), none⟩, ⟨(some 69), (.mov (.t 68)), none⟩, ⟨(some 70), (.load true 6 (.t 7)), (some (69, false))⟩, ⟨(some 71), (.load true 6 (.t 8)), (some (69, false))⟩, ⟨(some 72), (.eqa true [.i, .i, .i, .i, .i, .i] (.t 70) (.t 71)), (some (69, false))⟩, ⟨(some 73), (.pick (.t 69) (.k (.bool true)) (.t 72)), none⟩]) (.cond 73 (.seq (.region 10 [⟨(some 2), (.mov (.k (.bool false))), none⟩]) .ret) .skip)))))) (.region 4 [⟨(some 23), (.mov (.t 6)), none⟩, ⟨(some 24), (.bin .add (.t 23) (.k (.int .i64 1))), none⟩, ⟨(some 6), (.mov (.t 24)), none⟩])))))) (.seq (.region 11 [⟨(some 75), (.load true 2 (.t 3)), none⟩, ⟨(some 76), (.call 37 [(.t 75), (.k (.int .i64 11))]), none⟩, ⟨(some 74), (.mov (.t 76)), none⟩, ⟨(some 77), (.ext (.t 74) 0), none⟩, ⟨(some 78), (.ext (.t 74) 1), none⟩, ⟨(some 10), (.alloc [(.int .i64 0), (.int .i64 0), (.int .i64 0), (.int .i64 0), (.int .i64 0), (.int .i64 0)]), none⟩, ⟨none, (.store 6 (.t 10) (.t 77)), none⟩, ⟨(some 11), (.mov (.t 78)), none⟩]) (.seq (.region 12 [⟨(some 79), (.mov (.t 5)), none⟩, ⟨(some 80), (.mov (.t 79)), none⟩, ⟨(some 81), (.mov (.t 11)), (some (80, true))⟩, ⟨(some 82), (.bin .eql (.t 81) (.k (.int .i64 8))), (some (80, true))⟩, ⟨(some 83), (.pick (.t 80) (.t 82) (.k (.bool false))), none⟩, ⟨(some 84), (.mov (.t 83)), none⟩, ⟨(some 85), (.load true 2 (.t 3)), (some (84, true))⟩, ⟨(some 86), (.call 36 [(.t 85)]), (some (84, true))⟩, ⟨(some 87), (.bin .eql (.t 86) (.k (.int .i64 0))), (some (84, true))⟩, ⟨(some 88), (.pick (.t 84) (.t 87) (.k (.bool false))), none⟩, ⟨(some 2), (.mov (.t 88)), none⟩]) .ret))))), [(.t 2)], 89⟩ := by kernel_rfl
theorem lord_pf (l : List (List Int)) (hl : l.length ≤ Go.maxLen) (hr : ∀ r ∈ l, r.length = 5 ∧ ∀ z ∈ r, InR z) :
    PF Try.prog 11 [.rows 5 (l.map fun r => r.map I)] (.bool true) := by
  have has := asked_pf l hl hr
  have hinv := askedM_inv l
  generalize askedM l = s at has hinv
  obtain ⟨L, R, now⟩ := s
  obtain ⟨hok, n0, n1, hrl, _, _, hlb⟩ := hinv
  simp only at has hok n0 n1 hrl hlb
  have hll := hok.ll
  have hchk := lchk_pf L R hok
  have hof11 := lof_pf L R 11 hok
  have h11 : ofM L 11 = (default, 8) := by
    rw [ofM_find]
    have : L.find? (qB 11) = none := List.find?_eq_none.2 fun x hx => by
      have := (hlb x hx).1
      simp [qB]; omega
    rw [this]
  rw [h11] at hof11
  have hof := fun i hi => of_self hok i hi
  unfold bookD at has hchk hof11
  refine PF.of follows_ok lord_code (by simp) (by simp [argOk]) (by simp [noV, noC]) fun B hBN hB0 => acode_sound [0, 2, 3, 4, 5, 6, 7, 8, 9, 11, 22, 59, 73] [] _ _ _ ?_
  repeat' (first
    | simp [AK_at, acode_seq, acode_region, acode_draw, acode_cond, ↓CB_t, ↓CB_f, CB_u, acode_block, acode_loop, acode_exit, acode_scope, acode_ret, acode_skip, seqQ_n, seqQ_e, seqQ_r, blockQ_n, blockQ_e, blockQ_r, TK_at, OK_at, SK_at, aops_nil, aops_cons, asch_done, asch_one, asch_two, asch_top, astep, aop_eq, isLoud, aloud, aloud1, isWrite, qv, evS, strip, gof, eget, hget, putO, eput, herase, oks, opnds, gS, afin, afin0, binD, arith, D.cells, takeD, fillD, keep, trim, envOf, Fin, aresl, aresv, resD, argOk, pickV, isP, deq, deqs, boundD, slD, lenD, isT, isSl, ptrIds, chunks, mn_min, mx_max, D.cells, splice_one, splice_more, Rbr_at, Rfr_at, frR, frV, frC, flatC, brwR, brwV, brwC, omap, leR, leV, leC, leL, leVL]
    | (refine WCall.pf (has) ?_ ?_ ?_ ?_; (focus (simp [oks, opnds, gS, gof, eget]; done)); (focus (simp [omap, brwV, brwC, evS, eget, strip, hget, leVL, leV, leC, leL]; done)); (focus (simp [noV, noC, flatR, flatV, flatC, evS, eget, strip]; done)))
    | (refine ⟨WCall.pf (has) ?_ ?_ ?_ ?_, ?_⟩; (focus (simp [oks, opnds, gS, gof, eget]; done)); (focus (simp [omap, brwV, brwC, evS, eget, strip, hget, leVL, leV, leC, leL]; done)); (focus (simp [noV, noC, flatR, flatV, flatC, evS, eget, strip]; done)))
    | (with_reducible refine And.intro (And.intro ?_ ?_) ?_)
    | fail)
  refine W.loopS (fun i : Nat => ⟨[(6, I i), (5, .bool true), (4, I now), (3, .ptr 0 0), (2, .bool false)], [(0, .cells [.rows 6 (L.map Lif.D), .rows 5 (R.map Rqs.D)])], 1⟩)
    (fun n i => n = L.length - i ∧ i ≤ L.length) ?_ ?_
  · exact ⟨_, 0, (Gh.ren [0] (by simp [hB0]) (by simp [hB0] <;> decide) (by simp [eget, rnS, rnR, rnV, rnC, LtS, LtR, LtV, LtC, lget]) (by simp [hget, rnO, rnC, LtO, LtC, lget]) (.inl (by simp [lget]))), rfl, by omega⟩
  rintro n i ⟨hn, hi⟩
  refine acode_sound [0, 2, 3, 4, 5, 6, 7, 8, 9, 11, 22, 59, 73] [] _ _ _ ?_
  by_cases hlt : i < L.length
  · have hm : L[i] ∈ L := List.getElem_mem hlt
    have ho1 := hof i hlt
    have hlo := hok.lok _ hm
    have hlb' := hlb _ hm
    have hsrt : ∀ j (hj : j + 1 = i), ¬ L[i].backend ≤ (L[j]'(by omega)).backend := fun j hj => by
      have := List.pairwise_iff_getElem.1 hok.sorted j i (by omega) hlt (by omega)
      omega
    obtain ⟨o, ho⟩ : ∃ o, o = L[i] := ⟨_, rfl⟩
    rw [← ho] at ho1 hlo hlb'
    have hsrt : ∀ j (hj : j + 1 = i), ¬ o.backend ≤ (L[j]'(by omega)).backend := fun j hj => by rw [ho]; exact hsrt j hj
    have hofi := lof_pf L R o.backend hok
    rw [ho1] at hofi
    unfold bookD at hofi
    have c1 : ¬ o.weight < 1 := by have := hlo.w0; omega
    have c2 : ¬ 8 < o.weight := by have := hlo.w1; omega
    have c3 : ¬ now < o.since := by omega
    have ii : InR ((i : Int) + 1) := inW (by omega) (by omega)
    cases i with
    | zero =>
      have i1 : InR 1 := inW (by omega) (by omega)
      repeat' (first
        | simp [AK_at, acode_seq, acode_region, acode_draw, acode_cond, ↓CB_t, ↓CB_f, CB_u, acode_block, acode_loop, acode_exit, acode_scope, acode_ret, acode_skip, seqQ_n, seqQ_e, seqQ_r, blockQ_n, blockQ_e, blockQ_r, TK_at, OK_at, SK_at, aops_nil, aops_cons, asch_done, asch_one, asch_two, asch_top, astep, aop_eq, isLoud, aloud, aloud1, isWrite, qv, evS, strip, gof, eget, hget, putO, eput, herase, oks, opnds, gS, afin, afin0, binD, arith, D.cells, takeD, fillD, keep, trim, envOf, Fin, aresl, aresv, resD, argOk, pickV, isP, deq, deqs, boundD, slD, lenD, isT, isSl, ptrIds, chunks, mn_min, mx_max, D.cells, splice_one, splice_more, Rbr_at, Rfr_at, frR, frV, frC, flatC, brwR, brwV, brwC, omap, leR, leV, leC, leL, leVL, hlt, ← ho, Lif.D, c1, c2, c3, i1]
        | (refine WCall.pf (hofi) ?_ ?_ ?_ ?_; (focus (simp [oks, opnds, gS, gof, eget]; done)); (focus (simp [omap, brwV, brwC, evS, eget, strip, hget, leVL, leV, leC, leL, hlt, ← ho, Lif.D, c1, c2, c3, i1]; done)); (focus (simp [noV, noC, flatR, flatV, flatC, evS, eget, strip, hlt, ← ho, Lif.D, c1, c2, c3, i1]; done)))
        | (refine ⟨WCall.pf (hofi) ?_ ?_ ?_ ?_, ?_⟩; (focus (simp [oks, opnds, gS, gof, eget]; done)); (focus (simp [omap, brwV, brwC, evS, eget, strip, hget, leVL, leV, leC, leL, hlt, ← ho, Lif.D, c1, c2, c3, i1]; done)); (focus (simp [noV, noC, flatR, flatV, flatC, evS, eget, strip, hlt, ← ho, Lif.D, c1, c2, c3, i1]; done)))
        | (with_reducible refine And.intro (And.intro ?_ ?_) ?_)
        | fail)
      all_goals exact ⟨_, 1, (Gh.ren [0] (by simp [hB0]) (by simp [hB0] <;> decide) (by simp [eget, rnS, rnR, rnV, rnC, LtS, LtR, LtV, LtC, lget]) (by simp [hget, rnO, rnC, LtO, LtC, lget]) (.inl (by simp [lget]))), by omega, rfl, by omega⟩
    | succ k =>
      have hk : k < L.length := by omega
      have hs := hsrt k rfl
      obtain ⟨p, hp⟩ : ∃ p, p = L[k] := ⟨_, rfl⟩
      rw [← hp] at hs
      have ik : InR (k : Int) := inW (by omega) (by omega)
      have i2 : InR ((k : Int) + 1 + 1) := inW (by omega) (by omega)
      have e1 : (k : Int) + 1 - 1 = k := by omega
      have e2 : ((k : Int) + 1).toNat = k + 1 := by omega
      have c4 : (0 : Int) < (k : Int) + 1 := by omega
      have c5 : (0 : Int) ≤ (k : Int) + 1 := by omega
      have c6 : (k : Int) + 1 < L.length := by omega
      repeat' (first
        | simp [AK_at, acode_seq, acode_region, acode_draw, acode_cond, ↓CB_t, ↓CB_f, CB_u, acode_block, acode_loop, acode_exit, acode_scope, acode_ret, acode_skip, seqQ_n, seqQ_e, seqQ_r, blockQ_n, blockQ_e, blockQ_r, TK_at, OK_at, SK_at, aops_nil, aops_cons, asch_done, asch_one, asch_two, asch_top, astep, aop_eq, isLoud, aloud, aloud1, isWrite, qv, evS, strip, gof, eget, hget, putO, eput, herase, oks, opnds, gS, afin, afin0, binD, arith, D.cells, takeD, fillD, keep, trim, envOf, Fin, aresl, aresv, resD, argOk, pickV, isP, deq, deqs, boundD, slD, lenD, isT, isSl, ptrIds, chunks, mn_min, mx_max, D.cells, splice_one, splice_more, Rbr_at, Rfr_at, frR, frV, frC, flatC, brwR, brwV, brwC, omap, leR, leV, leC, leL, leVL, hlt, hk, ← ho, ← hp, Lif.D, c1, c2, c3, c4, c5, c6, e1, e2, ik, hs, ii, i2]
        | (refine WCall.pf (hofi) ?_ ?_ ?_ ?_; (focus (simp [oks, opnds, gS, gof, eget]; done)); (focus (simp [omap, brwV, brwC, evS, eget, strip, hget, leVL, leV, leC, leL, hlt, hk, ← ho, ← hp, Lif.D, c1, c2, c3, c4, c5, c6, e1, e2, ik, hs, ii, i2]; done)); (focus (simp [noV, noC, flatR, flatV, flatC, evS, eget, strip, hlt, hk, ← ho, ← hp, Lif.D, c1, c2, c3, c4, c5, c6, e1, e2, ik, hs, ii, i2]; done)))
        | (refine ⟨WCall.pf (hofi) ?_ ?_ ?_ ?_, ?_⟩; (focus (simp [oks, opnds, gS, gof, eget]; done)); (focus (simp [omap, brwV, brwC, evS, eget, strip, hget, leVL, leV, leC, leL, hlt, hk, ← ho, ← hp, Lif.D, c1, c2, c3, c4, c5, c6, e1, e2, ik, hs, ii, i2]; done)); (focus (simp [noV, noC, flatR, flatV, flatC, evS, eget, strip, hlt, hk, ← ho, ← hp, Lif.D, c1, c2, c3, c4, c5, c6, e1, e2, ik, hs, ii, i2]; done)))
        | (with_reducible refine And.intro (And.intro ?_ ?_) ?_)
        | fail)
      all_goals exact ⟨_, k + 1 + 1, (Gh.ren [0] (by simp [hB0]) (by simp [hB0] <;> decide) (by simp [eget, rnS, rnR, rnV, rnC, LtS, LtR, LtV, LtC, lget]) (by simp [hget, rnO, rnC, LtO, LtC, lget]) (.inl (by simp [lget]))), by omega, rfl, by omega⟩
  · obtain rfl : i = L.length := by omega
    have hd : (default : Lif).D = [I 0, I 0, I 0, I 0, I 0, I 0] := rfl
    repeat' (first
      | simp [AK_at, acode_seq, acode_region, acode_draw, acode_cond, ↓CB_t, ↓CB_f, CB_u, acode_block, acode_loop, acode_exit, acode_scope, acode_ret, acode_skip, seqQ_n, seqQ_e, seqQ_r, blockQ_n, blockQ_e, blockQ_r, TK_at, OK_at, SK_at, aops_nil, aops_cons, asch_done, asch_one, asch_two, asch_top, astep, aop_eq, isLoud, aloud, aloud1, isWrite, qv, evS, strip, gof, eget, hget, putO, eput, herase, oks, opnds, gS, afin, afin0, binD, arith, D.cells, takeD, fillD, keep, trim, envOf, Fin, aresl, aresv, resD, argOk, pickV, isP, deq, deqs, boundD, slD, lenD, isT, isSl, ptrIds, chunks, mn_min, mx_max, D.cells, splice_one, splice_more, Rbr_at, Rfr_at, frR, frV, frC, flatC, brwR, brwV, brwC, omap, leR, leV, leC, leL, leVL, hd]
      | (refine WCall.pf (hof11) ?_ ?_ ?_ ?_; (focus (simp [oks, opnds, gS, gof, eget]; done)); (focus (simp [omap, brwV, brwC, evS, eget, strip, hget, leVL, leV, leC, leL, hd]; done)); (focus (simp [noV, noC, flatR, flatV, flatC, evS, eget, strip, hd]; done)))
      | (refine ⟨WCall.pf (hof11) ?_ ?_ ?_ ?_, ?_⟩; (focus (simp [oks, opnds, gS, gof, eget]; done)); (focus (simp [omap, brwV, brwC, evS, eget, strip, hget, leVL, leV, leC, leL, hd]; done)); (focus (simp [noV, noC, flatR, flatV, flatC, evS, eget, strip, hd]; done)))
      | (refine WCall.pf (hchk) ?_ ?_ ?_ ?_; (focus (simp [oks, opnds, gS, gof, eget]; done)); (focus (simp [omap, brwV, brwC, evS, eget, strip, hget, leVL, leV, leC, leL, hd]; done)); (focus (simp [noV, noC, flatR, flatV, flatC, evS, eget, strip, hd]; done)))
      | (refine ⟨WCall.pf (hchk) ?_ ?_ ?_ ?_, ?_⟩; (focus (simp [oks, opnds, gS, gof, eget]; done)); (focus (simp [omap, brwV, brwC, evS, eget, strip, hget, leVL, leV, leC, leL, hd]; done)); (focus (simp [noV, noC, flatR, flatV, flatC, evS, eget, strip, hd]; done)))
      | (with_reducible refine And.intro (And.intro ?_ ?_) ?_)
      | fail)
theorem lwok_code : cfun Try.prog [] 9 = some ⟨(.seq (.region 0 [⟨(some 4), (.mov (.k (.bool false))), none⟩]) (.seq (.region 1 [⟨(some 19), (.mov (.t 0)), none⟩, ⟨(some 20), (.call 34 [(.t 19)]), none⟩, ⟨(some 18), (.mov (.t 20)), none⟩, ⟨(some 21), (.ext (.t 18) 0), none⟩, ⟨(some 22), (.ext (.t 18) 1), none⟩, ⟨(some 23), (.ext (.t 18) 2), none⟩, ⟨(some 5), (.alloc [.nil0, .nil0]), none⟩, ⟨none, (.store 2 (.t 5) (.t 21)), none⟩, ⟨(some 6), (.mov (.t 22)), none⟩, ⟨(some 7), (.mov (.t 23)), none⟩]) (.seq (.region 2 [⟨(some 24), (.mov (.t 6)), none⟩, ⟨(some 25), (.mov (.t 1)), none⟩, ⟨(some 26), (.call 25 [(.t 25), (.k (.int .i64 5))]), none⟩, ⟨(some 27), (.bin .add (.t 24) (.t 26)), none⟩, ⟨(some 8), (.mov (.t 27)), none⟩]) (.seq (.region 3 [⟨(some 29), (.load true 2 (.t 5)), none⟩, ⟨(some 30), (.mov (.t 8)), none⟩, ⟨(some 31), (.call 35 [(.t 29), (.t 30)]), none⟩, ⟨(some 28), (.mov (.t 31)), none⟩, ⟨(some 32), (.ext (.t 28) 0), none⟩, ⟨(some 33), (.ext (.t 28) 1), none⟩, ⟨(some 34), (.ext (.t 28) 2), none⟩, ⟨(some 9), (.alloc [.nil0, .nil0]), none⟩, ⟨none, (.store 2 (.t 9) (.t 32)), none⟩, ⟨(some 10), (.mov (.t 33)), none⟩, ⟨(some 11), (.mov (.t 34)), none⟩]) (.seq (.region 4 [⟨(some 36), (.load true 2 (.t 9)), none⟩, ⟨(some 37), (.mov (.t 8)), none⟩, ⟨(some 38), (.call 35 [(.t 36), (.t 37)]), none⟩, ⟨(some 35), (.mov (.t 38)), none⟩, ⟨(some 39), (.ext (.t 35) 0), none⟩, ⟨(some 40), (.ext (.t 35) 1), none⟩, ⟨(some 41), (.ext (.t 35) 2), none⟩, ⟨(some 12), (.alloc [.nil0, .nil0]), none⟩, ⟨none, (.store 2 (.t 12) (.t 39)), none⟩, ⟨(some 13), (.mov (.t 40)), none⟩, ⟨(some 14), (.mov (.t 41)), none⟩]) (.seq (.region 5 [⟨(some 15), (.mov (.k (.int .i64 0))), none⟩]) (.seq (.seq (.region 6 [⟨(some 16), (.mov (.k (.int .i64 0))), none⟩]) (.block 0 (.loop (.seq (.seq (.region 7 [⟨(some 42), (.mov (.t 16)), none⟩, ⟨(some 43), (.fad 0 (.t 5)), none⟩, ⟨(some 44), (.load false 1 (.t 43)), none⟩, ⟨(some 45), (.len (.t 44)), none⟩, ⟨(some 46), (.bin .lss (.t 42) (.t 45)), none⟩]) (.cond 46 .skip (.exit 0))) (.seq (.block 1 (.seq (.region 9 [⟨(some 49), (.fad 0 (.t 5)), none⟩, ⟨(some 50), (.load false 1 (.t 49)), none⟩, ⟨(some 51), (.mov (.t 16)), none⟩, ⟨(some 52), (.iads 6 (.t 50) (.t 51)), none⟩, ⟨(some 53), (.fad 1 (.t 52)), none⟩, ⟨(some 54), (.load false 1 (.t 53)), none⟩, ⟨(some 55), (.bin .eql (.t 54) (.k (.int .i64 1))), none⟩]) (.cond 55 (.region 10 [⟨(some 56), (.mov (.t 15)), none⟩, ⟨(some 57), (.bin .add (.t 56) (.k (.int .i64 1))), none⟩, ⟨(some 15), (.mov (.t 57)), none⟩]) .skip))) (.region 8 [⟨(some 47), (.mov (.t 16)), none⟩, ⟨(some 48), (.bin .add (.t 47) (.k (.int .i64 1))), none⟩, ⟨(some 16), (.mov (.t 48)), none⟩])))))) (.seq (.seq (.region 11 [⟨(some 17), (.mov (.k (.int .i64 0))), none⟩]) (.block 2 (.loop (.seq (.seq (.region 12 [⟨(some 58), (.mov (.t 17)), none⟩, ⟨(some 59), (.fad 0 (.t 9)), none⟩, ⟨(some 60), (.load false 1 (.t 59)), none⟩, ⟨(some 61), (.len (.t 60)), none⟩, ⟨(some 62), (.bin .lss (.t 58) (.t 61)), none⟩]) (.cond 62 .skip (.exit 2))) (.seq (.block 3 (.seq (.region 14 [⟨(some 65), (.fad 0 (.t 9)), none⟩, ⟨(some 66), (.load false 1 (.t 65)), none⟩, ⟨(some 67), (.mov (.t 17)), none⟩, ⟨(some 68), (.iads 6 (.t 66) (.t 67)), none⟩, ⟨(some 69), (.fad 1 (.t 68)), none⟩, ⟨(some 70), (.load false 1 (.t 69)), none⟩, ⟨(some 71), (.bin .eql (.t 70) (.k (.int .i64 1))), none⟩]) (.cond 71 (.seq (.region 15 [⟨(some 4), (.mov (.k (.bool false))), none⟩]) .ret) .skip))) (.region 13 [⟨(some 63), (.mov (.t 17)), none⟩, ⟨(some 64), (.bin .add (.t 63) (.k (.int .i64 1))), none⟩, ⟨(some 17), (.mov (.t 64)), none⟩])))))) (.seq (.region 16 [⟨(some 72), (.mov (.t 7)), none⟩, ⟨(some 73), (.mov (.t 72)), none⟩, ⟨(some 74), (.mov (.t 11)), (some (73, true))⟩, ⟨(some 75), (.bin .eql (.t 74) (.k (.int .i64 0))), (some (73, true))⟩, ⟨(some 76), (.pick (.t 73) (.t 75) (.k (.bool false))), none⟩, ⟨(some 77), (.mov (.t 76)), none⟩, ⟨(some 78), (.mov (.t 14)), (some (77, true))⟩, ⟨(some 79), (.bin .eql (.t 78) (.k (.int .i64 0))), (some (77, true))⟩, ⟨(some 80), (.pick (.t 77) (.t 79) (.k (.bool false))), none⟩, ⟨(some 81), (.mov (.t 80)), none⟩, ⟨(some 82), (.mov (.t 10)), (some (81, true))⟩, ⟨(some 83), (.len (.t 82)), (some (81, true))⟩, ⟨(some 84), (.mov (.t 15)), (some (81, true))⟩, ⟨(some 85), (.bin .eql (.t 83) (.t 84)), (some (81, true))⟩, ⟨(some 86), (.pick (.t 81) (.t 85) (.k (.bool false))), none⟩, ⟨(some 87), (.mov (.t 86)), none⟩, ⟨(some 88), (.mov (.t 13)), (some (87, true))⟩, ⟨(some 89), (.len (.t 88)), (some (87, true))⟩, ⟨(some 90), (.bin .eql (.t 89) (.k (.int .i64 0))), (some (87, true))⟩, ⟨(some 91), (.pick (.t 87) (.t 90) (.k (.bool false))), none⟩, ⟨(some 92), (.mov (.t 91)), none⟩, ⟨(some 93), (.load true 2 (.t 9)), (some (92, true))⟩, ⟨(some 94), (.load true 2 (.t 12)), (some (92, true))⟩, ⟨(some 95), (.call 33 [(.t 93), (.t 94)]), (some (92, true))⟩, ⟨(some 96), (.pick (.t 92) (.t 95) (.k (.bool false))), none⟩, ⟨(some 97), (.mov (.t 96)), none⟩, ⟨(some 98), (.fad 0 (.t 9)), (some (97, true))⟩, ⟨(some 99), (.load false 1 (.t 98)), (some (97, true))⟩, ⟨(some 100), (.len (.t 99)), (some (97, true))⟩, ⟨(some 101), (.fad 0 (.t 5)), (some (97, true))⟩, ⟨(some 102), (.load false 1 (.t 101)), (some (97, true))⟩, ⟨(some 103), (.len (.t 102)), (some (97, true))⟩, ⟨(some 104), (.bin .eql (.t 100) (.t 103)), (some (97, true))⟩, ⟨(some 105), (.pick (.t 97) (.t 104) (.k (.bool false))), none⟩, ⟨(some 106), (.mov (.t 105)), none⟩, ⟨(some 107), (.mov (.t 0)), (some (106, true))⟩, ⟨(some 108), (.len (.t 107)), (some (106, true))⟩, ⟨(some 109), (.bin .eql (.t 108) (.k (.int .i64 0))), (some (106, true))⟩, ⟨(some 110), (.fad 1 (.t 5)), (some (106, true))⟩, ⟨(some 111), (.load false 1 (.t 110)), (some (106, true))⟩, ⟨(some 112), (.len (.t 111)), (some (106, true))⟩, ⟨(some 113), (.bin .eql (.t 112) (.k (.int .i64 0))), (some (106, true))⟩, ⟨(some 114), (.eqb false (.t 109) (.t 113)), (some (106, true))⟩, ⟨(some 115), (.pick (.t 106) (.t 114) (.k (.bool false))), none⟩, ⟨(some 116), (.mov (.t 115)), none⟩, ⟨(some 117), (.load true 2 (.t 9)), (some (116, true))⟩, ⟨(some 118), (.call 36 [(.t 117)]), (some (116, true))⟩, ⟨(some 119), (.bin .eql (.t 118) (.k (.int .i64 0))), (some (116, true))⟩, ⟨(some 120), (.pick (.t 116) (.t 119) (.k (.bool false))), none⟩, ⟨(some 121), (.mov (.t 120)), none⟩, ⟨(some 122), (.build [(.int .i64 0), (.int .i64 0), (.int .i64 0), (.int .i64 0), (.int .i64 0), (.int .i64 0)] []), (some (121, true))⟩, ⟨(some 123), (.bslice 6 1 [(.int .i64 0), (.int .i64 0), (.int .i64 0), (.int .i64 0), (.int .i64 0), (.int .i64 0)] [(0, (.t 122))]), (some (121, true))⟩, ⟨(some 124), (.build [.nil0, .nil0] [(0, (1, (.t 123)))]), (some (121, true))⟩, ⟨(some 125), (.call 36 [(.t 124)]), (some (121, true))⟩, ⟨(some 126), (.bin .eql (.t 125) (.k (.int .i64 6))), (some (121, true))⟩, ⟨(some 127), (.pick (.t 121) (.t 126) (.k (.bool false))), none⟩, ⟨(some 4), (.mov (.t 127)), none⟩]) .ret))))))))), [(.t 4)], 128⟩ := by kernel_rfl
theorem lwok_pf (l : List (List Int)) (ticks : Int) (hl : l.length ≤ Go.maxLen) (hr : ∀ r ∈ l, r.length = 5 ∧ ∀ z ∈ r, InR z) (it : InR ticks) :
    PF Try.prog 9 [.rows 5 (l.map fun r => r.map I), I ticks] (.bool true) := by
  have has := asked_pf l hl hr
  have hinv := askedM_inv l
  have p1 := picked_pf ticks 5 it (by omega)
  have q1 := pickedZ_range ticks 5 (by omega)
  generalize pickedZ ticks 5 = t at p1 q1
  have hl0 : (l.length = 0) ↔ (askedM l).R = [] := by
    constructor
    · intro h
      have : l = [] := List.eq_nil_of_length_eq_zero h
      rw [this]; rfl
    · intro h
      refine Classical.byContradiction fun hn => ?_
      exact hinv.r1 (by omega) h
  generalize askedM l = s at has hinv hl0
  obtain ⟨L, R, now⟩ := s
  obtain ⟨hok, n0, n1, hrl, _, _, hlb⟩ := hinv
  simp only at has hok n0 n1 hrl hlb hl0
  have hll := hok.ll
  obtain ⟨tt, htt⟩ : ∃ tt, tt = now + t := ⟨_, rfl⟩
  have hw1 := lwake_pf L R tt hok (by omega) (by omega)
  have hok2 := wake_ok hok tt (by omega) (by omega)
  have hw2 := lwake_pf (wakeM L tt) R tt hok2 (by omega) (by omega)
  have hww := wake_wake L tt
  rw [hww.1, hww.2] at hw2
  have hsb := sbook_pf (wakeM L tt) R hok2.ll hok2.lr
  have hchk := lchk_pf (wakeM L tt) R hok2
  have hchk0 := lchk0_pf
  have hwl : (wakeM L tt).length = L.length := by simp [wakeM]
  have hws : ∀ i (h : i < (wakeM L tt).length), (wakeM L tt)[i].state ≠ 1 := fun i h => by
    simp only [wakeM, List.getElem_map]
    unfold wakeX
    split
    · simp
    · assumption
  have hwk := woken_succ L
  have hwln := fun i => woken_len (L.take i)
  have hlR : (R.length : Int) = 0 ↔ l.length = 0 := by
    rw [hl0, ← List.length_eq_zero_iff]; omega
  unfold bookD at has hw1 hw2 hsb hchk
  generalize wakeM L tt = M at hw1 hw2 hsb hchk hwl hws
  have i2 : InR tt := inW (by omega) (by omega)
  refine PF.of follows_ok lwok_code (by simp) (by simp [argOk]) (by simp [noV, noC]) fun B hBN hB0 => acode_sound [0, 1, 4, 5, 6, 7, 8, 9, 10, 11, 12, 13, 14, 15, 16, 17, 46, 55, 62, 71] [] _ _ _ ?_
  repeat' (first
    | simp [AK_at, acode_seq, acode_region, acode_draw, acode_cond, ↓CB_t, ↓CB_f, CB_u, acode_block, acode_loop, acode_exit, acode_scope, acode_ret, acode_skip, seqQ_n, seqQ_e, seqQ_r, blockQ_n, blockQ_e, blockQ_r, TK_at, OK_at, SK_at, aops_nil, aops_cons, asch_done, asch_one, asch_two, asch_top, astep, aop_eq, isLoud, aloud, aloud1, isWrite, qv, evS, strip, gof, eget, hget, putO, eput, herase, oks, opnds, gS, afin, afin0, binD, arith, D.cells, takeD, fillD, keep, trim, envOf, Fin, aresl, aresv, resD, argOk, pickV, isP, deq, deqs, boundD, slD, lenD, isT, isSl, ptrIds, chunks, mn_min, mx_max, D.cells, splice_one, splice_more, Rbr_at, Rfr_at, frR, frV, frC, flatC, brwR, brwV, brwC, omap, leR, leV, leC, leL, leVL, i2, ← htt]
    | (refine WCall.pf (has) ?_ ?_ ?_ ?_; (focus (simp [oks, opnds, gS, gof, eget]; done)); (focus (simp [omap, brwV, brwC, evS, eget, strip, hget, leVL, leV, leC, leL, i2, ← htt]; done)); (focus (simp [noV, noC, flatR, flatV, flatC, evS, eget, strip, i2, ← htt]; done)))
    | (refine ⟨WCall.pf (has) ?_ ?_ ?_ ?_, ?_⟩; (focus (simp [oks, opnds, gS, gof, eget]; done)); (focus (simp [omap, brwV, brwC, evS, eget, strip, hget, leVL, leV, leC, leL, i2, ← htt]; done)); (focus (simp [noV, noC, flatR, flatV, flatC, evS, eget, strip, i2, ← htt]; done)))
    | (refine WCall.pf (p1) ?_ ?_ ?_ ?_; (focus (simp [oks, opnds, gS, gof, eget]; done)); (focus (simp [omap, brwV, brwC, evS, eget, strip, hget, leVL, leV, leC, leL, i2, ← htt]; done)); (focus (simp [noV, noC, flatR, flatV, flatC, evS, eget, strip, i2, ← htt]; done)))
    | (refine ⟨WCall.pf (p1) ?_ ?_ ?_ ?_, ?_⟩; (focus (simp [oks, opnds, gS, gof, eget]; done)); (focus (simp [omap, brwV, brwC, evS, eget, strip, hget, leVL, leV, leC, leL, i2, ← htt]; done)); (focus (simp [noV, noC, flatR, flatV, flatC, evS, eget, strip, i2, ← htt]; done)))
    | (refine WCall.pf (hw1) ?_ ?_ ?_ ?_; (focus (simp [oks, opnds, gS, gof, eget]; done)); (focus (simp [omap, brwV, brwC, evS, eget, strip, hget, leVL, leV, leC, leL, i2, ← htt]; done)); (focus (simp [noV, noC, flatR, flatV, flatC, evS, eget, strip, i2, ← htt]; done)))
    | (refine ⟨WCall.pf (hw1) ?_ ?_ ?_ ?_, ?_⟩; (focus (simp [oks, opnds, gS, gof, eget]; done)); (focus (simp [omap, brwV, brwC, evS, eget, strip, hget, leVL, leV, leC, leL, i2, ← htt]; done)); (focus (simp [noV, noC, flatR, flatV, flatC, evS, eget, strip, i2, ← htt]; done)))
    | (refine WCall.pf (hw2) ?_ ?_ ?_ ?_; (focus (simp [oks, opnds, gS, gof, eget]; done)); (focus (simp [omap, brwV, brwC, evS, eget, strip, hget, leVL, leV, leC, leL, i2, ← htt]; done)); (focus (simp [noV, noC, flatR, flatV, flatC, evS, eget, strip, i2, ← htt]; done)))
    | (refine ⟨WCall.pf (hw2) ?_ ?_ ?_ ?_, ?_⟩; (focus (simp [oks, opnds, gS, gof, eget]; done)); (focus (simp [omap, brwV, brwC, evS, eget, strip, hget, leVL, leV, leC, leL, i2, ← htt]; done)); (focus (simp [noV, noC, flatR, flatV, flatC, evS, eget, strip, i2, ← htt]; done)))
    | (with_reducible refine And.intro (And.intro ?_ ?_) ?_)
    | fail)
  refine W.loopS (fun i : Nat => ⟨[(16, I i), (15, I (wokenM (L.take i)).length), (14, I 0), (13, .rows 1 []), (12, .ptr 2 0), (11, I 0), (10, .rows 1 ((wokenM L).map fun z => [I z])), (9, .ptr 1 0), (7, .bool true), (5, .ptr 0 0), (4, .bool false), (0, D.rows 5 (l.map fun r => r.map I))],
      [(2, .cells [.rows 6 (M.map Lif.D), .rows 5 (R.map Rqs.D)]), (1, .cells [.rows 6 (M.map Lif.D), .rows 5 (R.map Rqs.D)]), (0, .cells [.rows 6 (L.map Lif.D), .rows 5 (R.map Rqs.D)])], 3⟩)
    (fun n i => n = L.length - i ∧ i ≤ L.length) ?_ ?_
  · exact ⟨_, 0, (Gh.ren [0, 1, 2] (by simp [hB0]) (by simp [hB0] <;> decide) (by simp [eget, rnS, rnR, rnV, rnC, LtS, LtR, LtV, LtC, lget, wokenM]) (by simp [hget, rnO, rnC, LtO, LtC, lget, wokenM]) (.inl (by simp [lget, wokenM]))), rfl, by omega⟩
  rintro n i ⟨hn, hi⟩
  refine acode_sound [0, 1, 4, 5, 6, 7, 8, 9, 10, 11, 12, 13, 14, 15, 16, 17, 46, 55, 62, 71] [] _ _ _ ?_
  by_cases hlt : i < L.length
  · have hwk := hwk i hlt
    have hwl2 := hwln i
    rw [List.length_take] at hwl2
    obtain ⟨o, ho⟩ : ∃ o, o = L[i] := ⟨_, rfl⟩
    rw [← ho] at hwk
    have ii : InR ((i : Int) + 1) := inW (by omega) (by omega)
    have iw : InR (((wokenM (L.take i)).length : Int) + 1) := inW (by omega) (by omega)
    by_cases s1 : o.state = 1
    · rw [if_pos s1] at hwk
      have e1 : ((wokenM (L.take (i + 1))).length : Int) = (wokenM (L.take i)).length + 1 := by rw [hwk]; simp
      simp [AK_at, acode_seq, acode_region, acode_draw, acode_cond, ↓CB_t, ↓CB_f, CB_u, acode_block, acode_loop, acode_exit, acode_scope, acode_ret, acode_skip, seqQ_n, seqQ_e, seqQ_r, blockQ_n, blockQ_e, blockQ_r, TK_at, OK_at, SK_at, aops_nil, aops_cons, asch_done, asch_one, asch_two, asch_top, astep, aop_eq, isLoud, aloud, aloud1, isWrite, qv, evS, strip, gof, eget, hget, putO, eput, herase, oks, opnds, gS, afin, afin0, binD, arith, D.cells, takeD, fillD, keep, trim, envOf, Fin, aresl, aresv, resD, argOk, pickV, isP, deq, deqs, boundD, slD, lenD, isT, isSl, ptrIds, chunks, mn_min, mx_max, D.cells, splice_one, splice_more, Rbr_at, Rfr_at, frR, frV, frC, flatC, brwR, brwV, brwC, omap, leR, leV, leC, leL, leVL, hlt, ← ho, Lif.D, s1, ii, iw]
      exact ⟨_, i + 1, (Gh.ren [0, 1, 2] (by simp [hB0]) (by simp [hB0] <;> decide) (by simp [eget, rnS, rnR, rnV, rnC, LtS, LtR, LtV, LtC, lget, e1]) (by simp [hget, rnO, rnC, LtO, LtC, lget, e1]) (.inl (by simp [lget, e1]))), by omega, rfl, by omega⟩
    · rw [if_neg s1, List.append_nil] at hwk
      simp [AK_at, acode_seq, acode_region, acode_draw, acode_cond, ↓CB_t, ↓CB_f, CB_u, acode_block, acode_loop, acode_exit, acode_scope, acode_ret, acode_skip, seqQ_n, seqQ_e, seqQ_r, blockQ_n, blockQ_e, blockQ_r, TK_at, OK_at, SK_at, aops_nil, aops_cons, asch_done, asch_one, asch_two, asch_top, astep, aop_eq, isLoud, aloud, aloud1, isWrite, qv, evS, strip, gof, eget, hget, putO, eput, herase, oks, opnds, gS, afin, afin0, binD, arith, D.cells, takeD, fillD, keep, trim, envOf, Fin, aresl, aresv, resD, argOk, pickV, isP, deq, deqs, boundD, slD, lenD, isT, isSl, ptrIds, chunks, mn_min, mx_max, D.cells, splice_one, splice_more, Rbr_at, Rfr_at, frR, frV, frC, flatC, brwR, brwV, brwC, omap, leR, leV, leC, leL, leVL, hlt, ← ho, Lif.D, s1, ii]
      exact ⟨_, i + 1, (Gh.ren [0, 1, 2] (by simp [hB0]) (by simp [hB0] <;> decide) (by simp [eget, rnS, rnR, rnV, rnC, LtS, LtR, LtV, LtC, lget, hwk]) (by simp [hget, rnO, rnC, LtO, LtC, lget, hwk]) (.inl (by simp [lget, hwk]))), by omega, rfl, by omega⟩
  · obtain rfl : i = L.length := by omega
    simp [AK_at, acode_seq, acode_region, acode_draw, acode_cond, ↓CB_t, ↓CB_f, CB_u, acode_block, acode_loop, acode_exit, acode_scope, acode_ret, acode_skip, seqQ_n, seqQ_e, seqQ_r, blockQ_n, blockQ_e, blockQ_r, TK_at, OK_at, SK_at, aops_nil, aops_cons, asch_done, asch_one, asch_two, asch_top, astep, aop_eq, isLoud, aloud, aloud1, isWrite, qv, evS, strip, gof, eget, hget, putO, eput, herase, oks, opnds, gS, afin, afin0, binD, arith, D.cells, takeD, fillD, keep, trim, envOf, Fin, aresl, aresv, resD, argOk, pickV, isP, deq, deqs, boundD, slD, lenD, isT, isSl, ptrIds, chunks, mn_min, mx_max, D.cells, splice_one, splice_more, Rbr_at, Rfr_at, frR, frV, frC, flatC, brwR, brwV, brwC, omap, leR, leV, leC, leL, leVL]
    refine W.loopS (fun j : Nat => ⟨[(17, I j), (15, I (wokenM L).length), (14, I 0), (13, .rows 1 []), (12, .ptr 2 0), (11, I 0), (10, .rows 1 ((wokenM L).map fun z => [I z])), (9, .ptr 1 0), (7, .bool true), (5, .ptr 0 0), (4, .bool false), (0, D.rows 5 (l.map fun r => r.map I))],
        [(2, .cells [.rows 6 (M.map Lif.D), .rows 5 (R.map Rqs.D)]), (1, .cells [.rows 6 (M.map Lif.D), .rows 5 (R.map Rqs.D)]), (0, .cells [.rows 6 (L.map Lif.D), .rows 5 (R.map Rqs.D)])], 3⟩)
      (fun n j => n = M.length - j ∧ j ≤ M.length) ?_ ?_
    · exact ⟨_, 0, (Gh.ren [0, 1, 2] (by simp [hB0]) (by simp [hB0] <;> decide) (by simp [eget, rnS, rnR, rnV, rnC, LtS, LtR, LtV, LtC, lget]) (by simp [hget, rnO, rnC, LtO, LtC, lget]) (.inl (by simp [lget]))), rfl, by omega⟩
    rintro n j ⟨hn, hj⟩
    refine acode_sound [0, 1, 4, 5, 6, 7, 8, 9, 10, 11, 12, 13, 14, 15, 16, 17, 46, 55, 62, 71] [] _ _ _ ?_
    by_cases hlt : j < M.length
    · have hs := hws j hlt
      obtain ⟨o, ho⟩ : ∃ o, o = M[j] := ⟨_, rfl⟩
      rw [← ho] at hs
      have ij : InR ((j : Int) + 1) := inW (by omega) (by omega)
      simp [AK_at, acode_seq, acode_region, acode_draw, acode_cond, ↓CB_t, ↓CB_f, CB_u, acode_block, acode_loop, acode_exit, acode_scope, acode_ret, acode_skip, seqQ_n, seqQ_e, seqQ_r, blockQ_n, blockQ_e, blockQ_r, TK_at, OK_at, SK_at, aops_nil, aops_cons, asch_done, asch_one, asch_two, asch_top, astep, aop_eq, isLoud, aloud, aloud1, isWrite, qv, evS, strip, gof, eget, hget, putO, eput, herase, oks, opnds, gS, afin, afin0, binD, arith, D.cells, takeD, fillD, keep, trim, envOf, Fin, aresl, aresv, resD, argOk, pickV, isP, deq, deqs, boundD, slD, lenD, isT, isSl, ptrIds, chunks, mn_min, mx_max, D.cells, splice_one, splice_more, Rbr_at, Rfr_at, frR, frV, frC, flatC, brwR, brwV, brwC, omap, leR, leV, leC, leL, leVL, hlt, ← ho, Lif.D, hs, ij]
      exact ⟨_, j + 1, (Gh.ren [0, 1, 2] (by simp [hB0]) (by simp [hB0] <;> decide) (by simp [eget, rnS, rnR, rnV, rnC, LtS, LtR, LtV, LtC, lget]) (by simp [hget, rnO, rnC, LtO, LtC, lget]) (.inl (by simp [lget]))), by omega, rfl, by omega⟩
    · obtain rfl : j = M.length := by omega
      by_cases hz : l.length = 0
      · have hRz : (R.length : Int) = 0 := hlR.2 hz
        have hlz : (l.length : Int) = 0 := by omega
        have hln : l = [] := List.eq_nil_of_length_eq_zero hz
        have hRn : R = [] := List.eq_nil_of_length_eq_zero (by omega)
        repeat' (first
          | simp [AK_at, acode_seq, acode_region, acode_draw, acode_cond, ↓CB_t, ↓CB_f, CB_u, acode_block, acode_loop, acode_exit, acode_scope, acode_ret, acode_skip, seqQ_n, seqQ_e, seqQ_r, blockQ_n, blockQ_e, blockQ_r, TK_at, OK_at, SK_at, aops_nil, aops_cons, asch_done, asch_one, asch_two, asch_top, astep, aop_eq, isLoud, aloud, aloud1, isWrite, qv, evS, strip, gof, eget, hget, putO, eput, herase, oks, opnds, gS, afin, afin0, binD, arith, D.cells, takeD, fillD, keep, trim, envOf, Fin, aresl, aresv, resD, argOk, pickV, isP, deq, deqs, boundD, slD, lenD, isT, isSl, ptrIds, chunks, mn_min, mx_max, D.cells, splice_one, splice_more, Rbr_at, Rfr_at, frR, frV, frC, flatC, brwR, brwV, brwC, omap, leR, leV, leC, leL, leVL, hwl, hRz, hlz, hln, hRn]
          | (refine WCall.pf (hsb) ?_ ?_ ?_ ?_; (focus (simp [oks, opnds, gS, gof, eget]; done)); (focus (simp [omap, brwV, brwC, evS, eget, strip, hget, leVL, leV, leC, leL, hwl, hRz, hlz, hln, hRn]; done)); (focus (simp [noV, noC, flatR, flatV, flatC, evS, eget, strip, hwl, hRz, hlz, hln, hRn]; done)))
          | (refine ⟨WCall.pf (hsb) ?_ ?_ ?_ ?_, ?_⟩; (focus (simp [oks, opnds, gS, gof, eget]; done)); (focus (simp [omap, brwV, brwC, evS, eget, strip, hget, leVL, leV, leC, leL, hwl, hRz, hlz, hln, hRn]; done)); (focus (simp [noV, noC, flatR, flatV, flatC, evS, eget, strip, hwl, hRz, hlz, hln, hRn]; done)))
          | (refine WCall.pf (hchk) ?_ ?_ ?_ ?_; (focus (simp [oks, opnds, gS, gof, eget]; done)); (focus (simp [omap, brwV, brwC, evS, eget, strip, hget, leVL, leV, leC, leL, hwl, hRz, hlz, hln, hRn]; done)); (focus (simp [noV, noC, flatR, flatV, flatC, evS, eget, strip, hwl, hRz, hlz, hln, hRn]; done)))
          | (refine ⟨WCall.pf (hchk) ?_ ?_ ?_ ?_, ?_⟩; (focus (simp [oks, opnds, gS, gof, eget]; done)); (focus (simp [omap, brwV, brwC, evS, eget, strip, hget, leVL, leV, leC, leL, hwl, hRz, hlz, hln, hRn]; done)); (focus (simp [noV, noC, flatR, flatV, flatC, evS, eget, strip, hwl, hRz, hlz, hln, hRn]; done)))
          | (refine WCall.pf (hchk0) ?_ ?_ ?_ ?_; (focus (simp [oks, opnds, gS, gof, eget]; done)); (focus (simp [omap, brwV, brwC, evS, eget, strip, hget, leVL, leV, leC, leL, hwl, hRz, hlz, hln, hRn]; done)); (focus (simp [noV, noC, flatR, flatV, flatC, evS, eget, strip, hwl, hRz, hlz, hln, hRn]; done)))
          | (refine ⟨WCall.pf (hchk0) ?_ ?_ ?_ ?_, ?_⟩; (focus (simp [oks, opnds, gS, gof, eget]; done)); (focus (simp [omap, brwV, brwC, evS, eget, strip, hget, leVL, leV, leC, leL, hwl, hRz, hlz, hln, hRn]; done)); (focus (simp [noV, noC, flatR, flatV, flatC, evS, eget, strip, hwl, hRz, hlz, hln, hRn]; done)))
          | (with_reducible refine And.intro (And.intro ?_ ?_) ?_)
          | fail)
      · have hRz : ¬ (R.length : Int) = 0 := fun h => hz (hlR.1 h)
        have hlz : ¬ (l.length : Int) = 0 := by omega
        have hln : l ≠ [] := fun h => hz (by rw [h]; rfl)
        have hRn : R ≠ [] := fun h => hRz (by rw [h]; rfl)
        repeat' (first
          | simp [AK_at, acode_seq, acode_region, acode_draw, acode_cond, ↓CB_t, ↓CB_f, CB_u, acode_block, acode_loop, acode_exit, acode_scope, acode_ret, acode_skip, seqQ_n, seqQ_e, seqQ_r, blockQ_n, blockQ_e, blockQ_r, TK_at, OK_at, SK_at, aops_nil, aops_cons, asch_done, asch_one, asch_two, asch_top, astep, aop_eq, isLoud, aloud, aloud1, isWrite, qv, evS, strip, gof, eget, hget, putO, eput, herase, oks, opnds, gS, afin, afin0, binD, arith, D.cells, takeD, fillD, keep, trim, envOf, Fin, aresl, aresv, resD, argOk, pickV, isP, deq, deqs, boundD, slD, lenD, isT, isSl, ptrIds, chunks, mn_min, mx_max, D.cells, splice_one, splice_more, Rbr_at, Rfr_at, frR, frV, frC, flatC, brwR, brwV, brwC, omap, leR, leV, leC, leL, leVL, hwl, hRz, hlz, hln, hRn]
          | (refine WCall.pf (hsb) ?_ ?_ ?_ ?_; (focus (simp [oks, opnds, gS, gof, eget]; done)); (focus (simp [omap, brwV, brwC, evS, eget, strip, hget, leVL, leV, leC, leL, hwl, hRz, hlz, hln, hRn]; done)); (focus (simp [noV, noC, flatR, flatV, flatC, evS, eget, strip, hwl, hRz, hlz, hln, hRn]; done)))
          | (refine ⟨WCall.pf (hsb) ?_ ?_ ?_ ?_, ?_⟩; (focus (simp [oks, opnds, gS, gof, eget]; done)); (focus (simp [omap, brwV, brwC, evS, eget, strip, hget, leVL, leV, leC, leL, hwl, hRz, hlz, hln, hRn]; done)); (focus (simp [noV, noC, flatR, flatV, flatC, evS, eget, strip, hwl, hRz, hlz, hln, hRn]; done)))
          | (refine WCall.pf (hchk) ?_ ?_ ?_ ?_; (focus (simp [oks, opnds, gS, gof, eget]; done)); (focus (simp [omap, brwV, brwC, evS, eget, strip, hget, leVL, leV, leC, leL, hwl, hRz, hlz, hln, hRn]; done)); (focus (simp [noV, noC, flatR, flatV, flatC, evS, eget, strip, hwl, hRz, hlz, hln, hRn]; done)))
          | (refine ⟨WCall.pf (hchk) ?_ ?_ ?_ ?_, ?_⟩; (focus (simp [oks, opnds, gS, gof, eget]; done)); (focus (simp [omap, brwV, brwC, evS, eget, strip, hget, leVL, leV, leC, leL, hwl, hRz, hlz, hln, hRn]; done)); (focus (simp [noV, noC, flatR, flatV, flatC, evS, eget, strip, hwl, hRz, hlz, hln, hRn]; done)))
          | (refine WCall.pf (hchk0) ?_ ?_ ?_ ?_; (focus (simp [oks, opnds, gS, gof, eget]; done)); (focus (simp [omap, brwV, brwC, evS, eget, strip, hget, leVL, leV, leC, leL, hwl, hRz, hlz, hln, hRn]; done)); (focus (simp [noV, noC, flatR, flatV, flatC, evS, eget, strip, hwl, hRz, hlz, hln, hRn]; done)))
          | (refine ⟨WCall.pf (hchk0) ?_ ?_ ?_ ?_, ?_⟩; (focus (simp [oks, opnds, gS, gof, eget]; done)); (focus (simp [omap, brwV, brwC, evS, eget, strip, hget, leVL, leV, leC, leL, hwl, hRz, hlz, hln, hRn]; done)); (focus (simp [noV, noC, flatR, flatV, flatC, evS, eget, strip, hwl, hRz, hlz, hln, hRn]; done)))
          | (with_reducible refine And.intro (And.intro ?_ ?_) ?_)
          | fail)
end Go.Proofs.Ytfkeddefajkobaa

set_option linter.unusedSimpArgs false
set_option linter.unusedVariables false
set_option maxRecDepth 100000
namespace Go.Proofs.Ytfkeddefajkobaa
open Go.ChangeShapes Go.WideShapes Go.ChangeAt Go.RowKit
theorem byte_wf {z : Int} (h : (Lit.int .u8 z).wf = true) : Byte z := by
  have h1 : IntKind.u8.min = 0 := rfl
  have h2 : IntKind.u8.max = 255 := rfl
  simp only [Lit.wf, Bool.and_eq_true, decide_eq_true_eq] at h
  exact ⟨by omega, by omega⟩
theorem open_struct {H : Type} {enc : TypeId × Value → H} {w : World} {base : Nat} {spare : Nat → Bool} {held : Bool} {t : TypeId} {n : Nat} {v : Value} {d : DataW H} {ps : List MemPlace}
    (h2 : 2 ≤ n) (he : Nums Try.prog t n) (h : DataW.Trod enc Try.prog w base spare held t v d ps) :
    ∃ r : List Int, VV s0 (allZ w) (.agg (r.map I)) v ∧ r.length = n ∧ ∀ z ∈ r, InR z := by
  obtain ⟨fuel, hf⟩ := h
  obtain ⟨r, hc, hl, hk⟩ := he hf
  refine ⟨r, ?_, hl, fun z hz => nums_wf (hk z hz)⟩
  have hlen : v.cells.toList.length = n := by rw [hc]; simpa [numsE] using hl
  cases v with
  | agg vs =>
    obtain ⟨vs⟩ := vs
    have e : vs = numsE r := by simpa [Value.cells] using hc
    subst e
    refine ⟨_, rfl, by simp [numsE], fun j x hx => ?_⟩
    obtain ⟨z, hz, rfl⟩ := (map_get _ _ _ _).1 hx
    have : (numsE r).toArray.getD j undef = .int .i64 z := by
      have : (numsE r)[j]? = some (.int .i64 z) := (map_get _ _ _ _).2 ⟨z, hz, rfl⟩
      simp [Array.getD_eq_getD_getElem?, this]
    rw [this]
    exact VT.int .i64 z
  | _ => simp [Value.cells] at hlen; omega
theorem Elt.byte {P : Program} {t : TypeId} (ht : P.underlying t = some (.int .u8)) : Elt P t 1 (fun z : Int => [Value.int .u8 z]) Byte := fun h => by
  obtain ⟨z, rfl, _, hw⟩ := DataW.trod_int ht h
  exact ⟨z, rfl, rfl, byte_wf hw⟩
theorem vt_bytes {W : World} {v : Value} {l : List Int} (h : Sl W 1 (fun z : Int => [Value.int .u8 z]) v l) : VT (allZ W) (.rows 1 (l.map PB)) v :=
  h.rows fun z _ => ⟨rfl, rfl, fun j d hd => by
    cases j with
    | zero => simp [PB] at hd; subst hd; exact ⟨_, rfl, fun Z => VT.int .u8 z⟩
    | succ j => simp [PB] at hd⟩
theorem open_bytes {H : Type} {enc : TypeId × Value → H} {w : World} {base : Nat} {spare : Nat → Bool} {held : Bool} {r0 : Reach} {b0 : Nat} {t e : TypeId} {v : Value} {d : DataW H} {ps : List MemPlace}
    (ht : Try.prog.underlying t = some (.slice e)) (hc : Try.prog.cellsOf e = 1) (he : Try.prog.underlying e = some (.int .u8)) (hv : Value.okWide Try.prog w r0 b0 t v) (h : DataW.Trod enc Try.prog w base spare held t v d ps) :
    ∃ l : List Int, l.length ≤ maxLen ∧ VV s0 (allZ w) (.rows 1 (l.map PB)) v ∧ ∀ z ∈ l, Byte z := by
  obtain ⟨l, h1, h2, h3⟩ := open_elts ht hc (by omega) (Elt.byte he) hv h
  exact ⟨l, h1, vt_bytes h3, fun z hz => (h2 z hz).2⟩
end Go.Proofs.Ytfkeddefajkobaa

