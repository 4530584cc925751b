/- This text proves the law WireFixed over the small machine. It has no condition of its own. -/
import Derived.Test.YtfkeddefajkobaaWih
import Derived.Test.YtfkeddefajkobaaBst
set_option linter.unusedSimpArgs false
set_option linter.unusedVariables false
set_option maxRecDepth 100000
set_option maxHeartbeats 2000000
namespace Go.Proofs.Ytfkeddefajkobaa
open Go.RowKit
theorem wfix_code : cfun Try.prog [] 6 = some ⟨(.seq (.region 0 [⟨(some 2), (.mov (.k (.bool false))), none⟩]) (.seq (.region 1 [⟨(some 8), (.mov (.t 0)), none⟩, ⟨(some 9), (.app 1 1 [(.int .u8 0)] (.k .nil0) (.t 8)), none⟩, ⟨(some 10), (.call 30 [(.t 9)]), none⟩, ⟨(some 7), (.mov (.t 10)), none⟩, ⟨(some 11), (.ext (.t 7) 0), none⟩, ⟨(some 12), (.ext (.t 7) 1), none⟩, ⟨(some 3), (.alloc [(.int .i64 0), (.int .i64 0), (.int .i64 0), (.int .i64 0), (.bool false), (.int .i64 0), (.int .i64 0), (.int .i64 0)]), none⟩, ⟨none, (.store 8 (.t 3) (.t 11)), none⟩, ⟨(some 4), (.mov (.t 12)), none⟩]) (.seq (.seq (.region 2 [⟨(some 13), (.mov (.t 4)), none⟩, ⟨(some 14), (.bin .neq (.t 13) (.k (.int .i64 0))), none⟩]) (.cond 14 (.seq (.region 3 [⟨(some 15), (.load true 8 (.t 3)), none⟩, ⟨(some 16), (.build [(.int .i64 0), (.int .i64 0), (.int .i64 0), (.int .i64 0), (.bool false), (.int .i64 0), (.int .i64 0), (.int .i64 0)] []), none⟩, ⟨(some 17), (.eqa false [.i, .i, .i, .i, .b, .i, .i, .i] (.t 15) (.t 16)), none⟩, ⟨(some 2), (.mov (.t 17)), none⟩]) .ret) .skip)) (.seq (.region 4 [⟨(some 19), (.load true 8 (.t 3)), none⟩, ⟨(some 20), (.call 31 [(.t 19)]), none⟩, ⟨(some 18), (.mov (.t 20)), none⟩, ⟨(some 21), (.ext (.t 18) 0), none⟩, ⟨(some 22), (.ext (.t 18) 1), none⟩, ⟨(some 5), (.mov (.t 21)), none⟩, ⟨(some 6), (.mov (.t 22)), none⟩]) (.seq (.region 5 [⟨(some 23), (.mov (.t 6)), none⟩, ⟨(some 24), (.bin .eql (.t 23) (.k (.int .i64 0))), none⟩, ⟨(some 25), (.mov (.t 24)), none⟩, ⟨(some 26), (.mov (.t 5)), (some (25, true))⟩, ⟨(some 27), (.xop 7 [] [(.t 26)]), (some (25, true))⟩, ⟨(some 28), (.mov (.t 0)), (some (25, true))⟩, ⟨(some 29), (.xop 7 [] [(.t 28)]), (some (25, true))⟩, ⟨(some 30), (.bin .eql (.t 27) (.t 29)), (some (25, true))⟩, ⟨(some 31), (.pick (.t 25) (.t 30) (.k (.bool false))), none⟩, ⟨(some 2), (.mov (.t 31)), none⟩]) .ret))))), [(.t 2)], 32⟩ := by kernel_rfl
theorem wfix_pf (b : List Int) (hl : b.length ≤ Go.maxLen) (hb : ∀ c ∈ b, Byte c) (hbl : b.length ≤ 140737488351232) : PF Try.prog 6 [.rows 1 (b.map PB)] (.bool true) := by
  have hd := wdec_pf b hb hl
  have hz := decM_zero b
  have hi := fun e => decM_inv b e hb
  generalize hM : decM b = m at hd hz hi
  obtain ⟨ev, c⟩ := m
  simp only at hd hz
  have hb7 : b.length ≤ 140737488355328 := by omega
  have hPB : ∀ a, (PB a).length = 1 := fun _ => rfl
  refine PF.of follows_ok wfix_code (by simp) (by simp [argOk]) (by simp [noV, noC]) fun B hBN hB0 => acode_sound [0, 2, 3, 4, 5, 6, 14] [] _ _ _ ?_
  by_cases hc : c = 0
  · subst hc
    obtain ⟨kd, x, y, z, hok, rfl, hbo⟩ := hi ev rfl
    have he := wenc_pf kd x y z hok
    rw [← hbo] at he
    have hf1 : (kd.cells x y z).all flatC = true := by cases kd <;> rfl
    have hf2 : ∀ d ∈ kd.cells x y z, flatC d = true := List.all_eq_true.1 hf1
    have hl8 : (kd.cells x y z).length = 8 := by cases kd <;> rfl
    have hsp : splice [D.int IntKind.i64 0, D.int IntKind.i64 0, D.int IntKind.i64 0, D.int IntKind.i64 0, D.bool false, D.int IntKind.i64 0, D.int IntKind.i64 0, D.int IntKind.i64 0] 0 (kd.cells x y z) = kd.cells x y z := by cases kd <;> rfl
    have htk : List.take 8 (kd.cells x y z) = kd.cells x y z := by cases kd <;> rfl
    have hnc : ∀ d ∈ kd.cells x y z, noC d = true := List.all_eq_true.1 (by cases kd <;> rfl)
    have hbr : ∀ H, omap (brwC H 4) (kd.cells x y z) = some (kd.cells x y z) := fun H => by cases kd <;> rfl
    repeat' (first
      | simp [AK_at, acode_seq, acode_region, acode_draw, acode_cond, ↓CB_t, ↓CB_f, CB_u, acode_block, acode_loop, acode_exit, acode_scope, acode_ret, acode_skip, seqQ_n, seqQ_e, seqQ_r, blockQ_n, blockQ_e, blockQ_r, TK_at, OK_at, SK_at, aops_nil, aops_cons, asch_done, asch_one, asch_two, asch_top, astep, aop_eq, isLoud, aloud, aloud1, isWrite, qv, evS, strip, gof, eget, hget, putO, eput, herase, oks, opnds, gS, afin, afin0, binD, arith, D.cells, takeD, fillD, keep, trim, envOf, Fin, aresl, aresv, resD, argOk, pickV, isP, deq, deqs, boundD, slD, lenD, isT, chunks, mn_min, mx_max, D.cells, splice_one, splice_more, Rbr_at, Rfr_at, frR, frV, frC, flatC, brwR, brwV, brwC, omap, leR, leV, leC, leL, leVL, hb7, hPB, hf1, hf2, hl8, hsp, htk, hnc, hbr, leL_refl]
      | (refine WCall.pf (hd) ?_ ?_ ?_ ?_; (focus (simp [oks, opnds, gS, gof, eget]; done)); (focus (simp [omap, brwV, brwC, evS, eget, strip, hget, leVL, leV, leC, leL, hb7, hPB, hf1, hf2, hl8, hsp, htk, hnc, hbr, leL_refl]; done)); (focus (simp [noV, noC, flatR, flatV, flatC, evS, eget, strip, hb7, hPB, hf1, hf2, hl8, hsp, htk, hnc, hbr, leL_refl]; done)))
      | (refine ⟨WCall.pf (hd) ?_ ?_ ?_ ?_, ?_⟩; (focus (simp [oks, opnds, gS, gof, eget]; done)); (focus (simp [omap, brwV, brwC, evS, eget, strip, hget, leVL, leV, leC, leL, hb7, hPB, hf1, hf2, hl8, hsp, htk, hnc, hbr, leL_refl]; done)); (focus (simp [noV, noC, flatR, flatV, flatC, evS, eget, strip, hb7, hPB, hf1, hf2, hl8, hsp, htk, hnc, hbr, leL_refl]; done)))
      | (refine WCall.pf (he) ?_ ?_ ?_ ?_; (focus (simp [oks, opnds, gS, gof, eget]; done)); (focus (simp [omap, brwV, brwC, evS, eget, strip, hget, leVL, leV, leC, leL, hb7, hPB, hf1, hf2, hl8, hsp, htk, hnc, hbr, leL_refl]; done)); (focus (simp [noV, noC, flatR, flatV, flatC, evS, eget, strip, hb7, hPB, hf1, hf2, hl8, hsp, htk, hnc, hbr, leL_refl]; done)))
      | (refine ⟨WCall.pf (he) ?_ ?_ ?_ ?_, ?_⟩; (focus (simp [oks, opnds, gS, gof, eget]; done)); (focus (simp [omap, brwV, brwC, evS, eget, strip, hget, leVL, leV, leC, leL, hb7, hPB, hf1, hf2, hl8, hsp, htk, hnc, hbr, leL_refl]; done)); (focus (simp [noV, noC, flatR, flatV, flatC, evS, eget, strip, hb7, hPB, hf1, hf2, hl8, hsp, htk, hnc, hbr, leL_refl]; done)))
      | (with_reducible refine And.intro (And.intro ?_ ?_) ?_)
      | fail)
    refine WCall.pf he ?_ ?_ ?_ ?_
    · simp [oks, opnds, gS, gof, eget]
    · simp [omap, brwV, brwC, evS, eget, strip, hget, leVL, leV, leC, leL, hbr, leL_refl]
      done
    · cases kd <;> simp [EK.cells, noV, noC, flatR, flatV, flatC, evS, eget, strip]
    simp [AK_at, acode_seq, acode_region, acode_draw, acode_cond, ↓CB_t, ↓CB_f, CB_u, acode_block, acode_loop, acode_exit, acode_scope, acode_ret, acode_skip, seqQ_n, seqQ_e, seqQ_r, blockQ_n, blockQ_e, blockQ_r, TK_at, OK_at, SK_at, aops_nil, aops_cons, asch_done, asch_one, asch_two, asch_top, astep, aop_eq, isLoud, aloud, aloud1, isWrite, qv, evS, strip, gof, eget, hget, putO, eput, herase, oks, opnds, gS, afin, afin0, binD, arith, D.cells, takeD, fillD, keep, trim, envOf, Fin, aresl, aresv, resD, argOk, pickV, isP, deq, deqs, boundD, slD, lenD, isT, chunks, mn_min, mx_max, D.cells, splice_one, splice_more, Rbr_at, Rfr_at, frR, frV, frC, flatC, brwR, brwV, brwC, omap, leR, leV, leC, leL, leVL]
    refine XCall.bstr (l := b) (by simp [oks, opnds, gS, gof, eget]) (by simp [evS, eget, strip]) ?_
    simp [AK_at, acode_seq, acode_region, acode_draw, acode_cond, ↓CB_t, ↓CB_f, CB_u, acode_block, acode_loop, acode_exit, acode_scope, acode_ret, acode_skip, seqQ_n, seqQ_e, seqQ_r, blockQ_n, blockQ_e, blockQ_r, TK_at, OK_at, SK_at, aops_nil, aops_cons, asch_done, asch_one, asch_two, asch_top, astep, aop_eq, isLoud, aloud, aloud1, isWrite, qv, evS, strip, gof, eget, hget, putO, eput, herase, oks, opnds, gS, afin, afin0, binD, arith, D.cells, takeD, fillD, keep, trim, envOf, Fin, aresl, aresv, resD, argOk, pickV, isP, deq, deqs, boundD, slD, lenD, isT, chunks, mn_min, mx_max, D.cells, splice_one, splice_more, Rbr_at, Rfr_at, frR, frV, frC, flatC, brwR, brwV, brwC, omap, leR, leV, leC, leL, leVL]
    refine XCall.bstr (l := b) (by simp [oks, opnds, gS, gof, eget]) (by simp [evS, eget, strip]) ?_
    simp [AK_at, acode_seq, acode_region, acode_draw, acode_cond, ↓CB_t, ↓CB_f, CB_u, acode_block, acode_loop, acode_exit, acode_scope, acode_ret, acode_skip, seqQ_n, seqQ_e, seqQ_r, blockQ_n, blockQ_e, blockQ_r, TK_at, OK_at, SK_at, aops_nil, aops_cons, asch_done, asch_one, asch_two, asch_top, astep, aop_eq, isLoud, aloud, aloud1, isWrite, qv, evS, strip, gof, eget, hget, putO, eput, herase, oks, opnds, gS, afin, afin0, binD, arith, D.cells, takeD, fillD, keep, trim, envOf, Fin, aresl, aresv, resD, argOk, pickV, isP, deq, deqs, boundD, slD, lenD, isT, chunks, mn_min, mx_max, D.cells, splice_one, splice_more, Rbr_at, Rfr_at, frR, frV, frC, flatC, brwR, brwV, brwC, omap, leR, leV, leC, leL, leVL]
  · have hz := hz hc
    subst hz
    repeat' (first
      | simp [AK_at, acode_seq, acode_region, acode_draw, acode_cond, ↓CB_t, ↓CB_f, CB_u, acode_block, acode_loop, acode_exit, acode_scope, acode_ret, acode_skip, seqQ_n, seqQ_e, seqQ_r, blockQ_n, blockQ_e, blockQ_r, TK_at, OK_at, SK_at, aops_nil, aops_cons, asch_done, asch_one, asch_two, asch_top, astep, aop_eq, isLoud, aloud, aloud1, isWrite, qv, evS, strip, gof, eget, hget, putO, eput, herase, oks, opnds, gS, afin, afin0, binD, arith, D.cells, takeD, fillD, keep, trim, envOf, Fin, aresl, aresv, resD, argOk, pickV, isP, deq, deqs, boundD, slD, lenD, isT, chunks, mn_min, mx_max, D.cells, splice_one, splice_more, Rbr_at, Rfr_at, frR, frV, frC, flatC, brwR, brwV, brwC, omap, leR, leV, leC, leL, leVL, zeroE, hc, hb7, hPB]
      | (refine WCall.pf (hd) ?_ ?_ ?_ ?_; (focus (simp [oks, opnds, gS, gof, eget]; done)); (focus (simp [omap, brwV, brwC, evS, eget, strip, hget, leVL, leV, leC, leL, zeroE, hc, hb7, hPB]; done)); (focus (simp [noV, noC, flatR, flatV, flatC, evS, eget, strip, zeroE, hc, hb7, hPB]; done)))
      | (refine ⟨WCall.pf (hd) ?_ ?_ ?_ ?_, ?_⟩; (focus (simp [oks, opnds, gS, gof, eget]; done)); (focus (simp [omap, brwV, brwC, evS, eget, strip, hget, leVL, leV, leC, leL, zeroE, hc, hb7, hPB]; done)); (focus (simp [noV, noC, flatR, flatV, flatC, evS, eget, strip, zeroE, hc, hb7, hPB]; done)))
      | (with_reducible refine And.intro (And.intro ?_ ?_) ?_)
      | fail)
    done
end Go.Proofs.Ytfkeddefajkobaa
