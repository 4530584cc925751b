/- This text holds, one behind the other, the texts that say what the program computes, step by step, and the rules that they need. They have no condition of their own. -/
import Derived.Test.YtfkeddefajkobaaMd
import Derived.Test.YtfkeddefajkobaaMc
import Derived.Deep.Slices
import Derived.DeepKeys4
set_option linter.unusedSimpArgs false
set_option linter.unusedVariables false
set_option maxRecDepth 100000
set_option maxHeartbeats 2000000
namespace Go.Proofs.Ytfkeddefajkobaa
open Go.RowKit
def cmpZ (a b : Int) : Int := if a < b then -1 else if b < a then 1 else 0
def ord2 (a b c d : Int) : Int := if cmpZ a c = 0 then cmpZ b d else cmpZ a c
theorem cmpZ_zero {a b : Int} : cmpZ a b = 0 ↔ a = b := by
  unfold cmpZ
  split
  · constructor
    · intro h; omega
    · intro h; omega
  · split
    · constructor
      · intro h; omega
      · intro h; omega
    · constructor
      · intro h; omega
      · intro h; rfl
theorem cmpZ_neg {a b : Int} : cmpZ a b < 0 ↔ a < b := by
  unfold cmpZ
  split
  · simp; assumption
  · split
    · constructor <;> intro h <;> omega
    · constructor <;> intro h <;> omega
theorem ord2_neg {a b c d : Int} : ord2 a b c d < 0 ↔ a < c ∨ (a = c ∧ b < d) := by
  unfold ord2
  split
  · rename_i h
    rw [cmpZ_zero] at h
    rw [cmpZ_neg]
    omega
  · rename_i h
    rw [cmpZ_zero] at h
    rw [cmpZ_neg]
    omega
theorem ord2_zero {a b c d : Int} : ord2 a b c d = 0 ↔ a = c ∧ b = d := by
  unfold ord2
  split
  · rename_i h
    rw [cmpZ_zero] at h
    rw [cmpZ_zero]
    exact ⟨fun h' => ⟨h, h'⟩, fun h' => h'.2⟩
  · rename_i h
    constructor
    · intro h'; exact absurd h' h
    · rintro ⟨rfl, rfl⟩; exact absurd (cmpZ_zero.2 rfl) h
theorem cnan_code : cfun Try.prog [] 133 = some ⟨(.seq (.region 0 [⟨(some 2), (.mov (.k (.bool false))), none⟩]) (.seq (.region 1 [⟨(some 3), (.mov (.t 0)), none⟩, ⟨(some 4), (.mov (.t 0)), none⟩, ⟨(some 5), (.bin .neq (.t 3) (.t 4)), none⟩, ⟨(some 2), (.mov (.t 5)), none⟩]) .ret)), [(.t 2)], 6⟩ := by kernel_rfl
theorem cnan_pf (a : Int) : PF Try.prog 133 [I a] (.bool false) := by
  refine PF.of follows_ok cnan_code (by simp) (by simp [argOk]) (by simp [noV, noC]) fun B hBN hB0 => acode_sound [0, 2] [] _ _ _ ?_
  simp [AK_at, acode_seq, acode_region, acode_draw, acode_cond, ↓CB_t, ↓CB_f, CB_u, acode_block, acode_loop, acode_exit, acode_scope, acode_ret, acode_skip, seqQ_n, seqQ_e, seqQ_r, blockQ_n, blockQ_e, blockQ_r, TK_at, OK_at, SK_at, aops_nil, aops_cons, asch_done, asch_one, asch_two, asch_top, astep, aop_eq, isLoud, aloud, aloud1, isWrite, qv, evS, strip, gof, eget, hget, putO, eput, herase, oks, opnds, gS, afin, afin0, binD, arith, D.cells, takeD, fillD, keep, trim, envOf, Fin, aresl, aresv, resD, argOk, pickV, isP, deq, deqs, boundD, slD, lenD, isT, isSl, ptrIds, chunks, mn_min, mx_max, D.cells, splice_one, splice_more, Rbr_at, Rfr_at, frR, frV, frC, flatC, brwR, brwV, brwC, omap, leR, leV, leC, leL, leVL]
theorem ccmp_code : cfun Try.prog [] 114 = some ⟨(.seq (.region 0 [⟨(some 4), (.mov (.k (.int .i64 0))), none⟩]) (.seq (.region 1 [⟨(some 7), (.mov (.t 0)), none⟩, ⟨(some 8), (.call 133 [(.t 7)]), none⟩, ⟨(some 5), (.mov (.t 8)), none⟩]) (.seq (.region 2 [⟨(some 9), (.mov (.t 1)), none⟩, ⟨(some 10), (.call 133 [(.t 9)]), none⟩, ⟨(some 6), (.mov (.t 10)), none⟩]) (.seq (.seq (.region 3 [⟨(some 11), (.mov (.t 5)), none⟩]) (.cond 11 (.seq (.seq (.region 4 [⟨(some 12), (.mov (.t 6)), none⟩]) (.cond 12 (.seq (.region 5 [⟨(some 4), (.mov (.k (.int .i64 0))), none⟩]) .ret) .skip)) (.seq (.region 6 [⟨(some 4), (.mov (.k (.int .i64 (-1)))), none⟩]) .ret)) .skip)) (.seq (.seq (.region 7 [⟨(some 13), (.mov (.t 6)), none⟩]) (.cond 13 (.seq (.region 8 [⟨(some 4), (.mov (.k (.int .i64 1))), none⟩]) .ret) .skip)) (.seq (.seq (.region 9 [⟨(some 14), (.mov (.t 0)), none⟩, ⟨(some 15), (.mov (.t 1)), none⟩, ⟨(some 16), (.bin .lss (.t 14) (.t 15)), none⟩]) (.cond 16 (.seq (.region 10 [⟨(some 4), (.mov (.k (.int .i64 (-1)))), none⟩]) .ret) .skip)) (.seq (.seq (.region 11 [⟨(some 17), (.mov (.t 0)), none⟩, ⟨(some 18), (.mov (.t 1)), none⟩, ⟨(some 19), (.bin .gtr (.t 17) (.t 18)), none⟩]) (.cond 19 (.seq (.region 12 [⟨(some 4), (.mov (.k (.int .i64 1))), none⟩]) .ret) .skip)) (.seq (.region 13 [⟨(some 4), (.mov (.k (.int .i64 0))), none⟩]) .ret)))))))), [(.t 4)], 20⟩ := by kernel_rfl
theorem ccmp_pf (a b : Int) : PF Try.prog 114 [I a, I b] (I (cmpZ a b)) := by
  have h1 := cnan_pf a
  have h2 := cnan_pf b
  refine PF.of follows_ok ccmp_code (by simp) (by simp [argOk]) (by simp [noV, noC]) fun B hBN hB0 => acode_sound [0, 1, 4, 5, 6, 11, 12, 13, 16, 19] [] _ _ _ ?_
  by_cases c1 : a < b
  · have c2 : ¬ b < a := by omega
    repeat' (first
      | simp [AK_at, acode_seq, acode_region, acode_draw, acode_cond, ↓CB_t, ↓CB_f, CB_u, acode_block, acode_loop, acode_exit, acode_scope, acode_ret, acode_skip, seqQ_n, seqQ_e, seqQ_r, blockQ_n, blockQ_e, blockQ_r, TK_at, OK_at, SK_at, aops_nil, aops_cons, asch_done, asch_one, asch_two, asch_top, astep, aop_eq, isLoud, aloud, aloud1, isWrite, qv, evS, strip, gof, eget, hget, putO, eput, herase, oks, opnds, gS, afin, afin0, binD, arith, D.cells, takeD, fillD, keep, trim, envOf, Fin, aresl, aresv, resD, argOk, pickV, isP, deq, deqs, boundD, slD, lenD, isT, isSl, ptrIds, chunks, mn_min, mx_max, D.cells, splice_one, splice_more, Rbr_at, Rfr_at, frR, frV, frC, flatC, brwR, brwV, brwC, omap, leR, leV, leC, leL, leVL, c1, c2, cmpZ]
      | (refine WCall.pf (h1) ?_ ?_ ?_ ?_; (focus (simp [oks, opnds, gS, gof, eget]; done)); (focus (simp [omap, brwV, brwC, evS, eget, strip, hget, leVL, leV, leC, leL, c1, c2, cmpZ]; done)); (focus (simp [noV, noC, flatR, flatV, flatC, evS, eget, strip, c1, c2, cmpZ]; done)))
      | (refine ⟨WCall.pf (h1) ?_ ?_ ?_ ?_, ?_⟩; (focus (simp [oks, opnds, gS, gof, eget]; done)); (focus (simp [omap, brwV, brwC, evS, eget, strip, hget, leVL, leV, leC, leL, c1, c2, cmpZ]; done)); (focus (simp [noV, noC, flatR, flatV, flatC, evS, eget, strip, c1, c2, cmpZ]; done)))
      | (refine WCall.pf (h2) ?_ ?_ ?_ ?_; (focus (simp [oks, opnds, gS, gof, eget]; done)); (focus (simp [omap, brwV, brwC, evS, eget, strip, hget, leVL, leV, leC, leL, c1, c2, cmpZ]; done)); (focus (simp [noV, noC, flatR, flatV, flatC, evS, eget, strip, c1, c2, cmpZ]; done)))
      | (refine ⟨WCall.pf (h2) ?_ ?_ ?_ ?_, ?_⟩; (focus (simp [oks, opnds, gS, gof, eget]; done)); (focus (simp [omap, brwV, brwC, evS, eget, strip, hget, leVL, leV, leC, leL, c1, c2, cmpZ]; done)); (focus (simp [noV, noC, flatR, flatV, flatC, evS, eget, strip, c1, c2, cmpZ]; done)))
      | (with_reducible refine And.intro (And.intro ?_ ?_) ?_)
      | fail)
  · by_cases c2 : b < a
    · skip
      repeat' (first
        | simp [AK_at, acode_seq, acode_region, acode_draw, acode_cond, ↓CB_t, ↓CB_f, CB_u, acode_block, acode_loop, acode_exit, acode_scope, acode_ret, acode_skip, seqQ_n, seqQ_e, seqQ_r, blockQ_n, blockQ_e, blockQ_r, TK_at, OK_at, SK_at, aops_nil, aops_cons, asch_done, asch_one, asch_two, asch_top, astep, aop_eq, isLoud, aloud, aloud1, isWrite, qv, evS, strip, gof, eget, hget, putO, eput, herase, oks, opnds, gS, afin, afin0, binD, arith, D.cells, takeD, fillD, keep, trim, envOf, Fin, aresl, aresv, resD, argOk, pickV, isP, deq, deqs, boundD, slD, lenD, isT, isSl, ptrIds, chunks, mn_min, mx_max, D.cells, splice_one, splice_more, Rbr_at, Rfr_at, frR, frV, frC, flatC, brwR, brwV, brwC, omap, leR, leV, leC, leL, leVL, c1, c2, cmpZ]
        | (refine WCall.pf (h1) ?_ ?_ ?_ ?_; (focus (simp [oks, opnds, gS, gof, eget]; done)); (focus (simp [omap, brwV, brwC, evS, eget, strip, hget, leVL, leV, leC, leL, c1, c2, cmpZ]; done)); (focus (simp [noV, noC, flatR, flatV, flatC, evS, eget, strip, c1, c2, cmpZ]; done)))
        | (refine ⟨WCall.pf (h1) ?_ ?_ ?_ ?_, ?_⟩; (focus (simp [oks, opnds, gS, gof, eget]; done)); (focus (simp [omap, brwV, brwC, evS, eget, strip, hget, leVL, leV, leC, leL, c1, c2, cmpZ]; done)); (focus (simp [noV, noC, flatR, flatV, flatC, evS, eget, strip, c1, c2, cmpZ]; done)))
        | (refine WCall.pf (h2) ?_ ?_ ?_ ?_; (focus (simp [oks, opnds, gS, gof, eget]; done)); (focus (simp [omap, brwV, brwC, evS, eget, strip, hget, leVL, leV, leC, leL, c1, c2, cmpZ]; done)); (focus (simp [noV, noC, flatR, flatV, flatC, evS, eget, strip, c1, c2, cmpZ]; done)))
        | (refine ⟨WCall.pf (h2) ?_ ?_ ?_ ?_, ?_⟩; (focus (simp [oks, opnds, gS, gof, eget]; done)); (focus (simp [omap, brwV, brwC, evS, eget, strip, hget, leVL, leV, leC, leL, c1, c2, cmpZ]; done)); (focus (simp [noV, noC, flatR, flatV, flatC, evS, eget, strip, c1, c2, cmpZ]; done)))
        | (with_reducible refine And.intro (And.intro ?_ ?_) ?_)
        | fail)
    · skip
      repeat' (first
        | simp [AK_at, acode_seq, acode_region, acode_draw, acode_cond, ↓CB_t, ↓CB_f, CB_u, acode_block, acode_loop, acode_exit, acode_scope, acode_ret, acode_skip, seqQ_n, seqQ_e, seqQ_r, blockQ_n, blockQ_e, blockQ_r, TK_at, OK_at, SK_at, aops_nil, aops_cons, asch_done, asch_one, asch_two, asch_top, astep, aop_eq, isLoud, aloud, aloud1, isWrite, qv, evS, strip, gof, eget, hget, putO, eput, herase, oks, opnds, gS, afin, afin0, binD, arith, D.cells, takeD, fillD, keep, trim, envOf, Fin, aresl, aresv, resD, argOk, pickV, isP, deq, deqs, boundD, slD, lenD, isT, isSl, ptrIds, chunks, mn_min, mx_max, D.cells, splice_one, splice_more, Rbr_at, Rfr_at, frR, frV, frC, flatC, brwR, brwV, brwC, omap, leR, leV, leC, leL, leVL, c1, c2, cmpZ]
        | (refine WCall.pf (h1) ?_ ?_ ?_ ?_; (focus (simp [oks, opnds, gS, gof, eget]; done)); (focus (simp [omap, brwV, brwC, evS, eget, strip, hget, leVL, leV, leC, leL, c1, c2, cmpZ]; done)); (focus (simp [noV, noC, flatR, flatV, flatC, evS, eget, strip, c1, c2, cmpZ]; done)))
        | (refine ⟨WCall.pf (h1) ?_ ?_ ?_ ?_, ?_⟩; (focus (simp [oks, opnds, gS, gof, eget]; done)); (focus (simp [omap, brwV, brwC, evS, eget, strip, hget, leVL, leV, leC, leL, c1, c2, cmpZ]; done)); (focus (simp [noV, noC, flatR, flatV, flatC, evS, eget, strip, c1, c2, cmpZ]; done)))
        | (refine WCall.pf (h2) ?_ ?_ ?_ ?_; (focus (simp [oks, opnds, gS, gof, eget]; done)); (focus (simp [omap, brwV, brwC, evS, eget, strip, hget, leVL, leV, leC, leL, c1, c2, cmpZ]; done)); (focus (simp [noV, noC, flatR, flatV, flatC, evS, eget, strip, c1, c2, cmpZ]; done)))
        | (refine ⟨WCall.pf (h2) ?_ ?_ ?_ ?_, ?_⟩; (focus (simp [oks, opnds, gS, gof, eget]; done)); (focus (simp [omap, brwV, brwC, evS, eget, strip, hget, leVL, leV, leC, leL, c1, c2, cmpZ]; done)); (focus (simp [noV, noC, flatR, flatV, flatC, evS, eget, strip, c1, c2, cmpZ]; done)))
        | (with_reducible refine And.intro (And.intro ?_ ?_) ?_)
        | fail)
theorem cor_code : cfun Try.prog [] 113 = some ⟨(.seq (.region 0 [⟨(some 2), (.mov (.k (.int .i64 0))), none⟩]) (.seq (.region 1 [⟨(some 3), (.mov (.k (.int .i64 0))), none⟩]) (.seq (.seq (.region 2 [⟨(some 6), (.mov (.t 0)), none⟩, ⟨(some 7), (.len (.t 6)), none⟩, ⟨(some 8), (.mov (.k (.int .i64 0))), none⟩]) (.block 0 (.loop (.seq (.region 3 [⟨(some 9), (.bin .lss (.t 8) (.t 7)), none⟩]) (.seq (.cond 9 .skip (.exit 0)) (.seq (.block 1 (.seq (.region 4 [⟨(some 10), (.iads 1 (.t 6) (.t 8)), none⟩, ⟨(some 11), (.load false 1 (.t 10)), none⟩, ⟨(some 5), (.mov (.t 11)), none⟩]) (.seq (.region 5 [⟨(some 12), (.mov (.t 5)), none⟩, ⟨(some 13), (.mov (.t 3)), none⟩, ⟨(some 14), (.bin .neq (.t 12) (.t 13)), none⟩]) (.cond 14 (.seq (.region 6 [⟨(some 15), (.mov (.t 5)), none⟩, ⟨(some 2), (.mov (.t 15)), none⟩]) .ret) .skip)))) (.region 7 [⟨(some 16), (.bin .add (.t 8) (.k (.int .i64 1))), none⟩, ⟨(some 8), (.mov (.t 16)), none⟩]))))))) (.seq (.region 8 [⟨(some 17), (.mov (.t 3)), none⟩, ⟨(some 2), (.mov (.t 17)), none⟩]) .ret)))), [(.t 2)], 18⟩ := by kernel_rfl
theorem cor_pf (a b : Int) : PF Try.prog 113 [.rows 1 [[I a], [I b]]] (I (if a = 0 then b else a)) := by
  refine PF.of follows_ok cor_code (by simp) (by simp [argOk]) (by simp [noV, noC]) fun B hBN hB0 => acode_sound [0, 2, 3, 5, 6, 7, 8, 9, 14] [] _ _ _ ?_
  simp [AK_at, acode_seq, acode_region, acode_draw, acode_cond, ↓CB_t, ↓CB_f, CB_u, acode_block, acode_loop, acode_exit, acode_scope, acode_ret, acode_skip, seqQ_n, seqQ_e, seqQ_r, blockQ_n, blockQ_e, blockQ_r, TK_at, OK_at, SK_at, aops_nil, aops_cons, asch_done, asch_one, asch_two, asch_top, astep, aop_eq, isLoud, aloud, aloud1, isWrite, qv, evS, strip, gof, eget, hget, putO, eput, herase, oks, opnds, gS, afin, afin0, binD, arith, D.cells, takeD, fillD, keep, trim, envOf, Fin, aresl, aresv, resD, argOk, pickV, isP, deq, deqs, boundD, slD, lenD, isT, isSl, ptrIds, chunks, mn_min, mx_max, D.cells, splice_one, splice_more, Rbr_at, Rfr_at, frR, frV, frC, flatC, brwR, brwV, brwC, omap, leR, leV, leC, leL, leVL]
  refine W.loopS (fun i : Nat => ⟨[(8, I i), (7, I 2), (6, D.rows 1 [[I a], [I b]]), (3, I 0), (2, I 0), (0, D.rows 1 [[I a], [I b]])], [], 0⟩)
    (fun n i => n = 2 - i ∧ i ≤ 2 ∧ (1 ≤ i → a = 0) ∧ (2 ≤ i → b = 0)) ?_ ?_
  · exact ⟨_, 0, (Gh.ren [] (by simp [hB0]) (by simp [hB0] <;> decide) (by simp [eget, rnS, rnR, rnV, rnC, LtS, LtR, LtV, LtC, lget]) (by simp [hget, rnO, rnC, LtO, LtC, lget]) (.inr rfl)), rfl, by omega, fun h => by omega, fun h => by omega⟩
  rintro n i ⟨hn, hi, ha, hb⟩
  refine acode_sound [0, 2, 3, 5, 6, 7, 8, 9, 14] [] _ _ _ ?_
  match i, hi with
  | 0, _ =>
    by_cases h : a = 0
    · have ii : InR 1 := inW (by omega) (by omega)
      simp [AK_at, acode_seq, acode_region, acode_draw, acode_cond, ↓CB_t, ↓CB_f, CB_u, acode_block, acode_loop, acode_exit, acode_scope, acode_ret, acode_skip, seqQ_n, seqQ_e, seqQ_r, blockQ_n, blockQ_e, blockQ_r, TK_at, OK_at, SK_at, aops_nil, aops_cons, asch_done, asch_one, asch_two, asch_top, astep, aop_eq, isLoud, aloud, aloud1, isWrite, qv, evS, strip, gof, eget, hget, putO, eput, herase, oks, opnds, gS, afin, afin0, binD, arith, D.cells, takeD, fillD, keep, trim, envOf, Fin, aresl, aresv, resD, argOk, pickV, isP, deq, deqs, boundD, slD, lenD, isT, isSl, ptrIds, chunks, mn_min, mx_max, D.cells, splice_one, splice_more, Rbr_at, Rfr_at, frR, frV, frC, flatC, brwR, brwV, brwC, omap, leR, leV, leC, leL, leVL, h, ii]
      exact ⟨_, 1, (Gh.ren [] (by simp [hB0]) (by simp [hB0] <;> decide) (by simp [eget, rnS, rnR, rnV, rnC, LtS, LtR, LtV, LtC, lget, h]) (by simp [hget, rnO, rnC, LtO, LtC, lget, h]) (.inr rfl)), by omega, rfl, by omega, fun h => by omega⟩
    · simp [AK_at, acode_seq, acode_region, acode_draw, acode_cond, ↓CB_t, ↓CB_f, CB_u, acode_block, acode_loop, acode_exit, acode_scope, acode_ret, acode_skip, seqQ_n, seqQ_e, seqQ_r, blockQ_n, blockQ_e, blockQ_r, TK_at, OK_at, SK_at, aops_nil, aops_cons, asch_done, asch_one, asch_two, asch_top, astep, aop_eq, isLoud, aloud, aloud1, isWrite, qv, evS, strip, gof, eget, hget, putO, eput, herase, oks, opnds, gS, afin, afin0, binD, arith, D.cells, takeD, fillD, keep, trim, envOf, Fin, aresl, aresv, resD, argOk, pickV, isP, deq, deqs, boundD, slD, lenD, isT, isSl, ptrIds, chunks, mn_min, mx_max, D.cells, splice_one, splice_more, Rbr_at, Rfr_at, frR, frV, frC, flatC, brwR, brwV, brwC, omap, leR, leV, leC, leL, leVL, h]
  | 1, _ =>
    have h := ha (by omega)
    by_cases h2 : b = 0
    · have ii : InR 2 := inW (by omega) (by omega)
      simp [AK_at, acode_seq, acode_region, acode_draw, acode_cond, ↓CB_t, ↓CB_f, CB_u, acode_block, acode_loop, acode_exit, acode_scope, acode_ret, acode_skip, seqQ_n, seqQ_e, seqQ_r, blockQ_n, blockQ_e, blockQ_r, TK_at, OK_at, SK_at, aops_nil, aops_cons, asch_done, asch_one, asch_two, asch_top, astep, aop_eq, isLoud, aloud, aloud1, isWrite, qv, evS, strip, gof, eget, hget, putO, eput, herase, oks, opnds, gS, afin, afin0, binD, arith, D.cells, takeD, fillD, keep, trim, envOf, Fin, aresl, aresv, resD, argOk, pickV, isP, deq, deqs, boundD, slD, lenD, isT, isSl, ptrIds, chunks, mn_min, mx_max, D.cells, splice_one, splice_more, Rbr_at, Rfr_at, frR, frV, frC, flatC, brwR, brwV, brwC, omap, leR, leV, leC, leL, leVL, h, h2, ii]
      exact ⟨_, 2, (Gh.ren [] (by simp [hB0]) (by simp [hB0] <;> decide) (by simp [eget, rnS, rnR, rnV, rnC, LtS, LtR, LtV, LtC, lget, h, h2]) (by simp [hget, rnO, rnC, LtO, LtC, lget, h, h2]) (.inr rfl)), by omega, rfl, by omega⟩
    · simp [AK_at, acode_seq, acode_region, acode_draw, acode_cond, ↓CB_t, ↓CB_f, CB_u, acode_block, acode_loop, acode_exit, acode_scope, acode_ret, acode_skip, seqQ_n, seqQ_e, seqQ_r, blockQ_n, blockQ_e, blockQ_r, TK_at, OK_at, SK_at, aops_nil, aops_cons, asch_done, asch_one, asch_two, asch_top, astep, aop_eq, isLoud, aloud, aloud1, isWrite, qv, evS, strip, gof, eget, hget, putO, eput, herase, oks, opnds, gS, afin, afin0, binD, arith, D.cells, takeD, fillD, keep, trim, envOf, Fin, aresl, aresv, resD, argOk, pickV, isP, deq, deqs, boundD, slD, lenD, isT, isSl, ptrIds, chunks, mn_min, mx_max, D.cells, splice_one, splice_more, Rbr_at, Rfr_at, frR, frV, frC, flatC, brwR, brwV, brwC, omap, leR, leV, leC, leL, leVL, h, h2]
  | 2, _ =>
    have h := ha (by omega)
    have h2 := hb (by omega)
    simp [AK_at, acode_seq, acode_region, acode_draw, acode_cond, ↓CB_t, ↓CB_f, CB_u, acode_block, acode_loop, acode_exit, acode_scope, acode_ret, acode_skip, seqQ_n, seqQ_e, seqQ_r, blockQ_n, blockQ_e, blockQ_r, TK_at, OK_at, SK_at, aops_nil, aops_cons, asch_done, asch_one, asch_two, asch_top, astep, aop_eq, isLoud, aloud, aloud1, isWrite, qv, evS, strip, gof, eget, hget, putO, eput, herase, oks, opnds, gS, afin, afin0, binD, arith, D.cells, takeD, fillD, keep, trim, envOf, Fin, aresl, aresv, resD, argOk, pickV, isP, deq, deqs, boundD, slD, lenD, isT, isSl, ptrIds, chunks, mn_min, mx_max, D.cells, splice_one, splice_more, Rbr_at, Rfr_at, frR, frV, frC, flatC, brwR, brwV, brwC, omap, leR, leV, leC, leL, leVL, h, h2]
theorem word_code : cfun Try.prog [] 103 = some ⟨(.seq (.region 0 [⟨(some 2), (.box (.t 0)), none⟩, ⟨(some 3), (.box (.t 1)), none⟩, ⟨(some 4), (.mov (.k (.int .i64 0))), none⟩]) (.seq (.draw 1 (.one true ⟨(some 5), (.fad 0 (.t 2)), none⟩ (.one true ⟨(some 6), (.load false 1 (.t 5)), none⟩ (.one true ⟨(some 7), (.fad 0 (.t 3)), none⟩ (.one true ⟨(some 8), (.load false 1 (.t 7)), none⟩ (.one true ⟨(some 10), (.fad 1 (.t 2)), none⟩ (.one true ⟨(some 11), (.load false 1 (.t 10)), none⟩ (.one true ⟨(some 12), (.fad 1 (.t 3)), none⟩ (.one true ⟨(some 13), (.load false 1 (.t 12)), none⟩ (.one true ⟨(some 9), (.call 114 [(.t 6), (.t 8)]), none⟩ (.one true ⟨(some 14), (.call 114 [(.t 11), (.t 13)]), none⟩ (.one true ⟨(some 15), (.bslice 1 2 [(.int .i64 0)] [(0, (.t 9)), (1, (.t 14))]), none⟩ (.one true ⟨(some 16), (.call 113 [(.t 15)]), none⟩ (.one true ⟨(some 4), (.mov (.t 16)), none⟩ .done)))))))))))))) .ret)), [(.t 4)], 17⟩ := by kernel_rfl
theorem word_pf (a b c d : Int) : PF Try.prog 103 [.agg [I a, I b], .agg [I c, I d]] (I (ord2 a b c d)) := by
  have h1 := ccmp_pf a c
  have h2 := ccmp_pf b d
  have h3 := cor_pf (cmpZ a c) (cmpZ b d)
  refine PF.of follows_ok word_code (by simp) (by simp [argOk]) (by simp [noV, noC]) fun B hBN hB0 => acode_sound [0, 1, 2, 3, 4] [] _ _ _ ?_
  repeat' (first
    | simp [AK_at, acode_seq, acode_region, acode_draw, acode_cond, ↓CB_t, ↓CB_f, CB_u, acode_block, acode_loop, acode_exit, acode_scope, acode_ret, acode_skip, seqQ_n, seqQ_e, seqQ_r, blockQ_n, blockQ_e, blockQ_r, TK_at, OK_at, SK_at, aops_nil, aops_cons, asch_done, asch_one, asch_two, asch_top, astep, aop_eq, isLoud, aloud, aloud1, isWrite, qv, evS, strip, gof, eget, hget, putO, eput, herase, oks, opnds, gS, afin, afin0, binD, arith, D.cells, takeD, fillD, keep, trim, envOf, Fin, aresl, aresv, resD, argOk, pickV, isP, deq, deqs, boundD, slD, lenD, isT, isSl, ptrIds, chunks, mn_min, mx_max, D.cells, splice_one, splice_more, Rbr_at, Rfr_at, frR, frV, frC, flatC, brwR, brwV, brwC, omap, leR, leV, leC, leL, leVL, ord2]
    | (refine WCall.pf (h1) ?_ ?_ ?_ ?_; (focus (simp [oks, opnds, gS, gof, eget]; done)); (focus (simp [omap, brwV, brwC, evS, eget, strip, hget, leVL, leV, leC, leL, ord2]; done)); (focus (simp [noV, noC, flatR, flatV, flatC, evS, eget, strip, ord2]; done)))
    | (refine ⟨WCall.pf (h1) ?_ ?_ ?_ ?_, ?_⟩; (focus (simp [oks, opnds, gS, gof, eget]; done)); (focus (simp [omap, brwV, brwC, evS, eget, strip, hget, leVL, leV, leC, leL, ord2]; done)); (focus (simp [noV, noC, flatR, flatV, flatC, evS, eget, strip, ord2]; done)))
    | (refine WCall.pf (h2) ?_ ?_ ?_ ?_; (focus (simp [oks, opnds, gS, gof, eget]; done)); (focus (simp [omap, brwV, brwC, evS, eget, strip, hget, leVL, leV, leC, leL, ord2]; done)); (focus (simp [noV, noC, flatR, flatV, flatC, evS, eget, strip, ord2]; done)))
    | (refine ⟨WCall.pf (h2) ?_ ?_ ?_ ?_, ?_⟩; (focus (simp [oks, opnds, gS, gof, eget]; done)); (focus (simp [omap, brwV, brwC, evS, eget, strip, hget, leVL, leV, leC, leL, ord2]; done)); (focus (simp [noV, noC, flatR, flatV, flatC, evS, eget, strip, ord2]; done)))
    | (refine WCall.pf (h3) ?_ ?_ ?_ ?_; (focus (simp [oks, opnds, gS, gof, eget]; done)); (focus (simp [omap, brwV, brwC, evS, eget, strip, hget, leVL, leV, leC, leL, ord2]; done)); (focus (simp [noV, noC, flatR, flatV, flatC, evS, eget, strip, ord2]; done)))
    | (refine ⟨WCall.pf (h3) ?_ ?_ ?_ ?_, ?_⟩; (focus (simp [oks, opnds, gS, gof, eget]; done)); (focus (simp [omap, brwV, brwC, evS, eget, strip, hget, leVL, leV, leC, leL, ord2]; done)); (focus (simp [noV, noC, flatR, flatV, flatC, evS, eget, strip, ord2]; done)))
    | (with_reducible refine And.intro (And.intro ?_ ?_) ?_)
    | fail)
theorem rord_code : cfun Try.prog [] 84 = some ⟨(.seq (.region 0 [⟨(some 2), (.box (.t 0)), none⟩, ⟨(some 3), (.box (.t 1)), none⟩, ⟨(some 4), (.mov (.k (.int .i64 0))), none⟩]) (.seq (.draw 1 (.one true ⟨(some 5), (.fad 0 (.t 2)), none⟩ (.one true ⟨(some 6), (.load false 1 (.t 5)), none⟩ (.one true ⟨(some 7), (.fad 0 (.t 3)), none⟩ (.one true ⟨(some 8), (.load false 1 (.t 7)), none⟩ (.one true ⟨(some 10), (.fad 1 (.t 2)), none⟩ (.one true ⟨(some 11), (.load false 1 (.t 10)), none⟩ (.one true ⟨(some 12), (.fad 1 (.t 3)), none⟩ (.one true ⟨(some 13), (.load false 1 (.t 12)), none⟩ (.one true ⟨(some 9), (.call 114 [(.t 6), (.t 8)]), none⟩ (.one true ⟨(some 14), (.call 114 [(.t 11), (.t 13)]), none⟩ (.one true ⟨(some 15), (.bslice 1 2 [(.int .i64 0)] [(0, (.t 9)), (1, (.t 14))]), none⟩ (.one true ⟨(some 16), (.call 113 [(.t 15)]), none⟩ (.one true ⟨(some 4), (.mov (.t 16)), none⟩ .done)))))))))))))) .ret)), [(.t 4)], 17⟩ := by kernel_rfl
theorem rord_pf (a b c d : Int) : PF Try.prog 84 [.agg [I a, I b], .agg [I c, I d]] (I (ord2 a b c d)) := by
  have h1 := ccmp_pf a c
  have h2 := ccmp_pf b d
  have h3 := cor_pf (cmpZ a c) (cmpZ b d)
  refine PF.of follows_ok rord_code (by simp) (by simp [argOk]) (by simp [noV, noC]) fun B hBN hB0 => acode_sound [0, 1, 2, 3, 4] [] _ _ _ ?_
  repeat' (first
    | simp [AK_at, acode_seq, acode_region, acode_draw, acode_cond, ↓CB_t, ↓CB_f, CB_u, acode_block, acode_loop, acode_exit, acode_scope, acode_ret, acode_skip, seqQ_n, seqQ_e, seqQ_r, blockQ_n, blockQ_e, blockQ_r, TK_at, OK_at, SK_at, aops_nil, aops_cons, asch_done, asch_one, asch_two, asch_top, astep, aop_eq, isLoud, aloud, aloud1, isWrite, qv, evS, strip, gof, eget, hget, putO, eput, herase, oks, opnds, gS, afin, afin0, binD, arith, D.cells, takeD, fillD, keep, trim, envOf, Fin, aresl, aresv, resD, argOk, pickV, isP, deq, deqs, boundD, slD, lenD, isT, isSl, ptrIds, chunks, mn_min, mx_max, D.cells, splice_one, splice_more, Rbr_at, Rfr_at, frR, frV, frC, flatC, brwR, brwV, brwC, omap, leR, leV, leC, leL, leVL, ord2]
    | (refine WCall.pf (h1) ?_ ?_ ?_ ?_; (focus (simp [oks, opnds, gS, gof, eget]; done)); (focus (simp [omap, brwV, brwC, evS, eget, strip, hget, leVL, leV, leC, leL, ord2]; done)); (focus (simp [noV, noC, flatR, flatV, flatC, evS, eget, strip, ord2]; done)))
    | (refine ⟨WCall.pf (h1) ?_ ?_ ?_ ?_, ?_⟩; (focus (simp [oks, opnds, gS, gof, eget]; done)); (focus (simp [omap, brwV, brwC, evS, eget, strip, hget, leVL, leV, leC, leL, ord2]; done)); (focus (simp [noV, noC, flatR, flatV, flatC, evS, eget, strip, ord2]; done)))
    | (refine WCall.pf (h2) ?_ ?_ ?_ ?_; (focus (simp [oks, opnds, gS, gof, eget]; done)); (focus (simp [omap, brwV, brwC, evS, eget, strip, hget, leVL, leV, leC, leL, ord2]; done)); (focus (simp [noV, noC, flatR, flatV, flatC, evS, eget, strip, ord2]; done)))
    | (refine ⟨WCall.pf (h2) ?_ ?_ ?_ ?_, ?_⟩; (focus (simp [oks, opnds, gS, gof, eget]; done)); (focus (simp [omap, brwV, brwC, evS, eget, strip, hget, leVL, leV, leC, leL, ord2]; done)); (focus (simp [noV, noC, flatR, flatV, flatC, evS, eget, strip, ord2]; done)))
    | (refine WCall.pf (h3) ?_ ?_ ?_ ?_; (focus (simp [oks, opnds, gS, gof, eget]; done)); (focus (simp [omap, brwV, brwC, evS, eget, strip, hget, leVL, leV, leC, leL, ord2]; done)); (focus (simp [noV, noC, flatR, flatV, flatC, evS, eget, strip, ord2]; done)))
    | (refine ⟨WCall.pf (h3) ?_ ?_ ?_ ?_, ?_⟩; (focus (simp [oks, opnds, gS, gof, eget]; done)); (focus (simp [omap, brwV, brwC, evS, eget, strip, hget, leVL, leV, leC, leL, ord2]; done)); (focus (simp [noV, noC, flatR, flatV, flatC, evS, eget, strip, ord2]; done)))
    | (with_reducible refine And.intro (And.intro ?_ ?_) ?_)
    | fail)
theorem tisf_code : cfun Try.prog [] 102 = some ⟨(.seq (.region 0 [⟨(some 4), (.mov (.k (.bool false))), none⟩]) (.seq (.seq (.region 1 [⟨(some 6), (.mov (.t 0)), none⟩, ⟨(some 7), (.len (.t 6)), none⟩, ⟨(some 8), (.bin .sub (.t 7) (.k (.int .i64 1))), none⟩, ⟨(some 5), (.mov (.t 8)), none⟩]) (.block 0 (.loop (.seq (.seq (.region 2 [⟨(some 9), (.mov (.t 5)), none⟩, ⟨(some 10), (.bin .gtr (.t 9) (.k (.int .i64 0))), none⟩]) (.cond 10 .skip (.exit 0))) (.seq (.block 1 (.seq (.draw 4 (.one true ⟨(some 13), (.mov (.t 1)), none⟩ (.one true ⟨(some 14), (.mov (.t 0)), none⟩ (.one true ⟨(some 15), (.mov (.t 5)), none⟩ (.one true ⟨(some 16), (.iads 2 (.t 14) (.t 15)), none⟩ (.one true ⟨(some 17), (.load true 2 (.t 16)), none⟩ (.one true ⟨(some 18), (.mov (.t 0)), none⟩ (.one true ⟨(some 19), (.mov (.t 5)), none⟩ (.one true ⟨(some 20), (.bin .sub (.t 19) (.k (.int .i64 1))), none⟩ (.one true ⟨(some 21), (.iads 2 (.t 18) (.t 20)), none⟩ (.one true ⟨(some 22), (.load true 2 (.t 21)), none⟩ (.one false ⟨(some 23), (.callv (.t 13) [(.t 17), (.t 22)]), none⟩ (.one true ⟨(some 24), (.bin .lss (.t 23) (.k (.int .i64 0))), none⟩ .done))))))))))))) (.cond 24 (.seq (.region 5 [⟨(some 4), (.mov (.k (.bool false))), none⟩]) .ret) .skip))) (.region 3 [⟨(some 11), (.mov (.t 5)), none⟩, ⟨(some 12), (.bin .sub (.t 11) (.k (.int .i64 1))), none⟩, ⟨(some 5), (.mov (.t 12)), none⟩])))))) (.seq (.region 6 [⟨(some 4), (.mov (.k (.bool true))), none⟩]) .ret))), [(.t 4)], 25⟩ := by kernel_rfl
theorem tisf_pf {α : Type} (E : α → List D) (l : List α) (F : FuncId) (cf : α → α → Int) (hl : l.length ≤ 1000000) (hE : Els 2 E l) (hF : ∀ s ∈ l, ∀ t ∈ l, PF Try.prog F [.agg (E s), .agg (E t)] (I (cf s t)))
    (hs : ∀ i (hi : i + 1 < l.length), ¬ cf l[i + 1] l[i] < 0) : PF Try.prog 102 [.rows 2 (l.map E), .fn F []] (.bool true) := by
  have i0 : InR ((l.length : Int) - 1) := inW (by omega) (by omega)
  refine PF.of follows_ok tisf_code (by simp) (by simp [argOk]) (by simp [noV, noC]) fun B hBN hB0 => acode_sound [0, 1, 4, 5, 10, 24] [] _ _ _ ?_
  simp [AK_at, acode_seq, acode_region, acode_draw, acode_cond, ↓CB_t, ↓CB_f, CB_u, acode_block, acode_loop, acode_exit, acode_scope, acode_ret, acode_skip, seqQ_n, seqQ_e, seqQ_r, blockQ_n, blockQ_e, blockQ_r, TK_at, OK_at, SK_at, aops_nil, aops_cons, asch_done, asch_one, asch_two, asch_top, astep, aop_eq, isLoud, aloud, aloud1, isWrite, qv, evS, strip, gof, eget, hget, putO, eput, herase, oks, opnds, gS, afin, afin0, binD, arith, D.cells, takeD, fillD, keep, trim, envOf, Fin, aresl, aresv, resD, argOk, pickV, isP, deq, deqs, boundD, slD, lenD, isT, isSl, ptrIds, chunks, mn_min, mx_max, D.cells, splice_one, splice_more, Rbr_at, Rfr_at, frR, frV, frC, flatC, brwR, brwV, brwC, omap, leR, leV, leC, leL, leVL, i0]
  refine W.loopS (fun z : Int => ⟨[(5, I z), (4, .bool false), (1, .fn F []), (0, D.rows 2 (l.map E))], [], 0⟩)
    (fun n z => n = (z + 1).toNat ∧ -1 ≤ z ∧ z < l.length) ?_ ?_
  · exact ⟨_, (l.length : Int) - 1, (Gh.ren [] (by simp [hB0]) (by simp [hB0] <;> decide) (by simp [eget, rnS, rnR, rnV, rnC, LtS, LtR, LtV, LtC, lget]) (by simp [hget, rnO, rnC, LtO, LtC, lget]) (.inr rfl)), rfl, by omega, by omega⟩
  rintro n z ⟨hn, h1, h2⟩
  refine acode_sound [0, 1, 4, 5, 10, 24] [] _ _ _ ?_
  by_cases hz : 0 < z
  · obtain ⟨i, rfl⟩ : ∃ i : Nat, z = (i : Int) + 1 := ⟨(z - 1).toNat, by omega⟩
    have hil : i + 1 < l.length := by omega
    have hil0 : i < l.length := by omega
    have hm1 : l[i + 1] ∈ l := List.getElem_mem hil
    have hm0 : l[i] ∈ l := List.getElem_mem hil0
    have hE1 := hE _ hm1
    have hE0 := hE _ hm0
    have hFo := hF _ hm1 _ hm0
    have hsi := hs i hil
    obtain ⟨o, ho⟩ : ∃ o, o = l[i + 1] := ⟨_, rfl⟩
    obtain ⟨p, hp⟩ : ∃ p, p = l[i] := ⟨_, rfl⟩
    rw [← ho] at hE1 hFo hsi
    rw [← hp] at hE0 hFo hsi
    obtain ⟨a1, a2⟩ := hE1
    obtain ⟨b1, b2⟩ := hE0
    have a3 : (E o).take 2 = E o := List.take_of_length_le (by omega)
    have a4 := fun H n => brw_T H n (E o) a2
    have b3 : (E p).take 2 = E p := List.take_of_length_le (by omega)
    have b4 := fun H n => brw_T H n (E p) b2
    have ii : InR (i : Int) := inW (by omega) (by omega)
    have e1 : (i : Int) + 1 - 1 = i := by omega
    have e2 : ((i : Int) + 1).toNat = i + 1 := by omega
    have p1 : (0 : Int) < (i : Int) + 1 := by omega
    have p2 : (0 : Int) ≤ (i : Int) + 1 := by omega
    have p3 : (i : Int) + 1 < l.length := by omega
    repeat' (first
      | simp [AK_at, acode_seq, acode_region, acode_draw, acode_cond, ↓CB_t, ↓CB_f, CB_u, acode_block, acode_loop, acode_exit, acode_scope, acode_ret, acode_skip, seqQ_n, seqQ_e, seqQ_r, blockQ_n, blockQ_e, blockQ_r, TK_at, OK_at, SK_at, aops_nil, aops_cons, asch_done, asch_one, asch_two, asch_top, astep, aop_eq, isLoud, aloud, aloud1, isWrite, qv, evS, strip, gof, eget, hget, putO, eput, herase, oks, opnds, gS, afin, afin0, binD, arith, D.cells, takeD, fillD, keep, trim, envOf, Fin, aresl, aresv, resD, argOk, pickV, isP, deq, deqs, boundD, slD, lenD, isT, isSl, ptrIds, chunks, mn_min, mx_max, D.cells, splice_one, splice_more, Rbr_at, Rfr_at, frR, frV, frC, flatC, brwR, brwV, brwC, omap, leR, leV, leC, leL, leVL, hil, hil0, ← ho, ← hp, a1, a3, a4, b1, b3, b4, ii, e1, e2, p1, p2, p3, leL_refl, hsi]
      | (refine WCall.pfv (hFo) ?_ rfl ?_ ?_ ?_; (focus (simp [oks, opnds, gS, gof, eget]; done)); (focus (simp [omap, brwV, brwC, evS, eget, strip, hget, leVL, leV, leC, leL, hil, hil0, ← ho, ← hp, a1, a3, a4, b1, b3, b4, ii, e1, e2, p1, p2, p3, leL_refl, hsi]; done)); (focus (simp [noV, noC, flatR, flatV, flatC, evS, eget, strip, hil, hil0, ← ho, ← hp, a1, a3, a4, b1, b3, b4, ii, e1, e2, p1, p2, p3, leL_refl, hsi]; done)))
      | (refine ⟨WCall.pfv (hFo) ?_ rfl ?_ ?_ ?_, ?_⟩; (focus (simp [oks, opnds, gS, gof, eget]; done)); (focus (simp [omap, brwV, brwC, evS, eget, strip, hget, leVL, leV, leC, leL, hil, hil0, ← ho, ← hp, a1, a3, a4, b1, b3, b4, ii, e1, e2, p1, p2, p3, leL_refl, hsi]; done)); (focus (simp [noV, noC, flatR, flatV, flatC, evS, eget, strip, hil, hil0, ← ho, ← hp, a1, a3, a4, b1, b3, b4, ii, e1, e2, p1, p2, p3, leL_refl, hsi]; done)))
      | (with_reducible refine And.intro (And.intro ?_ ?_) ?_)
      | fail)
    exact ⟨_, (i : Int), (Gh.ren [] (by simp [hB0]) (by simp [hB0] <;> decide) (by simp [eget, rnS, rnR, rnV, rnC, LtS, LtR, LtV, LtC, lget]) (by simp [hget, rnO, rnC, LtO, LtC, lget]) (.inr rfl)), by omega, rfl, by omega, by omega⟩
  · simp [AK_at, acode_seq, acode_region, acode_draw, acode_cond, ↓CB_t, ↓CB_f, CB_u, acode_block, acode_loop, acode_exit, acode_scope, acode_ret, acode_skip, seqQ_n, seqQ_e, seqQ_r, blockQ_n, blockQ_e, blockQ_r, TK_at, OK_at, SK_at, aops_nil, aops_cons, asch_done, asch_one, asch_two, asch_top, astep, aop_eq, isLoud, aloud, aloud1, isWrite, qv, evS, strip, gof, eget, hget, putO, eput, herase, oks, opnds, gS, afin, afin0, binD, arith, D.cells, takeD, fillD, keep, trim, envOf, Fin, aresl, aresv, resD, argOk, pickV, isP, deq, deqs, boundD, slD, lenD, isT, isSl, ptrIds, chunks, mn_min, mx_max, D.cells, splice_one, splice_more, Rbr_at, Rfr_at, frR, frV, frC, flatC, brwR, brwV, brwC, omap, leR, leV, leC, leL, leVL, hz]
theorem speq_code : cfun Try.prog [] 109 = some ⟨(.seq (.region 0 [⟨(some 4), (.mov (.k (.bool false))), none⟩]) (.seq (.seq (.region 1 [⟨(some 6), (.mov (.t 0)), none⟩, ⟨(some 7), (.len (.t 6)), none⟩, ⟨(some 8), (.mov (.t 1)), none⟩, ⟨(some 9), (.len (.t 8)), none⟩, ⟨(some 10), (.bin .neq (.t 7) (.t 9)), none⟩]) (.cond 10 (.seq (.region 2 [⟨(some 4), (.mov (.k (.bool false))), none⟩]) .ret) .skip)) (.seq (.seq (.region 3 [⟨(some 11), (.mov (.t 0)), none⟩, ⟨(some 12), (.len (.t 11)), none⟩, ⟨(some 13), (.mov (.k (.int .i64 0))), none⟩]) (.block 0 (.loop (.seq (.region 4 [⟨(some 14), (.bin .lss (.t 13) (.t 12)), none⟩]) (.seq (.cond 14 .skip (.exit 0)) (.seq (.block 1 (.seq (.region 5 [⟨(some 15), (.mov (.t 13)), none⟩, ⟨(some 5), (.mov (.t 15)), none⟩]) (.seq (.draw 6 (.one true ⟨(some 16), (.mov (.t 0)), none⟩ (.one true ⟨(some 17), (.mov (.t 5)), none⟩ (.one true ⟨(some 18), (.iads 2 (.t 16) (.t 17)), none⟩ (.one true ⟨(some 19), (.load true 2 (.t 18)), none⟩ (.one true ⟨(some 20), (.mov (.t 1)), none⟩ (.one true ⟨(some 21), (.mov (.t 5)), none⟩ (.one true ⟨(some 22), (.iads 2 (.t 20) (.t 21)), none⟩ (.one true ⟨(some 23), (.load true 2 (.t 22)), none⟩ (.one true ⟨(some 24), (.eqa true [.i, .i] (.t 19) (.t 23)), none⟩ .done)))))))))) (.cond 24 (.seq (.region 7 [⟨(some 4), (.mov (.k (.bool false))), none⟩]) .ret) .skip)))) (.region 8 [⟨(some 25), (.bin .add (.t 13) (.k (.int .i64 1))), none⟩, ⟨(some 13), (.mov (.t 25)), none⟩]))))))) (.seq (.region 9 [⟨(some 4), (.mov (.k (.bool true))), none⟩]) .ret)))), [(.t 4)], 26⟩ := by kernel_rfl
theorem speq_pf (l : List (Int × Int)) (hl : l.length ≤ 1000000) : PF Try.prog 109 [.rows 2 (l.map fun s => [I s.1, I s.2]), .rows 2 (l.map fun s => [I s.1, I s.2])] (.bool true) := by
  refine PF.of follows_ok speq_code (by simp) (by simp [argOk]) (by simp [noV, noC]) fun B hBN hB0 => acode_sound [0, 1, 4, 5, 10, 12, 13, 14, 24] [] _ _ _ ?_
  simp [AK_at, acode_seq, acode_region, acode_draw, acode_cond, ↓CB_t, ↓CB_f, CB_u, acode_block, acode_loop, acode_exit, acode_scope, acode_ret, acode_skip, seqQ_n, seqQ_e, seqQ_r, blockQ_n, blockQ_e, blockQ_r, TK_at, OK_at, SK_at, aops_nil, aops_cons, asch_done, asch_one, asch_two, asch_top, astep, aop_eq, isLoud, aloud, aloud1, isWrite, qv, evS, strip, gof, eget, hget, putO, eput, herase, oks, opnds, gS, afin, afin0, binD, arith, D.cells, takeD, fillD, keep, trim, envOf, Fin, aresl, aresv, resD, argOk, pickV, isP, deq, deqs, boundD, slD, lenD, isT, isSl, ptrIds, chunks, mn_min, mx_max, D.cells, splice_one, splice_more, Rbr_at, Rfr_at, frR, frV, frC, flatC, brwR, brwV, brwC, omap, leR, leV, leC, leL, leVL]
  refine W.loopS (fun i : Nat => ⟨[(13, I i), (12, I l.length), (4, .bool false), (1, D.rows 2 (l.map fun s => [I s.1, I s.2])), (0, D.rows 2 (l.map fun s => [I s.1, I s.2]))], [], 0⟩)
    (fun n i => n = l.length - i ∧ i ≤ l.length) ?_ ?_
  · exact ⟨_, 0, (Gh.ren [] (by simp [hB0]) (by simp [hB0] <;> decide) (by simp [eget, rnS, rnR, rnV, rnC, LtS, LtR, LtV, LtC, lget]) (by simp [hget, rnO, rnC, LtO, LtC, lget]) (.inr rfl)), rfl, by omega⟩
  rintro n i ⟨hn, hi⟩
  refine acode_sound [0, 1, 4, 5, 10, 12, 13, 14, 24] [] _ _ _ ?_
  by_cases hlt : i < l.length
  · have ii : InR ((i : Int) + 1) := inW (by omega) (by omega)
    simp [AK_at, acode_seq, acode_region, acode_draw, acode_cond, ↓CB_t, ↓CB_f, CB_u, acode_block, acode_loop, acode_exit, acode_scope, acode_ret, acode_skip, seqQ_n, seqQ_e, seqQ_r, blockQ_n, blockQ_e, blockQ_r, TK_at, OK_at, SK_at, aops_nil, aops_cons, asch_done, asch_one, asch_two, asch_top, astep, aop_eq, isLoud, aloud, aloud1, isWrite, qv, evS, strip, gof, eget, hget, putO, eput, herase, oks, opnds, gS, afin, afin0, binD, arith, D.cells, takeD, fillD, keep, trim, envOf, Fin, aresl, aresv, resD, argOk, pickV, isP, deq, deqs, boundD, slD, lenD, isT, isSl, ptrIds, chunks, mn_min, mx_max, D.cells, splice_one, splice_more, Rbr_at, Rfr_at, frR, frV, frC, flatC, brwR, brwV, brwC, omap, leR, leV, leC, leL, leVL, hlt, ii]
    exact ⟨_, i + 1, (Gh.ren [] (by simp [hB0]) (by simp [hB0] <;> decide) (by simp [eget, rnS, rnR, rnV, rnC, LtS, LtR, LtV, LtC, lget]) (by simp [hget, rnO, rnC, LtO, LtC, lget]) (.inr rfl)), by omega, rfl, by omega⟩
  · obtain rfl : i = l.length := by omega
    simp [AK_at, acode_seq, acode_region, acode_draw, acode_cond, ↓CB_t, ↓CB_f, CB_u, acode_block, acode_loop, acode_exit, acode_scope, acode_ret, acode_skip, seqQ_n, seqQ_e, seqQ_r, blockQ_n, blockQ_e, blockQ_r, TK_at, OK_at, SK_at, aops_nil, aops_cons, asch_done, asch_one, asch_two, asch_top, astep, aop_eq, isLoud, aloud, aloud1, isWrite, qv, evS, strip, gof, eget, hget, putO, eput, herase, oks, opnds, gS, afin, afin0, binD, arith, D.cells, takeD, fillD, keep, trim, envOf, Fin, aresl, aresv, resD, argOk, pickV, isP, deq, deqs, boundD, slD, lenD, isT, isSl, ptrIds, chunks, mn_min, mx_max, D.cells, splice_one, splice_more, Rbr_at, Rfr_at, frR, frV, frC, flatC, brwR, brwV, brwC, omap, leR, leV, leC, leL, leVL]
theorem iidx_code : cfun Try.prog [] 118 = some ⟨(.seq (.region 0 [⟨(some 4), (.mov (.k (.int .i64 0))), none⟩]) (.seq (.seq (.region 1 [⟨(some 6), (.mov (.t 0)), none⟩, ⟨(some 7), (.len (.t 6)), none⟩, ⟨(some 8), (.mov (.k (.int .i64 0))), none⟩]) (.block 0 (.loop (.seq (.region 2 [⟨(some 9), (.bin .lss (.t 8) (.t 7)), none⟩]) (.seq (.cond 9 .skip (.exit 0)) (.seq (.block 1 (.seq (.region 3 [⟨(some 10), (.mov (.t 8)), none⟩, ⟨(some 5), (.mov (.t 10)), none⟩]) (.seq (.region 4 [⟨(some 11), (.mov (.t 1)), none⟩, ⟨(some 12), (.mov (.t 0)), none⟩, ⟨(some 13), (.mov (.t 5)), none⟩, ⟨(some 14), (.iads 1 (.t 12) (.t 13)), none⟩, ⟨(some 15), (.load false 1 (.t 14)), none⟩, ⟨(some 16), (.bin .eql (.t 11) (.t 15)), none⟩]) (.cond 16 (.seq (.region 5 [⟨(some 17), (.mov (.t 5)), none⟩, ⟨(some 4), (.mov (.t 17)), none⟩]) .ret) .skip)))) (.region 6 [⟨(some 18), (.bin .add (.t 8) (.k (.int .i64 1))), none⟩, ⟨(some 8), (.mov (.t 18)), none⟩]))))))) (.seq (.region 7 [⟨(some 4), (.mov (.k (.int .i64 (-1)))), none⟩]) .ret))), [(.t 4)], 19⟩ := by kernel_rfl
theorem iidx_pf (l : List Int) (b : Int) (hl : l.length ≤ 1000000) : PF Try.prog 118 [.rows 1 (l.map fun z => [I z]), I b] (I (idxZ (fun z => decide (b = z)) l)) := by
  refine PF.of follows_ok iidx_code (by simp) (by simp [argOk]) (by simp [noV, noC]) fun B hBN hB0 => acode_sound [0, 1, 4, 5, 7, 8, 9, 16] [] _ _ _ ?_
  simp [AK_at, acode_seq, acode_region, acode_draw, acode_cond, ↓CB_t, ↓CB_f, CB_u, acode_block, acode_loop, acode_exit, acode_scope, acode_ret, acode_skip, seqQ_n, seqQ_e, seqQ_r, blockQ_n, blockQ_e, blockQ_r, TK_at, OK_at, SK_at, aops_nil, aops_cons, asch_done, asch_one, asch_two, asch_top, astep, aop_eq, isLoud, aloud, aloud1, isWrite, qv, evS, strip, gof, eget, hget, putO, eput, herase, oks, opnds, gS, afin, afin0, binD, arith, D.cells, takeD, fillD, keep, trim, envOf, Fin, aresl, aresv, resD, argOk, pickV, isP, deq, deqs, boundD, slD, lenD, isT, isSl, ptrIds, chunks, mn_min, mx_max, D.cells, splice_one, splice_more, Rbr_at, Rfr_at, frR, frV, frC, flatC, brwR, brwV, brwC, omap, leR, leV, leC, leL, leVL]
  refine W.loopS (fun i : Nat => ⟨[(8, I i), (7, I l.length), (4, I 0), (1, I b), (0, D.rows 1 (l.map fun z => [I z]))], [], 0⟩)
    (fun n i => n = l.length - i ∧ i ≤ l.length ∧ ∀ j (hj : j < l.length), j < i → ¬ b = l[j]) ?_ ?_
  · exact ⟨_, 0, (Gh.ren [] (by simp [hB0]) (by simp [hB0] <;> decide) (by simp [eget, rnS, rnR, rnV, rnC, LtS, LtR, LtV, LtC, lget]) (by simp [hget, rnO, rnC, LtO, LtC, lget]) (.inr rfl)), rfl, by omega, fun j _ h => by omega⟩
  rintro n i ⟨hn, hi, hb⟩
  refine acode_sound [0, 1, 4, 5, 7, 8, 9, 16] [] _ _ _ ?_
  by_cases hlt : i < l.length
  · have ii : InR ((i : Int) + 1) := inW (by omega) (by omega)
    by_cases hq : b = l[i]
    · have hz := idxZ_at (fun z => decide (b = z)) l i hlt (fun j hj => by simpa using hb j (by omega) hj) (by simpa using hq)
      simp [AK_at, acode_seq, acode_region, acode_draw, acode_cond, ↓CB_t, ↓CB_f, CB_u, acode_block, acode_loop, acode_exit, acode_scope, acode_ret, acode_skip, seqQ_n, seqQ_e, seqQ_r, blockQ_n, blockQ_e, blockQ_r, TK_at, OK_at, SK_at, aops_nil, aops_cons, asch_done, asch_one, asch_two, asch_top, astep, aop_eq, isLoud, aloud, aloud1, isWrite, qv, evS, strip, gof, eget, hget, putO, eput, herase, oks, opnds, gS, afin, afin0, binD, arith, D.cells, takeD, fillD, keep, trim, envOf, Fin, aresl, aresv, resD, argOk, pickV, isP, deq, deqs, boundD, slD, lenD, isT, isSl, ptrIds, chunks, mn_min, mx_max, D.cells, splice_one, splice_more, Rbr_at, Rfr_at, frR, frV, frC, flatC, brwR, brwV, brwC, omap, leR, leV, leC, leL, leVL, hlt, ← hq, hz]
    · simp [AK_at, acode_seq, acode_region, acode_draw, acode_cond, ↓CB_t, ↓CB_f, CB_u, acode_block, acode_loop, acode_exit, acode_scope, acode_ret, acode_skip, seqQ_n, seqQ_e, seqQ_r, blockQ_n, blockQ_e, blockQ_r, TK_at, OK_at, SK_at, aops_nil, aops_cons, asch_done, asch_one, asch_two, asch_top, astep, aop_eq, isLoud, aloud, aloud1, isWrite, qv, evS, strip, gof, eget, hget, putO, eput, herase, oks, opnds, gS, afin, afin0, binD, arith, D.cells, takeD, fillD, keep, trim, envOf, Fin, aresl, aresv, resD, argOk, pickV, isP, deq, deqs, boundD, slD, lenD, isT, isSl, ptrIds, chunks, mn_min, mx_max, D.cells, splice_one, splice_more, Rbr_at, Rfr_at, frR, frV, frC, flatC, brwR, brwV, brwC, omap, leR, leV, leC, leL, leVL, hlt, hq, ii]
      exact ⟨_, i + 1, (Gh.ren [] (by simp [hB0]) (by simp [hB0] <;> decide) (by simp [eget, rnS, rnR, rnV, rnC, LtS, LtR, LtV, LtC, lget]) (by simp [hget, rnO, rnC, LtO, LtC, lget]) (.inr rfl)), by omega, rfl, by omega, fun j hj h => by
        by_cases hji : j = i
        · subst hji; exact hq
        · exact hb j hj (by omega)⟩
  · have hz := idxZ_none (fun z => decide (b = z)) l fun x hx => by
      obtain ⟨j, hj⟩ := List.getElem?_of_mem hx
      obtain ⟨hj2, rfl⟩ := List.getElem?_eq_some_iff.1 hj
      simpa using hb j hj2 (by omega)
    obtain rfl : i = l.length := by omega
    simp [AK_at, acode_seq, acode_region, acode_draw, acode_cond, ↓CB_t, ↓CB_f, CB_u, acode_block, acode_loop, acode_exit, acode_scope, acode_ret, acode_skip, seqQ_n, seqQ_e, seqQ_r, blockQ_n, blockQ_e, blockQ_r, TK_at, OK_at, SK_at, aops_nil, aops_cons, asch_done, asch_one, asch_two, asch_top, astep, aop_eq, isLoud, aloud, aloud1, isWrite, qv, evS, strip, gof, eget, hget, putO, eput, herase, oks, opnds, gS, afin, afin0, binD, arith, D.cells, takeD, fillD, keep, trim, envOf, Fin, aresl, aresv, resD, argOk, pickV, isP, deq, deqs, boundD, slD, lenD, isT, isSl, ptrIds, chunks, mn_min, mx_max, D.cells, splice_one, splice_more, Rbr_at, Rfr_at, frR, frV, frC, flatC, brwR, brwV, brwC, omap, leR, leV, leC, leL, leVL, hz]
theorem idxZ_mem (l : List Int) (b : Int) : 0 ≤ idxZ (fun z => decide (b = z)) l ↔ b ∈ l := by
  constructor
  · intro h
    obtain ⟨h1, h2, _⟩ := idxZ_get _ l h
    have h3 : b = l[(idxZ (fun z => decide (b = z)) l).toNat] := by simpa using h2
    exact h3 ▸ List.getElem_mem h1
  · intro h
    exact idxZ_some _ l ⟨b, h, by simp⟩
theorem icon_code : cfun Try.prog [] 88 = some ⟨(.seq (.region 0 [⟨(some 4), (.mov (.k (.bool false))), none⟩]) (.seq (.region 1 [⟨(some 5), (.mov (.t 0)), none⟩, ⟨(some 6), (.mov (.t 1)), none⟩, ⟨(some 7), (.call 118 [(.t 5), (.t 6)]), none⟩, ⟨(some 8), (.bin .geq (.t 7) (.k (.int .i64 0))), none⟩, ⟨(some 4), (.mov (.t 8)), none⟩]) .ret)), [(.t 4)], 9⟩ := by kernel_rfl
theorem icon_pf (l : List Int) (b : Int) (hl : l.length ≤ 1000000) : PF Try.prog 88 [.rows 1 (l.map fun z => [I z]), I b] (.bool (decide (b ∈ l))) := by
  have h1 := iidx_pf l b hl
  have h2 := idxZ_mem l b
  refine PF.of follows_ok icon_code (by simp) (by simp [argOk]) (by simp [noV, noC]) fun B hBN hB0 => acode_sound [0, 1, 4] [] _ _ _ ?_
  repeat' (first
    | simp [AK_at, acode_seq, acode_region, acode_draw, acode_cond, ↓CB_t, ↓CB_f, CB_u, acode_block, acode_loop, acode_exit, acode_scope, acode_ret, acode_skip, seqQ_n, seqQ_e, seqQ_r, blockQ_n, blockQ_e, blockQ_r, TK_at, OK_at, SK_at, aops_nil, aops_cons, asch_done, asch_one, asch_two, asch_top, astep, aop_eq, isLoud, aloud, aloud1, isWrite, qv, evS, strip, gof, eget, hget, putO, eput, herase, oks, opnds, gS, afin, afin0, binD, arith, D.cells, takeD, fillD, keep, trim, envOf, Fin, aresl, aresv, resD, argOk, pickV, isP, deq, deqs, boundD, slD, lenD, isT, isSl, ptrIds, chunks, mn_min, mx_max, D.cells, splice_one, splice_more, Rbr_at, Rfr_at, frR, frV, frC, flatC, brwR, brwV, brwC, omap, leR, leV, leC, leL, leVL, h2]
    | (refine WCall.pf (h1) ?_ ?_ ?_ ?_; (focus (simp [oks, opnds, gS, gof, eget]; done)); (focus (simp [omap, brwV, brwC, evS, eget, strip, hget, leVL, leV, leC, leL, h2]; done)); (focus (simp [noV, noC, flatR, flatV, flatC, evS, eget, strip, h2]; done)))
    | (refine ⟨WCall.pf (h1) ?_ ?_ ?_ ?_, ?_⟩; (focus (simp [oks, opnds, gS, gof, eget]; done)); (focus (simp [omap, brwV, brwC, evS, eget, strip, hget, leVL, leV, leC, leL, h2]; done)); (focus (simp [noV, noC, flatR, flatV, flatC, evS, eget, strip, h2]; done)))
    | (with_reducible refine And.intro (And.intro ?_ ?_) ?_)
    | fail)
end Go.Proofs.Ytfkeddefajkobaa

set_option linter.unusedSimpArgs false
set_option linter.unusedVariables false
namespace Go.Proofs.Ytfkeddefajkobaa
open Go.ChangeShapes Go.WideShapes Go.ChangeAt Go.RowKit

def numsE (r : List Int) : List Value := r.map (Value.int .i64)
def NumsOk (r : List Int) : Prop := ∀ z ∈ r, (Lit.int .i64 z).wf = true
/-- a type of n numbers in n cells -/
def Nums (P : Program) (t : TypeId) (n : Nat) : Prop :=
  ∀ {H : Type} {enc : TypeId × Value → H} {w : World} {base : Nat} {spare : Nat → Bool} {held : Bool} {fuel : Nat} {cs : List Value} {x : DataW H × List MemPlace},
    DataW.trod enc P w base spare held fuel t cs = some x → ∃ r : List Int, cs = numsE r ∧ r.length = n ∧ NumsOk r
theorem nums_of_cells (cs : List Value) (h : ∀ i, i < cs.length → ∃ z, cs[i]? = some (.int .i64 z) ∧ (Lit.int .i64 z).wf = true) : ∃ r : List Int, cs = numsE r ∧ NumsOk r := by
  induction cs with
  | nil => exact ⟨[], rfl, fun z hz => by cases hz⟩
  | cons v cs ih =>
    obtain ⟨z, hz, hw⟩ := h 0 (by simp)
    obtain ⟨r, rfl, hr⟩ := ih fun i hi => by have := h (i + 1) (by simpa using hi); simpa using this
    simp only [List.getElem?_cons_zero, Option.some.injEq] at hz
    subst hz
    refine ⟨z :: r, rfl, fun y hy => ?_⟩
    rcases List.mem_cons.1 hy with rfl | hy
    · exact hw
    · exact hr y hy
theorem Nums.struct {P : Program} {t : TypeId} {fs : Array Field} (ht : P.underlying t = some (.struct fs)) (hc : P.cellsOf t = fs.size)
    (hf : ∀ (i : Nat) (f : Field), fs[i]? = some f → f.offset = i ∧ P.cellsOf f.type = 1 ∧ P.underlying f.type = some (.int .i64)) : Nums P t fs.size := by
  intro H enc w base spare held fuel cs x h
  obtain ⟨xs, n, _, _, hl, hlen, hx⟩ := DataW.trod_struct ht h
  rw [hc] at hl
  obtain ⟨r, rfl, hr⟩ := nums_of_cells cs fun i hi => by
    rw [hl] at hi
    have hi' : i < xs.length := by omega
    have h1 := hx i fs[i] (by simp [hi])
    obtain ⟨h2, h3, h4⟩ := hf i fs[i] (by simp [hi])
    rw [h2, h3, List.getElem?_eq_getElem hi'] at h1
    obtain ⟨z, hz, _, hw⟩ := DataW.trod_int h4 h1
    refine ⟨z, ?_, hw⟩
    have := congrArg (fun l => l[0]?) hz
    simpa [List.getElem?_take, List.getElem?_drop] using this
  exact ⟨r, rfl, by simpa [numsE] using hl, hr⟩
theorem open_nums {H : Type} {enc : TypeId × Value → H} {P : Program} {w : World} {base : Nat} {spare : Nat → Bool} {held : Bool} {r0 : Reach} {b0 : Nat} {t e : TypeId} {n : Nat} {v : Value} {d : DataW H} {ps : List MemPlace}
    (ht : P.underlying t = some (.slice e)) (hc : P.cellsOf e = n) (hn0 : 0 < n) (hI : Nums P e n) (hv : Value.okWide P w r0 b0 t v) (h : DataW.Trod enc P w base spare held t v d ps) :
    ∃ rows : List (List Int), rows.length ≤ maxLen ∧ (∀ r ∈ rows, r.length = n ∧ NumsOk r) ∧ Sl w n numsE v rows := by
  obtain ⟨a0, len0, cap0, rfl⟩ := okWide_slice ht hv
  obtain ⟨fuel, hf⟩ := h
  rcases Go.Deep.open_slice ht hf with ⟨h0, _⟩ | ⟨a, len, cap, m, k, D, Pl, hcs, hb, hl, hm, hmm, _, hx⟩
  · simp only [Value.cells, List.cons.injEq, Value.slice.injEq, and_true] at h0
    obtain ⟨rfl, rfl, rfl⟩ := h0
    exact ⟨[], by simp, by simp, Sl.nil _ _ _⟩
  · simp only [Value.cells, List.cons.injEq, Value.slice.injEq, and_true] at hcs
    obtain ⟨e0, e1, e2⟩ := hcs
    subst e0 e1 e2
    rw [hc] at hx
    have hlm : len0 ≤ m := by rw [hmm]; split <;> omega
    have hrow : ∀ i, i < len0 → ∃ r : List Int, (r.length = n ∧ NumsOk r) ∧ ∀ j, j < n → w.cell? ((a.add (i * n)).add j) = (numsE r)[j]? := fun i hi => by
      obtain ⟨cs', h1, h2⟩ := hx i (by omega)
      obtain ⟨r, rfl, hr, hk⟩ := hI h2
      exact ⟨r, ⟨hr, hk⟩, (World.cells?_some h1).2.2⟩
    obtain ⟨f, hf'⟩ := Go.Deep.choose_lt hrow
    have hlen : ((List.range len0).map f).length = len0 := by simp
    refine ⟨(List.range len0).map f, by rw [hlen]; omega, fun r hr => ?_, some a, cap0, by rw [hlen], by rw [hlen]; exact hl, (fun h => by cases h), fun hne => ?_⟩
    · obtain ⟨i, hi, rfl⟩ := List.mem_map.1 hr
      exact (hf' i (List.mem_range.1 hi)).1
    · have h0 : 0 < len0 := by
        rcases Nat.eq_zero_or_pos len0 with rfl | h
        · simp at hne
        · exact h
      have hL : ∀ i, i < len0 → (numsE (f i)).length = n := fun i hi => by simp [numsE, (hf' i hi).1.1]
      have hc0 := (hf' 0 h0).2 0 hn0
      rw [List.getElem?_eq_getElem (by rw [hL 0 h0]; exact hn0)] at hc0
      obtain ⟨b, off, spot⟩ := a
      have hspot : spot = none := by simpa [Addr.add] using World.cell?_spot hc0
      subst hspot
      refine ⟨b, off, rfl, ?_, fun i x j u hxx hu => ?_⟩
      · obtain ⟨cs0, g1, _⟩ := hx 0 (by omega)
        simpa [Addr.add] using World.cells?_block g1 (by omega)
      · have hi : i < len0 := by
          have := (List.getElem?_eq_some_iff.1 hxx).1
          rwa [hlen] at this
        rw [List.getElem?_map, List.getElem?_range hi] at hxx
        simp only [Option.map_some, Option.some.injEq] at hxx
        subst hxx
        have hj : j < n := by
          have := (List.getElem?_eq_some_iff.1 hu).1
          rwa [hL i hi] at this
        rw [← hu, ← (hf' i hi).2 j hj, Go.Deep.add_add]
        congr 1
        unfold Addr.add
        split
        · rename_i hz
          obtain ⟨h1, h2⟩ : i * n = 0 ∧ j = 0 := by omega
          rw [h1, h2]; rfl
        · rw [Nat.add_assoc]
theorem Sl.map {α β : Type} {w : World} {sz : Nat} {E : α → List Value} {F : β → List Value} {v : Value} {xs : List α} (g : α → β) (h : Sl w sz E v xs) (hg : ∀ x ∈ xs, F (g x) = E x) : Sl w sz F v (xs.map g) := by
  obtain ⟨a, cap, h1, h2, h0, h3⟩ := h
  refine ⟨a, cap, by rw [h1, List.length_map], by rw [List.length_map]; exact h2, h0, fun hne => ?_⟩
  obtain ⟨b, off, h4, h5, h6⟩ := h3 (by simpa using hne)
  refine ⟨b, off, h4, h5, fun i x j u hx hu => ?_⟩
  rw [List.getElem?_map] at hx
  cases hxi : xs[i]? with
  | none => rw [hxi] at hx; cases hx
  | some y =>
    rw [hxi] at hx
    simp only [Option.map_some, Option.some.injEq] at hx
    subst hx
    exact h6 i y j u hxi (by rw [← hg y (List.mem_of_getElem? hxi)]; exact hu)
theorem nums_wf {z : Int} (h : (Lit.int .i64 z).wf = true) : -9223372036854775808 ≤ z ∧ z ≤ 9223372036854775807 := by
  have h1 : IntKind.i64.min = -9223372036854775808 := rfl
  have h2 : IntKind.i64.max = 9223372036854775807 := rfl
  simp only [Lit.wf, Bool.and_eq_true, decide_eq_true_eq] at h
  omega
end Go.Proofs.Ytfkeddefajkobaa

set_option linter.unusedSimpArgs false
set_option linter.unusedVariables false
set_option maxRecDepth 100000
namespace Go.Proofs.Ytfkeddefajkobaa
open Go.ChangeShapes Go.WideShapes Go.ChangeAt Go.RowKit

/-- what a type's cells may be -/
def Elt (P : Program) (t : TypeId) (n : Nat) {α : Type} (E : α → List Value) (ok : α → Prop) : Prop :=
  ∀ {H : Type} {enc : TypeId × Value → H} {w : World} {base : Nat} {spare : Nat → Bool} {held : Bool} {fuel : Nat} {cs : List Value} {x : DataW H × List MemPlace},
    DataW.trod enc P w base spare held fuel t cs = some x → ∃ r : α, cs = E r ∧ (E r).length = n ∧ ok r
theorem Elt.bool {P : Program} {t : TypeId} (ht : P.underlying t = some .bool) : Elt P t 1 (fun b : Bool => [Value.bool b]) (fun _ => True) := fun h => by
  obtain ⟨b, rfl, _⟩ := DataW.trod_bool ht h
  exact ⟨b, rfl, rfl, trivial⟩
theorem Elt.int {P : Program} {t : TypeId} (ht : P.underlying t = some (.int .i64)) : Elt P t 1 (fun z : Int => [Value.int .i64 z]) InR := fun h => by
  obtain ⟨z, rfl, _, hw⟩ := DataW.trod_int ht h
  exact ⟨z, rfl, rfl, nums_wf hw⟩
theorem Elt.nums {P : Program} {t : TypeId} {n : Nat} (h : Nums P t n) : Elt P t n numsE (fun r => r.length = n ∧ ∀ z ∈ r, InR z) := fun hx => by
  obtain ⟨r, rfl, hl, hk⟩ := h hx
  exact ⟨r, rfl, by simpa [numsE] using hl, hl, fun z hz => nums_wf (hk z hz)⟩
theorem open_elts {α : Type} [Inhabited α] {E : α → List Value} {ok : α → Prop} {H : Type} {enc : TypeId × Value → H} {P : Program} {w : World} {base : Nat} {spare : Nat → Bool} {held : Bool} {r0 : Reach} {b0 : Nat} {t e : TypeId} {n : Nat} {v : Value} {d : DataW H} {ps : List MemPlace}
    (ht : P.underlying t = some (.slice e)) (hc : P.cellsOf e = n) (hn0 : 0 < n) (hI : Elt P e n E ok) (hv : Value.okWide P w r0 b0 t v) (h : DataW.Trod enc P w base spare held t v d ps) :
    ∃ rows : List α, rows.length ≤ maxLen ∧ (∀ r ∈ rows, (E r).length = n ∧ ok r) ∧ Sl w n E v rows := by
  obtain ⟨a0, len0, cap0, rfl⟩ := okWide_slice ht hv
  obtain ⟨fuel, hf⟩ := h
  rcases Go.Deep.open_slice ht hf with ⟨h0, _⟩ | ⟨a, len, cap, m, k, D, Pl, hcs, hb, hl, hm, hmm, _, hx⟩
  · simp only [Value.cells, List.cons.injEq, Value.slice.injEq, and_true] at h0
    obtain ⟨rfl, rfl, rfl⟩ := h0
    exact ⟨[], by simp, by simp, Sl.nil _ _ _⟩
  · simp only [Value.cells, List.cons.injEq, Value.slice.injEq, and_true] at hcs
    obtain ⟨e0, e1, e2⟩ := hcs
    subst e0 e1 e2
    rw [hc] at hx
    have hlm : len0 ≤ m := by rw [hmm]; split <;> omega
    have hrow : ∀ i, i < len0 → ∃ r : α, ((E r).length = n ∧ ok r) ∧ ∀ j, j < n → w.cell? ((a.add (i * n)).add j) = (E r)[j]? := fun i hi => by
      obtain ⟨cs', h1, h2⟩ := hx i (by omega)
      obtain ⟨r, rfl, hr, hk⟩ := hI h2
      exact ⟨r, ⟨hr, hk⟩, (World.cells?_some h1).2.2⟩
    obtain ⟨f, hf'⟩ := Go.Deep.choose_lt hrow
    have hlen : ((List.range len0).map f).length = len0 := by simp
    refine ⟨(List.range len0).map f, by rw [hlen]; omega, fun r hr => ?_, some a, cap0, by rw [hlen], by rw [hlen]; exact hl, (fun h => by cases h), fun hne => ?_⟩
    · obtain ⟨i, hi, rfl⟩ := List.mem_map.1 hr
      exact (hf' i (List.mem_range.1 hi)).1
    · have h0 : 0 < len0 := by
        rcases Nat.eq_zero_or_pos len0 with rfl | h
        · simp at hne
        · exact h
      have hL : ∀ i, i < len0 → (E (f i)).length = n := fun i hi => (hf' i hi).1.1
      have hc0 := (hf' 0 h0).2 0 hn0
      rw [List.getElem?_eq_getElem (by rw [hL 0 h0]; exact hn0)] at hc0
      obtain ⟨b, off, spot⟩ := a
      have hspot : spot = none := by simpa [Addr.add] using World.cell?_spot hc0
      subst hspot
      refine ⟨b, off, rfl, ?_, fun i x j u hxx hu => ?_⟩
      · obtain ⟨cs0, g1, _⟩ := hx 0 (by omega)
        simpa [Addr.add] using World.cells?_block g1 (by omega)
      · have hi : i < len0 := by
          have := (List.getElem?_eq_some_iff.1 hxx).1
          rwa [hlen] at this
        rw [List.getElem?_map, List.getElem?_range hi] at hxx
        simp only [Option.map_some, Option.some.injEq] at hxx
        subst hxx
        have hj : j < n := by
          have := (List.getElem?_eq_some_iff.1 hu).1
          rwa [hL i hi] at this
        rw [← hu, ← (hf' i hi).2 j hj, Go.Deep.add_add]
        congr 1
        unfold Addr.add
        split
        · rename_i hz
          obtain ⟨h1, h2⟩ : i * n = 0 ∧ j = 0 := by omega
          rw [h1, h2]; rfl
        · rw [Nat.add_assoc]

theorem vt_bools {W : World} {v : Value} {l : List Bool} (h : Sl W 1 (fun b : Bool => [Value.bool b]) v l) : VT (allZ W) (.rows 1 (l.map fun b => [D.bool b])) v :=
  h.rows fun b _ => ⟨rfl, rfl, fun j d hd => by
    cases j with
    | zero => simp at hd; subst hd; exact ⟨_, rfl, fun Z => VT.bool b⟩
    | succ j => simp at hd⟩
theorem vt_ints {W : World} {v : Value} {l : List Int} (h : Sl W 1 (fun z : Int => [Value.int .i64 z]) v l) : VT (allZ W) (.rows 1 (l.map fun z => [I z])) v :=
  h.rows fun z _ => ⟨rfl, rfl, fun j d hd => by
    cases j with
    | zero => simp at hd; subst hd; exact ⟨_, rfl, fun Z => VT.int .i64 z⟩
    | succ j => simp at hd⟩
theorem vt_nums {W : World} {v : Value} {n : Nat} {l : List (List Int)} (h : Sl W n numsE v l) (hl : ∀ r ∈ l, r.length = n) : VT (allZ W) (.rows n (l.map fun r => r.map I)) v :=
  h.rows fun r hr => ⟨by simp [numsE, hl r hr], by simp [hl r hr], fun j d hd => by
    obtain ⟨z, hz, rfl⟩ := (map_get _ _ _ _).1 hd
    exact ⟨_, (map_get _ _ _ _).2 ⟨z, hz, rfl⟩, fun Z => VT.int .i64 z⟩⟩
theorem open_bools {H : Type} {enc : TypeId × Value → H} {w : World} {base : Nat} {spare : Nat → Bool} {held : Bool} {r0 : Reach} {b0 : Nat} {t e : TypeId} {v : Value} {d : DataW H} {ps : List MemPlace}
    (ht : Try.prog.underlying t = some (.slice e)) (hc : Try.prog.cellsOf e = 1) (he : Try.prog.underlying e = some .bool) (hv : Value.okWide Try.prog w r0 b0 t v) (h : DataW.Trod enc Try.prog w base spare held t v d ps) :
    ∃ l : List Bool, l.length ≤ maxLen ∧ VV s0 (allZ w) (.rows 1 (l.map fun b => [D.bool b])) v ∧ True := by
  obtain ⟨l, h1, _, h3⟩ := open_elts ht hc (by omega) (Elt.bool he) hv h
  exact ⟨l, h1, vt_bools h3, trivial⟩
theorem open_ints {H : Type} {enc : TypeId × Value → H} {w : World} {base : Nat} {spare : Nat → Bool} {held : Bool} {r0 : Reach} {b0 : Nat} {t e : TypeId} {v : Value} {d : DataW H} {ps : List MemPlace}
    (ht : Try.prog.underlying t = some (.slice e)) (hc : Try.prog.cellsOf e = 1) (he : Try.prog.underlying e = some (.int .i64)) (hv : Value.okWide Try.prog w r0 b0 t v) (h : DataW.Trod enc Try.prog w base spare held t v d ps) :
    ∃ l : List Int, l.length ≤ maxLen ∧ VV s0 (allZ w) (.rows 1 (l.map fun z => [I z])) v ∧ ∀ z ∈ l, InR z := by
  obtain ⟨l, h1, h2, h3⟩ := open_elts ht hc (by omega) (Elt.int he) hv h
  exact ⟨l, h1, vt_ints h3, fun z hz => (h2 z hz).2⟩
theorem open_rows {H : Type} {enc : TypeId × Value → H} {w : World} {base : Nat} {spare : Nat → Bool} {held : Bool} {r0 : Reach} {b0 : Nat} {t e : TypeId} {n : Nat} {v : Value} {d : DataW H} {ps : List MemPlace}
    (ht : Try.prog.underlying t = some (.slice e)) (hc : Try.prog.cellsOf e = n) (h0 : 0 < n) (he : Nums Try.prog e n) (hv : Value.okWide Try.prog w r0 b0 t v) (h : DataW.Trod enc Try.prog w base spare held t v d ps) :
    ∃ l : List (List Int), l.length ≤ maxLen ∧ VV s0 (allZ w) (.rows n (l.map fun r => r.map I)) v ∧ ∀ r ∈ l, r.length = n ∧ ∀ z ∈ r, InR z := by
  obtain ⟨l, h1, h2, h3⟩ := open_elts ht hc h0 (Elt.nums he) hv h
  exact ⟨l, h1, vt_nums h3 (fun r hr => (h2 r hr).2.1), fun r hr => (h2 r hr).2⟩
theorem laidOut : laidOutB Try.prog = true := by kernel_rfl
end Go.Proofs.Ytfkeddefajkobaa

set_option linter.unusedSimpArgs false
set_option linter.unusedVariables false
set_option maxRecDepth 100000
namespace Go.Proofs.Ytfkeddefajkobaa
open Go.RowKit
theorem mapK_row {P : Program} {kt : TypeId} {n : Nat} (h : mapK P kt = some n) : kt < P.types.size := by
  unfold mapK at h
  split at h
  · assumption
  · cases h
theorem wf_inr {z : Int} (h : InR z) : (Lit.int .i64 z).wf = true := by
  have h1 : IntKind.i64.min = -9223372036854775808 := rfl
  have h2 : IntKind.i64.max = 9223372036854775807 := rfl
  simp only [Lit.wf, Bool.and_eq_true, decide_eq_true_eq]
  obtain ⟨h3, h4⟩ := h
  omega
theorem key0 {P : Program} : MapsOk P 0 := fun t kt e ht hkt => by
  have hu : P.underlying kt = some (.int .i64) := by
    unfold mapK at hkt
    split at hkt
    · split at hkt
      · assumption
      · split at hkt
        · split at hkt
          · rename_i ks _ hc
            simp only [Bool.and_eq_true, decide_eq_true_eq] at hc
            simp at hkt
            rw [hkt] at hc
            simp at hc
          · cases hkt
        · cases hkt
      · cases hkt
    · cases hkt
  refine ⟨Maps.int_keyed hu, fun ks hk => ?_⟩
  obtain ⟨h1, h2⟩ := hk
  simp only [if_true] at h1
  match ks, h1 with
  | [z], _ => exact ⟨_, Maps.keyOf_int_mk hu (wf_inr (h2 z (by simp)))⟩
theorem key2_of {P : Program} (hlaid : laidOutB P = true) {kt : TypeId} {f g : Field} (hrow : kt < P.types.size) (hfs : P.underlying kt = some (.struct #[f, g])) (h2 : P.keyTypeAt 3 kt = true) (h4 : P.cellsOf kt = 2) (n1 : f.name ≠ "_" ∧ g.name ≠ "_")
    (g1 : f.offset = 0) (g2 : g.offset = 1) (g3 : P.cellsOf f.type = 1) (g4 : P.cellsOf g.type = 1) (g6 : P.underlying f.type = some (.int .i64) ∧ P.underlying g.type = some (.int .i64)) :
    Maps.Keyed P kt ∧ ∀ ks, goodK 2 ks → ∃ l, keyOf P kt (vInts (2 == 0) ks) = some l := by
  refine ⟨Maps.Keyed.of_law (deep_law_laid hlaid (m := 3) (by omega) hrow h2 (by rw [hfs])), fun ks hk => ?_⟩
  obtain ⟨k1, k2⟩ := hk
  have k1 : ks.length = 2 := k1
  match ks, k1 with
  | [a, b], _ =>
    have wa := wf_inr (k2 a (by simp))
    have wb := wf_inr (k2 b (by simp))
    obtain ⟨s, hs⟩ : ∃ s, P.types.size = s + 1 := ⟨P.types.size - 1, (Nat.succ_pred_eq_of_pos (Nat.lt_of_le_of_lt (Nat.zero_le kt) hrow)).symm⟩
    have h2k : P.keyType kt = true := by
      have h2' := h2
      unfold Program.keyType
      rw [hs]
      simp only [Program.keyTypeAt, hfs, g6.1, g6.2] at h2' ⊢
      simpa [n1.1, n1.2, g6.1, g6.2, Program.keyTypeAt] using h2'
    have hsome : (keyOf P kt (vInts (2 == 0) [a, b])).isSome = true := by
      unfold keyOf
      rw [hfs]
      simp only [vInts, Value.formed, hfs, h4, hs, Program.keyLits, Value.cells]
      simp [g1, g2, g3, g4, g6.1, g6.2, wa, wb, n1.1, n1.2, h2k]
    exact Option.isSome_iff_exists.1 hsome
theorem key2 : MapsOk Try.prog 2 := fun t kt e ht hkt => by
  have hall : ((List.range Try.prog.types.size).all fun kt => mapK Try.prog kt != some 2 || (Try.prog.keyTypeAt 3 kt && (match Try.prog.underlying kt with | some (.struct fs) => fs.size == 2 && (fs.toList.all fun f => f.name != "_") && (match fs[0]?, fs[1]? with | some f, some g => f.offset == 0 && g.offset == 1 && Try.prog.cellsOf f.type == 1 && Try.prog.cellsOf g.type == 1 && (match Try.prog.underlying f.type, Try.prog.underlying g.type with | some (.int .i64), some (.int .i64) => true | _, _ => false) | _, _ => false) | _ => false) && Try.prog.cellsOf kt == 2)) = true := by kernel_rfl
  have hrow := mapK_row hkt
  have h1 := List.all_eq_true.1 hall kt (List.mem_range.2 hrow)
  rw [hkt] at h1
  simp only [bne_self_eq_false, Bool.false_or, Bool.and_eq_true] at h1
  obtain ⟨⟨h2, h3⟩, h4⟩ := h1
  have hlaid : laidOutB Try.prog = true := laidOut
  split at h3
  · rename_i fs hfs
    simp only [Bool.and_eq_true] at h3
    obtain ⟨⟨h5, h6⟩, h7⟩ := h3
    obtain ⟨fs⟩ := fs
    match fs, h5 with
    | [f, g], _ =>
      simp only [List.getElem?_toArray, List.getElem?_cons_zero, List.getElem?_cons_succ, Bool.and_eq_true, beq_iff_eq] at h7
      obtain ⟨⟨⟨⟨g1, g2⟩, g3⟩, g4⟩, g5⟩ := h7
      have g6 : Try.prog.underlying f.type = some (.int .i64) ∧ Try.prog.underlying g.type = some (.int .i64) := by
        split at g5
        · rename_i e1 e2; exact ⟨e1, e2⟩
        · cases g5
      exact key2_of hlaid hrow hfs h2 (by simpa using h4) (by simpa using h6) g1 g2 g3 g4 g6
  · cases h3
end Go.Proofs.Ytfkeddefajkobaa

set_option linter.unusedSimpArgs false
set_option linter.unusedVariables false
set_option maxRecDepth 100000
namespace Go.Proofs.Ytfkeddefajkobaa
structure Lif where
  backend : Int
  state : Int
  weight : Int
  since : Int
  til : Int
  req : Int
deriving DecidableEq, Inhabited
def Lif.D (x : Lif) : List D := [I x.backend, I x.state, I x.weight, I x.since, I x.til, I x.req]
structure Rqs where
  id : Int
  kind : Int
  backend : Int
  weight : Int
  answer : Int
deriving DecidableEq, Inhabited
def Rqs.D (x : Rqs) : List D := [I x.id, I x.kind, I x.backend, I x.weight, I x.answer]
structure LifOk (x : Lif) : Prop where
  b0 : 0 ≤ x.backend
  b1 : x.backend < 12
  w0 : 1 ≤ x.weight
  w1 : x.weight ≤ 8
  s0 : 0 ≤ x.since
  s1 : x.since ≤ 1099511627776
  u0 : 0 ≤ x.til
  u1 : x.til ≤ 1099511628276
  r0 : 0 ≤ x.req
  r1 : x.req ≤ 1048576
  st : (x.state = 1 ∧ x.since = 0 ∧ x.til = 0 ∧ x.req = 0) ∨ (x.state = 2 ∧ x.til = 0 ∧ x.req = 0) ∨ x.state = 3 ∨ x.state = 4
structure RqsOk (x : Rqs) : Prop where
  i0 : 0 ≤ x.id
  i1 : x.id ≤ 1048576
  k : x.kind = 1 ∨ x.kind = 2
structure BookOk (L : List Lif) (R : List Rqs) : Prop where
  ll : L.length ≤ 12
  lr : R.length ≤ 100
  lok : ∀ x ∈ L, LifOk x
  rok : ∀ x ∈ R, RqsOk x
  sorted : L.Pairwise fun x y => x.backend < y.backend
  ids : (R.map (·.id)).Nodup
def qB (b : Int) (x : Lif) : Bool := decide (x.backend = b)
def qI (i : Int) (x : Rqs) : Bool := decide (x.id = i)
def findM (L : List Lif) (b : Int) : Int := idxZ (qB b) L
def joinPos (L : List Lif) (b : Int) : Nat := lowB (fun x => decide (x.backend < b)) L
def joinM (L : List Lif) (r : Rqs) : List Lif × Int :=
  if r.backend < 0 ∨ 12 ≤ r.backend ∨ r.weight < 1 ∨ 8 < r.weight then (L, 2)
  else if 0 ≤ findM L r.backend then
    (if (L.getD (findM L r.backend).toNat default).state = 4 then (L.set (findM L r.backend).toNat ⟨r.backend, 1, r.weight, 0, 0, 0⟩, 0) else (L, 7))
  else (L.take (joinPos L r.backend) ++ [⟨r.backend, 1, r.weight, 0, 0, 0⟩] ++ L.drop (joinPos L r.backend), 0)
def retireM (L : List Lif) (r : Rqs) (now drain : Int) : List Lif × Int :=
  let i := (findM L r.backend).toNat
  let x := L.getD i default
  if findM L r.backend < 0 then (L, 8) else if x.state = 4 then (L, 8) else if x.state = 3 then (L, 12)
  else (L.set i { x with state := if x.state = 1 then 4 else 3, til := now + drain, req := r.id }, 0)
structure AskR where
  L : List Lif
  R : List Rqs
  answer : Int
  fresh : Bool
def askM (L : List Lif) (R : List Rqs) (r : Rqs) (now drain : Int) : AskR :=
  if 0 ≤ idxZ (qI r.id) R then ⟨L, R, (R.getD (idxZ (qI r.id) R).toNat default).answer, false⟩
  else if R.length = 100 then ⟨L, R, 9, false⟩
  else if r.kind = 1 then ⟨(joinM L r).1, R ++ [{ r with answer := (joinM L r).2 }], (joinM L r).2, true⟩
  else ⟨(retireM L r now drain).1, R ++ [{ r with weight := 0, answer := (retireM L r now drain).2 }], (retireM L r now drain).2, true⟩
def wakeX (now : Int) (x : Lif) : Lif := if x.state = 1 then { x with state := 2, since := now } else x
def wakeM (L : List Lif) (now : Int) : List Lif := L.map (wakeX now)
def wokenM (L : List Lif) : List Int := (L.filter fun x => decide (x.state = 1)).map (·.backend)
def finishM (L : List Lif) (b : Int) : List Lif × Int :=
  let i := (findM L b).toNat
  let x := L.getD i default
  if findM L b < 0 then ([], 8) else if x.state = 3 then (L.set i { x with state := 4 }, 0) else ([], 8)
def ofM (L : List Lif) (b : Int) : Lif × Int := if findM L b < 0 then (default, 8) else (L.getD (findM L b).toNat default, 0)
theorem findM_at {L : List Lif} {b : Int} (h : 0 ≤ findM L b) : ∃ h2 : (findM L b).toNat < L.length, L[(findM L b).toNat].backend = b ∧ L.getD (findM L b).toNat default = L[(findM L b).toNat] := by
  obtain ⟨h1, h2, _⟩ := idxZ_get _ L h
  have h1 : (findM L b).toNat < L.length := h1
  exact ⟨h1, of_decide_eq_true h2, by rw [List.getD_eq_getElem?_getD, List.getElem?_eq_getElem h1]; rfl⟩
theorem findM_neg {L : List Lif} {b : Int} (h : findM L b < 0) : ∀ x ∈ L, x.backend ≠ b := fun x hx he => by
  have := idxZ_some (qB b) L ⟨x, hx, by simpa [qB] using he⟩
  unfold findM at h
  omega
theorem joinPos_le (L : List Lif) (b : Int) : joinPos L b ≤ L.length := lowB_le _ _
theorem joinPos_lt (L : List Lif) (b : Int) : ∀ j (h : j < L.length), j < joinPos L b → L[j].backend < b := fun j h hj => of_decide_eq_true (lowB_lt _ L j h hj)
theorem joinPos_ge (L : List Lif) (b : Int) (h : joinPos L b < L.length) : ¬ L[joinPos L b].backend < b := of_decide_eq_false (lowB_ge (fun x : Lif => decide (x.backend < b)) L h)
theorem set_sorted {L : List Lif} (h : L.Pairwise fun x y => x.backend < y.backend) {i : Nat} (hi : i < L.length) {x : Lif} (hx : x.backend = L[i].backend) : (L.set i x).Pairwise fun x y => x.backend < y.backend := by
  rw [List.pairwise_iff_getElem] at h ⊢
  intro a b ha hb hab
  simp only [List.length_set] at ha hb
  have := h a b ha hb hab
  rw [List.getElem_set, List.getElem_set]
  split
  · rename_i e; subst e
    split
    · omega
    · rw [hx]; exact this
  · split
    · rename_i e; subst e; rw [hx]; exact this
    · exact this
theorem BookOk.set {L : List Lif} {R : List Rqs} (h : BookOk L R) {i : Nat} (hi : i < L.length) {x : Lif} (hx : x.backend = L[i].backend) (hok : LifOk x) : BookOk (L.set i x) R :=
  ⟨by simpa using h.ll, h.lr, fun y hy => (List.mem_or_eq_of_mem_set hy).elim (h.lok y) (fun e => e ▸ hok), h.rok, set_sorted h.sorted hi hx, h.ids⟩
/-- of numbers that rise below twelve there are twelve at most -/
theorem rising_len : ∀ (l : List Int) (a : Int), (l.Pairwise (· < ·)) → (∀ x ∈ l, a ≤ x ∧ x < 12) → a ≤ 12 → (l.length : Int) ≤ 12 - a
  | [], a, _, _, ha => by simp; omega
  | x :: l, a, hp, hb, ha => by
    rw [List.pairwise_cons] at hp
    have h0 := hb x (by simp)
    have ih := rising_len l (x + 1) hp.2 (fun y hy => ⟨by have := hp.1 y hy; omega, (hb y (List.mem_cons_of_mem _ hy)).2⟩) (by omega)
    simp only [List.length_cons]
    omega
theorem BookOk.ins {L : List Lif} {R : List Rqs} (h : BookOk L R) {x : Lif} (hok : LifOk x) (hn : ∀ y ∈ L, y.backend ≠ x.backend) : BookOk (L.take (joinPos L x.backend) ++ [x] ++ L.drop (joinPos L x.backend)) R := by
  have hle := joinPos_le L x.backend
  have hlt := joinPos_lt L x.backend
  have hge := joinPos_ge L x.backend
  have hlok : ∀ y ∈ L.take (joinPos L x.backend) ++ [x] ++ L.drop (joinPos L x.backend), LifOk y := fun y hy => by
    rcases List.mem_append.1 hy with hy | hy
    · rcases List.mem_append.1 hy with hy | hy
      · exact h.lok y (List.mem_of_mem_take hy)
      · rw [List.mem_singleton.1 hy]; exact hok
    · exact h.lok y (List.mem_of_mem_drop hy)
  have hs : (L.take (joinPos L x.backend) ++ [x] ++ L.drop (joinPos L x.backend)).Pairwise fun x y => x.backend < y.backend := by
    generalize joinPos L x.backend = p at hle hlt hge
    have hp := List.pairwise_iff_getElem.1 h.sorted
    have hsp := h.sorted
    rw [← List.take_append_drop p L, List.pairwise_append] at hsp
    have hdr : ∀ y ∈ L.drop p, x.backend < y.backend := fun y hy => by
      obtain ⟨j, hj⟩ := List.getElem?_of_mem hy
      rw [List.getElem?_drop] at hj
      obtain ⟨hj1, hj2⟩ := List.getElem?_eq_some_iff.1 hj
      have hpl : p < L.length := by omega
      have h1 := hge hpl
      have h2 := hn L[p] (List.getElem_mem hpl)
      rcases Nat.eq_zero_or_pos j with h0 | h0
      · subst h0
        simp only [Nat.add_zero] at hj2
        rw [← hj2]; omega
      · have := hp p (p + j) hpl hj1 (by omega)
        rw [hj2] at this; omega
    have htk : ∀ y ∈ L.take p, y.backend < x.backend := fun y hy => by
      obtain ⟨j, hj⟩ := List.getElem?_of_mem hy
      rw [List.getElem?_take] at hj
      split at hj
      · rename_i hjp
        obtain ⟨hj1, hj2⟩ := List.getElem?_eq_some_iff.1 hj
        rw [← hj2]; exact hlt j hj1 hjp
      · cases hj
    rw [List.append_assoc, List.pairwise_append]
    refine ⟨hsp.1, ?_, ?_⟩
    · rw [List.singleton_append, List.pairwise_cons]
      exact ⟨hdr, hsp.2.1⟩
    · intro a ha b hb
      rcases List.mem_append.1 hb with hb | hb
      · rw [List.mem_singleton.1 hb]; exact htk a ha
      · exact hsp.2.2 a ha b hb
  refine ⟨?_, h.lr, hlok, h.rok, hs, h.ids⟩
  have := rising_len ((L.take (joinPos L x.backend) ++ [x] ++ L.drop (joinPos L x.backend)).map (·.backend)) 0 (List.pairwise_map.2 hs) (fun z hz => by
    obtain ⟨y, hy, rfl⟩ := List.mem_map.1 hz
    exact ⟨(hlok y hy).b0, (hlok y hy).b1⟩) (by omega)
  rw [List.length_map] at this
  omega
theorem join_ok {L : List Lif} {R : List Rqs} (h : BookOk L R) (r : Rqs) : BookOk (joinM L r).1 R := by
  unfold joinM
  split
  · exact h
  · rename_i hc
    have hnew : LifOk ⟨r.backend, 1, r.weight, 0, 0, 0⟩ := ⟨by simp only; omega, by simp only; omega, by simp only; omega, by simp only; omega, by simp, by simp, by simp, by simp, by simp, by simp, .inl ⟨rfl, rfl, rfl, rfl⟩⟩
    split
    · rename_i h0
      split
      · obtain ⟨h1, h2, h3⟩ := findM_at h0
        exact h.set h1 h2.symm hnew
      · exact h
    · rename_i h0
      exact h.ins (x := ⟨r.backend, 1, r.weight, 0, 0, 0⟩) hnew (findM_neg (Int.not_le.1 h0))
theorem retire_ok {L : List Lif} {R : List Rqs} (h : BookOk L R) (r : Rqs) (hr : RqsOk r) (now drain : Int) (n0 : 0 ≤ now) (n1 : now ≤ 1099511627776) (d0 : 0 ≤ drain) (d1 : drain ≤ 500) : BookOk (retireM L r now drain).1 R := by
  unfold retireM
  simp only
  split
  · exact h
  · rename_i h0
    obtain ⟨h1, h2, h3⟩ := findM_at (by omega : 0 ≤ findM L r.backend)
    rw [h3]
    split
    · exact h
    · split
      · exact h
      · rename_i c4 c3
        have ho := h.lok _ (List.getElem_mem h1)
        refine h.set h1 rfl ⟨ho.b0, ho.b1, ho.w0, ho.w1, ho.s0, ho.s1, by simp only; omega, by simp only; omega, hr.i0, hr.i1, ?_⟩
        simp only
        split
        · exact .inr (.inr (.inr rfl))
        · exact .inr (.inr (.inl rfl))
theorem BookOk.addReq {L : List Lif} {R : List Rqs} (h : BookOk L R) {r : Rqs} (hr : RqsOk r) (hl : R.length ≠ 100) (hn : ∀ x ∈ R, x.id ≠ r.id) : BookOk L (R ++ [r]) := by
  refine ⟨h.ll, ?_, h.lok, fun x hx => ?_, h.sorted, ?_⟩
  · have := h.lr
    simp; omega
  · rcases List.mem_append.1 hx with hx | hx
    · exact h.rok x hx
    · rw [List.mem_singleton.1 hx]; exact hr
  · rw [List.map_append, List.nodup_append]
    refine ⟨h.ids, by simp, fun a ha b hb e => ?_⟩
    obtain ⟨x, hx, rfl⟩ := List.mem_map.1 ha
    simp only [List.map_cons, List.map_nil, List.mem_singleton] at hb
    exact hn x hx (e.trans hb)
theorem idx_neg_id {R : List Rqs} {i : Int} (h : ¬ 0 ≤ idxZ (qI i) R) : ∀ x ∈ R, x.id ≠ i := fun x hx he => h (idxZ_some (qI i) R ⟨x, hx, by simpa [qI] using he⟩)
theorem ask_ok {L : List Lif} {R : List Rqs} (h : BookOk L R) (r : Rqs) (hr : RqsOk r) (now drain : Int) (n0 : 0 ≤ now) (n1 : now ≤ 1099511627776) (d0 : 0 ≤ drain) (d1 : drain ≤ 500) : BookOk (askM L R r now drain).L (askM L R r now drain).R := by
  unfold askM
  split
  · exact h
  · rename_i hi
    split
    · exact h
    · rename_i hl
      split
      · exact (join_ok h r).addReq ⟨hr.i0, hr.i1, hr.k⟩ hl (idx_neg_id hi)
      · exact (retire_ok h r hr now drain n0 n1 d0 d1).addReq ⟨hr.i0, hr.i1, hr.k⟩ hl (idx_neg_id hi)
theorem wake_ok {L : List Lif} {R : List Rqs} (h : BookOk L R) (now : Int) (n0 : 0 ≤ now) (n1 : now ≤ 1099511627776) : BookOk (wakeM L now) R := by
  have hb : ∀ x : Lif, (wakeX now x).backend = x.backend := fun x => by unfold wakeX; split <;> rfl
  refine ⟨by simpa [wakeM] using h.ll, h.lr, fun x hx => ?_, h.rok, ?_, h.ids⟩
  · obtain ⟨y, hy, rfl⟩ := List.mem_map.1 hx
    have ho := h.lok y hy
    unfold wakeX
    split
    · rename_i h1
      rcases ho.st with ⟨_, h2, h3, h4⟩ | ⟨h2, _⟩ | h2 | h2
      · exact ⟨ho.b0, ho.b1, ho.w0, ho.w1, n0, n1, ho.u0, ho.u1, ho.r0, ho.r1, .inr (.inl ⟨rfl, h3, h4⟩)⟩
      all_goals omega
    · exact ho
  · refine List.pairwise_map.2 (h.sorted.imp fun {a b} hab => ?_)
    rw [hb, hb]; exact hab
theorem finish_ok {L : List Lif} {R : List Rqs} (h : BookOk L R) (b : Int) (he : (finishM L b).2 = 0) : BookOk (finishM L b).1 R := by
  unfold finishM at he ⊢
  simp only at he ⊢
  split at he
  · simp at he
  · rename_i h0
    rw [if_neg h0]
    obtain ⟨h1, h2, h3⟩ := findM_at (by omega : 0 ≤ findM L b)
    rw [h3] at he ⊢
    split at he
    · rename_i h3'
      rw [if_pos h3']
      have ho := h.lok _ (List.getElem_mem h1)
      exact h.set h1 rfl ⟨ho.b0, ho.b1, ho.w0, ho.w1, ho.s0, ho.s1, ho.u0, ho.u1, ho.r0, ho.r1, .inr (.inr (.inr rfl))⟩
    · simp at he
/-- the keys of the requests, as a map holds them -/
def idEs : List Rqs → Nat → List Ent
  | [], _ => []
  | r :: t, k => ([r.id], [], k) :: idEs t (k + 1)
theorem idEs_app : ∀ (l : List Rqs) (r : Rqs) (k : Nat), idEs (l ++ [r]) k = idEs l k ++ [([r.id], [], k + l.length)]
  | [], r, k => rfl
  | x :: l, r, k => by
    simp only [List.cons_append, idEs, idEs_app l r (k + 1), List.length_cons]
    rw [show k + 1 + l.length = k + (l.length + 1) by omega]
theorem idEs_keys : ∀ (l : List Rqs) (k : Nat), (idEs l k).map (·.1) = l.map fun r => [r.id]
  | [], _ => rfl
  | x :: l, k => by simp [idEs, idEs_keys l (k + 1)]
theorem idEs_len (l : List Rqs) (k : Nat) : (idEs l k).length = l.length := by
  have := congrArg List.length (idEs_keys l k)
  simpa using this
theorem idEs_mem {l : List Rqs} {k : Nat} {e : Ent} (h : e ∈ idEs l k) : ∃ r ∈ l, e.1 = [r.id] := by
  have : e.1 ∈ (idEs l k).map (·.1) := List.mem_map.2 ⟨e, h, rfl⟩
  rw [idEs_keys] at this
  obtain ⟨r, hr, he⟩ := List.mem_map.1 this
  exact ⟨r, hr, he.symm⟩
end Go.Proofs.Ytfkeddefajkobaa

set_option linter.unusedSimpArgs false
set_option linter.unusedVariables false
set_option maxRecDepth 100000
set_option maxHeartbeats 4000000
namespace Go.Proofs.Ytfkeddefajkobaa
open Go.RowKit
theorem els_lif (l : List Lif) : Els 6 Lif.D l := fun x _ => ⟨rfl, by simp [Lif.D, isT]⟩
theorem els_rqs (l : List Rqs) : Els 5 Rqs.D l := fun x _ => ⟨rfl, by simp [Rqs.D, isT]⟩
theorem lone_code : cfun Try.prog [] 73 = some ⟨(.seq (.region 0 [⟨(some 1), (.box (.t 0)), none⟩, ⟨(some 2), (.mov (.k (.bool false))), none⟩]) (.seq (.seq (.region 1 [⟨(some 3), (.fad 0 (.t 1)), none⟩, ⟨(some 4), (.load false 1 (.t 3)), none⟩, ⟨(some 5), (.bin .lss (.t 4) (.k (.int .i64 0))), none⟩, ⟨(some 6), (.mov (.t 5)), none⟩, ⟨(some 7), (.fad 0 (.t 1)), (some (6, false))⟩, ⟨(some 8), (.load false 1 (.t 7)), (some (6, false))⟩, ⟨(some 9), (.bin .geq (.t 8) (.k (.int .i64 12))), (some (6, false))⟩, ⟨(some 10), (.pick (.t 6) (.k (.bool true)) (.t 9)), none⟩, ⟨(some 11), (.mov (.t 10)), none⟩, ⟨(some 12), (.fad 2 (.t 1)), (some (11, false))⟩, ⟨(some 13), (.load false 1 (.t 12)), (some (11, false))⟩, ⟨(some 14), (.bin .lss (.t 13) (.k (.int .i64 1))), (some (11, false))⟩, ⟨(some 15), (.pick (.t 11) (.k (.bool true)) (.t 14)), none⟩, ⟨(some 16), (.mov (.t 15)), none⟩, ⟨(some 17), (.fad 2 (.t 1)), (some (16, false))⟩, ⟨(some 18), (.load false 1 (.t 17)), (some (16, false))⟩, ⟨(some 19), (.bin .gtr (.t 18) (.k (.int .i64 8))), (some (16, false))⟩, ⟨(some 20), (.pick (.t 16) (.k (.bool true)) (.t 19)), none⟩]) (.cond 20 (.seq (.region 2 [⟨(some 2), (.mov (.k (.bool false))), none⟩]) .ret) .skip)) (.seq (.seq (.region 3 [⟨(some 21), (.fad 3 (.t 1)), none⟩, ⟨(some 22), (.load false 1 (.t 21)), none⟩, ⟨(some 23), (.bin .lss (.t 22) (.k (.int .i64 0))), none⟩, ⟨(some 24), (.mov (.t 23)), none⟩, ⟨(some 25), (.fad 3 (.t 1)), (some (24, false))⟩, ⟨(some 26), (.load false 1 (.t 25)), (some (24, false))⟩, ⟨(some 27), (.bin .gtr (.t 26) (.k (.int .i64 1099511627776))), (some (24, false))⟩, ⟨(some 28), (.pick (.t 24) (.k (.bool true)) (.t 27)), none⟩, ⟨(some 29), (.mov (.t 28)), none⟩, ⟨(some 30), (.fad 4 (.t 1)), (some (29, false))⟩, ⟨(some 31), (.load false 1 (.t 30)), (some (29, false))⟩, ⟨(some 32), (.bin .lss (.t 31) (.k (.int .i64 0))), (some (29, false))⟩, ⟨(some 33), (.pick (.t 29) (.k (.bool true)) (.t 32)), none⟩, ⟨(some 34), (.mov (.t 33)), none⟩, ⟨(some 35), (.fad 4 (.t 1)), (some (34, false))⟩, ⟨(some 36), (.load false 1 (.t 35)), (some (34, false))⟩, ⟨(some 37), (.bin .gtr (.t 36) (.k (.int .i64 1099511628276))), (some (34, false))⟩, ⟨(some 38), (.pick (.t 34) (.k (.bool true)) (.t 37)), none⟩, ⟨(some 39), (.mov (.t 38)), none⟩, ⟨(some 40), (.fad 5 (.t 1)), (some (39, false))⟩, ⟨(some 41), (.load false 1 (.t 40)), (some (39, false))⟩, ⟨(some 42), (.bin .lss (.t 41) (.k (.int .i64 0))), (some (39, false))⟩, ⟨(some 43), (.pick (.t 39) (.k (.bool true)) (.t 42)), none⟩, ⟨(some 44), (.mov (.t 43)), none⟩, ⟨(some 45), (.fad 5 (.t 1)), (some (44, false))⟩, ⟨(some 46), (.load false 1 (.t 45)), (some (44, false))⟩, ⟨(some 47), (.bin .gtr (.t 46) (.k (.int .i64 1048576))), (some (44, false))⟩, ⟨(some 48), (.pick (.t 44) (.k (.bool true)) (.t 47)), none⟩]) (.cond 48 (.seq (.region 4 [⟨(some 2), (.mov (.k (.bool false))), none⟩]) .ret) .skip)) (.seq (.seq (.region 5 [⟨(some 49), (.fad 1 (.t 1)), none⟩, ⟨(some 50), (.load false 1 (.t 49)), none⟩]) (.block 0 (.seq (.region 6 [⟨(some 52), (.bin .eql (.t 50) (.k (.int .i64 1))), none⟩, ⟨(some 51), (.mov (.t 52)), none⟩]) (.cond 51 (.seq (.region 7 [⟨(some 53), (.fad 3 (.t 1)), none⟩, ⟨(some 54), (.load false 1 (.t 53)), none⟩, ⟨(some 55), (.bin .eql (.t 54) (.k (.int .i64 0))), none⟩, ⟨(some 56), (.mov (.t 55)), none⟩, ⟨(some 57), (.fad 4 (.t 1)), (some (56, true))⟩, ⟨(some 58), (.load false 1 (.t 57)), (some (56, true))⟩, ⟨(some 59), (.bin .eql (.t 58) (.k (.int .i64 0))), (some (56, true))⟩, ⟨(some 60), (.pick (.t 56) (.t 59) (.k (.bool false))), none⟩, ⟨(some 61), (.mov (.t 60)), none⟩, ⟨(some 62), (.fad 5 (.t 1)), (some (61, true))⟩, ⟨(some 63), (.load false 1 (.t 62)), (some (61, true))⟩, ⟨(some 64), (.bin .eql (.t 63) (.k (.int .i64 0))), (some (61, true))⟩, ⟨(some 65), (.pick (.t 61) (.t 64) (.k (.bool false))), none⟩, ⟨(some 2), (.mov (.t 65)), none⟩]) .ret) (.seq (.region 8 [⟨(some 67), (.bin .eql (.t 50) (.k (.int .i64 2))), none⟩, ⟨(some 66), (.mov (.t 67)), none⟩]) (.cond 66 (.seq (.region 9 [⟨(some 68), (.fad 4 (.t 1)), none⟩, ⟨(some 69), (.load false 1 (.t 68)), none⟩, ⟨(some 70), (.bin .eql (.t 69) (.k (.int .i64 0))), none⟩, ⟨(some 71), (.mov (.t 70)), none⟩, ⟨(some 72), (.fad 5 (.t 1)), (some (71, true))⟩, ⟨(some 73), (.load false 1 (.t 72)), (some (71, true))⟩, ⟨(some 74), (.bin .eql (.t 73) (.k (.int .i64 0))), (some (71, true))⟩, ⟨(some 75), (.pick (.t 71) (.t 74) (.k (.bool false))), none⟩, ⟨(some 2), (.mov (.t 75)), none⟩]) .ret) .skip)))))) (.seq (.region 10 [⟨(some 76), (.fad 1 (.t 1)), none⟩, ⟨(some 77), (.load false 1 (.t 76)), none⟩, ⟨(some 78), (.bin .eql (.t 77) (.k (.int .i64 3))), none⟩, ⟨(some 79), (.mov (.t 78)), none⟩, ⟨(some 80), (.fad 1 (.t 1)), (some (79, false))⟩, ⟨(some 81), (.load false 1 (.t 80)), (some (79, false))⟩, ⟨(some 82), (.bin .eql (.t 81) (.k (.int .i64 4))), (some (79, false))⟩, ⟨(some 83), (.pick (.t 79) (.k (.bool true)) (.t 82)), none⟩, ⟨(some 2), (.mov (.t 83)), none⟩]) .ret))))), [(.t 2)], 84⟩ := by kernel_rfl
theorem lone_pf (x : Lif) (h : LifOk x) : PF Try.prog 73 [.agg x.D] (.bool true) := by
  obtain ⟨b0, b1, w0, w1, s0, s1, u0, u1, r0, r1, st⟩ := h
  have c1 : ¬ x.backend < 0 := by omega
  have c2 : ¬ 12 ≤ x.backend := by omega
  have c3 : ¬ x.weight < 1 := by omega
  have c4 : ¬ 8 < x.weight := by omega
  have c5 : ¬ x.since < 0 := by omega
  have c6 : ¬ 1099511627776 < x.since := by omega
  have c7 : ¬ x.til < 0 := by omega
  have c8 : ¬ 1099511628276 < x.til := by omega
  have c9 : ¬ x.req < 0 := by omega
  have c10 : ¬ 1048576 < x.req := by omega
  refine PF.of follows_ok lone_code (by simp) (by simp [argOk]) (by simp [noV, noC, Lif.D]) fun B hBN hB0 => acode_sound [0, 1, 2, 20, 48, 50, 51, 66] [] _ _ _ ?_
  rcases st with ⟨h1, h2, h3, h4⟩ | ⟨h1, h2, h3⟩ | h1 | h1
  · simp [AK_at, acode_seq, acode_region, acode_draw, acode_cond, ↓CB_t, ↓CB_f, CB_u, acode_block, acode_loop, acode_exit, acode_scope, acode_ret, acode_skip, seqQ_n, seqQ_e, seqQ_r, blockQ_n, blockQ_e, blockQ_r, TK_at, OK_at, SK_at, aops_nil, aops_cons, asch_done, asch_one, asch_two, asch_top, astep, aop_eq, isLoud, aloud, aloud1, isWrite, qv, evS, strip, gof, eget, hget, putO, eput, herase, oks, opnds, gS, afin, afin0, binD, arith, D.cells, takeD, fillD, keep, trim, envOf, Fin, aresl, aresv, resD, argOk, pickV, isP, deq, deqs, boundD, slD, lenD, isT, isSl, ptrIds, chunks, mn_min, mx_max, D.cells, splice_one, splice_more, Rbr_at, Rfr_at, frR, frV, frC, flatC, brwR, brwV, brwC, omap, leR, leV, leC, leL, leVL, Lif.D, c1, c2, c3, c4, c5, c6, c7, c8, c9, c10, h1, h2, h3, h4]
  · simp [AK_at, acode_seq, acode_region, acode_draw, acode_cond, ↓CB_t, ↓CB_f, CB_u, acode_block, acode_loop, acode_exit, acode_scope, acode_ret, acode_skip, seqQ_n, seqQ_e, seqQ_r, blockQ_n, blockQ_e, blockQ_r, TK_at, OK_at, SK_at, aops_nil, aops_cons, asch_done, asch_one, asch_two, asch_top, astep, aop_eq, isLoud, aloud, aloud1, isWrite, qv, evS, strip, gof, eget, hget, putO, eput, herase, oks, opnds, gS, afin, afin0, binD, arith, D.cells, takeD, fillD, keep, trim, envOf, Fin, aresl, aresv, resD, argOk, pickV, isP, deq, deqs, boundD, slD, lenD, isT, isSl, ptrIds, chunks, mn_min, mx_max, D.cells, splice_one, splice_more, Rbr_at, Rfr_at, frR, frV, frC, flatC, brwR, brwV, brwC, omap, leR, leV, leC, leL, leVL, Lif.D, c1, c2, c3, c4, c5, c6, c7, c8, c9, c10, h1, h2, h3]
  · simp [AK_at, acode_seq, acode_region, acode_draw, acode_cond, ↓CB_t, ↓CB_f, CB_u, acode_block, acode_loop, acode_exit, acode_scope, acode_ret, acode_skip, seqQ_n, seqQ_e, seqQ_r, blockQ_n, blockQ_e, blockQ_r, TK_at, OK_at, SK_at, aops_nil, aops_cons, asch_done, asch_one, asch_two, asch_top, astep, aop_eq, isLoud, aloud, aloud1, isWrite, qv, evS, strip, gof, eget, hget, putO, eput, herase, oks, opnds, gS, afin, afin0, binD, arith, D.cells, takeD, fillD, keep, trim, envOf, Fin, aresl, aresv, resD, argOk, pickV, isP, deq, deqs, boundD, slD, lenD, isT, isSl, ptrIds, chunks, mn_min, mx_max, D.cells, splice_one, splice_more, Rbr_at, Rfr_at, frR, frV, frC, flatC, brwR, brwV, brwC, omap, leR, leV, leC, leL, leVL, Lif.D, c1, c2, c3, c4, c5, c6, c7, c8, c9, c10, h1]
  · simp [AK_at, acode_seq, acode_region, acode_draw, acode_cond, ↓CB_t, ↓CB_f, CB_u, acode_block, acode_loop, acode_exit, acode_scope, acode_ret, acode_skip, seqQ_n, seqQ_e, seqQ_r, blockQ_n, blockQ_e, blockQ_r, TK_at, OK_at, SK_at, aops_nil, aops_cons, asch_done, asch_one, asch_two, asch_top, astep, aop_eq, isLoud, aloud, aloud1, isWrite, qv, evS, strip, gof, eget, hget, putO, eput, herase, oks, opnds, gS, afin, afin0, binD, arith, D.cells, takeD, fillD, keep, trim, envOf, Fin, aresl, aresv, resD, argOk, pickV, isP, deq, deqs, boundD, slD, lenD, isT, isSl, ptrIds, chunks, mn_min, mx_max, D.cells, splice_one, splice_more, Rbr_at, Rfr_at, frR, frV, frC, flatC, brwR, brwV, brwC, omap, leR, leV, leC, leL, leVL, Lif.D, c1, c2, c3, c4, c5, c6, c7, c8, c9, c10, h1]
theorem lreq_code : cfun Try.prog [] 68 = some ⟨(.seq (.region 0 [⟨(some 1), (.box (.t 0)), none⟩, ⟨(some 2), (.mov (.k (.bool false))), none⟩]) (.seq (.region 1 [⟨(some 3), (.fad 0 (.t 1)), none⟩, ⟨(some 4), (.load false 1 (.t 3)), none⟩, ⟨(some 5), (.bin .geq (.t 4) (.k (.int .i64 0))), none⟩, ⟨(some 6), (.mov (.t 5)), none⟩, ⟨(some 7), (.fad 0 (.t 1)), (some (6, true))⟩, ⟨(some 8), (.load false 1 (.t 7)), (some (6, true))⟩, ⟨(some 9), (.bin .leq (.t 8) (.k (.int .i64 1048576))), (some (6, true))⟩, ⟨(some 10), (.pick (.t 6) (.t 9) (.k (.bool false))), none⟩, ⟨(some 11), (.mov (.t 10)), none⟩, ⟨(some 12), (.fad 1 (.t 1)), (some (11, true))⟩, ⟨(some 13), (.load false 1 (.t 12)), (some (11, true))⟩, ⟨(some 14), (.bin .eql (.t 13) (.k (.int .i64 1))), (some (11, true))⟩, ⟨(some 15), (.mov (.t 14)), (some (11, true))⟩, ⟨(some 16), (.fad 1 (.t 1)), (some (15, false))⟩, ⟨(some 17), (.load false 1 (.t 16)), (some (15, false))⟩, ⟨(some 18), (.bin .eql (.t 17) (.k (.int .i64 2))), (some (15, false))⟩, ⟨(some 19), (.pick (.t 15) (.k (.bool true)) (.t 18)), (some (11, true))⟩, ⟨(some 20), (.pick (.t 11) (.t 19) (.k (.bool false))), none⟩, ⟨(some 2), (.mov (.t 20)), none⟩]) .ret)), [(.t 2)], 21⟩ := by kernel_rfl
theorem lreq_pf (x : Rqs) (h : RqsOk x) : PF Try.prog 68 [.agg x.D] (.bool true) := by
  obtain ⟨i0, i1, k⟩ := h
  refine PF.of follows_ok lreq_code (by simp) (by simp [argOk]) (by simp [noV, noC, Rqs.D]) fun B hBN hB0 => acode_sound [0, 1, 2] [] _ _ _ ?_
  rcases k with k | k
  · simp [AK_at, acode_seq, acode_region, acode_draw, acode_cond, ↓CB_t, ↓CB_f, CB_u, acode_block, acode_loop, acode_exit, acode_scope, acode_ret, acode_skip, seqQ_n, seqQ_e, seqQ_r, blockQ_n, blockQ_e, blockQ_r, TK_at, OK_at, SK_at, aops_nil, aops_cons, asch_done, asch_one, asch_two, asch_top, astep, aop_eq, isLoud, aloud, aloud1, isWrite, qv, evS, strip, gof, eget, hget, putO, eput, herase, oks, opnds, gS, afin, afin0, binD, arith, D.cells, takeD, fillD, keep, trim, envOf, Fin, aresl, aresv, resD, argOk, pickV, isP, deq, deqs, boundD, slD, lenD, isT, isSl, ptrIds, chunks, mn_min, mx_max, D.cells, splice_one, splice_more, Rbr_at, Rfr_at, frR, frV, frC, flatC, brwR, brwV, brwC, omap, leR, leV, leC, leL, leVL, Rqs.D, i0, i1, k]
  · simp [AK_at, acode_seq, acode_region, acode_draw, acode_cond, ↓CB_t, ↓CB_f, CB_u, acode_block, acode_loop, acode_exit, acode_scope, acode_ret, acode_skip, seqQ_n, seqQ_e, seqQ_r, blockQ_n, blockQ_e, blockQ_r, TK_at, OK_at, SK_at, aops_nil, aops_cons, asch_done, asch_one, asch_two, asch_top, astep, aop_eq, isLoud, aloud, aloud1, isWrite, qv, evS, strip, gof, eget, hget, putO, eput, herase, oks, opnds, gS, afin, afin0, binD, arith, D.cells, takeD, fillD, keep, trim, envOf, Fin, aresl, aresv, resD, argOk, pickV, isP, deq, deqs, boundD, slD, lenD, isT, isSl, ptrIds, chunks, mn_min, mx_max, D.cells, splice_one, splice_more, Rbr_at, Rfr_at, frR, frV, frC, flatC, brwR, brwV, brwC, omap, leR, leV, leC, leL, leVL, Rqs.D, i0, i1, k]
def bookD (L : List Lif) (R : List Rqs) : D := .agg [.rows 6 (L.map Lif.D), .rows 5 (R.map Rqs.D)]
def prevB (L : List Lif) : Nat → Int
  | 0 => -1
  | i + 1 => (L.getD i default).backend
theorem lchk_code : cfun Try.prog [] 36 = some ⟨(.seq (.region 0 [⟨(some 1), (.box (.t 0)), none⟩, ⟨(some 2), (.mov (.k (.int .i64 0))), none⟩]) (.seq (.seq (.region 1 [⟨(some 9), (.fad 0 (.t 1)), none⟩, ⟨(some 10), (.load false 1 (.t 9)), none⟩, ⟨(some 11), (.len (.t 10)), none⟩, ⟨(some 12), (.bin .gtr (.t 11) (.k (.int .i64 12))), none⟩, ⟨(some 13), (.mov (.t 12)), none⟩, ⟨(some 14), (.fad 1 (.t 1)), (some (13, false))⟩, ⟨(some 15), (.load false 1 (.t 14)), (some (13, false))⟩, ⟨(some 16), (.len (.t 15)), (some (13, false))⟩, ⟨(some 17), (.bin .gtr (.t 16) (.k (.int .i64 100))), (some (13, false))⟩, ⟨(some 18), (.pick (.t 13) (.k (.bool true)) (.t 17)), none⟩]) (.cond 18 (.seq (.region 2 [⟨(some 2), (.mov (.k (.int .i64 6))), none⟩]) .ret) .skip)) (.seq (.region 3 [⟨(some 3), (.mov (.k (.int .i64 (-1)))), none⟩]) (.seq (.seq (.region 4 [⟨(some 19), (.fad 0 (.t 1)), none⟩, ⟨(some 20), (.load false 1 (.t 19)), none⟩, ⟨(some 21), (.len (.t 20)), none⟩, ⟨(some 22), (.mov (.k (.int .i64 0))), none⟩]) (.block 0 (.loop (.seq (.region 5 [⟨(some 23), (.bin .lss (.t 22) (.t 21)), none⟩]) (.seq (.cond 23 .skip (.exit 0)) (.seq (.block 1 (.seq (.region 6 [⟨(some 24), (.iads 6 (.t 20) (.t 22)), none⟩, ⟨(some 25), (.load true 6 (.t 24)), none⟩, ⟨(some 5), (.alloc [(.int .i64 0), (.int .i64 0), (.int .i64 0), (.int .i64 0), (.int .i64 0), (.int .i64 0)]), none⟩, ⟨none, (.store 6 (.t 5) (.t 25)), none⟩]) (.seq (.seq (.region 7 [⟨(some 26), (.load true 6 (.t 5)), none⟩, ⟨(some 27), (.call 73 [(.t 26)]), none⟩, ⟨(some 28), (.not (.t 27)), none⟩, ⟨(some 29), (.mov (.t 28)), none⟩, ⟨(some 30), (.fad 0 (.t 5)), (some (29, false))⟩, ⟨(some 31), (.load false 1 (.t 30)), (some (29, false))⟩, ⟨(some 32), (.mov (.t 3)), (some (29, false))⟩, ⟨(some 33), (.bin .leq (.t 31) (.t 32)), (some (29, false))⟩, ⟨(some 34), (.pick (.t 29) (.k (.bool true)) (.t 33)), none⟩]) (.cond 34 (.seq (.region 8 [⟨(some 2), (.mov (.k (.int .i64 6))), none⟩]) .ret) .skip)) (.region 9 [⟨(some 35), (.fad 0 (.t 5)), none⟩, ⟨(some 36), (.load false 1 (.t 35)), none⟩, ⟨(some 3), (.mov (.t 36)), none⟩])))) (.region 10 [⟨(some 37), (.bin .add (.t 22) (.k (.int .i64 1))), none⟩, ⟨(some 22), (.mov (.t 37)), none⟩]))))))) (.seq (.region 11 [⟨(some 38), (.xop 0 [0] []), none⟩, ⟨(some 6), (.mov (.t 38)), none⟩]) (.seq (.seq (.region 12 [⟨(some 39), (.fad 1 (.t 1)), none⟩, ⟨(some 40), (.load false 1 (.t 39)), none⟩, ⟨(some 41), (.len (.t 40)), none⟩, ⟨(some 42), (.mov (.k (.int .i64 0))), none⟩]) (.block 2 (.loop (.seq (.region 13 [⟨(some 43), (.bin .lss (.t 42) (.t 41)), none⟩]) (.seq (.cond 43 .skip (.exit 2)) (.seq (.block 3 (.seq (.region 14 [⟨(some 44), (.iads 5 (.t 40) (.t 42)), none⟩, ⟨(some 45), (.load true 5 (.t 44)), none⟩, ⟨(some 8), (.alloc [(.int .i64 0), (.int .i64 0), (.int .i64 0), (.int .i64 0), (.int .i64 0)]), none⟩, ⟨none, (.store 5 (.t 8) (.t 45)), none⟩]) (.seq (.seq (.region 15 [⟨(some 46), (.load true 5 (.t 8)), none⟩, ⟨(some 47), (.call 68 [(.t 46)]), none⟩, ⟨(some 48), (.not (.t 47)), none⟩]) (.cond 48 (.seq (.region 16 [⟨(some 2), (.mov (.k (.int .i64 6))), none⟩]) .ret) .skip)) (.region 17 [⟨(some 49), (.mov (.t 6)), none⟩, ⟨(some 50), (.fad 0 (.t 8)), none⟩, ⟨(some 51), (.load false 1 (.t 50)), none⟩, ⟨(some 52), (.build [] []), none⟩, ⟨none, (.xop 1 [0] [(.t 49), (.t 51), (.t 52)]), none⟩])))) (.region 18 [⟨(some 53), (.bin .add (.t 42) (.k (.int .i64 1))), none⟩, ⟨(some 42), (.mov (.t 53)), none⟩]))))))) (.seq (.seq (.region 19 [⟨(some 54), (.mov (.t 6)), none⟩, ⟨(some 55), (.xop 3 [0] [(.t 54)]), none⟩, ⟨(some 56), (.fad 1 (.t 1)), none⟩, ⟨(some 57), (.load false 1 (.t 56)), none⟩, ⟨(some 58), (.len (.t 57)), none⟩, ⟨(some 59), (.bin .lss (.t 55) (.t 58)), none⟩]) (.cond 59 (.seq (.region 20 [⟨(some 2), (.mov (.k (.int .i64 6))), none⟩]) .ret) .skip)) (.seq (.region 21 [⟨(some 2), (.mov (.k (.int .i64 0))), none⟩]) .ret)))))))), [(.t 2)], 60⟩ := by kernel_rfl
theorem lchk_pf (L : List Lif) (R : List Rqs) (h : BookOk L R) : PF Try.prog 36 [bookD L R] (I 0) := by
  obtain ⟨ll, lr, lok, rok, hs, hid⟩ := h
  have c1 : ¬ (12 : Int) < L.length := by omega
  have c2 : ¬ (100 : Int) < R.length := by omega
  unfold bookD
  refine PF.of follows_ok lchk_code (by simp) (by simp [argOk]) (by simp [noV, noC]) fun B hBN hB0 => acode_sound [0, 1, 2, 3, 5, 6, 8, 18, 20, 21, 22, 23, 34, 40, 41, 42, 43, 48, 59] [] _ _ _ ?_
  simp [AK_at, acode_seq, acode_region, acode_draw, acode_cond, ↓CB_t, ↓CB_f, CB_u, acode_block, acode_loop, acode_exit, acode_scope, acode_ret, acode_skip, seqQ_n, seqQ_e, seqQ_r, blockQ_n, blockQ_e, blockQ_r, TK_at, OK_at, SK_at, aops_nil, aops_cons, asch_done, asch_one, asch_two, asch_top, astep, aop_eq, isLoud, aloud, aloud1, isWrite, qv, evS, strip, gof, eget, hget, putO, eput, herase, oks, opnds, gS, afin, afin0, binD, arith, D.cells, takeD, fillD, keep, trim, envOf, Fin, aresl, aresv, resD, argOk, pickV, isP, deq, deqs, boundD, slD, lenD, isT, isSl, ptrIds, chunks, mn_min, mx_max, D.cells, splice_one, splice_more, Rbr_at, Rfr_at, frR, frV, frC, flatC, brwR, brwV, brwC, omap, leR, leV, leC, leL, leVL, c1, c2]
  refine W.loopS (fun i : Nat => ⟨[(22, I i), (21, I L.length), (20, D.rows 6 (L.map Lif.D)), (3, I (prevB L i)), (2, I 0), (1, .ptr 0 0)], [(0, .cells [.rows 6 (L.map Lif.D), .rows 5 (R.map Rqs.D)])], 1⟩)
    (fun n i => n = L.length - i ∧ i ≤ L.length) ?_ ?_
  · exact ⟨_, 0, (Gh.ren [0] (by simp [hB0]) (by simp [hB0] <;> decide) (by simp [eget, rnS, rnR, rnV, rnC, LtS, LtR, LtV, LtC, lget, prevB]) (by simp [hget, rnO, rnC, LtO, LtC, lget, prevB]) (.inl (by simp [lget, prevB]))), rfl, by omega⟩
  · rintro n i ⟨hn, hi⟩
    refine acode_sound [0, 1, 2, 3, 5, 6, 8, 18, 20, 21, 22, 23, 34, 40, 41, 42, 43, 48, 59] [] _ _ _ ?_
    by_cases hlt : i < L.length
    · have hone := lone_pf _ (lok _ (List.getElem_mem hlt))
      have hgt : prevB L i < L[i].backend := by
        cases i with
        | zero =>
          have := (lok _ (List.getElem_mem hlt)).b0
          simp only [prevB]; omega
        | succ k =>
          have hk : k < L.length := by omega
          have := List.pairwise_iff_getElem.1 hs k (k + 1) hk hlt (by omega)
          simp only [prevB, List.getD_eq_getElem?_getD, List.getElem?_eq_getElem hk, Option.getD_some]
          exact this
      have hnx : prevB L (i + 1) = L[i].backend := by
        simp only [prevB, List.getD_eq_getElem?_getD, List.getElem?_eq_getElem hlt]; rfl
      generalize prevB L i = a at hgt
      obtain ⟨o, ho⟩ : ∃ o, o = L[i] := ⟨_, rfl⟩
      rw [← ho] at hone hgt hnx
      have hgt' : ¬ o.backend ≤ a := by omega
      have ii : InR ((i : Int) + 1) := inW (by omega) (by omega)
      repeat' (first
        | simp [AK_at, acode_seq, acode_region, acode_draw, acode_cond, ↓CB_t, ↓CB_f, CB_u, acode_block, acode_loop, acode_exit, acode_scope, acode_ret, acode_skip, seqQ_n, seqQ_e, seqQ_r, blockQ_n, blockQ_e, blockQ_r, TK_at, OK_at, SK_at, aops_nil, aops_cons, asch_done, asch_one, asch_two, asch_top, astep, aop_eq, isLoud, aloud, aloud1, isWrite, qv, evS, strip, gof, eget, hget, putO, eput, herase, oks, opnds, gS, afin, afin0, binD, arith, D.cells, takeD, fillD, keep, trim, envOf, Fin, aresl, aresv, resD, argOk, pickV, isP, deq, deqs, boundD, slD, lenD, isT, isSl, ptrIds, chunks, mn_min, mx_max, D.cells, splice_one, splice_more, Rbr_at, Rfr_at, frR, frV, frC, flatC, brwR, brwV, brwC, omap, leR, leV, leC, leL, leVL, Lif.D, hlt, ← ho, hgt', ii]
        | (refine WCall.pf (hone) ?_ ?_ ?_ ?_; (focus (simp [oks, opnds, gS, gof, eget]; done)); (focus (simp [omap, brwV, brwC, evS, eget, strip, hget, leVL, leV, leC, leL, Lif.D, hlt, ← ho, hgt', ii]; done)); (focus (simp [noV, noC, flatR, flatV, flatC, evS, eget, strip, Lif.D, hlt, ← ho, hgt', ii]; done)))
        | (refine ⟨WCall.pf (hone) ?_ ?_ ?_ ?_, ?_⟩; (focus (simp [oks, opnds, gS, gof, eget]; done)); (focus (simp [omap, brwV, brwC, evS, eget, strip, hget, leVL, leV, leC, leL, Lif.D, hlt, ← ho, hgt', ii]; done)); (focus (simp [noV, noC, flatR, flatV, flatC, evS, eget, strip, Lif.D, hlt, ← ho, hgt', ii]; done)))
        | (with_reducible refine And.intro (And.intro ?_ ?_) ?_)
        | fail)
      exact ⟨_, i + 1, (Gh.ren [0] (by simp [hB0]) (by simp [hB0] <;> decide) (by simp [eget, rnS, rnR, rnV, rnC, LtS, LtR, LtV, LtC, lget, hnx]) (by simp [hget, rnO, rnC, LtO, LtC, lget, hnx]) (.inl (by simp [lget, hnx]))), by omega, rfl, by omega⟩
    · obtain rfl : i = L.length := by omega
      simp [AK_at, acode_seq, acode_region, acode_draw, acode_cond, ↓CB_t, ↓CB_f, CB_u, acode_block, acode_loop, acode_exit, acode_scope, acode_ret, acode_skip, seqQ_n, seqQ_e, seqQ_r, blockQ_n, blockQ_e, blockQ_r, TK_at, OK_at, SK_at, aops_nil, aops_cons, asch_done, asch_one, asch_two, asch_top, astep, aop_eq, isLoud, aloud, aloud1, isWrite, qv, evS, strip, gof, eget, hget, putO, eput, herase, oks, opnds, gS, afin, afin0, binD, arith, D.cells, takeD, fillD, keep, trim, envOf, Fin, aresl, aresv, resD, argOk, pickV, isP, deq, deqs, boundD, slD, lenD, isT, isSl, ptrIds, chunks, mn_min, mx_max, D.cells, splice_one, splice_more, Rbr_at, Rfr_at, frR, frV, frC, flatC, brwR, brwV, brwC, omap, leR, leV, leC, leL, leVL]
      refine XCall.mk ?_
      simp [AK_at, acode_seq, acode_region, acode_draw, acode_cond, ↓CB_t, ↓CB_f, CB_u, acode_block, acode_loop, acode_exit, acode_scope, acode_ret, acode_skip, seqQ_n, seqQ_e, seqQ_r, blockQ_n, blockQ_e, blockQ_r, TK_at, OK_at, SK_at, aops_nil, aops_cons, asch_done, asch_one, asch_two, asch_top, astep, aop_eq, isLoud, aloud, aloud1, isWrite, qv, evS, strip, gof, eget, hget, putO, eput, herase, oks, opnds, gS, afin, afin0, binD, arith, D.cells, takeD, fillD, keep, trim, envOf, Fin, aresl, aresv, resD, argOk, pickV, isP, deq, deqs, boundD, slD, lenD, isT, isSl, ptrIds, chunks, mn_min, mx_max, D.cells, splice_one, splice_more, Rbr_at, Rfr_at, frR, frV, frC, flatC, brwR, brwV, brwC, omap, leR, leV, leC, leL, leVL]
      refine W.loopS (fun i : Nat => ⟨[(42, I i), (41, I R.length), (40, D.rows 5 (R.map Rqs.D)), (6, .own 1), (2, I 0), (1, .ptr 0 0)], [(1, .mp true (idEs (R.take i) 0) i), (0, .cells [.rows 6 (L.map Lif.D), .rows 5 (R.map Rqs.D)])], 2⟩)
        (fun n i => n = R.length - i ∧ i ≤ R.length) ?_ ?_
      · exact ⟨_, 0, (Gh.ren [0, 1] (by simp [hB0]) (by simp [hB0] <;> decide) (by simp [eget, rnS, rnR, rnV, rnC, LtS, LtR, LtV, LtC, lget, idEs]) (by simp [hget, rnO, rnC, LtO, LtC, lget, idEs]) (.inl (by simp [lget, idEs]))), rfl, by omega⟩
      rintro n i ⟨hn, hi⟩
      refine acode_sound [0, 1, 2, 3, 5, 6, 8, 18, 20, 21, 22, 23, 34, 40, 41, 42, 43, 48, 59] [] _ _ _ ?_
      by_cases hlt : i < R.length
      · have hreq := lreq_pf _ (rok _ (List.getElem_mem hlt))
        have hro := rok _ (List.getElem_mem hlt)
        have happ : idEs (R.take (i + 1)) 0 = idEs (R.take i) 0 ++ [([R[i].id], [], i)] := by
          rw [List.take_succ_eq_append_getElem hlt, idEs_app]
          simp; omega
        have hnew : ∀ e ∈ idEs (R.take i) 0, e.1 ≠ [R[i].id] := fun e he hk => by
          obtain ⟨r, hr, her⟩ := idEs_mem he
          rw [her] at hk
          simp only [List.cons.injEq, and_true] at hk
          obtain ⟨j, hj⟩ := List.getElem?_of_mem hr
          rw [List.getElem?_take] at hj
          split at hj
          · rename_i hji
            obtain ⟨hj1, hj2⟩ := List.getElem?_eq_some_iff.1 hj
            have := (List.nodup_iff_pairwise_ne.1 hid)
            rw [List.pairwise_map] at this
            have := List.pairwise_iff_getElem.1 this j i hj1 hlt hji
            rw [hj2] at this
            exact this hk
          · cases hj
        have hgk : ∀ e ∈ idEs (R.take i) 0, goodK 0 e.1 := fun e he => by
          obtain ⟨r, hr, her⟩ := idEs_mem he
          have := rok r (List.mem_of_mem_take hr)
          rw [her]
          exact ⟨rfl, by
            intro z hz
            rw [List.mem_singleton.1 hz]
            exact inW (by have := this.i0; omega) (by have := this.i1; omega)⟩
        have hnd : ((idEs (R.take i) 0).map (·.1)).Nodup := by
          rw [idEs_keys]
          have := (hid.sublist ((List.take_sublist i R).map (·.id)))
          rw [List.nodup_iff_pairwise_ne, List.pairwise_map] at this ⊢
          exact this.imp fun h e => h (by simpa using e)
        have hgi : goodK 0 [R[i].id] := ⟨rfl, by
          intro z hz
          rw [List.mem_singleton.1 hz]
          exact inW (by have := hro.i0; omega) (by have := hro.i1; omega)⟩
        obtain ⟨o, ho⟩ : ∃ o, o = R[i] := ⟨_, rfl⟩
        rw [← ho] at hreq happ hnew hgi
        have ii : InR ((i : Int) + 1) := inW (by omega) (by omega)
        generalize hES : idEs (R.take i) 0 = es at happ hnew hgk hnd
        repeat' (first
          | simp [AK_at, acode_seq, acode_region, acode_draw, acode_cond, ↓CB_t, ↓CB_f, CB_u, acode_block, acode_loop, acode_exit, acode_scope, acode_ret, acode_skip, seqQ_n, seqQ_e, seqQ_r, blockQ_n, blockQ_e, blockQ_r, TK_at, OK_at, SK_at, aops_nil, aops_cons, asch_done, asch_one, asch_two, asch_top, astep, aop_eq, isLoud, aloud, aloud1, isWrite, qv, evS, strip, gof, eget, hget, putO, eput, herase, oks, opnds, gS, afin, afin0, binD, arith, D.cells, takeD, fillD, keep, trim, envOf, Fin, aresl, aresv, resD, argOk, pickV, isP, deq, deqs, boundD, slD, lenD, isT, isSl, ptrIds, chunks, mn_min, mx_max, D.cells, splice_one, splice_more, Rbr_at, Rfr_at, frR, frV, frC, flatC, brwR, brwV, brwC, omap, leR, leV, leC, leL, leVL, Rqs.D, hlt, ← ho]
          | (refine WCall.pf (hreq) ?_ ?_ ?_ ?_; (focus (simp [oks, opnds, gS, gof, eget]; done)); (focus (simp [omap, brwV, brwC, evS, eget, strip, hget, leVL, leV, leC, leL, Rqs.D, hlt, ← ho]; done)); (focus (simp [noV, noC, flatR, flatV, flatC, evS, eget, strip, Rqs.D, hlt, ← ho]; done)))
          | (refine ⟨WCall.pf (hreq) ?_ ?_ ?_ ?_, ?_⟩; (focus (simp [oks, opnds, gS, gof, eget]; done)); (focus (simp [omap, brwV, brwC, evS, eget, strip, hget, leVL, leV, leC, leL, Rqs.D, hlt, ← ho]; done)); (focus (simp [noV, noC, flatR, flatV, flatC, evS, eget, strip, Rqs.D, hlt, ← ho]; done)))
          | (with_reducible refine And.intro (And.intro ?_ ?_) ?_)
          | fail)
        refine XCall.upd key0 (id := 1) (es := es) (ck := i) (ks := [o.id]) (vs := []) (by simp [oks, opnds, gS, gof, eget]) rfl (by simp [evS, eget, strip]) (by simp [hget]) (by simp [evS, eget, strip, keyD]) (by simp [evS, eget, strip]) hgi hgk hnd ?_
        rw [mput_new hnew]
        simp [AK_at, acode_seq, acode_region, acode_draw, acode_cond, ↓CB_t, ↓CB_f, CB_u, acode_block, acode_loop, acode_exit, acode_scope, acode_ret, acode_skip, seqQ_n, seqQ_e, seqQ_r, blockQ_n, blockQ_e, blockQ_r, TK_at, OK_at, SK_at, aops_nil, aops_cons, asch_done, asch_one, asch_two, asch_top, astep, aop_eq, isLoud, aloud, aloud1, isWrite, qv, evS, strip, gof, eget, hget, putO, eput, herase, oks, opnds, gS, afin, afin0, binD, arith, D.cells, takeD, fillD, keep, trim, envOf, Fin, aresl, aresv, resD, argOk, pickV, isP, deq, deqs, boundD, slD, lenD, isT, isSl, ptrIds, chunks, mn_min, mx_max, D.cells, splice_one, splice_more, Rbr_at, Rfr_at, frR, frV, frC, flatC, brwR, brwV, brwC, omap, leR, leV, leC, leL, leVL, ii]
        exact ⟨_, i + 1, (Gh.ren [0, 1] (by simp [hB0]) (by simp [hB0] <;> decide) (by simp [eget, rnS, rnR, rnV, rnC, LtS, LtR, LtV, LtC, lget, happ]) (by simp [hget, rnO, rnC, LtO, LtC, lget, happ]) (.inl (by simp [lget, happ]))), by omega, rfl, by omega⟩
      · obtain rfl : i = R.length := by omega
        have hlen := idEs_len R 0
        simp [AK_at, acode_seq, acode_region, acode_draw, acode_cond, ↓CB_t, ↓CB_f, CB_u, acode_block, acode_loop, acode_exit, acode_scope, acode_ret, acode_skip, seqQ_n, seqQ_e, seqQ_r, blockQ_n, blockQ_e, blockQ_r, TK_at, OK_at, SK_at, aops_nil, aops_cons, asch_done, asch_one, asch_two, asch_top, astep, aop_eq, isLoud, aloud, aloud1, isWrite, qv, evS, strip, gof, eget, hget, putO, eput, herase, oks, opnds, gS, afin, afin0, binD, arith, D.cells, takeD, fillD, keep, trim, envOf, Fin, aresl, aresv, resD, argOk, pickV, isP, deq, deqs, boundD, slD, lenD, isT, isSl, ptrIds, chunks, mn_min, mx_max, D.cells, splice_one, splice_more, Rbr_at, Rfr_at, frR, frV, frC, flatC, brwR, brwV, brwC, omap, leR, leV, leC, leL, leVL]
        refine XCall.len (id := 1) (bare := true) (es := idEs R 0) (ck := R.length) (by simp [oks, opnds, gS, gof, eget]) (by simp [evS, eget, strip]) (by simp [hget]) ?_
        simp [AK_at, acode_seq, acode_region, acode_draw, acode_cond, ↓CB_t, ↓CB_f, CB_u, acode_block, acode_loop, acode_exit, acode_scope, acode_ret, acode_skip, seqQ_n, seqQ_e, seqQ_r, blockQ_n, blockQ_e, blockQ_r, TK_at, OK_at, SK_at, aops_nil, aops_cons, asch_done, asch_one, asch_two, asch_top, astep, aop_eq, isLoud, aloud, aloud1, isWrite, qv, evS, strip, gof, eget, hget, putO, eput, herase, oks, opnds, gS, afin, afin0, binD, arith, D.cells, takeD, fillD, keep, trim, envOf, Fin, aresl, aresv, resD, argOk, pickV, isP, deq, deqs, boundD, slD, lenD, isT, isSl, ptrIds, chunks, mn_min, mx_max, D.cells, splice_one, splice_more, Rbr_at, Rfr_at, frR, frV, frC, flatC, brwR, brwV, brwC, omap, leR, leV, leC, leL, leVL, hlen]
/-- the book at work -/
def bkH (L : List Lif) (R : List Rqs) : List (Nat × Ob) := [(2, .row 5 (R.map Rqs.D)), (1, .row 6 (L.map Lif.D)), (0, .cells [.own 1, .own 2])]
theorem lopen_code : cfun Try.prog [] 67 = some ⟨(.seq (.region 0 [⟨(some 1), (.box (.t 0)), none⟩, ⟨(some 2), (.mov (.k .nilp)), none⟩, ⟨(some 3), (.mov (.k (.int .i64 0))), none⟩]) (.seq (.seq (.region 1 [⟨(some 5), (.load true 2 (.t 1)), none⟩, ⟨(some 6), (.call 36 [(.t 5)]), none⟩, ⟨(some 4), (.mov (.t 6)), none⟩]) (.seq (.region 2 [⟨(some 7), (.mov (.t 4)), none⟩, ⟨(some 8), (.bin .neq (.t 7) (.k (.int .i64 0))), none⟩]) (.cond 8 (.seq (.region 3 [⟨(some 9), (.mov (.t 4)), none⟩, ⟨(some 2), (.mov (.k .nilp)), none⟩, ⟨(some 3), (.mov (.t 9)), none⟩]) .ret) .skip))) (.seq (.draw 4 (.one true ⟨(some 10), (.fad 0 (.t 1)), none⟩ (.one true ⟨(some 11), (.load false 1 (.t 10)), none⟩ (.one true ⟨(some 13), (.fad 1 (.t 1)), none⟩ (.one true ⟨(some 14), (.load false 1 (.t 13)), none⟩ (.one true ⟨(some 12), (.call 96 [(.t 11)]), none⟩ (.one true ⟨(some 15), (.call 97 [(.t 14)]), none⟩ (.one true ⟨(some 16), (.build [.nil0, .nil0] [(0, (1, (.t 12))), (1, (1, (.t 15)))]), none⟩ (.one true ⟨(some 17), (.build [.nil0, .nil0] [(0, (2, (.t 16)))]), none⟩ (.one true ⟨(some 18), (.box (.t 17)), none⟩ (.one true ⟨(some 2), (.mov (.t 18)), none⟩ (.one true ⟨(some 3), (.mov (.k (.int .i64 0))), none⟩ .done)))))))))))) .ret))), [(.t 2), (.t 3)], 19⟩ := by kernel_rfl
theorem lopen_hf (L : List Lif) (R : List Rqs) (h : BookOk L R) : HF Try.prog 67 [bookD L R] [] 0 (fun d H' nx' => d = .tup [.ptr 0 0, I 0] ∧ H' = bkH L R ∧ nx' = 3) := by
  have hchk := lchk_pf L R h
  have hL := licln_hf Lif.D L (by have := h.ll; omega) (els_lif L)
  have hR := rqcln_hf Rqs.D R (by have := h.lr; omega) (els_rqs R)
  refine HF.gh (R := fun d H' nx' => ∃ k a b, d = .tup [.ptr k 0, I 0] ∧ hget H' k = some (.cells [a, b]) ∧ k < nx' ∧ ((a = .nil0 ∧ L = []) ∨ ∃ i, a = .own i ∧ i < nx' ∧ i ≠ k ∧ hget H' i = some (.row 6 (L.map Lif.D))) ∧ ((b = .nil0 ∧ R = []) ∨ ∃ j, b = .own j ∧ j < nx' ∧ j ≠ k ∧ a ≠ .own j ∧ hget H' j = some (.row 5 (R.map Rqs.D)))) ?_ ?_
  · unfold bookD at hchk ⊢
    refine HF.of follows_ok lopen_code (by simp) (by simp [argOk]) (by simp [LtV, LtC]) fun B hBN hB0 => acode_sound [0, 1, 2, 3, 4, 8] [] _ _ _ ?_
    repeat' (first
      | simp [AK_at, acode_seq, acode_region, acode_draw, acode_cond, ↓CB_t, ↓CB_f, CB_u, acode_block, acode_loop, acode_exit, acode_scope, acode_ret, acode_skip, seqQ_n, seqQ_e, seqQ_r, blockQ_n, blockQ_e, blockQ_r, TK_at, OK_at, SK_at, aops_nil, aops_cons, asch_done, asch_one, asch_two, asch_top, astep, aop_eq, isLoud, aloud, aloud1, isWrite, qv, evS, strip, gof, eget, hget, putO, eput, herase, oks, opnds, gS, afin, afin0, binD, arith, D.cells, takeD, fillD, keep, trim, envOf, Fin, aresl, aresv, resD, argOk, pickV, isP, deq, deqs, boundD, slD, lenD, isT, isSl, ptrIds, chunks, mn_min, mx_max, D.cells, splice_one, splice_more, Rbr_at, Rfr_at, frR, frV, frC, flatC, brwR, brwV, brwC, omap, leR, leV, leC, leL, leVL]
      | (refine WCall.pf (hchk) ?_ ?_ ?_ ?_; (focus (simp [oks, opnds, gS, gof, eget]; done)); (focus (simp [omap, brwV, brwC, evS, eget, strip, hget, leVL, leV, leC, leL]; done)); (focus (simp [noV, noC, flatR, flatV, flatC, evS, eget, strip]; done)))
      | (refine ⟨WCall.pf (hchk) ?_ ?_ ?_ ?_, ?_⟩; (focus (simp [oks, opnds, gS, gof, eget]; done)); (focus (simp [omap, brwV, brwC, evS, eget, strip, hget, leVL, leV, leC, leL]; done)); (focus (simp [noV, noC, flatR, flatV, flatC, evS, eget, strip]; done)))
      | (with_reducible refine And.intro (And.intro ?_ ?_) ?_)
      | fail)
    refine WCall.hf0 hL (by simp [oks, opnds, gS, gof, eget]) (by simp [evS, eget, strip]) (by simp [argOk]) (by simp [noV, noC]) ?_
    rintro d H' nx' (⟨rfl, h0, rfl, rfl⟩ | ⟨rfl, rfl, rfl⟩)
    all_goals
      simp [AK_at, acode_seq, acode_region, acode_draw, acode_cond, ↓CB_t, ↓CB_f, CB_u, acode_block, acode_loop, acode_exit, acode_scope, acode_ret, acode_skip, seqQ_n, seqQ_e, seqQ_r, blockQ_n, blockQ_e, blockQ_r, TK_at, OK_at, SK_at, aops_nil, aops_cons, asch_done, asch_one, asch_two, asch_top, astep, aop_eq, isLoud, aloud, aloud1, isWrite, qv, evS, strip, gof, eget, hget, putO, eput, herase, oks, opnds, gS, afin, afin0, binD, arith, D.cells, takeD, fillD, keep, trim, envOf, Fin, aresl, aresv, resD, argOk, pickV, isP, deq, deqs, boundD, slD, lenD, isT, isSl, ptrIds, chunks, mn_min, mx_max, D.cells, splice_one, splice_more, Rbr_at, Rfr_at, frR, frV, frC, flatC, brwR, brwV, brwC, omap, leR, leV, leC, leL, leVL, rnR, rnV, rnC, rnO, rho_0, hputs, herases]
      refine WCall.hf0 hR (by simp [oks, opnds, gS, gof, eget]) (by simp [evS, eget, strip]) (by simp [argOk]) (by simp [noV, noC]) ?_
      rintro d H' nx' (⟨rfl, h1, rfl, rfl⟩ | ⟨rfl, rfl, rfl⟩)
    · simp [AK_at, acode_seq, acode_region, acode_draw, acode_cond, ↓CB_t, ↓CB_f, CB_u, acode_block, acode_loop, acode_exit, acode_scope, acode_ret, acode_skip, seqQ_n, seqQ_e, seqQ_r, blockQ_n, blockQ_e, blockQ_r, TK_at, OK_at, SK_at, aops_nil, aops_cons, asch_done, asch_one, asch_two, asch_top, astep, aop_eq, isLoud, aloud, aloud1, isWrite, qv, evS, strip, gof, eget, hget, putO, eput, herase, oks, opnds, gS, afin, afin0, binD, arith, D.cells, takeD, fillD, keep, trim, envOf, Fin, aresl, aresv, resD, argOk, pickV, isP, deq, deqs, boundD, slD, lenD, isT, isSl, ptrIds, chunks, mn_min, mx_max, D.cells, splice_one, splice_more, Rbr_at, Rfr_at, frR, frV, frC, flatC, brwR, brwV, brwC, omap, leR, leV, leC, leL, leVL, rnR, rnV, rnC, rnO, rho_0, hputs, herases, h0, h1]
      exact ⟨_, _, ⟨rfl, rfl⟩, .inl rfl, .inl rfl⟩
    · simp [AK_at, acode_seq, acode_region, acode_draw, acode_cond, ↓CB_t, ↓CB_f, CB_u, acode_block, acode_loop, acode_exit, acode_scope, acode_ret, acode_skip, seqQ_n, seqQ_e, seqQ_r, blockQ_n, blockQ_e, blockQ_r, TK_at, OK_at, SK_at, aops_nil, aops_cons, asch_done, asch_one, asch_two, asch_top, astep, aop_eq, isLoud, aloud, aloud1, isWrite, qv, evS, strip, gof, eget, hget, putO, eput, herase, oks, opnds, gS, afin, afin0, binD, arith, D.cells, takeD, fillD, keep, trim, envOf, Fin, aresl, aresv, resD, argOk, pickV, isP, deq, deqs, boundD, slD, lenD, isT, isSl, ptrIds, chunks, mn_min, mx_max, D.cells, splice_one, splice_more, Rbr_at, Rfr_at, frR, frV, frC, flatC, brwR, brwV, brwC, omap, leR, leV, leC, leL, leVL, rnR, rnV, rnC, rnO, rho_0, hputs, herases, h0]
      exact ⟨_, _, ⟨rfl, rfl⟩, .inl rfl, .inr ⟨2, rfl, by omega, by omega, by simp, by simp⟩⟩
    · simp [AK_at, acode_seq, acode_region, acode_draw, acode_cond, ↓CB_t, ↓CB_f, CB_u, acode_block, acode_loop, acode_exit, acode_scope, acode_ret, acode_skip, seqQ_n, seqQ_e, seqQ_r, blockQ_n, blockQ_e, blockQ_r, TK_at, OK_at, SK_at, aops_nil, aops_cons, asch_done, asch_one, asch_two, asch_top, astep, aop_eq, isLoud, aloud, aloud1, isWrite, qv, evS, strip, gof, eget, hget, putO, eput, herase, oks, opnds, gS, afin, afin0, binD, arith, D.cells, takeD, fillD, keep, trim, envOf, Fin, aresl, aresv, resD, argOk, pickV, isP, deq, deqs, boundD, slD, lenD, isT, isSl, ptrIds, chunks, mn_min, mx_max, D.cells, splice_one, splice_more, Rbr_at, Rfr_at, frR, frV, frC, flatC, brwR, brwV, brwC, omap, leR, leV, leC, leL, leVL, rnR, rnV, rnC, rnO, rho_0, hputs, herases, h1]
      exact ⟨_, _, ⟨rfl, rfl⟩, .inr ⟨2, rfl, by omega, by omega, by simp⟩, .inl rfl⟩
    · simp [AK_at, acode_seq, acode_region, acode_draw, acode_cond, ↓CB_t, ↓CB_f, CB_u, acode_block, acode_loop, acode_exit, acode_scope, acode_ret, acode_skip, seqQ_n, seqQ_e, seqQ_r, blockQ_n, blockQ_e, blockQ_r, TK_at, OK_at, SK_at, aops_nil, aops_cons, asch_done, asch_one, asch_two, asch_top, astep, aop_eq, isLoud, aloud, aloud1, isWrite, qv, evS, strip, gof, eget, hget, putO, eput, herase, oks, opnds, gS, afin, afin0, binD, arith, D.cells, takeD, fillD, keep, trim, envOf, Fin, aresl, aresv, resD, argOk, pickV, isP, deq, deqs, boundD, slD, lenD, isT, isSl, ptrIds, chunks, mn_min, mx_max, D.cells, splice_one, splice_more, Rbr_at, Rfr_at, frR, frV, frC, flatC, brwR, brwV, brwC, omap, leR, leV, leC, leL, leVL, rnR, rnV, rnC, rnO, rho_0, hputs, herases]
      exact ⟨_, _, ⟨rfl, rfl⟩, .inr ⟨2, rfl, by omega, by omega, by simp⟩, .inr ⟨4, rfl, by omega, by omega, by simp, by simp⟩⟩
  · rintro B hB d H' nx' ⟨k, a, b, rfl, hk, hkn, ha, hb⟩
    obtain ⟨env, henv⟩ : ∃ env : List (Nat × D), env = [(0, D.tup [.ptr k 0, I 0])] := ⟨_, rfl⟩
    obtain ⟨H1, n1, i, g1, k1, kn1, i1, i2, i3, hb1⟩ : ∃ H1 n1 i, Gh B ⟨env, H', nx'⟩ ⟨env, H1, n1⟩ ∧ hget H1 k = some (.cells [.own i, b]) ∧ k < n1 ∧ i < n1 ∧ i ≠ k ∧ hget H1 i = some (.row 6 (L.map Lif.D)) ∧ ((b = .nil0 ∧ R = []) ∨ ∃ j, b = .own j ∧ j < n1 ∧ j ≠ k ∧ j ≠ i ∧ hget H1 j = some (.row 5 (R.map Rqs.D))) := by
      rcases ha with ⟨rfl, rfl⟩ | ⟨i, rfl, h1, h2, h3⟩
      · refine ⟨eput (eput H' nx' (.row 6 [])) k (.cells [.own nx', b]), nx' + 1, nx', Gh.adoptC k 0 6 (by omega) [.nil0, b] hk rfl, by simp [hget_eput], by omega, by omega, by omega, ?_, ?_⟩
        · rw [hget_eput, if_neg (by omega), hget_eput, if_pos rfl]; rfl
        · rcases hb with hb | ⟨j, rfl, h1, h2, h3, h4⟩
          · exact .inl hb
          · refine .inr ⟨j, rfl, by omega, h2, by omega, ?_⟩
            rw [hget_eput, if_neg h2, hget_eput, if_neg (by omega)]; exact h4
      · refine ⟨H', nx', i, Gh.refl _, hk, hkn, h1, h2, h3, ?_⟩
        rcases hb with hb | ⟨j, rfl, h1, h2, h3, h4⟩
        · exact .inl hb
        · exact .inr ⟨j, rfl, h1, h2, fun e => h3 (by rw [e]), h4⟩
    obtain ⟨H2, n2, j, g2, k2, kn2, j1, j2, j3, j4, i4, i5⟩ : ∃ H2 n2 j, Gh B ⟨env, H1, n1⟩ ⟨env, H2, n2⟩ ∧ hget H2 k = some (.cells [.own i, .own j]) ∧ k < n2 ∧ j < n2 ∧ j ≠ k ∧ j ≠ i ∧ hget H2 j = some (.row 5 (R.map Rqs.D)) ∧ hget H2 i = some (.row 6 (L.map Lif.D)) ∧ i < n2 := by
      rcases hb1 with ⟨rfl, rfl⟩ | ⟨j, rfl, h1, h2, h3, h4⟩
      · refine ⟨eput (eput H1 n1 (.row 5 [])) k (.cells [.own i, .own n1]), n1 + 1, n1, Gh.adoptC k 1 5 (by omega) [.own i, .nil0] k1 rfl, by simp [hget_eput], by omega, by omega, by omega, by omega, ?_, ?_, by omega⟩
        · rw [hget_eput, if_neg (by omega), hget_eput, if_pos rfl]; rfl
        · rw [hget_eput, if_neg i2, hget_eput, if_neg (by omega)]; exact i3
      · exact ⟨H1, n1, j, Gh.refl _, k1, kn1, h1, h2, h3, h4, i3, i1⟩
    refine ⟨.tup [.ptr 0 0, I 0], bkH L R, 3, (henv ▸ (g1.trans g2)).trans ?_, (fun g e => by simp), rfl, rfl, rfl⟩
    exact Gh.ren [k, i, j] (by omega) (fun id h => by omega) (by simp [eget, rnS, rnR, rnV, rnC, LtS, LtR, LtV, LtC, lget]) (by simp [bkH, rnO, rnC, LtO, LtC, lget, k2, j4, i4]) (.inl (by simp [bkH, lget, i2, j2, j3]))
theorem lfd1_code : cfun Try.prog [] 100 = some ⟨(.seq (.region 0 [⟨(some 2), (.box (.t 0)), none⟩, ⟨(some 3), (.mov (.k (.bool false))), none⟩]) (.seq (.region 1 [⟨(some 4), (.fad 0 (.t 2)), none⟩, ⟨(some 5), (.load false 1 (.t 4)), none⟩, ⟨(some 6), (.load false 1 (.t 1)), none⟩, ⟨(some 7), (.bin .eql (.t 5) (.t 6)), none⟩, ⟨(some 3), (.mov (.t 7)), none⟩]) .ret)), [(.t 3)], 8⟩ := by kernel_rfl
theorem lfd1_pf (x : Lif) (b : Int) : PF Try.prog 100 [.agg x.D, .pc [I b]] (.bool (qB b x)) := by
  refine PF.of follows_ok lfd1_code (by simp) (by simp [argOk]) (by simp [noV, noC, Lif.D]) fun B hBN hB0 => acode_sound [0, 1, 2, 3] [] _ _ _ ?_
  simp [AK_at, acode_seq, acode_region, acode_draw, acode_cond, ↓CB_t, ↓CB_f, CB_u, acode_block, acode_loop, acode_exit, acode_scope, acode_ret, acode_skip, seqQ_n, seqQ_e, seqQ_r, blockQ_n, blockQ_e, blockQ_r, TK_at, OK_at, SK_at, aops_nil, aops_cons, asch_done, asch_one, asch_two, asch_top, astep, aop_eq, isLoud, aloud, aloud1, isWrite, qv, evS, strip, gof, eget, hget, putO, eput, herase, oks, opnds, gS, afin, afin0, binD, arith, D.cells, takeD, fillD, keep, trim, envOf, Fin, aresl, aresv, resD, argOk, pickV, isP, deq, deqs, boundD, slD, lenD, isT, isSl, ptrIds, chunks, mn_min, mx_max, D.cells, splice_one, splice_more, Rbr_at, Rfr_at, frR, frV, frC, flatC, brwR, brwV, brwC, omap, leR, leV, leC, leL, leVL, Lif.D, qB]
def findD (L : List Lif) (b : Int) : D := if findM L b < 0 then .nilp else .pel 1 (findM L b).toNat 6 0
theorem bkH_lt (L : List Lif) (R : List Rqs) (n : Nat) (hn : 3 ≤ n) : ∀ p ∈ bkH L R, p.1 < n ∧ LtO n p.2 := by
  simp [bkH, LtO, LtC]; omega
theorem lfind_code : cfun Try.prog [] 74 = some ⟨(.seq (.region 0 [⟨(some 3), (.box (.t 1)), none⟩, ⟨(some 4), (.mov (.k .nilp)), none⟩]) (.seq (.region 1 [⟨(some 6), (.mov (.t 0)), none⟩, ⟨(some 7), (.nchk (.t 6)), none⟩, ⟨(some 8), (.fad 0 (.t 7)), none⟩, ⟨(some 9), (.fad 0 (.t 8)), none⟩, ⟨(some 10), (.load false 1 (.t 9)), none⟩, ⟨(some 11), (.mkfn 100 [(.t 3)]), none⟩, ⟨(some 12), (.call 99 [(.t 10), (.t 11)]), none⟩, ⟨(some 5), (.mov (.t 12)), none⟩]) (.seq (.seq (.region 2 [⟨(some 13), (.mov (.t 5)), none⟩, ⟨(some 14), (.bin .lss (.t 13) (.k (.int .i64 0))), none⟩]) (.cond 14 (.seq (.region 3 [⟨(some 4), (.mov (.k .nilp)), none⟩]) .ret) .skip)) (.seq (.region 4 [⟨(some 15), (.mov (.t 0)), none⟩, ⟨(some 16), (.nchk (.t 15)), none⟩, ⟨(some 17), (.fad 0 (.t 16)), none⟩, ⟨(some 18), (.fad 0 (.t 17)), none⟩, ⟨(some 19), (.load false 1 (.t 18)), none⟩, ⟨(some 20), (.mov (.t 5)), none⟩, ⟨(some 21), (.iads 6 (.t 19) (.t 20)), none⟩, ⟨(some 4), (.mov (.t 21)), none⟩]) .ret)))), [(.t 4)], 22⟩ := by kernel_rfl
theorem lfind_hf (L : List Lif) (R : List Rqs) (b : Int) (hl : L.length ≤ 12) : HF Try.prog 74 [.ptr 0 0, I b] (bkH L R) 3 (fun d H' nx' => d = findD L b ∧ H' = bkH L R ∧ nx' = 3) := by
  have hlo := idxZ_lo (qB b) L
  have hix := liixf1_pf Lif.D L 100 [I b] (qB b) (by omega) (els_lif L) (fun s _ => lfd1_pf s b)
  refine HF.tidy (by omega) (by unfold findD; intro g e; split <;> simp) (by unfold findD; split <;> simp [LtS, LtR, LtV, LtC]) (bkH_lt L R 3 (by omega)) ?_
  unfold bkH
  refine HF.of follows_ok lfind_code (by simp) (by simp [argOk]) (by simp [LtV, LtC]) fun B hBN hB0 => acode_sound [0, 1, 3, 4, 5, 14] [1] _ _ _ ?_
  simp [AK_at, acode_seq, acode_region, acode_draw, acode_cond, ↓CB_t, ↓CB_f, CB_u, acode_block, acode_loop, acode_exit, acode_scope, acode_ret, acode_skip, seqQ_n, seqQ_e, seqQ_r, blockQ_n, blockQ_e, blockQ_r, TK_at, OK_at, SK_at, aops_nil, aops_cons, asch_done, asch_one, asch_two, asch_top, astep, aop_eq, isLoud, aloud, aloud1, isWrite, qv, evS, strip, gof, eget, hget, putO, eput, herase, oks, opnds, gS, afin, afin0, binD, arith, D.cells, takeD, fillD, keep, trim, envOf, Fin, aresl, aresv, resD, argOk, pickV, isP, deq, deqs, boundD, slD, lenD, isT, isSl, ptrIds, chunks, mn_min, mx_max, D.cells, splice_one, splice_more]
  refine W.freeze [3] ?_
  simp [freeze, hkeep, hdrop, fzS, fzR, fzV, fzC, fzO, brwC, omap, hget]
  refine acode_sound [0, 1, 3, 4, 5, 14] [] _ _ _ ?_
  have hd : findD L b = if idxZ (qB b) L < 0 then .nilp else .pel 1 (idxZ (qB b) L).toNat 6 0 := rfl
  by_cases h : idxZ (qB b) L < 0
  · rw [if_pos h] at hd
    repeat' (first
      | simp [AK_at, acode_seq, acode_region, acode_draw, acode_cond, ↓CB_t, ↓CB_f, CB_u, acode_block, acode_loop, acode_exit, acode_scope, acode_ret, acode_skip, seqQ_n, seqQ_e, seqQ_r, blockQ_n, blockQ_e, blockQ_r, TK_at, OK_at, SK_at, aops_nil, aops_cons, asch_done, asch_one, asch_two, asch_top, astep, aop_eq, isLoud, aloud, aloud1, isWrite, qv, evS, strip, gof, eget, hget, putO, eput, herase, oks, opnds, gS, afin, afin0, binD, arith, D.cells, takeD, fillD, keep, trim, envOf, Fin, aresl, aresv, resD, argOk, pickV, isP, deq, deqs, boundD, slD, lenD, isT, isSl, ptrIds, chunks, mn_min, mx_max, D.cells, splice_one, splice_more, Rbr_at, Rfr_at, frR, frV, frC, flatC, brwR, brwV, brwC, omap, leR, leV, leC, leL, leVL, h, hd]
      | (refine WCall.pf (hix) ?_ ?_ ?_ ?_; (focus (simp [oks, opnds, gS, gof, eget]; done)); (focus (simp [omap, brwV, brwC, evS, eget, strip, hget, leVL, leV, leC, leL, h, hd]; done)); (focus (simp [noV, noC, flatR, flatV, flatC, evS, eget, strip, h, hd]; done)))
      | (refine ⟨WCall.pf (hix) ?_ ?_ ?_ ?_, ?_⟩; (focus (simp [oks, opnds, gS, gof, eget]; done)); (focus (simp [omap, brwV, brwC, evS, eget, strip, hget, leVL, leV, leC, leL, h, hd]; done)); (focus (simp [noV, noC, flatR, flatV, flatC, evS, eget, strip, h, hd]; done)))
      | (with_reducible refine And.intro (And.intro ?_ ?_) ?_)
      | fail)
    done
  · rw [if_neg h] at hd
    have h0 : 0 ≤ idxZ (qB b) L := by omega
    have h1 : idxZ (qB b) L < L.length := hlo.2
    repeat' (first
      | simp [AK_at, acode_seq, acode_region, acode_draw, acode_cond, ↓CB_t, ↓CB_f, CB_u, acode_block, acode_loop, acode_exit, acode_scope, acode_ret, acode_skip, seqQ_n, seqQ_e, seqQ_r, blockQ_n, blockQ_e, blockQ_r, TK_at, OK_at, SK_at, aops_nil, aops_cons, asch_done, asch_one, asch_two, asch_top, astep, aop_eq, isLoud, aloud, aloud1, isWrite, qv, evS, strip, gof, eget, hget, putO, eput, herase, oks, opnds, gS, afin, afin0, binD, arith, D.cells, takeD, fillD, keep, trim, envOf, Fin, aresl, aresv, resD, argOk, pickV, isP, deq, deqs, boundD, slD, lenD, isT, isSl, ptrIds, chunks, mn_min, mx_max, D.cells, splice_one, splice_more, Rbr_at, Rfr_at, frR, frV, frC, flatC, brwR, brwV, brwC, omap, leR, leV, leC, leL, leVL, h, hd, h0, h1]
      | (refine WCall.pf (hix) ?_ ?_ ?_ ?_; (focus (simp [oks, opnds, gS, gof, eget]; done)); (focus (simp [omap, brwV, brwC, evS, eget, strip, hget, leVL, leV, leC, leL, h, hd, h0, h1]; done)); (focus (simp [noV, noC, flatR, flatV, flatC, evS, eget, strip, h, hd, h0, h1]; done)))
      | (refine ⟨WCall.pf (hix) ?_ ?_ ?_ ?_, ?_⟩; (focus (simp [oks, opnds, gS, gof, eget]; done)); (focus (simp [omap, brwV, brwC, evS, eget, strip, hget, leVL, leV, leC, leL, h, hd, h0, h1]; done)); (focus (simp [noV, noC, flatR, flatV, flatC, evS, eget, strip, h, hd, h0, h1]; done)))
      | (with_reducible refine And.intro (And.intro ?_ ?_) ?_)
      | fail)
    done
def joinX (r : Rqs) : Lif := ⟨r.backend, 1, r.weight, 0, 0, 0⟩
theorem ljoin_code : cfun Try.prog [98] 71 = some ⟨(.seq (.region 0 [⟨(some 3), (.box (.t 1)), none⟩, ⟨(some 4), (.mov (.k (.int .i64 0))), none⟩]) (.seq (.seq (.region 1 [⟨(some 8), (.fad 2 (.t 3)), none⟩, ⟨(some 9), (.load false 1 (.t 8)), none⟩, ⟨(some 10), (.bin .lss (.t 9) (.k (.int .i64 0))), none⟩, ⟨(some 11), (.mov (.t 10)), none⟩, ⟨(some 12), (.fad 2 (.t 3)), (some (11, false))⟩, ⟨(some 13), (.load false 1 (.t 12)), (some (11, false))⟩, ⟨(some 14), (.bin .geq (.t 13) (.k (.int .i64 12))), (some (11, false))⟩, ⟨(some 15), (.pick (.t 11) (.k (.bool true)) (.t 14)), none⟩, ⟨(some 16), (.mov (.t 15)), none⟩, ⟨(some 17), (.fad 3 (.t 3)), (some (16, false))⟩, ⟨(some 18), (.load false 1 (.t 17)), (some (16, false))⟩, ⟨(some 19), (.bin .lss (.t 18) (.k (.int .i64 1))), (some (16, false))⟩, ⟨(some 20), (.pick (.t 16) (.k (.bool true)) (.t 19)), none⟩, ⟨(some 21), (.mov (.t 20)), none⟩, ⟨(some 22), (.fad 3 (.t 3)), (some (21, false))⟩, ⟨(some 23), (.load false 1 (.t 22)), (some (21, false))⟩, ⟨(some 24), (.bin .gtr (.t 23) (.k (.int .i64 8))), (some (21, false))⟩, ⟨(some 25), (.pick (.t 21) (.k (.bool true)) (.t 24)), none⟩]) (.cond 25 (.seq (.region 2 [⟨(some 4), (.mov (.k (.int .i64 2))), none⟩]) .ret) .skip)) (.seq (.region 3 [⟨(some 26), (.fad 2 (.t 3)), none⟩, ⟨(some 27), (.load false 1 (.t 26)), none⟩, ⟨(some 28), (.fad 3 (.t 3)), none⟩, ⟨(some 29), (.load false 1 (.t 28)), none⟩, ⟨(some 30), (.build [(.int .i64 0), (.int .i64 0), (.int .i64 0), (.int .i64 0), (.int .i64 0), (.int .i64 0)] [(0, (1, (.t 27))), (1, (1, (.k (.int .i64 1)))), (2, (1, (.t 29)))]), none⟩, ⟨(some 5), (.alloc [(.int .i64 0), (.int .i64 0), (.int .i64 0), (.int .i64 0), (.int .i64 0), (.int .i64 0)]), none⟩, ⟨none, (.store 6 (.t 5) (.t 30)), none⟩]) (.seq (.seq (.region 4 [⟨(some 31), (.mov (.t 0)), none⟩, ⟨(some 32), (.fad 2 (.t 3)), none⟩, ⟨(some 33), (.load false 1 (.t 32)), none⟩, ⟨(some 34), (.call 74 [(.t 31), (.t 33)]), none⟩, ⟨(some 6), (.mov (.t 34)), none⟩]) (.seq (.region 5 [⟨(some 35), (.mov (.t 6)), none⟩, ⟨(some 36), (.eqp true (.t 35) (.k .nilp)), none⟩]) (.cond 36 (.seq (.seq (.region 6 [⟨(some 37), (.mov (.t 6)), none⟩, ⟨(some 38), (.nchk (.t 37)), none⟩, ⟨(some 39), (.fad 1 (.t 38)), none⟩, ⟨(some 40), (.load false 1 (.t 39)), none⟩, ⟨(some 41), (.bin .neq (.t 40) (.k (.int .i64 4))), none⟩]) (.cond 41 (.seq (.region 7 [⟨(some 4), (.mov (.k (.int .i64 7))), none⟩]) .ret) .skip)) (.seq (.region 8 [⟨(some 42), (.mov (.t 6)), none⟩, ⟨(some 43), (.load true 6 (.t 5)), none⟩, ⟨(some 44), (.nchk (.t 42)), none⟩, ⟨none, (.store 6 (.t 44) (.t 43)), none⟩]) (.seq (.region 9 [⟨(some 4), (.mov (.k (.int .i64 0))), none⟩]) .ret))) .skip))) (.seq (.region 10 [⟨(some 7), (.mov (.k (.int .i64 0))), none⟩]) (.seq (.block 0 (.loop (.seq (.seq (.draw 11 (.one true ⟨(some 45), (.mov (.t 7)), none⟩ (.one true ⟨(some 46), (.mov (.t 0)), none⟩ (.one true ⟨(some 47), (.nchk (.t 46)), none⟩ (.one true ⟨(some 48), (.fad 0 (.t 47)), none⟩ (.one true ⟨(some 49), (.fad 0 (.t 48)), none⟩ (.one true ⟨(some 50), (.load false 1 (.t 49)), none⟩ (.one true ⟨(some 51), (.len (.t 50)), none⟩ (.one true ⟨(some 52), (.bin .lss (.t 45) (.t 51)), none⟩ (.one true ⟨(some 53), (.mov (.t 52)), none⟩ (.one true ⟨(some 54), (.mov (.t 0)), (some (53, true))⟩ (.one true ⟨(some 55), (.nchk (.t 54)), (some (53, true))⟩ (.one true ⟨(some 56), (.fad 0 (.t 55)), (some (53, true))⟩ (.one true ⟨(some 57), (.fad 0 (.t 56)), (some (53, true))⟩ (.one true ⟨(some 58), (.load false 1 (.t 57)), (some (53, true))⟩ (.one true ⟨(some 59), (.mov (.t 7)), (some (53, true))⟩ (.one true ⟨(some 60), (.iads 6 (.t 58) (.t 59)), (some (53, true))⟩ (.one true ⟨(some 61), (.fad 0 (.t 60)), (some (53, true))⟩ (.one true ⟨(some 62), (.load false 1 (.t 61)), (some (53, true))⟩ (.one true ⟨(some 63), (.fad 2 (.t 3)), (some (53, true))⟩ (.one true ⟨(some 64), (.load false 1 (.t 63)), (some (53, true))⟩ (.one true ⟨(some 65), (.bin .lss (.t 62) (.t 64)), (some (53, true))⟩ (.one true ⟨(some 66), (.pick (.t 53) (.t 65) (.k (.bool false))), none⟩ .done))))))))))))))))))))))) (.cond 66 .skip (.exit 0))) (.block 1 (.region 12 [⟨(some 67), (.mov (.t 7)), none⟩, ⟨(some 68), (.bin .add (.t 67) (.k (.int .i64 1))), none⟩, ⟨(some 7), (.mov (.t 68)), none⟩]))))) (.seq (.draw 13 (.one true ⟨(some 69), (.mov (.t 0)), none⟩ (.one true ⟨(some 70), (.mov (.t 0)), none⟩ (.one true ⟨(some 71), (.nchk (.t 70)), none⟩ (.one true ⟨(some 72), (.fad 0 (.t 71)), none⟩ (.one true ⟨(some 73), (.fad 0 (.t 72)), none⟩ (.one true ⟨(some 74), (.load false 1 (.t 73)), none⟩ (.one true ⟨(some 75), (.mov (.t 7)), none⟩ (.one true ⟨(some 76), (.load true 6 (.t 5)), none⟩ (.one true ⟨(some 77), (.bslice 6 1 [(.int .i64 0), (.int .i64 0), (.int .i64 0), (.int .i64 0), (.int .i64 0), (.int .i64 0)] [(0, (.t 76))]), none⟩ (.one false ⟨(some 78), (.call 98 [(.t 74), (.t 75), (.t 77)]), none⟩ (.one true ⟨(some 79), (.nchk (.t 69)), none⟩ (.one true ⟨(some 80), (.fad 0 (.t 79)), none⟩ (.one true ⟨(some 81), (.fad 0 (.t 80)), none⟩ (.one false ⟨none, (.store 1 (.t 81) (.t 78)), none⟩ .done))))))))))))))) (.seq (.region 14 [⟨(some 4), (.mov (.k (.int .i64 0))), none⟩]) .ret)))))))), [(.t 4)], 82⟩ := by kernel_rfl
theorem ljoin_hf (L : List Lif) (R : List Rqs) (r : Rqs) (hb : BookOk L R) : HF Try.prog 71 [.ptr 0 0, .agg r.D] (bkH L R) 3 (fun d H' nx' => d = I (joinM L r).2 ∧ ∃ k, k < nx' ∧ k ≠ 0 ∧ k ≠ 2 ∧ hget H' 0 = some (.cells [.own k, .own 2]) ∧ hget H' k = some (.row 6 ((joinM L r).1.map Lif.D)) ∧ hget H' 2 = some (.row 5 (R.map Rqs.D))) := by
  unfold bkH
  refine HF.of follows_ok ljoin_code (by simp) (by simp [argOk]) (by simp [LtV, LtC, Rqs.D]) fun B hBN hB0 => acode_sound [0, 1, 3, 4, 5, 6, 7, 25, 36, 41, 66] [] _ _ _ ?_
  by_cases c1 : r.backend < 0 ∨ 12 ≤ r.backend ∨ r.weight < 1 ∨ 8 < r.weight
  · have hj : joinM L r = (L, 2) := by unfold joinM; rw [if_pos c1]
    rw [hj]
    by_cases a1 : r.backend < 0
    · simp [AK_at, acode_seq, acode_region, acode_draw, acode_cond, ↓CB_t, ↓CB_f, CB_u, acode_block, acode_loop, acode_exit, acode_scope, acode_ret, acode_skip, seqQ_n, seqQ_e, seqQ_r, blockQ_n, blockQ_e, blockQ_r, TK_at, OK_at, SK_at, aops_nil, aops_cons, asch_done, asch_one, asch_two, asch_top, astep, aop_eq, isLoud, aloud, aloud1, isWrite, qv, evS, strip, gof, eget, hget, putO, eput, herase, oks, opnds, gS, afin, afin0, binD, arith, D.cells, takeD, fillD, keep, trim, envOf, Fin, aresl, aresv, resD, argOk, pickV, isP, deq, deqs, boundD, slD, lenD, isT, isSl, ptrIds, chunks, mn_min, mx_max, D.cells, splice_one, splice_more, Rbr_at, Rfr_at, frR, frV, frC, flatC, brwR, brwV, brwC, omap, leR, leV, leC, leL, leVL, Rqs.D, a1]
      exact ⟨1, by simp⟩
    by_cases a2 : 12 ≤ r.backend
    · simp [AK_at, acode_seq, acode_region, acode_draw, acode_cond, ↓CB_t, ↓CB_f, CB_u, acode_block, acode_loop, acode_exit, acode_scope, acode_ret, acode_skip, seqQ_n, seqQ_e, seqQ_r, blockQ_n, blockQ_e, blockQ_r, TK_at, OK_at, SK_at, aops_nil, aops_cons, asch_done, asch_one, asch_two, asch_top, astep, aop_eq, isLoud, aloud, aloud1, isWrite, qv, evS, strip, gof, eget, hget, putO, eput, herase, oks, opnds, gS, afin, afin0, binD, arith, D.cells, takeD, fillD, keep, trim, envOf, Fin, aresl, aresv, resD, argOk, pickV, isP, deq, deqs, boundD, slD, lenD, isT, isSl, ptrIds, chunks, mn_min, mx_max, D.cells, splice_one, splice_more, Rbr_at, Rfr_at, frR, frV, frC, flatC, brwR, brwV, brwC, omap, leR, leV, leC, leL, leVL, Rqs.D, a1, a2]
      exact ⟨1, by simp⟩
    by_cases a3 : r.weight < 1
    · simp [AK_at, acode_seq, acode_region, acode_draw, acode_cond, ↓CB_t, ↓CB_f, CB_u, acode_block, acode_loop, acode_exit, acode_scope, acode_ret, acode_skip, seqQ_n, seqQ_e, seqQ_r, blockQ_n, blockQ_e, blockQ_r, TK_at, OK_at, SK_at, aops_nil, aops_cons, asch_done, asch_one, asch_two, asch_top, astep, aop_eq, isLoud, aloud, aloud1, isWrite, qv, evS, strip, gof, eget, hget, putO, eput, herase, oks, opnds, gS, afin, afin0, binD, arith, D.cells, takeD, fillD, keep, trim, envOf, Fin, aresl, aresv, resD, argOk, pickV, isP, deq, deqs, boundD, slD, lenD, isT, isSl, ptrIds, chunks, mn_min, mx_max, D.cells, splice_one, splice_more, Rbr_at, Rfr_at, frR, frV, frC, flatC, brwR, brwV, brwC, omap, leR, leV, leC, leL, leVL, Rqs.D, a1, a2, a3]
      exact ⟨1, by simp⟩
    have a4 : 8 < r.weight := by omega
    simp [AK_at, acode_seq, acode_region, acode_draw, acode_cond, ↓CB_t, ↓CB_f, CB_u, acode_block, acode_loop, acode_exit, acode_scope, acode_ret, acode_skip, seqQ_n, seqQ_e, seqQ_r, blockQ_n, blockQ_e, blockQ_r, TK_at, OK_at, SK_at, aops_nil, aops_cons, asch_done, asch_one, asch_two, asch_top, astep, aop_eq, isLoud, aloud, aloud1, isWrite, qv, evS, strip, gof, eget, hget, putO, eput, herase, oks, opnds, gS, afin, afin0, binD, arith, D.cells, takeD, fillD, keep, trim, envOf, Fin, aresl, aresv, resD, argOk, pickV, isP, deq, deqs, boundD, slD, lenD, isT, isSl, ptrIds, chunks, mn_min, mx_max, D.cells, splice_one, splice_more, Rbr_at, Rfr_at, frR, frV, frC, flatC, brwR, brwV, brwC, omap, leR, leV, leC, leL, leVL, Rqs.D, a1, a2, a3, a4]
    exact ⟨1, by simp⟩
  have a1 : ¬ r.backend < 0 := by omega
  have a2 : ¬ 12 ≤ r.backend := by omega
  have a3 : ¬ r.weight < 1 := by omega
  have a4 : ¬ 8 < r.weight := by omega
  have hfd := lfind_hf L R r.backend hb.ll
  unfold bkH at hfd
  simp [AK_at, acode_seq, acode_region, acode_draw, acode_cond, ↓CB_t, ↓CB_f, CB_u, acode_block, acode_loop, acode_exit, acode_scope, acode_ret, acode_skip, seqQ_n, seqQ_e, seqQ_r, blockQ_n, blockQ_e, blockQ_r, TK_at, OK_at, SK_at, aops_nil, aops_cons, asch_done, asch_one, asch_two, asch_top, astep, aop_eq, isLoud, aloud, aloud1, isWrite, qv, evS, strip, gof, eget, hget, putO, eput, herase, oks, opnds, gS, afin, afin0, binD, arith, D.cells, takeD, fillD, keep, trim, envOf, Fin, aresl, aresv, resD, argOk, pickV, isP, deq, deqs, boundD, slD, lenD, isT, isSl, ptrIds, chunks, mn_min, mx_max, D.cells, splice_one, splice_more, Rqs.D, a1, a2, a3, a4]
  refine WCall.hf [0, 1, 2] (hfd) (by simp [oks, opnds, gS, gof, eget]) rfl rfl (by decide) (by simp) (by simp [evS, eget, strip, rnV, rnC, rho]) (by simp [argOk]) (by simp [LtV, LtC]) (by simp [rho, rnO, rnC, hget, LtO, LtC]) ?_
  rintro d H' nx' ⟨rfl, rfl, rfl⟩
  by_cases h0 : findM L r.backend < 0
  · have hfD : findD L r.backend = .nilp := by unfold findD; rw [if_pos h0]
    have hj : joinM L r = (L.take (joinPos L r.backend) ++ [joinX r] ++ L.drop (joinPos L r.backend), 0) := by
      unfold joinM
      rw [if_neg c1, if_neg (by omega)]; rfl
    rw [hj]
    have hpl := joinPos_le L r.backend
    have hplt := joinPos_lt L r.backend
    have hpge := joinPos_ge L r.backend
    generalize joinPos L r.backend = p at hpl hplt hpge
    have hll := hb.ll
    rw [hfD]
    simp [AK_at, acode_seq, acode_region, acode_draw, acode_cond, ↓CB_t, ↓CB_f, CB_u, acode_block, acode_loop, acode_exit, acode_scope, acode_ret, acode_skip, seqQ_n, seqQ_e, seqQ_r, blockQ_n, blockQ_e, blockQ_r, TK_at, OK_at, SK_at, aops_nil, aops_cons, asch_done, asch_one, asch_two, asch_top, astep, aop_eq, isLoud, aloud, aloud1, isWrite, qv, evS, strip, gof, eget, hget, putO, eput, herase, oks, opnds, gS, afin, afin0, binD, arith, D.cells, takeD, fillD, keep, trim, envOf, Fin, aresl, aresv, resD, argOk, pickV, isP, deq, deqs, boundD, slD, lenD, isT, isSl, ptrIds, chunks, mn_min, mx_max, D.cells, splice_one, splice_more, rnR, rnV, rnC, rnO, rho_0, hputs, herases, rho]
    refine W.loopS (fun i : Nat => ⟨[(7, I i), (5, .ptr 4 0), (4, I 0), (3, .ptr 3 0), (0, .ptr 0 0)], [(4, .cells (joinX r).D), (3, .cells r.D), (2, .row 5 (R.map Rqs.D)), (1, .row 6 (L.map Lif.D)), (0, .cells [.own 1, .own 2])], 5⟩)
      (fun n i => n = p - i ∧ i ≤ p) ?_ ?_
    · exact ⟨_, 0, (Gh.ren [0, 1, 2, 3, 4] (by simp [hB0]) (by simp [hB0] <;> decide) (by simp [eget, rnS, rnR, rnV, rnC, LtS, LtR, LtV, LtC, lget, joinX, Lif.D, Rqs.D]) (by simp [hget, rnO, rnC, LtO, LtC, lget, joinX, Lif.D, Rqs.D]) (.inl (by simp [lget, joinX, Lif.D, Rqs.D]))), rfl, by omega⟩
    rintro n i ⟨hn, hi⟩
    refine acode_sound [0, 1, 3, 4, 5, 6, 7, 25, 36, 41, 66] [] _ _ _ ?_
    by_cases hlt : i < p
    · have hlL : i < L.length := by omega
      have hbl := hplt i hlL hlt
      obtain ⟨o, ho⟩ : ∃ o, o = L[i] := ⟨_, rfl⟩
      rw [← ho] at hbl
      have ii : InR ((i : Int) + 1) := inW (by omega) (by omega)
      simp [AK_at, acode_seq, acode_region, acode_draw, acode_cond, ↓CB_t, ↓CB_f, CB_u, acode_block, acode_loop, acode_exit, acode_scope, acode_ret, acode_skip, seqQ_n, seqQ_e, seqQ_r, blockQ_n, blockQ_e, blockQ_r, TK_at, OK_at, SK_at, aops_nil, aops_cons, asch_done, asch_one, asch_two, asch_top, astep, aop_eq, isLoud, aloud, aloud1, isWrite, qv, evS, strip, gof, eget, hget, putO, eput, herase, oks, opnds, gS, afin, afin0, binD, arith, D.cells, takeD, fillD, keep, trim, envOf, Fin, aresl, aresv, resD, argOk, pickV, isP, deq, deqs, boundD, slD, lenD, isT, isSl, ptrIds, chunks, mn_min, mx_max, D.cells, splice_one, splice_more, hlL, ← ho, Lif.D, Rqs.D, hbl, ii]
      exact ⟨_, i + 1, (Gh.ren [0, 1, 2, 3, 4] (by simp [hB0]) (by simp [hB0] <;> decide) (by simp [eget, rnS, rnR, rnV, rnC, LtS, LtR, LtV, LtC, lget, joinX, Lif.D, Rqs.D]) (by simp [hget, rnO, rnC, LtO, LtC, lget, joinX, Lif.D, Rqs.D]) (.inl (by simp [lget, joinX, Lif.D, Rqs.D]))), by omega, rfl, by omega⟩
    · obtain rfl : i = p := by omega
      have hins := lins_hf (L.map Lif.D) i [I r.backend, I 1, I r.weight, I 0, I 0, I 0] (by simp; omega) (by simp; omega) rfl (els_lif L).rows (els_lif L).isT (by simp [isT])
      by_cases hlL : i < L.length
      · have hbl := hpge hlL
        obtain ⟨o, ho⟩ : ∃ o, o = L[i] := ⟨_, rfl⟩
        rw [← ho] at hbl
        simp [AK_at, acode_seq, acode_region, acode_draw, acode_cond, ↓CB_t, ↓CB_f, CB_u, acode_block, acode_loop, acode_exit, acode_scope, acode_ret, acode_skip, seqQ_n, seqQ_e, seqQ_r, blockQ_n, blockQ_e, blockQ_r, TK_at, OK_at, SK_at, aops_nil, aops_cons, asch_done, asch_one, asch_two, asch_top, astep, aop_eq, isLoud, aloud, aloud1, isWrite, qv, evS, strip, gof, eget, hget, putO, eput, herase, oks, opnds, gS, afin, afin0, binD, arith, D.cells, takeD, fillD, keep, trim, envOf, Fin, aresl, aresv, resD, argOk, pickV, isP, deq, deqs, boundD, slD, lenD, isT, isSl, ptrIds, chunks, mn_min, mx_max, D.cells, splice_one, splice_more, hlL, ← ho, Lif.D, Rqs.D, hbl, joinX]
        refine WCall.hf [1, 5] (hins) (by simp [oks, opnds, gS, gof, eget]) rfl rfl (by decide) (by simp) (by simp [evS, eget, strip, rnV, rnC, rho]) (by simp [argOk]) (by simp [LtV, LtC]) (by simp [rho, rnO, rnC, hget, LtO, LtC]) ?_
        rintro d H' nx' ⟨rfl, rfl, rfl⟩
        simp [AK_at, acode_seq, acode_region, acode_draw, acode_cond, ↓CB_t, ↓CB_f, CB_u, acode_block, acode_loop, acode_exit, acode_scope, acode_ret, acode_skip, seqQ_n, seqQ_e, seqQ_r, blockQ_n, blockQ_e, blockQ_r, TK_at, OK_at, SK_at, aops_nil, aops_cons, asch_done, asch_one, asch_two, asch_top, astep, aop_eq, isLoud, aloud, aloud1, isWrite, qv, evS, strip, gof, eget, hget, putO, eput, herase, oks, opnds, gS, afin, afin0, binD, arith, D.cells, takeD, fillD, keep, trim, envOf, Fin, aresl, aresv, resD, argOk, pickV, isP, deq, deqs, boundD, slD, lenD, isT, isSl, ptrIds, chunks, mn_min, mx_max, D.cells, splice_one, splice_more, rnR, rnV, rnC, rnO, rho_0, hputs, herases, rho]
        exact ⟨6, by simp⟩
      · skip
        simp [AK_at, acode_seq, acode_region, acode_draw, acode_cond, ↓CB_t, ↓CB_f, CB_u, acode_block, acode_loop, acode_exit, acode_scope, acode_ret, acode_skip, seqQ_n, seqQ_e, seqQ_r, blockQ_n, blockQ_e, blockQ_r, TK_at, OK_at, SK_at, aops_nil, aops_cons, asch_done, asch_one, asch_two, asch_top, astep, aop_eq, isLoud, aloud, aloud1, isWrite, qv, evS, strip, gof, eget, hget, putO, eput, herase, oks, opnds, gS, afin, afin0, binD, arith, D.cells, takeD, fillD, keep, trim, envOf, Fin, aresl, aresv, resD, argOk, pickV, isP, deq, deqs, boundD, slD, lenD, isT, isSl, ptrIds, chunks, mn_min, mx_max, D.cells, splice_one, splice_more, hlL, Rqs.D, Lif.D, joinX]
        refine WCall.hf [1, 5] (hins) (by simp [oks, opnds, gS, gof, eget]) rfl rfl (by decide) (by simp) (by simp [evS, eget, strip, rnV, rnC, rho]) (by simp [argOk]) (by simp [LtV, LtC]) (by simp [rho, rnO, rnC, hget, LtO, LtC]) ?_
        rintro d H' nx' ⟨rfl, rfl, rfl⟩
        simp [AK_at, acode_seq, acode_region, acode_draw, acode_cond, ↓CB_t, ↓CB_f, CB_u, acode_block, acode_loop, acode_exit, acode_scope, acode_ret, acode_skip, seqQ_n, seqQ_e, seqQ_r, blockQ_n, blockQ_e, blockQ_r, TK_at, OK_at, SK_at, aops_nil, aops_cons, asch_done, asch_one, asch_two, asch_top, astep, aop_eq, isLoud, aloud, aloud1, isWrite, qv, evS, strip, gof, eget, hget, putO, eput, herase, oks, opnds, gS, afin, afin0, binD, arith, D.cells, takeD, fillD, keep, trim, envOf, Fin, aresl, aresv, resD, argOk, pickV, isP, deq, deqs, boundD, slD, lenD, isT, isSl, ptrIds, chunks, mn_min, mx_max, D.cells, splice_one, splice_more, rnR, rnV, rnC, rnO, rho_0, hputs, herases, rho]
        exact ⟨6, by simp⟩
  · have hfD : findD L r.backend = .pel 1 (findM L r.backend).toNat 6 0 := by unfold findD; rw [if_neg h0]
    obtain ⟨h1, h2, h3⟩ := findM_at (by omega : 0 ≤ findM L r.backend)
    have hj : joinM L r = if (L.getD (findM L r.backend).toNat default).state = 4 then (L.set (findM L r.backend).toNat (joinX r), 0) else (L, 7) := by
      unfold joinM
      rw [if_neg c1, if_pos (by omega)]; rfl
    rw [h3] at hj
    rw [hfD]
    clear hfD h3 h0
    generalize (findM L r.backend).toNat = i at h1 h2 hj
    obtain ⟨o, ho⟩ : ∃ o, o = L[i] := ⟨_, rfl⟩
    rw [← ho] at h2 hj
    by_cases h4 : o.state = 4
    · rw [if_pos h4] at hj
      rw [hj]
      simp [AK_at, acode_seq, acode_region, acode_draw, acode_cond, ↓CB_t, ↓CB_f, CB_u, acode_block, acode_loop, acode_exit, acode_scope, acode_ret, acode_skip, seqQ_n, seqQ_e, seqQ_r, blockQ_n, blockQ_e, blockQ_r, TK_at, OK_at, SK_at, aops_nil, aops_cons, asch_done, asch_one, asch_two, asch_top, astep, aop_eq, isLoud, aloud, aloud1, isWrite, qv, evS, strip, gof, eget, hget, putO, eput, herase, oks, opnds, gS, afin, afin0, binD, arith, D.cells, takeD, fillD, keep, trim, envOf, Fin, aresl, aresv, resD, argOk, pickV, isP, deq, deqs, boundD, slD, lenD, isT, isSl, ptrIds, chunks, mn_min, mx_max, D.cells, splice_one, splice_more, rnR, rnV, rnC, rnO, rho_0, hputs, herases, rho, h1, ← ho, Lif.D, h4]
      exact ⟨1, by simp [joinX, Lif.D]⟩
    · rw [if_neg h4] at hj
      rw [hj]
      simp [AK_at, acode_seq, acode_region, acode_draw, acode_cond, ↓CB_t, ↓CB_f, CB_u, acode_block, acode_loop, acode_exit, acode_scope, acode_ret, acode_skip, seqQ_n, seqQ_e, seqQ_r, blockQ_n, blockQ_e, blockQ_r, TK_at, OK_at, SK_at, aops_nil, aops_cons, asch_done, asch_one, asch_two, asch_top, astep, aop_eq, isLoud, aloud, aloud1, isWrite, qv, evS, strip, gof, eget, hget, putO, eput, herase, oks, opnds, gS, afin, afin0, binD, arith, D.cells, takeD, fillD, keep, trim, envOf, Fin, aresl, aresv, resD, argOk, pickV, isP, deq, deqs, boundD, slD, lenD, isT, isSl, ptrIds, chunks, mn_min, mx_max, D.cells, splice_one, splice_more, rnR, rnV, rnC, rnO, rho_0, hputs, herases, rho, h1, ← ho, Lif.D, h4]
      exact ⟨1, by simp⟩
end Go.Proofs.Ytfkeddefajkobaa

set_option linter.unusedSimpArgs false
set_option linter.unusedVariables false
set_option maxRecDepth 100000
set_option maxHeartbeats 4000000
namespace Go.Proofs.Ytfkeddefajkobaa
open Go.RowKit
theorem lret_code : cfun Try.prog [] 72 = some ⟨(.seq (.region 0 [⟨(some 5), (.box (.t 1)), none⟩, ⟨(some 8), (.mov (.k (.int .i64 0))), none⟩]) (.seq (.region 1 [⟨(some 10), (.mov (.t 0)), none⟩, ⟨(some 11), (.fad 2 (.t 5)), none⟩, ⟨(some 12), (.load false 1 (.t 11)), none⟩, ⟨(some 13), (.call 74 [(.t 10), (.t 12)]), none⟩, ⟨(some 9), (.mov (.t 13)), none⟩]) (.seq (.seq (.region 2 [⟨(some 14), (.mov (.t 9)), none⟩, ⟨(some 15), (.eqp false (.t 14) (.k .nilp)), none⟩, ⟨(some 16), (.mov (.t 15)), none⟩, ⟨(some 17), (.mov (.t 9)), (some (16, false))⟩, ⟨(some 18), (.nchk (.t 17)), (some (16, false))⟩, ⟨(some 19), (.fad 1 (.t 18)), (some (16, false))⟩, ⟨(some 20), (.load false 1 (.t 19)), (some (16, false))⟩, ⟨(some 21), (.bin .eql (.t 20) (.k (.int .i64 4))), (some (16, false))⟩, ⟨(some 22), (.pick (.t 16) (.k (.bool true)) (.t 21)), none⟩]) (.cond 22 (.seq (.region 3 [⟨(some 8), (.mov (.k (.int .i64 8))), none⟩]) .ret) .skip)) (.seq (.seq (.region 4 [⟨(some 23), (.mov (.t 9)), none⟩, ⟨(some 24), (.nchk (.t 23)), none⟩, ⟨(some 25), (.fad 1 (.t 24)), none⟩, ⟨(some 26), (.load false 1 (.t 25)), none⟩]) (.block 0 (.seq (.region 6 [⟨(some 31), (.bin .eql (.t 26) (.k (.int .i64 3))), none⟩, ⟨(some 30), (.mov (.t 31)), none⟩]) (.cond 30 (.seq (.region 7 [⟨(some 8), (.mov (.k (.int .i64 12))), none⟩]) .ret) (.seq (.region 8 [⟨(some 33), (.bin .eql (.t 26) (.k (.int .i64 1))), none⟩, ⟨(some 32), (.mov (.t 33)), none⟩]) (.cond 32 (.region 9 [⟨(some 34), (.mov (.t 9)), none⟩, ⟨(some 35), (.nchk (.t 34)), none⟩, ⟨(some 36), (.fad 1 (.t 35)), none⟩, ⟨none, (.store 1 (.t 36) (.k (.int .i64 4))), none⟩]) (.region 5 [⟨(some 27), (.mov (.t 9)), none⟩, ⟨(some 28), (.nchk (.t 27)), none⟩, ⟨(some 29), (.fad 1 (.t 28)), none⟩, ⟨none, (.store 1 (.t 29) (.k (.int .i64 3))), none⟩]))))))) (.seq (.draw 10 (.one true ⟨(some 37), (.mov (.t 9)), none⟩ (.one true ⟨(some 38), (.mov (.t 9)), none⟩ (.one true ⟨(some 39), (.mov (.t 2)), none⟩ (.one true ⟨(some 40), (.mov (.t 3)), none⟩ (.one true ⟨(some 41), (.bin .add (.t 39) (.t 40)), none⟩ (.one true ⟨(some 42), (.fad 0 (.t 5)), none⟩ (.one true ⟨(some 44), (.nchk (.t 37)), none⟩ (.one true ⟨(some 45), (.fad 4 (.t 44)), none⟩ (.two (.one true ⟨(some 43), (.load false 1 (.t 42)), none⟩ (.one false ⟨none, (.store 1 (.t 45) (.t 41)), none⟩ (.one true ⟨(some 46), (.nchk (.t 38)), none⟩ (.one true ⟨(some 47), (.fad 5 (.t 46)), none⟩ (.one false ⟨none, (.store 1 (.t 47) (.t 43)), none⟩ .done))))) (.two (.one false ⟨none, (.store 1 (.t 45) (.t 41)), none⟩ (.one true ⟨(some 43), (.load false 1 (.t 42)), none⟩ (.one true ⟨(some 46), (.nchk (.t 38)), none⟩ (.one true ⟨(some 47), (.fad 5 (.t 46)), none⟩ (.one false ⟨none, (.store 1 (.t 47) (.t 43)), none⟩ .done))))) .top))))))))))) (.seq (.region 11 [⟨(some 8), (.mov (.k (.int .i64 0))), none⟩]) .ret)))))), [(.t 8)], 48⟩ := by kernel_rfl
theorem lret_hf (L : List Lif) (R : List Rqs) (r : Rqs) (now drain : Int) (hb : BookOk L R) (n0 : 0 ≤ now) (n1 : now ≤ 1099511627776) (d0 : 0 ≤ drain) (d1 : drain ≤ 500) :
    HF Try.prog 72 [.ptr 0 0, .agg r.D, I now, I drain] (bkH L R) 3 (fun d H' nx' => d = I (retireM L r now drain).2 ∧ H' = bkH (retireM L r now drain).1 R ∧ nx' = 3) := by
  refine HF.tidy (by omega) (by simp) trivial (bkH_lt _ R 3 (by omega)) ?_
  have hfd := lfind_hf L R r.backend hb.ll
  have hnd : InR (now + drain) := inW (by omega) (by omega)
  unfold bkH at hfd ⊢
  refine HF.of follows_ok lret_code (by simp) (by simp [argOk]) (by simp [LtV, LtC, Rqs.D]) fun B hBN hB0 => acode_sound [0, 1, 2, 3, 5, 8, 9, 22, 26, 30, 32] [] _ _ _ ?_
  simp [AK_at, acode_seq, acode_region, acode_draw, acode_cond, ↓CB_t, ↓CB_f, CB_u, acode_block, acode_loop, acode_exit, acode_scope, acode_ret, acode_skip, seqQ_n, seqQ_e, seqQ_r, blockQ_n, blockQ_e, blockQ_r, TK_at, OK_at, SK_at, aops_nil, aops_cons, asch_done, asch_one, asch_two, asch_top, astep, aop_eq, isLoud, aloud, aloud1, isWrite, qv, evS, strip, gof, eget, hget, putO, eput, herase, oks, opnds, gS, afin, afin0, binD, arith, D.cells, takeD, fillD, keep, trim, envOf, Fin, aresl, aresv, resD, argOk, pickV, isP, deq, deqs, boundD, slD, lenD, isT, isSl, ptrIds, chunks, mn_min, mx_max, D.cells, splice_one, splice_more, Rqs.D]
  refine WCall.hf [0, 1, 2] (hfd) (by simp [oks, opnds, gS, gof, eget]) rfl rfl (by decide) (by simp) (by simp [evS, eget, strip, rnV, rnC, rho]) (by simp [argOk]) (by simp [LtV, LtC]) (by simp [rho, rnO, rnC, hget, LtO, LtC]) ?_
  rintro d H' nx' ⟨rfl, rfl, rfl⟩
  by_cases h0 : findM L r.backend < 0
  · have hfD : findD L r.backend = .nilp := by unfold findD; rw [if_pos h0]
    have hj : retireM L r now drain = (L, 8) := by unfold retireM; simp only; rw [if_pos h0]
    rw [hfD, hj]
    simp [AK_at, acode_seq, acode_region, acode_draw, acode_cond, ↓CB_t, ↓CB_f, CB_u, acode_block, acode_loop, acode_exit, acode_scope, acode_ret, acode_skip, seqQ_n, seqQ_e, seqQ_r, blockQ_n, blockQ_e, blockQ_r, TK_at, OK_at, SK_at, aops_nil, aops_cons, asch_done, asch_one, asch_two, asch_top, astep, aop_eq, isLoud, aloud, aloud1, isWrite, qv, evS, strip, gof, eget, hget, putO, eput, herase, oks, opnds, gS, afin, afin0, binD, arith, D.cells, takeD, fillD, keep, trim, envOf, Fin, aresl, aresv, resD, argOk, pickV, isP, deq, deqs, boundD, slD, lenD, isT, isSl, ptrIds, chunks, mn_min, mx_max, D.cells, splice_one, splice_more, rnR, rnV, rnC, rnO, rho_0, hputs, herases, rho]
  · have hfD : findD L r.backend = .pel 1 (findM L r.backend).toNat 6 0 := by unfold findD; rw [if_neg h0]
    obtain ⟨h1, h2, h3⟩ := findM_at (by omega : 0 ≤ findM L r.backend)
    have hj : retireM L r now drain = let x := L.getD (findM L r.backend).toNat default; if x.state = 4 then (L, 8) else if x.state = 3 then (L, 12)
        else (L.set (findM L r.backend).toNat { x with state := if x.state = 1 then 4 else 3, til := now + drain, req := r.id }, 0) := by
      unfold retireM
      simp only
      rw [if_neg h0]
    simp only [h3] at hj
    rw [hfD]
    clear hfD h3 h0
    generalize (findM L r.backend).toNat = i at h1 h2 hj
    obtain ⟨o, ho⟩ : ∃ o, o = L[i] := ⟨_, rfl⟩
    rw [← ho] at h2 hj
    by_cases s4 : o.state = 4
    · rw [if_pos s4] at hj
      rw [hj]
      simp [AK_at, acode_seq, acode_region, acode_draw, acode_cond, ↓CB_t, ↓CB_f, CB_u, acode_block, acode_loop, acode_exit, acode_scope, acode_ret, acode_skip, seqQ_n, seqQ_e, seqQ_r, blockQ_n, blockQ_e, blockQ_r, TK_at, OK_at, SK_at, aops_nil, aops_cons, asch_done, asch_one, asch_two, asch_top, astep, aop_eq, isLoud, aloud, aloud1, isWrite, qv, evS, strip, gof, eget, hget, putO, eput, herase, oks, opnds, gS, afin, afin0, binD, arith, D.cells, takeD, fillD, keep, trim, envOf, Fin, aresl, aresv, resD, argOk, pickV, isP, deq, deqs, boundD, slD, lenD, isT, isSl, ptrIds, chunks, mn_min, mx_max, D.cells, splice_one, splice_more, rnR, rnV, rnC, rnO, rho_0, hputs, herases, rho, h1, ← ho, Lif.D, s4]
    rw [if_neg s4] at hj
    by_cases s3 : o.state = 3
    · rw [if_pos s3] at hj
      rw [hj]
      simp [AK_at, acode_seq, acode_region, acode_draw, acode_cond, ↓CB_t, ↓CB_f, CB_u, acode_block, acode_loop, acode_exit, acode_scope, acode_ret, acode_skip, seqQ_n, seqQ_e, seqQ_r, blockQ_n, blockQ_e, blockQ_r, TK_at, OK_at, SK_at, aops_nil, aops_cons, asch_done, asch_one, asch_two, asch_top, astep, aop_eq, isLoud, aloud, aloud1, isWrite, qv, evS, strip, gof, eget, hget, putO, eput, herase, oks, opnds, gS, afin, afin0, binD, arith, D.cells, takeD, fillD, keep, trim, envOf, Fin, aresl, aresv, resD, argOk, pickV, isP, deq, deqs, boundD, slD, lenD, isT, isSl, ptrIds, chunks, mn_min, mx_max, D.cells, splice_one, splice_more, rnR, rnV, rnC, rnO, rho_0, hputs, herases, rho, h1, ← ho, Lif.D, s3]
    rw [if_neg s3] at hj
    rw [hj]
    by_cases s1 : o.state = 1
    · simp [AK_at, acode_seq, acode_region, acode_draw, acode_cond, ↓CB_t, ↓CB_f, CB_u, acode_block, acode_loop, acode_exit, acode_scope, acode_ret, acode_skip, seqQ_n, seqQ_e, seqQ_r, blockQ_n, blockQ_e, blockQ_r, TK_at, OK_at, SK_at, aops_nil, aops_cons, asch_done, asch_one, asch_two, asch_top, astep, aop_eq, isLoud, aloud, aloud1, isWrite, qv, evS, strip, gof, eget, hget, putO, eput, herase, oks, opnds, gS, afin, afin0, binD, arith, D.cells, takeD, fillD, keep, trim, envOf, Fin, aresl, aresv, resD, argOk, pickV, isP, deq, deqs, boundD, slD, lenD, isT, isSl, ptrIds, chunks, mn_min, mx_max, D.cells, splice_one, splice_more, rnR, rnV, rnC, rnO, rho_0, hputs, herases, rho, h1, ← ho, Lif.D, s3, s4, s1, hnd]
      done
    · simp [AK_at, acode_seq, acode_region, acode_draw, acode_cond, ↓CB_t, ↓CB_f, CB_u, acode_block, acode_loop, acode_exit, acode_scope, acode_ret, acode_skip, seqQ_n, seqQ_e, seqQ_r, blockQ_n, blockQ_e, blockQ_r, TK_at, OK_at, SK_at, aops_nil, aops_cons, asch_done, asch_one, asch_two, asch_top, astep, aop_eq, isLoud, aloud, aloud1, isWrite, qv, evS, strip, gof, eget, hget, putO, eput, herase, oks, opnds, gS, afin, afin0, binD, arith, D.cells, takeD, fillD, keep, trim, envOf, Fin, aresl, aresv, resD, argOk, pickV, isP, deq, deqs, boundD, slD, lenD, isT, isSl, ptrIds, chunks, mn_min, mx_max, D.cells, splice_one, splice_more, rnR, rnV, rnC, rnO, rho_0, hputs, herases, rho, h1, ← ho, Lif.D, s3, s4, s1, hnd]
      done
end Go.Proofs.Ytfkeddefajkobaa

set_option linter.unusedSimpArgs false
set_option linter.unusedVariables false
set_option maxRecDepth 100000
set_option maxHeartbeats 4000000
namespace Go.Proofs.Ytfkeddefajkobaa
open Go.RowKit
def bkJ (L : List Lif) (R : List Rqs) : List (Nat × Ob) := [(3, .row 6 (L.map Lif.D)), (2, .row 5 (R.map Rqs.D)), (0, .cells [.own 3, .own 2])]
theorem ljoin_hf2 (L : List Lif) (R : List Rqs) (r : Rqs) (hb : BookOk L R) : HF Try.prog 71 [.ptr 0 0, .agg r.D] (bkH L R) 3 (fun d H' nx' => d = I (joinM L r).2 ∧ H' = bkJ (joinM L r).1 R ∧ nx' = 4) := by
  refine (ljoin_hf L R r hb).gh fun B hB d H' nx' hR => ?_
  obtain ⟨rfl, k, h1, h2, h3, h4, h5, h6⟩ := hR
  refine ⟨I (joinM L r).2, bkJ (joinM L r).1 R, 4, ?_, (by simp), rfl, rfl, rfl⟩
  exact Gh.ren [0, 1, 2, k] (by show B.n0 ≤ 4; omega) (fun id hid => by
    have : id = 0 ∨ id = 1 ∨ id = 2 := by omega
    rcases this with rfl | rfl | rfl <;> rfl) (by simp [eget, rnS, rnR, rnV, rnC, LtS, LtR, LtV, LtC]) (by simp [bkJ, rnO, rnC, LtO, LtC, lget, h4, h5, h6]) (.inl (by simp [bkJ, lget, h2, h3]))
theorem lask1_code : cfun Try.prog [] 70 = some ⟨(.seq (.region 0 [⟨(some 2), (.box (.t 0)), none⟩, ⟨(some 3), (.mov (.k (.bool false))), none⟩]) (.seq (.region 1 [⟨(some 4), (.fad 0 (.t 2)), none⟩, ⟨(some 5), (.load false 1 (.t 4)), none⟩, ⟨(some 6), (.fad 0 (.t 1)), none⟩, ⟨(some 7), (.load false 1 (.t 6)), none⟩, ⟨(some 8), (.bin .eql (.t 5) (.t 7)), none⟩, ⟨(some 3), (.mov (.t 8)), none⟩]) .ret)), [(.t 3)], 9⟩ := by kernel_rfl
theorem lask1_pf (x r : Rqs) : PF Try.prog 70 [.agg x.D, .pc r.D] (.bool (qI r.id x)) := by
  refine PF.of follows_ok lask1_code (by simp) (by simp [argOk]) (by simp [noV, noC, Rqs.D]) fun B hBN hB0 => acode_sound [0, 1, 2, 3] [] _ _ _ ?_
  simp [AK_at, acode_seq, acode_region, acode_draw, acode_cond, ↓CB_t, ↓CB_f, CB_u, acode_block, acode_loop, acode_exit, acode_scope, acode_ret, acode_skip, seqQ_n, seqQ_e, seqQ_r, blockQ_n, blockQ_e, blockQ_r, TK_at, OK_at, SK_at, aops_nil, aops_cons, asch_done, asch_one, asch_two, asch_top, astep, aop_eq, isLoud, aloud, aloud1, isWrite, qv, evS, strip, gof, eget, hget, putO, eput, herase, oks, opnds, gS, afin, afin0, binD, arith, D.cells, takeD, fillD, keep, trim, envOf, Fin, aresl, aresv, resD, argOk, pickV, isP, deq, deqs, boundD, slD, lenD, isT, isSl, ptrIds, chunks, mn_min, mx_max, D.cells, splice_one, splice_more, Rbr_at, Rfr_at, frR, frV, frC, flatC, brwR, brwV, brwC, omap, leR, leV, leC, leL, leVL, Rqs.D, qI]
theorem lask_code : cfun Try.prog [71, 72] 32 = some ⟨(.seq (.region 0 [⟨(some 4), (.box (.t 0)), none⟩, ⟨(some 5), (.box (.t 1)), none⟩, ⟨(some 8), (.alloc [.nil0, .nil0]), none⟩, ⟨(some 9), (.mov (.k (.int .i64 0))), none⟩, ⟨(some 10), (.mov (.k (.bool false))), none⟩, ⟨(some 11), (.mov (.k (.int .i64 0))), none⟩]) (.seq (.region 1 [⟨(some 16), (.load true 2 (.t 4)), none⟩, ⟨(some 17), (.call 67 [(.t 16)]), none⟩, ⟨(some 15), (.mov (.t 17)), none⟩, ⟨(some 18), (.ext (.t 15) 0), none⟩, ⟨(some 19), (.ext (.t 15) 1), none⟩, ⟨(some 12), (.mov (.t 18)), none⟩, ⟨(some 13), (.mov (.t 19)), none⟩]) (.seq (.seq (.region 2 [⟨(some 20), (.mov (.t 13)), none⟩, ⟨(some 21), (.bin .neq (.t 20) (.k (.int .i64 0))), none⟩]) (.cond 21 (.seq (.region 3 [⟨(some 22), (.build [.nil0, .nil0] []), none⟩, ⟨(some 23), (.mov (.t 13)), none⟩, ⟨none, (.store 2 (.t 8) (.t 22)), none⟩, ⟨(some 9), (.mov (.k (.int .i64 0))), none⟩, ⟨(some 10), (.mov (.k (.bool false))), none⟩, ⟨(some 11), (.mov (.t 23)), none⟩]) .ret) .skip)) (.seq (.seq (.region 4 [⟨(some 24), (.load true 5 (.t 5)), none⟩, ⟨(some 25), (.call 68 [(.t 24)]), none⟩, ⟨(some 26), (.not (.t 25)), none⟩, ⟨(some 27), (.mov (.t 26)), none⟩, ⟨(some 28), (.mov (.t 2)), (some (27, false))⟩, ⟨(some 29), (.bin .lss (.t 28) (.k (.int .i64 0))), (some (27, false))⟩, ⟨(some 30), (.pick (.t 27) (.k (.bool true)) (.t 29)), none⟩, ⟨(some 31), (.mov (.t 30)), none⟩, ⟨(some 32), (.mov (.t 2)), (some (31, false))⟩, ⟨(some 33), (.bin .gtr (.t 32) (.k (.int .i64 1099511627776))), (some (31, false))⟩, ⟨(some 34), (.pick (.t 31) (.k (.bool true)) (.t 33)), none⟩, ⟨(some 35), (.mov (.t 34)), none⟩, ⟨(some 36), (.mov (.t 3)), (some (35, false))⟩, ⟨(some 37), (.bin .lss (.t 36) (.k (.int .i64 0))), (some (35, false))⟩, ⟨(some 38), (.pick (.t 35) (.k (.bool true)) (.t 37)), none⟩, ⟨(some 39), (.mov (.t 38)), none⟩, ⟨(some 40), (.mov (.t 3)), (some (39, false))⟩, ⟨(some 41), (.bin .gtr (.t 40) (.k (.int .i64 500))), (some (39, false))⟩, ⟨(some 42), (.pick (.t 39) (.k (.bool true)) (.t 41)), none⟩]) (.cond 42 (.seq (.region 5 [⟨(some 43), (.build [.nil0, .nil0] []), none⟩, ⟨none, (.store 2 (.t 8) (.t 43)), none⟩, ⟨(some 9), (.mov (.k (.int .i64 0))), none⟩, ⟨(some 10), (.mov (.k (.bool false))), none⟩, ⟨(some 11), (.mov (.k (.int .i64 2))), none⟩]) .ret) .skip)) (.seq (.seq (.region 6 [⟨(some 44), (.mov (.t 12)), none⟩, ⟨(some 45), (.nchk (.t 44)), none⟩, ⟨(some 46), (.fad 0 (.t 45)), none⟩, ⟨(some 47), (.fad 1 (.t 46)), none⟩, ⟨(some 48), (.load false 1 (.t 47)), none⟩, ⟨(some 49), (.mkfn 70 [(.t 5)]), none⟩, ⟨(some 50), (.call 69 [(.t 48), (.t 49)]), none⟩, ⟨(some 14), (.mov (.t 50)), none⟩]) (.seq (.region 7 [⟨(some 51), (.mov (.t 14)), none⟩, ⟨(some 52), (.bin .geq (.t 51) (.k (.int .i64 0))), none⟩]) (.cond 52 (.seq (.draw 8 (.one true ⟨(some 53), (.mov (.t 12)), none⟩ (.one true ⟨(some 54), (.nchk (.t 53)), none⟩ (.one true ⟨(some 55), (.fad 0 (.t 54)), none⟩ (.one true ⟨(some 56), (.load true 2 (.t 55)), none⟩ (.one true ⟨(some 57), (.mov (.t 12)), none⟩ (.one true ⟨(some 58), (.nchk (.t 57)), none⟩ (.one true ⟨(some 59), (.fad 0 (.t 58)), none⟩ (.one true ⟨(some 60), (.fad 1 (.t 59)), none⟩ (.one true ⟨(some 62), (.mov (.t 14)), none⟩ (.two (.one true ⟨(some 61), (.load false 1 (.t 60)), none⟩ (.one true ⟨(some 63), (.iads 5 (.t 61) (.t 62)), none⟩ (.one true ⟨(some 64), (.fad 4 (.t 63)), none⟩ (.two (.one true ⟨(some 65), (.load false 1 (.t 64)), none⟩ (.one false ⟨none, (.store 2 (.t 8) (.t 56)), none⟩ (.one true ⟨(some 9), (.mov (.t 65)), none⟩ (.one true ⟨(some 10), (.mov (.k (.bool false))), none⟩ (.one true ⟨(some 11), (.mov (.k (.int .i64 0))), none⟩ .done))))) (.two (.one false ⟨none, (.store 2 (.t 8) (.t 56)), none⟩ (.one true ⟨(some 65), (.load false 1 (.t 64)), none⟩ (.one true ⟨(some 9), (.mov (.t 65)), none⟩ (.one true ⟨(some 10), (.mov (.k (.bool false))), none⟩ (.one true ⟨(some 11), (.mov (.k (.int .i64 0))), none⟩ .done))))) .top))))) (.two (.one false ⟨none, (.store 2 (.t 8) (.t 56)), none⟩ (.one true ⟨(some 61), (.load false 1 (.t 60)), none⟩ (.one true ⟨(some 63), (.iads 5 (.t 61) (.t 62)), none⟩ (.one true ⟨(some 64), (.fad 4 (.t 63)), none⟩ (.one true ⟨(some 65), (.load false 1 (.t 64)), none⟩ (.one true ⟨(some 9), (.mov (.t 65)), none⟩ (.one true ⟨(some 10), (.mov (.k (.bool false))), none⟩ (.one true ⟨(some 11), (.mov (.k (.int .i64 0))), none⟩ .done)))))))) .top)))))))))))) .ret) .skip))) (.seq (.seq (.region 9 [⟨(some 66), (.mov (.t 12)), none⟩, ⟨(some 67), (.nchk (.t 66)), none⟩, ⟨(some 68), (.fad 0 (.t 67)), none⟩, ⟨(some 69), (.fad 1 (.t 68)), none⟩, ⟨(some 70), (.load false 1 (.t 69)), none⟩, ⟨(some 71), (.len (.t 70)), none⟩, ⟨(some 72), (.bin .eql (.t 71) (.k (.int .i64 100))), none⟩]) (.cond 72 (.seq (.region 10 [⟨(some 73), (.mov (.t 12)), none⟩, ⟨(some 74), (.nchk (.t 73)), none⟩, ⟨(some 75), (.fad 0 (.t 74)), none⟩, ⟨(some 76), (.load true 2 (.t 75)), none⟩, ⟨none, (.store 2 (.t 8) (.t 76)), none⟩, ⟨(some 9), (.mov (.k (.int .i64 9))), none⟩, ⟨(some 10), (.mov (.k (.bool false))), none⟩, ⟨(some 11), (.mov (.k (.int .i64 0))), none⟩]) .ret) .skip)) (.seq (.seq (.region 11 [⟨(some 77), (.fad 1 (.t 5)), none⟩, ⟨(some 78), (.load false 1 (.t 77)), none⟩, ⟨(some 79), (.bin .eql (.t 78) (.k (.int .i64 1))), none⟩]) (.cond 79 (.region 12 [⟨(some 80), (.mov (.t 12)), none⟩, ⟨(some 81), (.load true 5 (.t 5)), none⟩, ⟨(some 82), (.call 71 [(.t 80), (.t 81)]), none⟩, ⟨(some 83), (.fad 4 (.t 5)), none⟩, ⟨none, (.store 1 (.t 83) (.t 82)), none⟩]) (.seq (.region 13 [⟨(some 84), (.fad 3 (.t 5)), none⟩, ⟨none, (.store 1 (.t 84) (.k (.int .i64 0))), none⟩]) (.region 14 [⟨(some 85), (.mov (.t 12)), none⟩, ⟨(some 86), (.load true 5 (.t 5)), none⟩, ⟨(some 87), (.mov (.t 2)), none⟩, ⟨(some 88), (.mov (.t 3)), none⟩, ⟨(some 89), (.call 72 [(.t 85), (.t 86), (.t 87), (.t 88)]), none⟩, ⟨(some 90), (.fad 4 (.t 5)), none⟩, ⟨none, (.store 1 (.t 90) (.t 89)), none⟩])))) (.seq (.draw 15 (.one true ⟨(some 91), (.mov (.t 12)), none⟩ (.one true ⟨(some 92), (.mov (.t 12)), none⟩ (.one true ⟨(some 93), (.nchk (.t 92)), none⟩ (.one true ⟨(some 94), (.fad 0 (.t 93)), none⟩ (.one true ⟨(some 95), (.fad 1 (.t 94)), none⟩ (.one true ⟨(some 96), (.load false 1 (.t 95)), none⟩ (.one true ⟨(some 97), (.load true 5 (.t 5)), none⟩ (.one true ⟨(some 98), (.bslice 5 1 [(.int .i64 0), (.int .i64 0), (.int .i64 0), (.int .i64 0), (.int .i64 0)] [(0, (.t 97))]), none⟩ (.one false ⟨(some 99), (.app 5 40 [(.int .i64 0), (.int .i64 0), (.int .i64 0), (.int .i64 0), (.int .i64 0)] (.t 96) (.t 98)), none⟩ (.one true ⟨(some 100), (.nchk (.t 91)), none⟩ (.one true ⟨(some 101), (.fad 0 (.t 100)), none⟩ (.one true ⟨(some 102), (.fad 1 (.t 101)), none⟩ (.one false ⟨none, (.store 1 (.t 102) (.t 99)), none⟩ .done)))))))))))))) (.seq (.draw 16 (.one true ⟨(some 103), (.mov (.t 12)), none⟩ (.one true ⟨(some 104), (.nchk (.t 103)), none⟩ (.one true ⟨(some 105), (.fad 0 (.t 104)), none⟩ (.one true ⟨(some 106), (.load true 2 (.t 105)), none⟩ (.one true ⟨(some 107), (.fad 4 (.t 5)), none⟩ (.two (.one true ⟨(some 108), (.load false 1 (.t 107)), none⟩ (.one false ⟨none, (.store 2 (.t 8) (.t 106)), none⟩ (.one true ⟨(some 9), (.mov (.t 108)), none⟩ (.one true ⟨(some 10), (.mov (.k (.bool true))), none⟩ (.one true ⟨(some 11), (.mov (.k (.int .i64 0))), none⟩ .done))))) (.two (.one false ⟨none, (.store 2 (.t 8) (.t 106)), none⟩ (.one true ⟨(some 108), (.load false 1 (.t 107)), none⟩ (.one true ⟨(some 9), (.mov (.t 108)), none⟩ (.one true ⟨(some 10), (.mov (.k (.bool true))), none⟩ (.one true ⟨(some 11), (.mov (.k (.int .i64 0))), none⟩ .done))))) .top)))))))) .ret))))))))), [(.c 8 true 2), (.t 9), (.t 10), (.t 11)], 109⟩ := by kernel_rfl
theorem lask_pf (L : List Lif) (R : List Rqs) (r : Rqs) (now drain : Int) (hb : BookOk L R) (hr : RqsOk r) (n0 : 0 ≤ now) (n1 : now ≤ 1099511627776) (d0 : 0 ≤ drain) (d1 : drain ≤ 500) :
    PF Try.prog 32 [bookD L R, .agg r.D, I now, I drain] (.tup [bookD (askM L R r now drain).L (askM L R r now drain).R, I (askM L R r now drain).answer, .bool (askM L R r now drain).fresh, I 0]) := by
  have hop := lopen_hf L R hb
  have hrq := lreq_pf r hr
  have hll := hb.ll
  have hlr := hb.lr
  have hix := rqixf1_pf Rqs.D R 70 r.D (qI r.id) (by omega) (els_rqs R) (fun s _ => lask1_pf s r)
  have c1 : ¬ now < 0 := by omega
  have c2 : ¬ 1099511627776 < now := by omega
  have c3 : ¬ drain < 0 := by omega
  have c4 : ¬ 500 < drain := by omega
  have hlo := idxZ_lo (qI r.id) R
  unfold bookD at hop ⊢
  refine PF.of follows_ok lask_code (by simp) (by simp [argOk]) (by simp [noV, noC, Rqs.D]) fun B hBN hB0 => acode_sound [0, 1, 2, 3, 4, 5, 8, 9, 10, 11, 12, 13, 14, 21, 42, 52, 72, 79] [] _ _ _ ?_
  simp [AK_at, acode_seq, acode_region, acode_draw, acode_cond, ↓CB_t, ↓CB_f, CB_u, acode_block, acode_loop, acode_exit, acode_scope, acode_ret, acode_skip, seqQ_n, seqQ_e, seqQ_r, blockQ_n, blockQ_e, blockQ_r, TK_at, OK_at, SK_at, aops_nil, aops_cons, asch_done, asch_one, asch_two, asch_top, astep, aop_eq, isLoud, aloud, aloud1, isWrite, qv, evS, strip, gof, eget, hget, putO, eput, herase, oks, opnds, gS, afin, afin0, binD, arith, D.cells, takeD, fillD, keep, trim, envOf, Fin, aresl, aresv, resD, argOk, pickV, isP, deq, deqs, boundD, slD, lenD, isT, isSl, ptrIds, chunks, mn_min, mx_max, D.cells, splice_one, splice_more, Rbr_at, Rfr_at, frR, frV, frC, flatC, brwR, brwV, brwC, omap, leR, leV, leC, leL, leVL, Rqs.D]
  refine WCall.hf0 hop (by simp [oks, opnds, gS, gof, eget]) (by simp [evS, eget, strip]) (by simp [argOk]) (by simp [noV, noC]) ?_
  rintro d H' nx' ⟨rfl, rfl, rfl⟩
  simp [AK_at, acode_seq, acode_region, acode_draw, acode_cond, ↓CB_t, ↓CB_f, CB_u, acode_block, acode_loop, acode_exit, acode_scope, acode_ret, acode_skip, seqQ_n, seqQ_e, seqQ_r, blockQ_n, blockQ_e, blockQ_r, TK_at, OK_at, SK_at, aops_nil, aops_cons, asch_done, asch_one, asch_two, asch_top, astep, aop_eq, isLoud, aloud, aloud1, isWrite, qv, evS, strip, gof, eget, hget, putO, eput, herase, oks, opnds, gS, afin, afin0, binD, arith, D.cells, takeD, fillD, keep, trim, envOf, Fin, aresl, aresv, resD, argOk, pickV, isP, deq, deqs, boundD, slD, lenD, isT, isSl, ptrIds, chunks, mn_min, mx_max, D.cells, splice_one, splice_more, Rbr_at, Rfr_at, frR, frV, frC, flatC, brwR, brwV, brwC, omap, leR, leV, leC, leL, leVL, rnR, rnV, rnC, rnO, rho_0, hputs, herases, bkH]
  by_cases hi : 0 ≤ idxZ (qI r.id) R
  · have ha : askM L R r now drain = ⟨L, R, (R.getD (idxZ (qI r.id) R).toNat default).answer, false⟩ := by unfold askM; rw [if_pos hi]
    rw [ha]
    obtain ⟨i, hii⟩ : ∃ i : Nat, (i : Int) = idxZ (qI r.id) R := ⟨(idxZ (qI r.id) R).toNat, by omega⟩
    rw [← hii] at hix hlo ⊢
    have hil : i < R.length := by omega
    obtain ⟨o, ho⟩ : ∃ o, o = R[i] := ⟨_, rfl⟩
    repeat' (first
      | simp [AK_at, acode_seq, acode_region, acode_draw, acode_cond, ↓CB_t, ↓CB_f, CB_u, acode_block, acode_loop, acode_exit, acode_scope, acode_ret, acode_skip, seqQ_n, seqQ_e, seqQ_r, blockQ_n, blockQ_e, blockQ_r, TK_at, OK_at, SK_at, aops_nil, aops_cons, asch_done, asch_one, asch_two, asch_top, astep, aop_eq, isLoud, aloud, aloud1, isWrite, qv, evS, strip, gof, eget, hget, putO, eput, herase, oks, opnds, gS, afin, afin0, binD, arith, D.cells, takeD, fillD, keep, trim, envOf, Fin, aresl, aresv, resD, argOk, pickV, isP, deq, deqs, boundD, slD, lenD, isT, isSl, ptrIds, chunks, mn_min, mx_max, D.cells, splice_one, splice_more, Rbr_at, Rfr_at, frR, frV, frC, flatC, brwR, brwV, brwC, omap, leR, leV, leC, leL, leVL, Rqs.D, c1, c2, c3, c4, hil, ← ho]
      | (refine WCall.pf (hrq) ?_ ?_ ?_ ?_; (focus (simp [oks, opnds, gS, gof, eget]; done)); (focus (simp [omap, brwV, brwC, evS, eget, strip, hget, leVL, leV, leC, leL, Rqs.D, c1, c2, c3, c4, hil, ← ho]; done)); (focus (simp [noV, noC, flatR, flatV, flatC, evS, eget, strip, Rqs.D, c1, c2, c3, c4, hil, ← ho]; done)))
      | (refine ⟨WCall.pf (hrq) ?_ ?_ ?_ ?_, ?_⟩; (focus (simp [oks, opnds, gS, gof, eget]; done)); (focus (simp [omap, brwV, brwC, evS, eget, strip, hget, leVL, leV, leC, leL, Rqs.D, c1, c2, c3, c4, hil, ← ho]; done)); (focus (simp [noV, noC, flatR, flatV, flatC, evS, eget, strip, Rqs.D, c1, c2, c3, c4, hil, ← ho]; done)))
      | (refine WCall.pf (hix) ?_ ?_ ?_ ?_; (focus (simp [oks, opnds, gS, gof, eget]; done)); (focus (simp [omap, brwV, brwC, evS, eget, strip, hget, leVL, leV, leC, leL, Rqs.D, c1, c2, c3, c4, hil, ← ho]; done)); (focus (simp [noV, noC, flatR, flatV, flatC, evS, eget, strip, Rqs.D, c1, c2, c3, c4, hil, ← ho]; done)))
      | (refine ⟨WCall.pf (hix) ?_ ?_ ?_ ?_, ?_⟩; (focus (simp [oks, opnds, gS, gof, eget]; done)); (focus (simp [omap, brwV, brwC, evS, eget, strip, hget, leVL, leV, leC, leL, Rqs.D, c1, c2, c3, c4, hil, ← ho]; done)); (focus (simp [noV, noC, flatR, flatV, flatC, evS, eget, strip, Rqs.D, c1, c2, c3, c4, hil, ← ho]; done)))
      | (with_reducible refine And.intro (And.intro ?_ ?_) ?_)
      | fail)
    all_goals done
  have hin : idxZ (qI r.id) R = -1 := by omega
  rw [hin] at hix
  by_cases hf : R.length = 100
  · have ha : askM L R r now drain = ⟨L, R, 9, false⟩ := by unfold askM; rw [if_neg hi, if_pos hf]
    rw [ha]
    have hfz : (R.length : Int) = 100 := by omega
    repeat' (first
      | simp [AK_at, acode_seq, acode_region, acode_draw, acode_cond, ↓CB_t, ↓CB_f, CB_u, acode_block, acode_loop, acode_exit, acode_scope, acode_ret, acode_skip, seqQ_n, seqQ_e, seqQ_r, blockQ_n, blockQ_e, blockQ_r, TK_at, OK_at, SK_at, aops_nil, aops_cons, asch_done, asch_one, asch_two, asch_top, astep, aop_eq, isLoud, aloud, aloud1, isWrite, qv, evS, strip, gof, eget, hget, putO, eput, herase, oks, opnds, gS, afin, afin0, binD, arith, D.cells, takeD, fillD, keep, trim, envOf, Fin, aresl, aresv, resD, argOk, pickV, isP, deq, deqs, boundD, slD, lenD, isT, isSl, ptrIds, chunks, mn_min, mx_max, D.cells, splice_one, splice_more, Rbr_at, Rfr_at, frR, frV, frC, flatC, brwR, brwV, brwC, omap, leR, leV, leC, leL, leVL, Rqs.D, c1, c2, c3, c4, hf]
      | (refine WCall.pf (hrq) ?_ ?_ ?_ ?_; (focus (simp [oks, opnds, gS, gof, eget]; done)); (focus (simp [omap, brwV, brwC, evS, eget, strip, hget, leVL, leV, leC, leL, Rqs.D, c1, c2, c3, c4, hf]; done)); (focus (simp [noV, noC, flatR, flatV, flatC, evS, eget, strip, Rqs.D, c1, c2, c3, c4, hf]; done)))
      | (refine ⟨WCall.pf (hrq) ?_ ?_ ?_ ?_, ?_⟩; (focus (simp [oks, opnds, gS, gof, eget]; done)); (focus (simp [omap, brwV, brwC, evS, eget, strip, hget, leVL, leV, leC, leL, Rqs.D, c1, c2, c3, c4, hf]; done)); (focus (simp [noV, noC, flatR, flatV, flatC, evS, eget, strip, Rqs.D, c1, c2, c3, c4, hf]; done)))
      | (refine WCall.pf (hix) ?_ ?_ ?_ ?_; (focus (simp [oks, opnds, gS, gof, eget]; done)); (focus (simp [omap, brwV, brwC, evS, eget, strip, hget, leVL, leV, leC, leL, Rqs.D, c1, c2, c3, c4, hf]; done)); (focus (simp [noV, noC, flatR, flatV, flatC, evS, eget, strip, Rqs.D, c1, c2, c3, c4, hf]; done)))
      | (refine ⟨WCall.pf (hix) ?_ ?_ ?_ ?_, ?_⟩; (focus (simp [oks, opnds, gS, gof, eget]; done)); (focus (simp [omap, brwV, brwC, evS, eget, strip, hget, leVL, leV, leC, leL, Rqs.D, c1, c2, c3, c4, hf]; done)); (focus (simp [noV, noC, flatR, flatV, flatC, evS, eget, strip, Rqs.D, c1, c2, c3, c4, hf]; done)))
      | (with_reducible refine And.intro (And.intro ?_ ?_) ?_)
      | fail)
    all_goals done
  have hfz : ¬ (R.length : Int) = 100 := by omega
  by_cases hk : r.kind = 1
  · have ha : askM L R r now drain = ⟨(joinM L r).1, R ++ [{ r with answer := (joinM L r).2 }], (joinM L r).2, true⟩ := by unfold askM; rw [if_neg hi, if_neg hf, if_pos hk]
    have hj := ljoin_hf2 L R r hb
    rw [ha]
    generalize joinM L r = J at hj
    obtain ⟨L', an⟩ := J
    simp only at hj
    unfold bkH at hj
    have hcap : (R.length + 1) * 40 ≤ 140737488355328 := by omega
    repeat' (first
      | simp [AK_at, acode_seq, acode_region, acode_draw, acode_cond, ↓CB_t, ↓CB_f, CB_u, acode_block, acode_loop, acode_exit, acode_scope, acode_ret, acode_skip, seqQ_n, seqQ_e, seqQ_r, blockQ_n, blockQ_e, blockQ_r, TK_at, OK_at, SK_at, aops_nil, aops_cons, asch_done, asch_one, asch_two, asch_top, astep, aop_eq, isLoud, aloud, aloud1, isWrite, qv, evS, strip, gof, eget, hget, putO, eput, herase, oks, opnds, gS, afin, afin0, binD, arith, D.cells, takeD, fillD, keep, trim, envOf, Fin, aresl, aresv, resD, argOk, pickV, isP, deq, deqs, boundD, slD, lenD, isT, isSl, ptrIds, chunks, mn_min, mx_max, D.cells, splice_one, splice_more, Rbr_at, Rfr_at, frR, frV, frC, flatC, brwR, brwV, brwC, omap, leR, leV, leC, leL, leVL, Rqs.D, c1, c2, c3, c4, hfz, hk]
      | (refine WCall.pf (hrq) ?_ ?_ ?_ ?_; (focus (simp [oks, opnds, gS, gof, eget]; done)); (focus (simp [omap, brwV, brwC, evS, eget, strip, hget, leVL, leV, leC, leL, Rqs.D, c1, c2, c3, c4, hfz, hk]; done)); (focus (simp [noV, noC, flatR, flatV, flatC, evS, eget, strip, Rqs.D, c1, c2, c3, c4, hfz, hk]; done)))
      | (refine ⟨WCall.pf (hrq) ?_ ?_ ?_ ?_, ?_⟩; (focus (simp [oks, opnds, gS, gof, eget]; done)); (focus (simp [omap, brwV, brwC, evS, eget, strip, hget, leVL, leV, leC, leL, Rqs.D, c1, c2, c3, c4, hfz, hk]; done)); (focus (simp [noV, noC, flatR, flatV, flatC, evS, eget, strip, Rqs.D, c1, c2, c3, c4, hfz, hk]; done)))
      | (refine WCall.pf (hix) ?_ ?_ ?_ ?_; (focus (simp [oks, opnds, gS, gof, eget]; done)); (focus (simp [omap, brwV, brwC, evS, eget, strip, hget, leVL, leV, leC, leL, Rqs.D, c1, c2, c3, c4, hfz, hk]; done)); (focus (simp [noV, noC, flatR, flatV, flatC, evS, eget, strip, Rqs.D, c1, c2, c3, c4, hfz, hk]; done)))
      | (refine ⟨WCall.pf (hix) ?_ ?_ ?_ ?_, ?_⟩; (focus (simp [oks, opnds, gS, gof, eget]; done)); (focus (simp [omap, brwV, brwC, evS, eget, strip, hget, leVL, leV, leC, leL, Rqs.D, c1, c2, c3, c4, hfz, hk]; done)); (focus (simp [noV, noC, flatR, flatV, flatC, evS, eget, strip, Rqs.D, c1, c2, c3, c4, hfz, hk]; done)))
      | (with_reducible refine And.intro (And.intro ?_ ?_) ?_)
      | fail)
    refine WCall.hf [3, 4, 5] (hj) (by simp [oks, opnds, gS, gof, eget]) rfl rfl (by decide) (by simp) (by simp [evS, eget, strip, rnV, rnC, rho, Rqs.D, hk]) (by simp [argOk, Rqs.D, hk]) (by simp [LtV, LtC, Rqs.D, hk]) (by simp [rho, rnO, rnC, hget, LtO, LtC, Rqs.D, hk]) ?_
    rintro d H' nx' ⟨rfl, rfl, rfl⟩
    simp [AK_at, acode_seq, acode_region, acode_draw, acode_cond, ↓CB_t, ↓CB_f, CB_u, acode_block, acode_loop, acode_exit, acode_scope, acode_ret, acode_skip, seqQ_n, seqQ_e, seqQ_r, blockQ_n, blockQ_e, blockQ_r, TK_at, OK_at, SK_at, aops_nil, aops_cons, asch_done, asch_one, asch_two, asch_top, astep, aop_eq, isLoud, aloud, aloud1, isWrite, qv, evS, strip, gof, eget, hget, putO, eput, herase, oks, opnds, gS, afin, afin0, binD, arith, D.cells, takeD, fillD, keep, trim, envOf, Fin, aresl, aresv, resD, argOk, pickV, isP, deq, deqs, boundD, slD, lenD, isT, isSl, ptrIds, chunks, mn_min, mx_max, D.cells, splice_one, splice_more, Rbr_at, Rfr_at, frR, frV, frC, flatC, brwR, brwV, brwC, omap, leR, leV, leC, leL, leVL, rnR, rnV, rnC, rnO, rho_0, hputs, herases, bkJ, rho, Rqs.D, hcap]
    done
  · have ha : askM L R r now drain = ⟨(retireM L r now drain).1, R ++ [{ r with weight := 0, answer := (retireM L r now drain).2 }], (retireM L r now drain).2, true⟩ := by unfold askM; rw [if_neg hi, if_neg hf, if_neg hk]
    have hj := lret_hf L R { r with weight := 0 } now drain hb n0 n1 d0 d1
    have hcap : (R.length + 1) * 40 ≤ 140737488355328 := by omega
    rw [ha]
    have e : retireM L { r with weight := 0 } now drain = retireM L r now drain := rfl
    rw [e] at hj
    generalize retireM L r now drain = J at hj
    obtain ⟨L', an⟩ := J
    simp only at hj
    unfold bkH at hj
    repeat' (first
      | simp [AK_at, acode_seq, acode_region, acode_draw, acode_cond, ↓CB_t, ↓CB_f, CB_u, acode_block, acode_loop, acode_exit, acode_scope, acode_ret, acode_skip, seqQ_n, seqQ_e, seqQ_r, blockQ_n, blockQ_e, blockQ_r, TK_at, OK_at, SK_at, aops_nil, aops_cons, asch_done, asch_one, asch_two, asch_top, astep, aop_eq, isLoud, aloud, aloud1, isWrite, qv, evS, strip, gof, eget, hget, putO, eput, herase, oks, opnds, gS, afin, afin0, binD, arith, D.cells, takeD, fillD, keep, trim, envOf, Fin, aresl, aresv, resD, argOk, pickV, isP, deq, deqs, boundD, slD, lenD, isT, isSl, ptrIds, chunks, mn_min, mx_max, D.cells, splice_one, splice_more, Rbr_at, Rfr_at, frR, frV, frC, flatC, brwR, brwV, brwC, omap, leR, leV, leC, leL, leVL, Rqs.D, c1, c2, c3, c4, hfz, hk]
      | (refine WCall.pf (hrq) ?_ ?_ ?_ ?_; (focus (simp [oks, opnds, gS, gof, eget]; done)); (focus (simp [omap, brwV, brwC, evS, eget, strip, hget, leVL, leV, leC, leL, Rqs.D, c1, c2, c3, c4, hfz, hk]; done)); (focus (simp [noV, noC, flatR, flatV, flatC, evS, eget, strip, Rqs.D, c1, c2, c3, c4, hfz, hk]; done)))
      | (refine ⟨WCall.pf (hrq) ?_ ?_ ?_ ?_, ?_⟩; (focus (simp [oks, opnds, gS, gof, eget]; done)); (focus (simp [omap, brwV, brwC, evS, eget, strip, hget, leVL, leV, leC, leL, Rqs.D, c1, c2, c3, c4, hfz, hk]; done)); (focus (simp [noV, noC, flatR, flatV, flatC, evS, eget, strip, Rqs.D, c1, c2, c3, c4, hfz, hk]; done)))
      | (refine WCall.pf (hix) ?_ ?_ ?_ ?_; (focus (simp [oks, opnds, gS, gof, eget]; done)); (focus (simp [omap, brwV, brwC, evS, eget, strip, hget, leVL, leV, leC, leL, Rqs.D, c1, c2, c3, c4, hfz, hk]; done)); (focus (simp [noV, noC, flatR, flatV, flatC, evS, eget, strip, Rqs.D, c1, c2, c3, c4, hfz, hk]; done)))
      | (refine ⟨WCall.pf (hix) ?_ ?_ ?_ ?_, ?_⟩; (focus (simp [oks, opnds, gS, gof, eget]; done)); (focus (simp [omap, brwV, brwC, evS, eget, strip, hget, leVL, leV, leC, leL, Rqs.D, c1, c2, c3, c4, hfz, hk]; done)); (focus (simp [noV, noC, flatR, flatV, flatC, evS, eget, strip, Rqs.D, c1, c2, c3, c4, hfz, hk]; done)))
      | (with_reducible refine And.intro (And.intro ?_ ?_) ?_)
      | fail)
    refine WCall.hf [3, 4, 5] (hj) (by simp [oks, opnds, gS, gof, eget]) rfl rfl (by decide) (by simp) (by simp [evS, eget, strip, rnV, rnC, rho, Rqs.D]) (by simp [argOk, Rqs.D]) (by simp [LtV, LtC, Rqs.D]) (by simp [rho, rnO, rnC, hget, LtO, LtC, Rqs.D]) ?_
    rintro d H' nx' ⟨rfl, rfl, rfl⟩
    simp [AK_at, acode_seq, acode_region, acode_draw, acode_cond, ↓CB_t, ↓CB_f, CB_u, acode_block, acode_loop, acode_exit, acode_scope, acode_ret, acode_skip, seqQ_n, seqQ_e, seqQ_r, blockQ_n, blockQ_e, blockQ_r, TK_at, OK_at, SK_at, aops_nil, aops_cons, asch_done, asch_one, asch_two, asch_top, astep, aop_eq, isLoud, aloud, aloud1, isWrite, qv, evS, strip, gof, eget, hget, putO, eput, herase, oks, opnds, gS, afin, afin0, binD, arith, D.cells, takeD, fillD, keep, trim, envOf, Fin, aresl, aresv, resD, argOk, pickV, isP, deq, deqs, boundD, slD, lenD, isT, isSl, ptrIds, chunks, mn_min, mx_max, D.cells, splice_one, splice_more, Rbr_at, Rfr_at, frR, frV, frC, flatC, brwR, brwV, brwC, omap, leR, leV, leC, leL, leVL, rnR, rnV, rnC, rnO, rho_0, hputs, herases, rho, Rqs.D, hcap]
    done
end Go.Proofs.Ytfkeddefajkobaa

