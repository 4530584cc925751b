/- This text proves what wire's Check computes of an event that may be. It has no condition of its own. -/
import Derived.Test.YtfkeddefajkobaaWid
set_option linter.unusedSimpArgs false
set_option linter.unusedVariables false
set_option maxRecDepth 100000
set_option maxHeartbeats 2000000
namespace Go.Proofs.Ytfkeddefajkobaa
open Go.RowKit
def EK.val (kd : EK) (x y z : Int) (i : Nat) : Int := if i = 0 then x else if i = 1 then y else z
def EK.lo : EK → Nat → Int
  | .jo, 2 => 1
  | _, _ => 0
def EK.hi : EK → Nat → Int
  | .op, _ => 4294967295
  | .da, 0 => 39 | .da, _ => 1048576
  | .cl, 0 => 39 | .cl, _ => 1048576
  | .an, 0 => 39 | .an, 1 => 1048576 | .an, _ => 1
  | .jo, 0 => 1048576 | .jo, 1 => 11 | .jo, _ => 8
  | .re, 0 => 1048576 | .re, _ => 11
  | .ti, _ => 0
theorem EK.Ok.at {kd : EK} {x y z : Int} (h : kd.Ok x y z) {i : Nat} (hi : i < kd.len) : kd.lo i ≤ kd.val x y z i ∧ kd.val x y z i ≤ kd.hi i := by
  cases kd <;> simp only [EK.Ok, EK.len] at h hi
  all_goals
    have : i = 0 ∨ i = 1 ∨ i = 2 := by omega
    rcases this with rfl | rfl | rfl <;> simp [EK.lo, EK.hi, EK.val] <;> omega
theorem wcheck_code : cfun Try.prog [] 65 = some ⟨(.seq (.region 0 [⟨(some 1), (.box (.t 0)), none⟩, ⟨(some 2), (.mov (.k (.int .i64 0))), none⟩]) (.seq (.region 1 [⟨(some 3), (.alloc [(.int .i64 0)]), none⟩, ⟨none, (.store 1 (.t 3) (.k (.int .i64 0))), none⟩]) (.seq (.region 2 [⟨(some 9), (.call 63 [(.t 1), (.t 3)]), none⟩, ⟨(some 8), (.mov (.t 9)), none⟩, ⟨(some 10), (.ext (.t 8) 0), none⟩, ⟨(some 11), (.ext (.t 8) 1), none⟩, ⟨(some 4), (.mov (.t 10)), none⟩, ⟨(some 5), (.mov (.t 11)), none⟩]) (.seq (.seq (.region 3 [⟨(some 12), (.mov (.t 5)), none⟩, ⟨(some 13), (.not (.t 12)), none⟩]) (.cond 13 (.seq (.region 4 [⟨(some 2), (.mov (.k (.int .i64 5))), none⟩]) .ret) .skip)) (.seq (.seq (.region 5 [⟨(some 14), (.mov (.t 4)), none⟩, ⟨(some 15), (.len (.t 14)), none⟩, ⟨(some 16), (.mov (.k (.int .i64 0))), none⟩]) (.block 0 (.loop (.seq (.region 6 [⟨(some 17), (.bin .lss (.t 16) (.t 15)), none⟩]) (.seq (.cond 17 .skip (.exit 0)) (.seq (.block 1 (.seq (.region 7 [⟨(some 18), (.iads 3 (.t 14) (.t 16)), none⟩, ⟨(some 19), (.load true 3 (.t 18)), none⟩, ⟨(some 7), (.alloc [.nilp, (.int .i64 0), (.int .i64 0)]), none⟩, ⟨none, (.store 3 (.t 7) (.t 19)), none⟩]) (.seq (.draw 8 (.one true ⟨(some 20), (.fad 0 (.t 7)), none⟩ (.one true ⟨(some 21), (.load false 1 (.t 20)), none⟩ (.one true ⟨(some 22), (.nchk (.t 21)), none⟩ (.one true ⟨(some 23), (.load false 1 (.t 22)), none⟩ (.one true ⟨(some 24), (.fad 1 (.t 7)), none⟩ (.one true ⟨(some 25), (.load false 1 (.t 24)), none⟩ (.one true ⟨(some 26), (.bin .lss (.t 23) (.t 25)), none⟩ (.one true ⟨(some 27), (.mov (.t 26)), none⟩ (.one true ⟨(some 28), (.fad 0 (.t 7)), (some (27, false))⟩ (.one true ⟨(some 29), (.load false 1 (.t 28)), (some (27, false))⟩ (.one true ⟨(some 30), (.nchk (.t 29)), (some (27, false))⟩ (.one true ⟨(some 31), (.load false 1 (.t 30)), (some (27, false))⟩ (.one true ⟨(some 32), (.fad 2 (.t 7)), (some (27, false))⟩ (.one true ⟨(some 33), (.load false 1 (.t 32)), (some (27, false))⟩ (.one true ⟨(some 34), (.bin .gtr (.t 31) (.t 33)), (some (27, false))⟩ (.one true ⟨(some 35), (.pick (.t 27) (.k (.bool true)) (.t 34)), none⟩ .done))))))))))))))))) (.cond 35 (.seq (.region 9 [⟨(some 2), (.mov (.k (.int .i64 2))), none⟩]) .ret) .skip)))) (.region 10 [⟨(some 36), (.bin .add (.t 16) (.k (.int .i64 1))), none⟩, ⟨(some 16), (.mov (.t 36)), none⟩]))))))) (.seq (.seq (.region 11 [⟨(some 37), (.load true 8 (.t 1)), none⟩, ⟨(some 38), (.call 95 [(.t 37)]), none⟩, ⟨(some 39), (.build [(.int .i64 0), (.int .i64 0), (.int .i64 0), (.int .i64 0), (.bool false), (.int .i64 0), (.int .i64 0), (.int .i64 0)] []), none⟩, ⟨(some 40), (.eqa true [.i, .i, .i, .i, .b, .i, .i, .i] (.t 38) (.t 39)), none⟩]) (.cond 40 (.seq (.region 12 [⟨(some 2), (.mov (.k (.int .i64 3))), none⟩]) .ret) .skip)) (.seq (.region 13 [⟨(some 2), (.mov (.k (.int .i64 0))), none⟩]) .ret))))))), [(.t 2)], 41⟩ := by kernel_rfl
theorem wcheck_pf (kd : EK) (x y z : Int) (h : kd.Ok x y z) : PF Try.prog 65 [.agg (kd.cells x y z)] (I 0) := by
  have hr := wrest_pf kd x y z
  cases hkd : kd
  all_goals
    have hfl := wfields_ev kd x y z 0
    have h2 := h
    rw [hkd] at hfl h2 hr
    simp only [EK.Ok] at h2
    refine PF.of follows_ok wcheck_code (by simp) (by simp [argOk]) (by simp [noV, noC, EK.cells]) fun B hBN hB0 => acode_sound [0, 1, 2, 3, 4, 5, 7, 13, 14, 15, 16, 17, 35, 40] [] _ _ _ ?_
    simp [AK_at, acode_seq, acode_region, acode_draw, acode_cond, ↓CB_t, ↓CB_f, CB_u, acode_block, acode_loop, acode_exit, acode_scope, acode_ret, acode_skip, seqQ_n, seqQ_e, seqQ_r, blockQ_n, blockQ_e, blockQ_r, TK_at, OK_at, SK_at, aops_nil, aops_cons, asch_done, asch_one, asch_two, asch_top, astep, aop_eq, isLoud, aloud, aloud1, isWrite, qv, evS, strip, gof, eget, hget, putO, eput, herase, oks, opnds, gS, afin, afin0, binD, arith, D.cells, takeD, fillD, keep, trim, envOf, Fin, aresl, aresv, resD, argOk, pickV, isP, deq, deqs, boundD, slD, lenD, isT, chunks, mn_min, mx_max, D.cells, splice_one, splice_more, Rbr_at, Rfr_at, frR, frV, frC, flatC, brwR, brwV, brwC, omap, leR, leV, leC, leL, leVL, EK.cells]
    refine WCall.hf [0, 1] hfl (by simp [oks, opnds, gS, gof, eget]) rfl rfl (by decide) (by simp) (by simp [evS, eget, strip, rnV, rnC, rho]) (by simp [argOk]) (by simp [LtV, LtC]) (by simp [rho, rnO, rnC, hget, LtO, LtC, EK.cells]) ?_
    rintro d H' nx' ⟨rfl, rfl, rfl⟩
    simp [AK_at, acode_seq, acode_region, acode_draw, acode_cond, ↓CB_t, ↓CB_f, CB_u, acode_block, acode_loop, acode_exit, acode_scope, acode_ret, acode_skip, seqQ_n, seqQ_e, seqQ_r, blockQ_n, blockQ_e, blockQ_r, TK_at, OK_at, SK_at, aops_nil, aops_cons, asch_done, asch_one, asch_two, asch_top, astep, aop_eq, isLoud, aloud, aloud1, isWrite, qv, evS, strip, gof, eget, hget, putO, eput, herase, oks, opnds, gS, afin, afin0, binD, arith, D.cells, takeD, fillD, keep, trim, envOf, Fin, aresl, aresv, resD, argOk, pickV, isP, deq, deqs, boundD, slD, lenD, isT, chunks, mn_min, mx_max, D.cells, splice_one, splice_more, Rbr_at, Rfr_at, frR, frV, frC, flatC, brwR, brwV, brwC, omap, leR, leV, leC, leL, leVL, rnR, rnV, rnC, rnO, rho_0, hputs, herases, rho, EK.cells, EK.fd, EK.fh, EK.fn, EK.rows, flowR, askR]
    refine W.loopS (fun i : Nat => ⟨[(16, I i), (15, I kd.len), (14, kd.sl 2), (3, .ptr 1 0), (1, .ptr 0 0)], kd.hp 2 1 [(1, .cells [I 0]), (0, .cells (kd.cells x y z))], 3⟩)
      (fun n i => n = kd.len - i ∧ i ≤ kd.len) ?_ ?_
    · exact ⟨_, 0, (Gh.ren [0, 1, kd.fo] (by simp [hB0]) (by simp [hB0] <;> decide) (by simp [eget, rnS, rnR, rnV, rnC, LtS, LtR, LtV, LtC, lget, EK.fo, hkd, EK.cells, EK.len, EK.sl, EK.hp, EK.rw]) (by simp [hget, rnO, rnC, LtO, LtC, lget, EK.fo, hkd, EK.cells, EK.len, EK.sl, EK.hp, EK.rw]) (.inl (by simp [lget, EK.fo, hkd, EK.cells, EK.len, EK.sl, EK.hp, EK.rw]))), rfl, by omega⟩
    rintro n i ⟨hn, hi⟩
    refine acode_sound [0, 1, 2, 3, 4, 5, 7, 13, 14, 15, 16, 17, 35, 40] [] _ _ _ ?_
    have hi2 := hi
    have i1 : InR 1 := inW (by omega) (by omega)
    have i2 : InR 2 := inW (by omega) (by omega)
    have i3 : InR 3 := inW (by omega) (by omega)
    try simp only [← Int.not_lt] at h2
    simp only [EK.cells] at hr
    rw [hkd] at hi2
    rcases len3 kd hi with rfl | rfl | rfl | rfl
    · skip
      repeat' (first
        | simp [AK_at, acode_seq, acode_region, acode_draw, acode_cond, ↓CB_t, ↓CB_f, CB_u, acode_block, acode_loop, acode_exit, acode_scope, acode_ret, acode_skip, seqQ_n, seqQ_e, seqQ_r, blockQ_n, blockQ_e, blockQ_r, TK_at, OK_at, SK_at, aops_nil, aops_cons, asch_done, asch_one, asch_two, asch_top, astep, aop_eq, isLoud, aloud, aloud1, isWrite, qv, evS, strip, gof, eget, hget, putO, eput, herase, oks, opnds, gS, afin, afin0, binD, arith, D.cells, takeD, fillD, keep, trim, envOf, Fin, aresl, aresv, resD, argOk, pickV, isP, deq, deqs, boundD, slD, lenD, isT, chunks, mn_min, mx_max, D.cells, splice_one, splice_more, Rbr_at, Rfr_at, frR, frV, frC, flatC, brwR, brwV, brwC, omap, leR, leV, leC, leL, leVL, i1, i2, i3, h2, hkd, EK.cells, EK.len, EK.sl, EK.hp, EK.rw, zeroE]
        | (refine WCall.pf (hr) ?_ ?_ ?_ ?_; (focus (simp [oks, opnds, gS, gof, eget]; done)); (focus (simp [omap, brwV, brwC, evS, eget, strip, hget, leVL, leV, leC, leL, i1, i2, i3, h2, hkd, EK.cells, EK.len, EK.sl, EK.hp, EK.rw, zeroE]; done)); (focus (simp [noV, noC, flatR, flatV, flatC, evS, eget, strip, i1, i2, i3, h2, hkd, EK.cells, EK.len, EK.sl, EK.hp, EK.rw, zeroE]; done)))
        | (refine ⟨WCall.pf (hr) ?_ ?_ ?_ ?_, ?_⟩; (focus (simp [oks, opnds, gS, gof, eget]; done)); (focus (simp [omap, brwV, brwC, evS, eget, strip, hget, leVL, leV, leC, leL, i1, i2, i3, h2, hkd, EK.cells, EK.len, EK.sl, EK.hp, EK.rw, zeroE]; done)); (focus (simp [noV, noC, flatR, flatV, flatC, evS, eget, strip, i1, i2, i3, h2, hkd, EK.cells, EK.len, EK.sl, EK.hp, EK.rw, zeroE]; done)))
        | (with_reducible refine And.intro (And.intro ?_ ?_) ?_)
        | fail)
      try exact ⟨_, 1, (Gh.ren [0, 1, 2] (by simp [hB0]) (by simp [hB0] <;> decide) (by simp [eget, rnS, rnR, rnV, rnC, LtS, LtR, LtV, LtC, lget, hkd, EK.cells, EK.len, EK.sl, EK.hp, EK.rw]) (by simp [hget, rnO, rnC, LtO, LtC, lget, hkd, EK.cells, EK.len, EK.sl, EK.hp, EK.rw]) (.inl (by simp [lget, hkd, EK.cells, EK.len, EK.sl, EK.hp, EK.rw]))), (by simp [hkd, EK.len] at hn; omega), rfl, (by simp [hkd, EK.len])⟩
    · try (exfalso; simp [EK.len] at hi2; done)
      all_goals
        repeat' (first
          | simp [AK_at, acode_seq, acode_region, acode_draw, acode_cond, ↓CB_t, ↓CB_f, CB_u, acode_block, acode_loop, acode_exit, acode_scope, acode_ret, acode_skip, seqQ_n, seqQ_e, seqQ_r, blockQ_n, blockQ_e, blockQ_r, TK_at, OK_at, SK_at, aops_nil, aops_cons, asch_done, asch_one, asch_two, asch_top, astep, aop_eq, isLoud, aloud, aloud1, isWrite, qv, evS, strip, gof, eget, hget, putO, eput, herase, oks, opnds, gS, afin, afin0, binD, arith, D.cells, takeD, fillD, keep, trim, envOf, Fin, aresl, aresv, resD, argOk, pickV, isP, deq, deqs, boundD, slD, lenD, isT, chunks, mn_min, mx_max, D.cells, splice_one, splice_more, Rbr_at, Rfr_at, frR, frV, frC, flatC, brwR, brwV, brwC, omap, leR, leV, leC, leL, leVL, i1, i2, i3, h2, hkd, EK.cells, EK.len, EK.sl, EK.hp, EK.rw, zeroE]
          | (refine WCall.pf (hr) ?_ ?_ ?_ ?_; (focus (simp [oks, opnds, gS, gof, eget]; done)); (focus (simp [omap, brwV, brwC, evS, eget, strip, hget, leVL, leV, leC, leL, i1, i2, i3, h2, hkd, EK.cells, EK.len, EK.sl, EK.hp, EK.rw, zeroE]; done)); (focus (simp [noV, noC, flatR, flatV, flatC, evS, eget, strip, i1, i2, i3, h2, hkd, EK.cells, EK.len, EK.sl, EK.hp, EK.rw, zeroE]; done)))
          | (refine ⟨WCall.pf (hr) ?_ ?_ ?_ ?_, ?_⟩; (focus (simp [oks, opnds, gS, gof, eget]; done)); (focus (simp [omap, brwV, brwC, evS, eget, strip, hget, leVL, leV, leC, leL, i1, i2, i3, h2, hkd, EK.cells, EK.len, EK.sl, EK.hp, EK.rw, zeroE]; done)); (focus (simp [noV, noC, flatR, flatV, flatC, evS, eget, strip, i1, i2, i3, h2, hkd, EK.cells, EK.len, EK.sl, EK.hp, EK.rw, zeroE]; done)))
          | (with_reducible refine And.intro (And.intro ?_ ?_) ?_)
          | fail)
        try exact ⟨_, 2, (Gh.ren [0, 1, 2] (by simp [hB0]) (by simp [hB0] <;> decide) (by simp [eget, rnS, rnR, rnV, rnC, LtS, LtR, LtV, LtC, lget, hkd, EK.cells, EK.len, EK.sl, EK.hp, EK.rw]) (by simp [hget, rnO, rnC, LtO, LtC, lget, hkd, EK.cells, EK.len, EK.sl, EK.hp, EK.rw]) (.inl (by simp [lget, hkd, EK.cells, EK.len, EK.sl, EK.hp, EK.rw]))), (by simp [hkd, EK.len] at hn; omega), rfl, (by simp [hkd, EK.len])⟩
    · try (exfalso; simp [EK.len] at hi2; done)
      all_goals
        repeat' (first
          | simp [AK_at, acode_seq, acode_region, acode_draw, acode_cond, ↓CB_t, ↓CB_f, CB_u, acode_block, acode_loop, acode_exit, acode_scope, acode_ret, acode_skip, seqQ_n, seqQ_e, seqQ_r, blockQ_n, blockQ_e, blockQ_r, TK_at, OK_at, SK_at, aops_nil, aops_cons, asch_done, asch_one, asch_two, asch_top, astep, aop_eq, isLoud, aloud, aloud1, isWrite, qv, evS, strip, gof, eget, hget, putO, eput, herase, oks, opnds, gS, afin, afin0, binD, arith, D.cells, takeD, fillD, keep, trim, envOf, Fin, aresl, aresv, resD, argOk, pickV, isP, deq, deqs, boundD, slD, lenD, isT, chunks, mn_min, mx_max, D.cells, splice_one, splice_more, Rbr_at, Rfr_at, frR, frV, frC, flatC, brwR, brwV, brwC, omap, leR, leV, leC, leL, leVL, i1, i2, i3, h2, hkd, EK.cells, EK.len, EK.sl, EK.hp, EK.rw, zeroE]
          | (refine WCall.pf (hr) ?_ ?_ ?_ ?_; (focus (simp [oks, opnds, gS, gof, eget]; done)); (focus (simp [omap, brwV, brwC, evS, eget, strip, hget, leVL, leV, leC, leL, i1, i2, i3, h2, hkd, EK.cells, EK.len, EK.sl, EK.hp, EK.rw, zeroE]; done)); (focus (simp [noV, noC, flatR, flatV, flatC, evS, eget, strip, i1, i2, i3, h2, hkd, EK.cells, EK.len, EK.sl, EK.hp, EK.rw, zeroE]; done)))
          | (refine ⟨WCall.pf (hr) ?_ ?_ ?_ ?_, ?_⟩; (focus (simp [oks, opnds, gS, gof, eget]; done)); (focus (simp [omap, brwV, brwC, evS, eget, strip, hget, leVL, leV, leC, leL, i1, i2, i3, h2, hkd, EK.cells, EK.len, EK.sl, EK.hp, EK.rw, zeroE]; done)); (focus (simp [noV, noC, flatR, flatV, flatC, evS, eget, strip, i1, i2, i3, h2, hkd, EK.cells, EK.len, EK.sl, EK.hp, EK.rw, zeroE]; done)))
          | (with_reducible refine And.intro (And.intro ?_ ?_) ?_)
          | fail)
        try exact ⟨_, 3, (Gh.ren [0, 1, 2] (by simp [hB0]) (by simp [hB0] <;> decide) (by simp [eget, rnS, rnR, rnV, rnC, LtS, LtR, LtV, LtC, lget, hkd, EK.cells, EK.len, EK.sl, EK.hp, EK.rw]) (by simp [hget, rnO, rnC, LtO, LtC, lget, hkd, EK.cells, EK.len, EK.sl, EK.hp, EK.rw]) (.inl (by simp [lget, hkd, EK.cells, EK.len, EK.sl, EK.hp, EK.rw]))), (by simp [hkd, EK.len] at hn; omega), rfl, (by simp [hkd, EK.len])⟩
    · try (exfalso; simp [EK.len] at hi2; done)
      all_goals
        repeat' (first
          | simp [AK_at, acode_seq, acode_region, acode_draw, acode_cond, ↓CB_t, ↓CB_f, CB_u, acode_block, acode_loop, acode_exit, acode_scope, acode_ret, acode_skip, seqQ_n, seqQ_e, seqQ_r, blockQ_n, blockQ_e, blockQ_r, TK_at, OK_at, SK_at, aops_nil, aops_cons, asch_done, asch_one, asch_two, asch_top, astep, aop_eq, isLoud, aloud, aloud1, isWrite, qv, evS, strip, gof, eget, hget, putO, eput, herase, oks, opnds, gS, afin, afin0, binD, arith, D.cells, takeD, fillD, keep, trim, envOf, Fin, aresl, aresv, resD, argOk, pickV, isP, deq, deqs, boundD, slD, lenD, isT, chunks, mn_min, mx_max, D.cells, splice_one, splice_more, Rbr_at, Rfr_at, frR, frV, frC, flatC, brwR, brwV, brwC, omap, leR, leV, leC, leL, leVL, i1, i2, i3, h2, hkd, EK.cells, EK.len, EK.sl, EK.hp, EK.rw, zeroE]
          | (refine WCall.pf (hr) ?_ ?_ ?_ ?_; (focus (simp [oks, opnds, gS, gof, eget]; done)); (focus (simp [omap, brwV, brwC, evS, eget, strip, hget, leVL, leV, leC, leL, i1, i2, i3, h2, hkd, EK.cells, EK.len, EK.sl, EK.hp, EK.rw, zeroE]; done)); (focus (simp [noV, noC, flatR, flatV, flatC, evS, eget, strip, i1, i2, i3, h2, hkd, EK.cells, EK.len, EK.sl, EK.hp, EK.rw, zeroE]; done)))
          | (refine ⟨WCall.pf (hr) ?_ ?_ ?_ ?_, ?_⟩; (focus (simp [oks, opnds, gS, gof, eget]; done)); (focus (simp [omap, brwV, brwC, evS, eget, strip, hget, leVL, leV, leC, leL, i1, i2, i3, h2, hkd, EK.cells, EK.len, EK.sl, EK.hp, EK.rw, zeroE]; done)); (focus (simp [noV, noC, flatR, flatV, flatC, evS, eget, strip, i1, i2, i3, h2, hkd, EK.cells, EK.len, EK.sl, EK.hp, EK.rw, zeroE]; done)))
          | (with_reducible refine And.intro (And.intro ?_ ?_) ?_)
          | fail)
end Go.Proofs.Ytfkeddefajkobaa
