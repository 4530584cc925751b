/- This text proves that what Encode hands back is memory of its own, and the law WireKind over the small machine. It has no condition of its own. -/
import Derived.Test.YtgjngknkokgpjaaWil
set_option linter.unusedSimpArgs false
set_option linter.unusedVariables false
set_option maxRecDepth 100000
set_option maxHeartbeats 2000000
namespace Go.Proofs.Ytgjngknkokgpjaa
open Go.RowKit
theorem wench_code : cfun Try.prog [] 21 = some ⟨(.seq (.region 0 [⟨(some 1), (.box (.t 0)), none⟩, ⟨(some 2), (.mov (.k .nil0)), none⟩, ⟨(some 3), (.mov (.k (.int .i64 0))), none⟩]) (.seq (.seq (.region 1 [⟨(some 11), (.load true 8 (.t 1)), none⟩, ⟨(some 12), (.call 34 [(.t 11)]), none⟩, ⟨(some 4), (.mov (.t 12)), none⟩]) (.seq (.region 2 [⟨(some 13), (.mov (.t 4)), none⟩, ⟨(some 14), (.bin .neq (.t 13) (.k (.int .i64 0))), none⟩]) (.cond 14 (.seq (.region 3 [⟨(some 15), (.mov (.t 4)), none⟩, ⟨(some 2), (.mov (.k .nil0)), none⟩, ⟨(some 3), (.mov (.t 15)), none⟩]) .ret) .skip))) (.seq (.region 4 [⟨(some 5), (.alloc [(.int .i64 0)]), none⟩, ⟨none, (.store 1 (.t 5) (.k (.int .i64 0))), none⟩]) (.seq (.seq (.region 5 [⟨(some 16), (.fad 4 (.t 1)), none⟩, ⟨(some 17), (.load false 1 (.t 16)), none⟩]) (.cond 17 (.region 6 [⟨none, (.store 1 (.t 5) (.k (.int .i64 1))), none⟩]) .skip)) (.seq (.region 7 [⟨(some 19), (.call 35 [(.t 1), (.t 5)]), none⟩, ⟨(some 18), (.mov (.t 19)), none⟩, ⟨(some 20), (.ext (.t 18) 0), none⟩, ⟨(some 21), (.ext (.t 18) 1), none⟩, ⟨(some 6), (.mov (.t 20)), none⟩, ⟨(some 7), (.mov (.t 21)), none⟩]) (.seq (.region 8 [⟨(some 22), (.fad 0 (.t 1)), none⟩, ⟨(some 23), (.load false 1 (.t 22)), none⟩, ⟨(some 24), (.conv .u8 (.t 23)), none⟩, ⟨(some 25), (.bslice 1 1 [(.int .u8 0)] [(0, (.t 24))]), none⟩, ⟨(some 8), (.mov (.t 25)), none⟩]) (.seq (.seq (.region 9 [⟨(some 26), (.mov (.t 6)), none⟩, ⟨(some 27), (.len (.t 26)), none⟩, ⟨(some 28), (.mov (.k (.int .i64 0))), none⟩]) (.block 0 (.loop (.seq (.region 10 [⟨(some 29), (.bin .lss (.t 28) (.t 27)), none⟩]) (.seq (.cond 29 .skip (.exit 0)) (.seq (.block 1 (.seq (.region 11 [⟨(some 30), (.iads 3 (.t 26) (.t 28)), none⟩, ⟨(some 31), (.load true 3 (.t 30)), none⟩, ⟨(some 10), (.alloc [.nilp, (.int .i64 0), (.int .i64 0)]), none⟩, ⟨none, (.store 3 (.t 10) (.t 31)), none⟩]) (.region 12 [⟨(some 32), (.mov (.t 8)), none⟩, ⟨(some 33), (.fad 0 (.t 10)), none⟩, ⟨(some 34), (.load false 1 (.t 33)), none⟩, ⟨(some 35), (.nchk (.t 34)), none⟩, ⟨(some 36), (.load false 1 (.t 35)), none⟩, ⟨(some 37), (.call 36 [(.t 32), (.t 36)]), none⟩, ⟨(some 8), (.mov (.t 37)), none⟩]))) (.region 13 [⟨(some 38), (.bin .add (.t 28) (.k (.int .i64 1))), none⟩, ⟨(some 28), (.mov (.t 38)), none⟩]))))))) (.seq (.region 14 [⟨(some 39), (.mov (.t 8)), none⟩, ⟨(some 2), (.mov (.t 39)), none⟩, ⟨(some 3), (.mov (.k (.int .i64 0))), none⟩]) .ret)))))))), [(.t 2), (.t 3)], 40⟩ := by kernel_rfl
theorem wenc_hf (kd : EK) (x y z : Int) (h : kd.Ok x y z) : HF Try.prog 21 [.agg (kd.cells x y z)] [] 0 (fun d H' nx' => d = .tup [.own 3, I 0] ∧ H' = (3, .row 1 ((kd.out x y z kd.len).map PB)) :: kd.hp 2 1 [(1, .cells [I (kd.g z)]), (0, .cells (kd.cells x y z))] ∧ nx' = 4) := by
  have hc := wcheck_pf kd x y z h
  have u1 : IntKind.u8.wrap 1 = 1 := by decide
  have u2 : IntKind.u8.wrap 2 = 2 := by decide
  have u3 : IntKind.u8.wrap 3 = 3 := by decide
  have u4 : IntKind.u8.wrap 4 = 4 := by decide
  have u5 : IntKind.u8.wrap 5 = 5 := by decide
  have u6 : IntKind.u8.wrap 6 = 6 := by decide
  have u7 : IntKind.u8.wrap 7 = 7 := by decide
  have v1 : ∀ v : Int, 0 ≤ v → v ≤ 4294967295 → v < 34359738368 := fun v _ _ => by omega
  cases hkd : kd
  all_goals
    have hfl := wfields_ev kd x y z (kd.g z)
    have h2 := h
    have p1 := EK.out_len kd x y z 0
    have p2 := EK.out_len kd x y z 1
    have p3 := EK.out_len kd x y z 2
    have o1 := EK.out1 kd x y z
    have o2 := EK.out2 kd x y z
    have o3 := EK.out3 kd x y z
    rw [hkd] at hfl h2 hc o1 o2 o3
    simp only [EK.Ok] at h2
    obtain ⟨zz, hzz⟩ : ∃ zz, zz = z := ⟨_, rfl⟩
    first
      | (have hz01 : z = 0 ∨ z = 1 := (by omega); rcases hz01 with rfl | rfl)
      | skip
    all_goals
      simp [EK.cells, EK.g] at hfl hc
      refine HF.of follows_ok wench_code (by simp) (by simp [argOk]) (by simp [LtV, LtC, EK.cells]) fun B hBN hB0 => acode_sound [0, 1, 2, 3, 4, 5, 6, 8, 10, 14, 17, 26, 27, 28, 29] [] _ _ _ ?_
      repeat' (first
        | simp [AK_at, acode_seq, acode_region, acode_draw, acode_cond, ↓CB_t, ↓CB_f, CB_u, acode_block, acode_loop, acode_exit, acode_scope, acode_ret, acode_skip, seqQ_n, seqQ_e, seqQ_r, blockQ_n, blockQ_e, blockQ_r, TK_at, OK_at, SK_at, aops_nil, aops_cons, asch_done, asch_one, asch_two, asch_top, astep, aop_eq, isLoud, aloud, aloud1, isWrite, qv, evS, strip, gof, eget, hget, putO, eput, herase, oks, opnds, gS, afin, afin0, binD, arith, D.cells, takeD, fillD, keep, trim, envOf, Fin, aresl, aresv, resD, argOk, pickV, isP, deq, deqs, boundD, slD, lenD, isT, chunks, mn_min, mx_max, D.cells, splice_one, splice_more, Rbr_at, Rfr_at, frR, frV, frC, flatC, brwR, brwV, brwC, omap, leR, leV, leC, leL, leVL, EK.cells, u1, u2, u3, u4, u5, u6, u7]
        | (refine WCall.pf (hc) ?_ ?_ ?_ ?_; (focus (simp [oks, opnds, gS, gof, eget]; done)); (focus (simp [omap, brwV, brwC, evS, eget, strip, hget, leVL, leV, leC, leL, EK.cells, u1, u2, u3, u4, u5, u6, u7]; done)); (focus (simp [noV, noC, flatR, flatV, flatC, evS, eget, strip, EK.cells, u1, u2, u3, u4, u5, u6, u7]; done)))
        | (refine ⟨WCall.pf (hc) ?_ ?_ ?_ ?_, ?_⟩; (focus (simp [oks, opnds, gS, gof, eget]; done)); (focus (simp [omap, brwV, brwC, evS, eget, strip, hget, leVL, leV, leC, leL, EK.cells, u1, u2, u3, u4, u5, u6, u7]; done)); (focus (simp [noV, noC, flatR, flatV, flatC, evS, eget, strip, EK.cells, u1, u2, u3, u4, u5, u6, u7]; done)))
        | (with_reducible refine And.intro (And.intro ?_ ?_) ?_)
        | fail)
      refine WCall.hf [0, 1] hfl (by simp [oks, opnds, gS, gof, eget]) rfl rfl (by decide) (by simp) (by simp [evS, eget, strip, rnV, rnC, rho]) (by simp [argOk]) (by simp [LtV, LtC]) (by simp [rho, rnO, rnC, hget, LtO, LtC, EK.cells]) ?_
      rintro d H' nx' ⟨rfl, rfl, rfl⟩
      simp [AK_at, acode_seq, acode_region, acode_draw, acode_cond, ↓CB_t, ↓CB_f, CB_u, acode_block, acode_loop, acode_exit, acode_scope, acode_ret, acode_skip, seqQ_n, seqQ_e, seqQ_r, blockQ_n, blockQ_e, blockQ_r, TK_at, OK_at, SK_at, aops_nil, aops_cons, asch_done, asch_one, asch_two, asch_top, astep, aop_eq, isLoud, aloud, aloud1, isWrite, qv, evS, strip, gof, eget, hget, putO, eput, herase, oks, opnds, gS, afin, afin0, binD, arith, D.cells, takeD, fillD, keep, trim, envOf, Fin, aresl, aresv, resD, argOk, pickV, isP, deq, deqs, boundD, slD, lenD, isT, chunks, mn_min, mx_max, D.cells, splice_one, splice_more, Rbr_at, Rfr_at, frR, frV, frC, flatC, brwR, brwV, brwC, omap, leR, leV, leC, leL, leVL, rnR, rnV, rnC, rnO, rho_0, hputs, herases, rho, EK.cells, EK.fd, EK.fh, EK.fn, EK.rows, flowR, askR, u1, u2, u3, u4, u5, u6, u7]
      clear hfl hc
      refine W.loopS (fun i : Nat => ⟨[(28, I i), (27, I kd.len), (26, kd.sl 2), (8, .own 3), (5, .ptr 1 0), (1, .ptr 0 0)], (3, .row 1 ((kd.out x y zz i).map PB)) :: kd.hp 2 1 [(1, .cells [I (kd.g zz)]), (0, .cells (kd.cells x y zz))], 4⟩)
        (fun n i => n = kd.len - i ∧ i ≤ kd.len) ?_ ?_
      · exact ⟨_, 0, (Gh.ren [0, 1, kd.fo, kd.fo2] (by simp [hB0]) (by simp [hB0] <;> decide) (by simp [eget, rnS, rnR, rnV, rnC, LtS, LtR, LtV, LtC, lget, EK.fo, EK.fo2, hkd, hzz, EK.cells, EK.len, EK.sl, EK.hp, EK.rw, EK.g, EK.out, EK.n, PB]) (by simp [hget, rnO, rnC, LtO, LtC, lget, EK.fo, EK.fo2, hkd, hzz, EK.cells, EK.len, EK.sl, EK.hp, EK.rw, EK.g, EK.out, EK.n, PB]) (.inl (by simp [lget, EK.fo, EK.fo2, hkd, hzz, EK.cells, EK.len, EK.sl, EK.hp, EK.rw, EK.g, EK.out, EK.n, PB]))), rfl, by omega⟩
      rintro n i ⟨hn, hi⟩
      refine acode_sound [0, 1, 2, 3, 4, 5, 6, 8, 10, 14, 17, 26, 27, 28, 29] [] _ _ _ ?_
      have hi2 := hi
      have i1 : InR 1 := inW (by omega) (by omega)
      have i2 : InR 2 := inW (by omega) (by omega)
      have i3 : InR 3 := inW (by omega) (by omega)
      rw [hkd] at hi2
      rcases len3 kd hi with rfl | rfl | rfl | rfl
      · skip
        simp [AK_at, acode_seq, acode_region, acode_draw, acode_cond, ↓CB_t, ↓CB_f, CB_u, acode_block, acode_loop, acode_exit, acode_scope, acode_ret, acode_skip, seqQ_n, seqQ_e, seqQ_r, blockQ_n, blockQ_e, blockQ_r, TK_at, OK_at, SK_at, aops_nil, aops_cons, asch_done, asch_one, asch_two, asch_top, astep, aop_eq, isLoud, aloud, aloud1, isWrite, qv, evS, strip, gof, eget, hget, putO, eput, herase, oks, opnds, gS, afin, afin0, binD, arith, D.cells, takeD, fillD, keep, trim, envOf, Fin, aresl, aresv, resD, argOk, pickV, isP, deq, deqs, boundD, slD, lenD, isT, chunks, mn_min, mx_max, D.cells, splice_one, splice_more, Rbr_at, Rfr_at, frR, frV, frC, flatC, brwR, brwV, brwC, omap, leR, leV, leC, leL, leVL, i1, i2, i3, hkd, hzz, EK.cells, EK.len, EK.sl, EK.hp, EK.rw, EK.g]
        try
          have hput := wput_hf (kd.out x y zz 0) x (by have := EK.out_len kd x y zz 0; omega) (by omega) (by omega)
          have ho := EK.out1 kd x y zz
          rw [hkd, hzz] at hput ho
          refine WCall.hf [3] hput (by simp [oks, opnds, gS, gof, eget]) rfl rfl (by decide) (by simp) (by simp [evS, eget, strip, rnV, rnC, rho]) (by simp [argOk]) (by simp [LtV, LtC]) (by simp [rho, rnO, rnC, hget, LtO, LtC]) ?_
          rintro d H' nx' ⟨w, rfl, rfl, rfl⟩
          rw [← ho]
          simp [AK_at, acode_seq, acode_region, acode_draw, acode_cond, ↓CB_t, ↓CB_f, CB_u, acode_block, acode_loop, acode_exit, acode_scope, acode_ret, acode_skip, seqQ_n, seqQ_e, seqQ_r, blockQ_n, blockQ_e, blockQ_r, TK_at, OK_at, SK_at, aops_nil, aops_cons, asch_done, asch_one, asch_two, asch_top, astep, aop_eq, isLoud, aloud, aloud1, isWrite, qv, evS, strip, gof, eget, hget, putO, eput, herase, oks, opnds, gS, afin, afin0, binD, arith, D.cells, takeD, fillD, keep, trim, envOf, Fin, aresl, aresv, resD, argOk, pickV, isP, deq, deqs, boundD, slD, lenD, isT, chunks, mn_min, mx_max, D.cells, splice_one, splice_more, Rbr_at, Rfr_at, frR, frV, frC, flatC, brwR, brwV, brwC, omap, leR, leV, leC, leL, leVL, rnR, rnV, rnC, rnO, rho_0, hputs, herases, rho, i1, i2, i3]
          exact ⟨_, 1, (Gh.ren [0, 1, 2, 7] (by simp [hB0]) (by simp [hB0] <;> decide) (by simp [eget, rnS, rnR, rnV, rnC, LtS, LtR, LtV, LtC, lget, hkd, hzz, EK.cells, EK.len, EK.sl, EK.hp, EK.rw, EK.g]) (by simp [hget, rnO, rnC, LtO, LtC, lget, hkd, hzz, EK.cells, EK.len, EK.sl, EK.hp, EK.rw, EK.g]) (.inl (by simp [lget, hkd, hzz, EK.cells, EK.len, EK.sl, EK.hp, EK.rw, EK.g]))), (by simp [hkd, EK.len] at hn; omega), rfl, (by simp [hkd, EK.len])⟩
      · try (exfalso; simp [EK.len] at hi2; done)
        all_goals
          simp [AK_at, acode_seq, acode_region, acode_draw, acode_cond, ↓CB_t, ↓CB_f, CB_u, acode_block, acode_loop, acode_exit, acode_scope, acode_ret, acode_skip, seqQ_n, seqQ_e, seqQ_r, blockQ_n, blockQ_e, blockQ_r, TK_at, OK_at, SK_at, aops_nil, aops_cons, asch_done, asch_one, asch_two, asch_top, astep, aop_eq, isLoud, aloud, aloud1, isWrite, qv, evS, strip, gof, eget, hget, putO, eput, herase, oks, opnds, gS, afin, afin0, binD, arith, D.cells, takeD, fillD, keep, trim, envOf, Fin, aresl, aresv, resD, argOk, pickV, isP, deq, deqs, boundD, slD, lenD, isT, chunks, mn_min, mx_max, D.cells, splice_one, splice_more, Rbr_at, Rfr_at, frR, frV, frC, flatC, brwR, brwV, brwC, omap, leR, leV, leC, leL, leVL, i1, i2, i3, hkd, hzz, EK.cells, EK.len, EK.sl, EK.hp, EK.rw, EK.g]
          try
            have hput := wput_hf (kd.out x y zz 1) y (by have := EK.out_len kd x y zz 1; omega) (by omega) (by omega)
            have ho := EK.out2 kd x y zz
            rw [hkd, hzz] at hput ho
            refine WCall.hf [3] hput (by simp [oks, opnds, gS, gof, eget]) rfl rfl (by decide) (by simp) (by simp [evS, eget, strip, rnV, rnC, rho]) (by simp [argOk]) (by simp [LtV, LtC]) (by simp [rho, rnO, rnC, hget, LtO, LtC]) ?_
            rintro d H' nx' ⟨w, rfl, rfl, rfl⟩
            rw [← ho]
            simp [AK_at, acode_seq, acode_region, acode_draw, acode_cond, ↓CB_t, ↓CB_f, CB_u, acode_block, acode_loop, acode_exit, acode_scope, acode_ret, acode_skip, seqQ_n, seqQ_e, seqQ_r, blockQ_n, blockQ_e, blockQ_r, TK_at, OK_at, SK_at, aops_nil, aops_cons, asch_done, asch_one, asch_two, asch_top, astep, aop_eq, isLoud, aloud, aloud1, isWrite, qv, evS, strip, gof, eget, hget, putO, eput, herase, oks, opnds, gS, afin, afin0, binD, arith, D.cells, takeD, fillD, keep, trim, envOf, Fin, aresl, aresv, resD, argOk, pickV, isP, deq, deqs, boundD, slD, lenD, isT, chunks, mn_min, mx_max, D.cells, splice_one, splice_more, Rbr_at, Rfr_at, frR, frV, frC, flatC, brwR, brwV, brwC, omap, leR, leV, leC, leL, leVL, rnR, rnV, rnC, rnO, rho_0, hputs, herases, rho, i1, i2, i3]
            exact ⟨_, 2, (Gh.ren [0, 1, 2, 7] (by simp [hB0]) (by simp [hB0] <;> decide) (by simp [eget, rnS, rnR, rnV, rnC, LtS, LtR, LtV, LtC, lget, hkd, hzz, EK.cells, EK.len, EK.sl, EK.hp, EK.rw, EK.g]) (by simp [hget, rnO, rnC, LtO, LtC, lget, hkd, hzz, EK.cells, EK.len, EK.sl, EK.hp, EK.rw, EK.g]) (.inl (by simp [lget, hkd, hzz, EK.cells, EK.len, EK.sl, EK.hp, EK.rw, EK.g]))), (by simp [hkd, EK.len] at hn; omega), rfl, (by simp [hkd, EK.len])⟩
      · try (exfalso; simp [EK.len] at hi2; done)
        all_goals
          simp [AK_at, acode_seq, acode_region, acode_draw, acode_cond, ↓CB_t, ↓CB_f, CB_u, acode_block, acode_loop, acode_exit, acode_scope, acode_ret, acode_skip, seqQ_n, seqQ_e, seqQ_r, blockQ_n, blockQ_e, blockQ_r, TK_at, OK_at, SK_at, aops_nil, aops_cons, asch_done, asch_one, asch_two, asch_top, astep, aop_eq, isLoud, aloud, aloud1, isWrite, qv, evS, strip, gof, eget, hget, putO, eput, herase, oks, opnds, gS, afin, afin0, binD, arith, D.cells, takeD, fillD, keep, trim, envOf, Fin, aresl, aresv, resD, argOk, pickV, isP, deq, deqs, boundD, slD, lenD, isT, chunks, mn_min, mx_max, D.cells, splice_one, splice_more, Rbr_at, Rfr_at, frR, frV, frC, flatC, brwR, brwV, brwC, omap, leR, leV, leC, leL, leVL, i1, i2, i3, hkd, hzz, EK.cells, EK.len, EK.sl, EK.hp, EK.rw, EK.g]
          try
            have hput := wput_hf (kd.out x y zz 2) zz (by have := EK.out_len kd x y zz 2; omega) (by omega) (by omega)
            have ho := EK.out3 kd x y zz
            rw [hkd, hzz] at hput ho
            refine WCall.hf [3] hput (by simp [oks, opnds, gS, gof, eget]) rfl rfl (by decide) (by simp) (by simp [evS, eget, strip, rnV, rnC, rho]) (by simp [argOk]) (by simp [LtV, LtC]) (by simp [rho, rnO, rnC, hget, LtO, LtC]) ?_
            rintro d H' nx' ⟨w, rfl, rfl, rfl⟩
            rw [← ho]
            simp [AK_at, acode_seq, acode_region, acode_draw, acode_cond, ↓CB_t, ↓CB_f, CB_u, acode_block, acode_loop, acode_exit, acode_scope, acode_ret, acode_skip, seqQ_n, seqQ_e, seqQ_r, blockQ_n, blockQ_e, blockQ_r, TK_at, OK_at, SK_at, aops_nil, aops_cons, asch_done, asch_one, asch_two, asch_top, astep, aop_eq, isLoud, aloud, aloud1, isWrite, qv, evS, strip, gof, eget, hget, putO, eput, herase, oks, opnds, gS, afin, afin0, binD, arith, D.cells, takeD, fillD, keep, trim, envOf, Fin, aresl, aresv, resD, argOk, pickV, isP, deq, deqs, boundD, slD, lenD, isT, chunks, mn_min, mx_max, D.cells, splice_one, splice_more, Rbr_at, Rfr_at, frR, frV, frC, flatC, brwR, brwV, brwC, omap, leR, leV, leC, leL, leVL, rnR, rnV, rnC, rnO, rho_0, hputs, herases, rho, i1, i2, i3]
            exact ⟨_, 3, (Gh.ren [0, 1, 2, 7] (by simp [hB0]) (by simp [hB0] <;> decide) (by simp [eget, rnS, rnR, rnV, rnC, LtS, LtR, LtV, LtC, lget, hkd, hzz, EK.cells, EK.len, EK.sl, EK.hp, EK.rw, EK.g]) (by simp [hget, rnO, rnC, LtO, LtC, lget, hkd, hzz, EK.cells, EK.len, EK.sl, EK.hp, EK.rw, EK.g]) (.inl (by simp [lget, hkd, hzz, EK.cells, EK.len, EK.sl, EK.hp, EK.rw, EK.g]))), (by simp [hkd, EK.len] at hn; omega), rfl, (by simp [hkd, EK.len])⟩
      · try (exfalso; simp [EK.len] at hi2; done)
        all_goals
          simp [AK_at, acode_seq, acode_region, acode_draw, acode_cond, ↓CB_t, ↓CB_f, CB_u, acode_block, acode_loop, acode_exit, acode_scope, acode_ret, acode_skip, seqQ_n, seqQ_e, seqQ_r, blockQ_n, blockQ_e, blockQ_r, TK_at, OK_at, SK_at, aops_nil, aops_cons, asch_done, asch_one, asch_two, asch_top, astep, aop_eq, isLoud, aloud, aloud1, isWrite, qv, evS, strip, gof, eget, hget, putO, eput, herase, oks, opnds, gS, afin, afin0, binD, arith, D.cells, takeD, fillD, keep, trim, envOf, Fin, aresl, aresv, resD, argOk, pickV, isP, deq, deqs, boundD, slD, lenD, isT, chunks, mn_min, mx_max, D.cells, splice_one, splice_more, Rbr_at, Rfr_at, frR, frV, frC, flatC, brwR, brwV, brwC, omap, leR, leV, leC, leL, leVL, i1, i2, i3, hkd, hzz, EK.cells, EK.len, EK.sl, EK.hp, EK.rw, EK.g]
theorem noEv (kd : EK) (x y z : Int) : noV (.agg (kd.cells x y z)) = true := by cases kd <;> rfl
theorem wkind_code : cfun Try.prog [] 16 = some ⟨(.seq (.region 0 [⟨(some 2), (.box (.t 0)), none⟩, ⟨(some 4), (.mov (.k (.bool false))), none⟩]) (.seq (.region 1 [⟨(some 10), (.load true 4 (.t 2)), none⟩, ⟨(some 11), (.call 31 [(.t 10)]), none⟩, ⟨(some 12), (.call 21 [(.t 11)]), none⟩, ⟨(some 9), (.mov (.t 12)), none⟩, ⟨(some 13), (.ext (.t 9) 0), none⟩, ⟨(some 14), (.ext (.t 9) 1), none⟩, ⟨(some 5), (.mov (.t 13)), none⟩, ⟨(some 6), (.mov (.t 14)), none⟩]) (.seq (.seq (.draw 2 (.one true ⟨(some 15), (.mov (.t 6)), none⟩ (.one true ⟨(some 16), (.bin .neq (.t 15) (.k (.int .i64 0))), none⟩ (.one true ⟨(some 17), (.mov (.t 16)), none⟩ (.one true ⟨(some 18), (.mov (.t 5)), (some (17, false))⟩ (.one true ⟨(some 19), (.len (.t 18)), (some (17, false))⟩ (.one true ⟨(some 20), (.bin .eql (.t 19) (.k (.int .i64 0))), (some (17, false))⟩ (.one true ⟨(some 21), (.pick (.t 17) (.k (.bool true)) (.t 20)), none⟩ (.one true ⟨(some 22), (.mov (.t 21)), none⟩ (.one true ⟨(some 23), (.mov (.t 5)), (some (22, false))⟩ (.one true ⟨(some 24), (.iads 1 (.t 23) (.k (.int .i64 0))), (some (22, false))⟩ (.one true ⟨(some 25), (.load false 1 (.t 24)), (some (22, false))⟩ (.one true ⟨(some 26), (.conv .i64 (.t 25)), (some (22, false))⟩ (.one true ⟨(some 27), (.load true 4 (.t 2)), (some (22, false))⟩ (.one true ⟨(some 28), (.call 31 [(.t 27)]), (some (22, false))⟩ (.one true ⟨(some 29), (.fld false 0 1 (.t 28)), (some (22, false))⟩ (.one true ⟨(some 30), (.bin .neq (.t 26) (.t 29)), (some (22, false))⟩ (.one true ⟨(some 31), (.pick (.t 22) (.k (.bool true)) (.t 30)), none⟩ .done)))))))))))))))))) (.cond 31 (.seq (.region 3 [⟨(some 4), (.mov (.k (.bool false))), none⟩]) .ret) .skip)) (.seq (.region 4 [⟨(some 32), (.mov (.t 5)), none⟩, ⟨(some 33), (.mov (.t 1)), none⟩, ⟨(some 34), (.call 19 [(.t 33), (.k (.int .i64 248))]), none⟩, ⟨(some 35), (.bin .add (.k (.int .i64 8)) (.t 34)), none⟩, ⟨(some 36), (.conv .u8 (.t 35)), none⟩, ⟨(some 37), (.iads 1 (.t 32) (.k (.int .i64 0))), none⟩, ⟨none, (.store 1 (.t 37) (.t 36)), none⟩]) (.seq (.region 5 [⟨(some 39), (.mov (.t 5)), none⟩, ⟨(some 40), (.call 32 [(.t 39)]), none⟩, ⟨(some 38), (.mov (.t 40)), none⟩, ⟨(some 41), (.ext (.t 38) 0), none⟩, ⟨(some 42), (.ext (.t 38) 1), none⟩, ⟨(some 7), (.alloc [(.int .i64 0), (.int .i64 0), (.int .i64 0), (.int .i64 0), (.bool false), (.int .i64 0), (.int .i64 0), (.int .i64 0)]), none⟩, ⟨none, (.store 8 (.t 7) (.t 41)), none⟩, ⟨(some 8), (.mov (.t 42)), none⟩]) (.seq (.region 6 [⟨(some 43), (.mov (.t 8)), none⟩, ⟨(some 44), (.bin .eql (.t 43) (.k (.int .i64 5))), none⟩, ⟨(some 45), (.mov (.t 44)), none⟩, ⟨(some 46), (.load true 8 (.t 7)), (some (45, true))⟩, ⟨(some 47), (.build [(.int .i64 0), (.int .i64 0), (.int .i64 0), (.int .i64 0), (.bool false), (.int .i64 0), (.int .i64 0), (.int .i64 0)] []), (some (45, true))⟩, ⟨(some 48), (.eqa false [.i, .i, .i, .i, .b, .i, .i, .i] (.t 46) (.t 47)), (some (45, true))⟩, ⟨(some 49), (.pick (.t 45) (.t 48) (.k (.bool false))), none⟩, ⟨(some 4), (.mov (.t 49)), none⟩]) .ret)))))), [(.t 4)], 50⟩ := by kernel_rfl
theorem wkind_pf (r : List Int) (other : Int) (hr : r.length = 4 ∧ ∀ z ∈ r, InR z) (ho : InR other) : PF Try.prog 16 [.agg (r.map I), I other] (.bool true) := by
  obtain ⟨hl, hz⟩ := hr
  obtain ⟨k, a, b, c, rfl⟩ := four hl
  obtain ⟨kd, x, y, z, hok, hev⟩ := wevent_pf k a b c (hz k (by simp)) (hz a (by simp)) (hz b (by simp)) (hz c (by simp))
  have henc := wenc_hf kd x y z hok
  have hby := EK.out_byte kd x y z hok
  have ht := EK.out_tl kd x y z []
  have htl := EK.tl_len kd x y z []
  rw [List.append_nil] at ht
  obtain ⟨tl, htle⟩ : ∃ tl, tl = kd.tl x y z [] := ⟨_, rfl⟩
  rw [← htle] at ht htl
  rw [ht] at hby henc
  simp only [List.length_nil, Nat.add_zero] at htl
  have po := picked_pf other 248 ho (by omega)
  have ro := pickedZ_range other 248 (by omega)
  obtain ⟨p, hp⟩ : ∃ p, p = pickedZ other 248 := ⟨_, rfl⟩
  rw [← hp] at po ro
  have hdec := wdec_pf ((8 + p) :: tl) (fun c hc => (List.mem_cons.1 hc).elim (fun h => h ▸ ⟨by omega, by omega⟩) fun h => hby c (List.mem_cons_of_mem _ h)) (by unfold Go.maxLen; simp; omega)
  rw [decM_kind (8 + p) tl (by omega) (by omega)] at hdec
  simp only [zeroE, List.map_cons, PB] at hdec
  have hu : IntKind.u8.wrap (8 + p) = 8 + p := by rw [IntKind.wrap_u8]; omega
  have i8 : InR (8 + p) := inW (by omega) (by omega)
  have hlen : ¬ (tl.length : Int) + 1 = 0 := by omega
  have hl0 : 0 < tl.length + 1 := by omega
  have in1 : InR 1 := inW (by omega) (by omega)
  have in2 : InR 2 := inW (by omega) (by omega)
  have in3 : InR 3 := inW (by omega) (by omega)
  have in4 : InR 4 := inW (by omega) (by omega)
  have in5 : InR 5 := inW (by omega) (by omega)
  have in6 : InR 6 := inW (by omega) (by omega)
  have in7 : InR 7 := inW (by omega) (by omega)
  clear hby ht htle hp
  refine PF.of follows_ok wkind_code (by simp) (by simp [argOk]) (by simp [noV, noC]) fun B hBN hB0 => acode_sound [0, 1, 2, 4, 5, 6, 7, 8, 31] [] _ _ _ ?_
  cases kd
  all_goals
    simp only [EK.cells, EK.hp, EK.g, EK.rw, EK.n] at hev henc
    repeat' (first
      | simp [AK_at, acode_seq, acode_region, acode_draw, acode_cond, ↓CB_t, ↓CB_f, CB_u, acode_block, acode_loop, acode_exit, acode_scope, acode_ret, acode_skip, seqQ_n, seqQ_e, seqQ_r, blockQ_n, blockQ_e, blockQ_r, TK_at, OK_at, SK_at, aops_nil, aops_cons, asch_done, asch_one, asch_two, asch_top, astep, aop_eq, isLoud, aloud, aloud1, isWrite, qv, evS, strip, gof, eget, hget, putO, eput, herase, oks, opnds, gS, afin, afin0, binD, arith, D.cells, takeD, fillD, keep, trim, envOf, Fin, aresl, aresv, resD, argOk, pickV, isP, deq, deqs, boundD, slD, lenD, isT, chunks, mn_min, mx_max, D.cells, splice_one, splice_more, Rbr_at, Rfr_at, frR, frV, frC, flatC, brwR, brwV, brwC, omap, leR, leV, leC, leL, leVL, ]
      | (refine WCall.pf (hev) ?_ ?_ ?_ ?_; (focus (simp [oks, opnds, gS, gof, eget]; done)); (focus (simp [omap, brwV, brwC, evS, eget, strip, hget, leVL, leV, leC, leL, ]; done)); (focus (simp [noV, noC, flatR, flatV, flatC, evS, eget, strip, ]; done)))
      | (refine ⟨WCall.pf (hev) ?_ ?_ ?_ ?_, ?_⟩; (focus (simp [oks, opnds, gS, gof, eget]; done)); (focus (simp [omap, brwV, brwC, evS, eget, strip, hget, leVL, leV, leC, leL, ]; done)); (focus (simp [noV, noC, flatR, flatV, flatC, evS, eget, strip, ]; done)))
      | (with_reducible refine And.intro (And.intro ?_ ?_) ?_)
      | fail)
    refine WCall.hf0 henc (by simp [oks, opnds, gS, gof, eget]) (by simp [evS, eget, strip]) (by simp [argOk]) (by simp [noV, noC]) ?_
    rintro d H' nx' ⟨rfl, rfl, rfl⟩
    simp [AK_at, acode_seq, acode_region, acode_draw, acode_cond, ↓CB_t, ↓CB_f, CB_u, acode_block, acode_loop, acode_exit, acode_scope, acode_ret, acode_skip, seqQ_n, seqQ_e, seqQ_r, blockQ_n, blockQ_e, blockQ_r, TK_at, OK_at, SK_at, aops_nil, aops_cons, asch_done, asch_one, asch_two, asch_top, astep, aop_eq, isLoud, aloud, aloud1, isWrite, qv, evS, strip, gof, eget, hget, putO, eput, herase, oks, opnds, gS, afin, afin0, binD, arith, D.cells, takeD, fillD, keep, trim, envOf, Fin, aresl, aresv, resD, argOk, pickV, isP, deq, deqs, boundD, slD, lenD, isT, chunks, mn_min, mx_max, D.cells, splice_one, splice_more, Rbr_at, Rfr_at, frR, frV, frC, flatC, brwR, brwV, brwC, omap, leR, leV, leC, leL, leVL, rnR, rnV, rnC, rnO, rho_0, hputs, herases, hlen, hl0, PB]
    repeat' (first
      | simp [AK_at, acode_seq, acode_region, acode_draw, acode_cond, ↓CB_t, ↓CB_f, CB_u, acode_block, acode_loop, acode_exit, acode_scope, acode_ret, acode_skip, seqQ_n, seqQ_e, seqQ_r, blockQ_n, blockQ_e, blockQ_r, TK_at, OK_at, SK_at, aops_nil, aops_cons, asch_done, asch_one, asch_two, asch_top, astep, aop_eq, isLoud, aloud, aloud1, isWrite, qv, evS, strip, gof, eget, hget, putO, eput, herase, oks, opnds, gS, afin, afin0, binD, arith, D.cells, takeD, fillD, keep, trim, envOf, Fin, aresl, aresv, resD, argOk, pickV, isP, deq, deqs, boundD, slD, lenD, isT, chunks, mn_min, mx_max, D.cells, splice_one, splice_more, Rbr_at, Rfr_at, frR, frV, frC, flatC, brwR, brwV, brwC, omap, leR, leV, leC, leL, leVL, hlen, hl0, PB, i8, hu, in1, in2, in3, in4, in5, in6, in7]
      | (refine WCall.pf (hev) ?_ ?_ ?_ ?_; (focus (simp [oks, opnds, gS, gof, eget]; done)); (focus (simp [omap, brwV, brwC, evS, eget, strip, hget, leVL, leV, leC, leL, hlen, hl0, PB, i8, hu, in1, in2, in3, in4, in5, in6, in7]; done)); (focus (simp [noV, noC, flatR, flatV, flatC, evS, eget, strip, hlen, hl0, PB, i8, hu, in1, in2, in3, in4, in5, in6, in7]; done)))
      | (refine ⟨WCall.pf (hev) ?_ ?_ ?_ ?_, ?_⟩; (focus (simp [oks, opnds, gS, gof, eget]; done)); (focus (simp [omap, brwV, brwC, evS, eget, strip, hget, leVL, leV, leC, leL, hlen, hl0, PB, i8, hu, in1, in2, in3, in4, in5, in6, in7]; done)); (focus (simp [noV, noC, flatR, flatV, flatC, evS, eget, strip, hlen, hl0, PB, i8, hu, in1, in2, in3, in4, in5, in6, in7]; done)))
      | (refine WCall.pf (po) ?_ ?_ ?_ ?_; (focus (simp [oks, opnds, gS, gof, eget]; done)); (focus (simp [omap, brwV, brwC, evS, eget, strip, hget, leVL, leV, leC, leL, hlen, hl0, PB, i8, hu, in1, in2, in3, in4, in5, in6, in7]; done)); (focus (simp [noV, noC, flatR, flatV, flatC, evS, eget, strip, hlen, hl0, PB, i8, hu, in1, in2, in3, in4, in5, in6, in7]; done)))
      | (refine ⟨WCall.pf (po) ?_ ?_ ?_ ?_, ?_⟩; (focus (simp [oks, opnds, gS, gof, eget]; done)); (focus (simp [omap, brwV, brwC, evS, eget, strip, hget, leVL, leV, leC, leL, hlen, hl0, PB, i8, hu, in1, in2, in3, in4, in5, in6, in7]; done)); (focus (simp [noV, noC, flatR, flatV, flatC, evS, eget, strip, hlen, hl0, PB, i8, hu, in1, in2, in3, in4, in5, in6, in7]; done)))
      | (refine WCall.pf (hdec) ?_ ?_ ?_ ?_; (focus (simp [oks, opnds, gS, gof, eget]; done)); (focus (simp [omap, brwV, brwC, evS, eget, strip, hget, leVL, leV, leC, leL, hlen, hl0, PB, i8, hu, in1, in2, in3, in4, in5, in6, in7]; done)); (focus (simp [noV, noC, flatR, flatV, flatC, evS, eget, strip, hlen, hl0, PB, i8, hu, in1, in2, in3, in4, in5, in6, in7]; done)))
      | (refine ⟨WCall.pf (hdec) ?_ ?_ ?_ ?_, ?_⟩; (focus (simp [oks, opnds, gS, gof, eget]; done)); (focus (simp [omap, brwV, brwC, evS, eget, strip, hget, leVL, leV, leC, leL, hlen, hl0, PB, i8, hu, in1, in2, in3, in4, in5, in6, in7]; done)); (focus (simp [noV, noC, flatR, flatV, flatC, evS, eget, strip, hlen, hl0, PB, i8, hu, in1, in2, in3, in4, in5, in6, in7]; done)))
      | (with_reducible refine And.intro (And.intro ?_ ?_) ?_)
      | fail)
    done
end Go.Proofs.Ytgjngknkokgpjaa
