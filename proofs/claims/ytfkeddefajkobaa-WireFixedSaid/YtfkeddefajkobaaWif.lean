/- This text proves what wire's Encode computes of an event that may be. It has no condition of its own. -/
import Derived.Test.YtfkeddefajkobaaWie
set_option linter.unusedSimpArgs false
set_option linter.unusedVariables false
set_option maxRecDepth 100000
set_option maxHeartbeats 2000000
namespace Go.Proofs.Ytfkeddefajkobaa
open Go.RowKit
theorem encF_len : ∀ (k : Nat) (n : Int), 1 ≤ (encF k n).length ∧ (encF k n).length ≤ k + 1
  | 0, n => by simp [encF]
  | k + 1, n => by
    have := encF_len k (n / 128)
    simp only [encF]
    split
    · simp
    · simp; omega
def EK.out (kd : EK) (x y z : Int) (i : Nat) : List Int := kd.n :: (if 0 < i then encF 4 x else []) ++ (if 1 < i then encF 4 y else []) ++ (if 2 < i then encF 4 z else [])
theorem EK.out1 (kd : EK) (x y z : Int) : kd.out x y z 1 = kd.out x y z 0 ++ encF 4 x := by simp [EK.out]
theorem EK.out2 (kd : EK) (x y z : Int) : kd.out x y z 2 = kd.out x y z 1 ++ encF 4 y := by simp [EK.out]
theorem EK.out3 (kd : EK) (x y z : Int) : kd.out x y z 3 = kd.out x y z 2 ++ encF 4 z := by simp [EK.out]
theorem EK.out_len (kd : EK) (x y z : Int) (i : Nat) : (kd.out x y z i).length ≤ 16 := by
  have h1 := encF_len 4 x
  have h2 := encF_len 4 y
  have h3 := encF_len 4 z
  unfold EK.out
  split <;> split <;> split <;> simp <;> omega
def EK.g (kd : EK) (z : Int) : Int :=
  match kd with
  | .an => if z = 1 then 1 else 0
  | _ => 0
/-- the number of the bytes' row behind the fields' -/
def EK.fo2 : EK → Nat
  | .op => 5 | .da => 4 | .cl => 4 | .an => 6 | .jo => 6 | .re => 4 | .ti => 4
theorem wenc_code : cfun Try.prog [] 31 = some ⟨(.seq (.region 0 [⟨(some 1), (.box (.t 0)), none⟩, ⟨(some 2), (.mov (.k .nil0)), none⟩, ⟨(some 3), (.mov (.k (.int .i64 0))), none⟩]) (.seq (.seq (.region 1 [⟨(some 11), (.load true 8 (.t 1)), none⟩, ⟨(some 12), (.call 65 [(.t 11)]), none⟩, ⟨(some 4), (.mov (.t 12)), none⟩]) (.seq (.region 2 [⟨(some 13), (.mov (.t 4)), none⟩, ⟨(some 14), (.bin .neq (.t 13) (.k (.int .i64 0))), none⟩]) (.cond 14 (.seq (.region 3 [⟨(some 15), (.mov (.t 4)), none⟩, ⟨(some 2), (.mov (.k .nil0)), none⟩, ⟨(some 3), (.mov (.t 15)), none⟩]) .ret) .skip))) (.seq (.region 4 [⟨(some 5), (.alloc [(.int .i64 0)]), none⟩, ⟨none, (.store 1 (.t 5) (.k (.int .i64 0))), none⟩]) (.seq (.seq (.region 5 [⟨(some 16), (.fad 4 (.t 1)), none⟩, ⟨(some 17), (.load false 1 (.t 16)), none⟩]) (.cond 17 (.region 6 [⟨none, (.store 1 (.t 5) (.k (.int .i64 1))), none⟩]) .skip)) (.seq (.region 7 [⟨(some 19), (.call 63 [(.t 1), (.t 5)]), none⟩, ⟨(some 18), (.mov (.t 19)), none⟩, ⟨(some 20), (.ext (.t 18) 0), none⟩, ⟨(some 21), (.ext (.t 18) 1), none⟩, ⟨(some 6), (.mov (.t 20)), none⟩, ⟨(some 7), (.mov (.t 21)), none⟩]) (.seq (.region 8 [⟨(some 22), (.fad 0 (.t 1)), none⟩, ⟨(some 23), (.load false 1 (.t 22)), none⟩, ⟨(some 24), (.conv .u8 (.t 23)), none⟩, ⟨(some 25), (.bslice 1 1 [(.int .u8 0)] [(0, (.t 24))]), none⟩, ⟨(some 8), (.mov (.t 25)), none⟩]) (.seq (.seq (.region 9 [⟨(some 26), (.mov (.t 6)), none⟩, ⟨(some 27), (.len (.t 26)), none⟩, ⟨(some 28), (.mov (.k (.int .i64 0))), none⟩]) (.block 0 (.loop (.seq (.region 10 [⟨(some 29), (.bin .lss (.t 28) (.t 27)), none⟩]) (.seq (.cond 29 .skip (.exit 0)) (.seq (.block 1 (.seq (.region 11 [⟨(some 30), (.iads 3 (.t 26) (.t 28)), none⟩, ⟨(some 31), (.load true 3 (.t 30)), none⟩, ⟨(some 10), (.alloc [.nilp, (.int .i64 0), (.int .i64 0)]), none⟩, ⟨none, (.store 3 (.t 10) (.t 31)), none⟩]) (.region 12 [⟨(some 32), (.mov (.t 8)), none⟩, ⟨(some 33), (.fad 0 (.t 10)), none⟩, ⟨(some 34), (.load false 1 (.t 33)), none⟩, ⟨(some 35), (.nchk (.t 34)), none⟩, ⟨(some 36), (.load false 1 (.t 35)), none⟩, ⟨(some 37), (.call 66 [(.t 32), (.t 36)]), none⟩, ⟨(some 8), (.mov (.t 37)), none⟩]))) (.region 13 [⟨(some 38), (.bin .add (.t 28) (.k (.int .i64 1))), none⟩, ⟨(some 28), (.mov (.t 38)), none⟩]))))))) (.seq (.region 14 [⟨(some 39), (.mov (.t 8)), none⟩, ⟨(some 2), (.mov (.t 39)), none⟩, ⟨(some 3), (.mov (.k (.int .i64 0))), none⟩]) .ret)))))))), [(.t 2), (.t 3)], 40⟩ := by kernel_rfl
theorem wenc_pf (kd : EK) (x y z : Int) (h : kd.Ok x y z) : PF Try.prog 31 [.agg (kd.cells x y z)] (.tup [.rows 1 ((kd.out x y z kd.len).map PB), I 0]) := by
  have hc := wcheck_pf kd x y z h
  have u1 : IntKind.u8.wrap 1 = 1 := by decide
  have u2 : IntKind.u8.wrap 2 = 2 := by decide
  have u3 : IntKind.u8.wrap 3 = 3 := by decide
  have u4 : IntKind.u8.wrap 4 = 4 := by decide
  have u5 : IntKind.u8.wrap 5 = 5 := by decide
  have u6 : IntKind.u8.wrap 6 = 6 := by decide
  have u7 : IntKind.u8.wrap 7 = 7 := by decide
  have v1 : ∀ v : Int, 0 ≤ v → v ≤ 4294967295 → v < 34359738368 := fun v _ _ => by omega
  cases hkd : kd
  all_goals
    have hfl := wfields_ev kd x y z (kd.g z)
    have h2 := h
    have p1 := EK.out_len kd x y z 0
    have p2 := EK.out_len kd x y z 1
    have p3 := EK.out_len kd x y z 2
    have o1 := EK.out1 kd x y z
    have o2 := EK.out2 kd x y z
    have o3 := EK.out3 kd x y z
    rw [hkd] at hfl h2 hc o1 o2 o3
    simp only [EK.Ok] at h2
    obtain ⟨zz, hzz⟩ : ∃ zz, zz = z := ⟨_, rfl⟩
    first
      | (have hz01 : z = 0 ∨ z = 1 := (by omega); rcases hz01 with rfl | rfl)
      | skip
    all_goals
      simp [EK.cells, EK.g] at hfl hc
      refine PF.of follows_ok wenc_code (by simp) (by simp [argOk]) (by simp [noV, noC, EK.cells]) fun B hBN hB0 => acode_sound [0, 1, 2, 3, 4, 5, 6, 8, 10, 14, 17, 26, 27, 28, 29] [] _ _ _ ?_
      repeat' (first
        | simp [AK_at, acode_seq, acode_region, acode_draw, acode_cond, ↓CB_t, ↓CB_f, CB_u, acode_block, acode_loop, acode_exit, acode_scope, acode_ret, acode_skip, seqQ_n, seqQ_e, seqQ_r, blockQ_n, blockQ_e, blockQ_r, TK_at, OK_at, SK_at, aops_nil, aops_cons, asch_done, asch_one, asch_two, asch_top, astep, aop_eq, isLoud, aloud, aloud1, isWrite, qv, evS, strip, gof, eget, hget, putO, eput, herase, oks, opnds, gS, afin, afin0, binD, arith, D.cells, takeD, fillD, keep, trim, envOf, Fin, aresl, aresv, resD, argOk, pickV, isP, deq, deqs, boundD, slD, lenD, isT, chunks, mn_min, mx_max, D.cells, splice_one, splice_more, Rbr_at, Rfr_at, frR, frV, frC, flatC, brwR, brwV, brwC, omap, leR, leV, leC, leL, leVL, EK.cells, u1, u2, u3, u4, u5, u6, u7]
        | (refine WCall.pf (hc) ?_ ?_ ?_ ?_; (focus (simp [oks, opnds, gS, gof, eget]; done)); (focus (simp [omap, brwV, brwC, evS, eget, strip, hget, leVL, leV, leC, leL, EK.cells, u1, u2, u3, u4, u5, u6, u7]; done)); (focus (simp [noV, noC, flatR, flatV, flatC, evS, eget, strip, EK.cells, u1, u2, u3, u4, u5, u6, u7]; done)))
        | (refine ⟨WCall.pf (hc) ?_ ?_ ?_ ?_, ?_⟩; (focus (simp [oks, opnds, gS, gof, eget]; done)); (focus (simp [omap, brwV, brwC, evS, eget, strip, hget, leVL, leV, leC, leL, EK.cells, u1, u2, u3, u4, u5, u6, u7]; done)); (focus (simp [noV, noC, flatR, flatV, flatC, evS, eget, strip, EK.cells, u1, u2, u3, u4, u5, u6, u7]; done)))
        | (with_reducible refine And.intro (And.intro ?_ ?_) ?_)
        | fail)
      refine WCall.hf [0, 1] hfl (by simp [oks, opnds, gS, gof, eget]) rfl rfl (by decide) (by simp) (by simp [evS, eget, strip, rnV, rnC, rho]) (by simp [argOk]) (by simp [LtV, LtC]) (by simp [rho, rnO, rnC, hget, LtO, LtC, EK.cells]) ?_
      rintro d H' nx' ⟨rfl, rfl, rfl⟩
      simp [AK_at, acode_seq, acode_region, acode_draw, acode_cond, ↓CB_t, ↓CB_f, CB_u, acode_block, acode_loop, acode_exit, acode_scope, acode_ret, acode_skip, seqQ_n, seqQ_e, seqQ_r, blockQ_n, blockQ_e, blockQ_r, TK_at, OK_at, SK_at, aops_nil, aops_cons, asch_done, asch_one, asch_two, asch_top, astep, aop_eq, isLoud, aloud, aloud1, isWrite, qv, evS, strip, gof, eget, hget, putO, eput, herase, oks, opnds, gS, afin, afin0, binD, arith, D.cells, takeD, fillD, keep, trim, envOf, Fin, aresl, aresv, resD, argOk, pickV, isP, deq, deqs, boundD, slD, lenD, isT, chunks, mn_min, mx_max, D.cells, splice_one, splice_more, Rbr_at, Rfr_at, frR, frV, frC, flatC, brwR, brwV, brwC, omap, leR, leV, leC, leL, leVL, rnR, rnV, rnC, rnO, rho_0, hputs, herases, rho, EK.cells, EK.fd, EK.fh, EK.fn, EK.rows, flowR, askR, u1, u2, u3, u4, u5, u6, u7]
      clear hfl hc
      refine W.loopS (fun i : Nat => ⟨[(28, I i), (27, I kd.len), (26, kd.sl 2), (8, .own 3), (5, .ptr 1 0), (1, .ptr 0 0)], (3, .row 1 ((kd.out x y zz i).map PB)) :: kd.hp 2 1 [(1, .cells [I (kd.g zz)]), (0, .cells (kd.cells x y zz))], 4⟩)
        (fun n i => n = kd.len - i ∧ i ≤ kd.len) ?_ ?_
      · exact ⟨_, 0, (Gh.ren [0, 1, kd.fo, kd.fo2] (by simp [hB0]) (by simp [hB0] <;> decide) (by simp [eget, rnS, rnR, rnV, rnC, LtS, LtR, LtV, LtC, lget, EK.fo, EK.fo2, hkd, hzz, EK.cells, EK.len, EK.sl, EK.hp, EK.rw, EK.g, EK.out, EK.n, PB]) (by simp [hget, rnO, rnC, LtO, LtC, lget, EK.fo, EK.fo2, hkd, hzz, EK.cells, EK.len, EK.sl, EK.hp, EK.rw, EK.g, EK.out, EK.n, PB]) (.inl (by simp [lget, EK.fo, EK.fo2, hkd, hzz, EK.cells, EK.len, EK.sl, EK.hp, EK.rw, EK.g, EK.out, EK.n, PB]))), rfl, by omega⟩
      rintro n i ⟨hn, hi⟩
      refine acode_sound [0, 1, 2, 3, 4, 5, 6, 8, 10, 14, 17, 26, 27, 28, 29] [] _ _ _ ?_
      have hi2 := hi
      have i1 : InR 1 := inW (by omega) (by omega)
      have i2 : InR 2 := inW (by omega) (by omega)
      have i3 : InR 3 := inW (by omega) (by omega)
      rw [hkd] at hi2
      rcases len3 kd hi with rfl | rfl | rfl | rfl
      · skip
        simp [AK_at, acode_seq, acode_region, acode_draw, acode_cond, ↓CB_t, ↓CB_f, CB_u, acode_block, acode_loop, acode_exit, acode_scope, acode_ret, acode_skip, seqQ_n, seqQ_e, seqQ_r, blockQ_n, blockQ_e, blockQ_r, TK_at, OK_at, SK_at, aops_nil, aops_cons, asch_done, asch_one, asch_two, asch_top, astep, aop_eq, isLoud, aloud, aloud1, isWrite, qv, evS, strip, gof, eget, hget, putO, eput, herase, oks, opnds, gS, afin, afin0, binD, arith, D.cells, takeD, fillD, keep, trim, envOf, Fin, aresl, aresv, resD, argOk, pickV, isP, deq, deqs, boundD, slD, lenD, isT, chunks, mn_min, mx_max, D.cells, splice_one, splice_more, Rbr_at, Rfr_at, frR, frV, frC, flatC, brwR, brwV, brwC, omap, leR, leV, leC, leL, leVL, i1, i2, i3, hkd, hzz, EK.cells, EK.len, EK.sl, EK.hp, EK.rw, EK.g]
        try
          have hput := wput_hf (kd.out x y zz 0) x (by have := EK.out_len kd x y zz 0; omega) (by omega) (by omega)
          have ho := EK.out1 kd x y zz
          rw [hkd, hzz] at hput ho
          refine WCall.hf [3] hput (by simp [oks, opnds, gS, gof, eget]) rfl rfl (by decide) (by simp) (by simp [evS, eget, strip, rnV, rnC, rho]) (by simp [argOk]) (by simp [LtV, LtC]) (by simp [rho, rnO, rnC, hget, LtO, LtC]) ?_
          rintro d H' nx' ⟨w, rfl, rfl, rfl⟩
          rw [← ho]
          simp [AK_at, acode_seq, acode_region, acode_draw, acode_cond, ↓CB_t, ↓CB_f, CB_u, acode_block, acode_loop, acode_exit, acode_scope, acode_ret, acode_skip, seqQ_n, seqQ_e, seqQ_r, blockQ_n, blockQ_e, blockQ_r, TK_at, OK_at, SK_at, aops_nil, aops_cons, asch_done, asch_one, asch_two, asch_top, astep, aop_eq, isLoud, aloud, aloud1, isWrite, qv, evS, strip, gof, eget, hget, putO, eput, herase, oks, opnds, gS, afin, afin0, binD, arith, D.cells, takeD, fillD, keep, trim, envOf, Fin, aresl, aresv, resD, argOk, pickV, isP, deq, deqs, boundD, slD, lenD, isT, chunks, mn_min, mx_max, D.cells, splice_one, splice_more, Rbr_at, Rfr_at, frR, frV, frC, flatC, brwR, brwV, brwC, omap, leR, leV, leC, leL, leVL, rnR, rnV, rnC, rnO, rho_0, hputs, herases, rho, i1, i2, i3]
          exact ⟨_, 1, (Gh.ren [0, 1, 2, 7] (by simp [hB0]) (by simp [hB0] <;> decide) (by simp [eget, rnS, rnR, rnV, rnC, LtS, LtR, LtV, LtC, lget, hkd, hzz, EK.cells, EK.len, EK.sl, EK.hp, EK.rw, EK.g]) (by simp [hget, rnO, rnC, LtO, LtC, lget, hkd, hzz, EK.cells, EK.len, EK.sl, EK.hp, EK.rw, EK.g]) (.inl (by simp [lget, hkd, hzz, EK.cells, EK.len, EK.sl, EK.hp, EK.rw, EK.g]))), (by simp [hkd, EK.len] at hn; omega), rfl, (by simp [hkd, EK.len])⟩
      · try (exfalso; simp [EK.len] at hi2; done)
        all_goals
          simp [AK_at, acode_seq, acode_region, acode_draw, acode_cond, ↓CB_t, ↓CB_f, CB_u, acode_block, acode_loop, acode_exit, acode_scope, acode_ret, acode_skip, seqQ_n, seqQ_e, seqQ_r, blockQ_n, blockQ_e, blockQ_r, TK_at, OK_at, SK_at, aops_nil, aops_cons, asch_done, asch_one, asch_two, asch_top, astep, aop_eq, isLoud, aloud, aloud1, isWrite, qv, evS, strip, gof, eget, hget, putO, eput, herase, oks, opnds, gS, afin, afin0, binD, arith, D.cells, takeD, fillD, keep, trim, envOf, Fin, aresl, aresv, resD, argOk, pickV, isP, deq, deqs, boundD, slD, lenD, isT, chunks, mn_min, mx_max, D.cells, splice_one, splice_more, Rbr_at, Rfr_at, frR, frV, frC, flatC, brwR, brwV, brwC, omap, leR, leV, leC, leL, leVL, i1, i2, i3, hkd, hzz, EK.cells, EK.len, EK.sl, EK.hp, EK.rw, EK.g]
          try
            have hput := wput_hf (kd.out x y zz 1) y (by have := EK.out_len kd x y zz 1; omega) (by omega) (by omega)
            have ho := EK.out2 kd x y zz
            rw [hkd, hzz] at hput ho
            refine WCall.hf [3] hput (by simp [oks, opnds, gS, gof, eget]) rfl rfl (by decide) (by simp) (by simp [evS, eget, strip, rnV, rnC, rho]) (by simp [argOk]) (by simp [LtV, LtC]) (by simp [rho, rnO, rnC, hget, LtO, LtC]) ?_
            rintro d H' nx' ⟨w, rfl, rfl, rfl⟩
            rw [← ho]
            simp [AK_at, acode_seq, acode_region, acode_draw, acode_cond, ↓CB_t, ↓CB_f, CB_u, acode_block, acode_loop, acode_exit, acode_scope, acode_ret, acode_skip, seqQ_n, seqQ_e, seqQ_r, blockQ_n, blockQ_e, blockQ_r, TK_at, OK_at, SK_at, aops_nil, aops_cons, asch_done, asch_one, asch_two, asch_top, astep, aop_eq, isLoud, aloud, aloud1, isWrite, qv, evS, strip, gof, eget, hget, putO, eput, herase, oks, opnds, gS, afin, afin0, binD, arith, D.cells, takeD, fillD, keep, trim, envOf, Fin, aresl, aresv, resD, argOk, pickV, isP, deq, deqs, boundD, slD, lenD, isT, chunks, mn_min, mx_max, D.cells, splice_one, splice_more, Rbr_at, Rfr_at, frR, frV, frC, flatC, brwR, brwV, brwC, omap, leR, leV, leC, leL, leVL, rnR, rnV, rnC, rnO, rho_0, hputs, herases, rho, i1, i2, i3]
            exact ⟨_, 2, (Gh.ren [0, 1, 2, 7] (by simp [hB0]) (by simp [hB0] <;> decide) (by simp [eget, rnS, rnR, rnV, rnC, LtS, LtR, LtV, LtC, lget, hkd, hzz, EK.cells, EK.len, EK.sl, EK.hp, EK.rw, EK.g]) (by simp [hget, rnO, rnC, LtO, LtC, lget, hkd, hzz, EK.cells, EK.len, EK.sl, EK.hp, EK.rw, EK.g]) (.inl (by simp [lget, hkd, hzz, EK.cells, EK.len, EK.sl, EK.hp, EK.rw, EK.g]))), (by simp [hkd, EK.len] at hn; omega), rfl, (by simp [hkd, EK.len])⟩
      · try (exfalso; simp [EK.len] at hi2; done)
        all_goals
          simp [AK_at, acode_seq, acode_region, acode_draw, acode_cond, ↓CB_t, ↓CB_f, CB_u, acode_block, acode_loop, acode_exit, acode_scope, acode_ret, acode_skip, seqQ_n, seqQ_e, seqQ_r, blockQ_n, blockQ_e, blockQ_r, TK_at, OK_at, SK_at, aops_nil, aops_cons, asch_done, asch_one, asch_two, asch_top, astep, aop_eq, isLoud, aloud, aloud1, isWrite, qv, evS, strip, gof, eget, hget, putO, eput, herase, oks, opnds, gS, afin, afin0, binD, arith, D.cells, takeD, fillD, keep, trim, envOf, Fin, aresl, aresv, resD, argOk, pickV, isP, deq, deqs, boundD, slD, lenD, isT, chunks, mn_min, mx_max, D.cells, splice_one, splice_more, Rbr_at, Rfr_at, frR, frV, frC, flatC, brwR, brwV, brwC, omap, leR, leV, leC, leL, leVL, i1, i2, i3, hkd, hzz, EK.cells, EK.len, EK.sl, EK.hp, EK.rw, EK.g]
          try
            have hput := wput_hf (kd.out x y zz 2) zz (by have := EK.out_len kd x y zz 2; omega) (by omega) (by omega)
            have ho := EK.out3 kd x y zz
            rw [hkd, hzz] at hput ho
            refine WCall.hf [3] hput (by simp [oks, opnds, gS, gof, eget]) rfl rfl (by decide) (by simp) (by simp [evS, eget, strip, rnV, rnC, rho]) (by simp [argOk]) (by simp [LtV, LtC]) (by simp [rho, rnO, rnC, hget, LtO, LtC]) ?_
            rintro d H' nx' ⟨w, rfl, rfl, rfl⟩
            rw [← ho]
            simp [AK_at, acode_seq, acode_region, acode_draw, acode_cond, ↓CB_t, ↓CB_f, CB_u, acode_block, acode_loop, acode_exit, acode_scope, acode_ret, acode_skip, seqQ_n, seqQ_e, seqQ_r, blockQ_n, blockQ_e, blockQ_r, TK_at, OK_at, SK_at, aops_nil, aops_cons, asch_done, asch_one, asch_two, asch_top, astep, aop_eq, isLoud, aloud, aloud1, isWrite, qv, evS, strip, gof, eget, hget, putO, eput, herase, oks, opnds, gS, afin, afin0, binD, arith, D.cells, takeD, fillD, keep, trim, envOf, Fin, aresl, aresv, resD, argOk, pickV, isP, deq, deqs, boundD, slD, lenD, isT, chunks, mn_min, mx_max, D.cells, splice_one, splice_more, Rbr_at, Rfr_at, frR, frV, frC, flatC, brwR, brwV, brwC, omap, leR, leV, leC, leL, leVL, rnR, rnV, rnC, rnO, rho_0, hputs, herases, rho, i1, i2, i3]
            exact ⟨_, 3, (Gh.ren [0, 1, 2, 7] (by simp [hB0]) (by simp [hB0] <;> decide) (by simp [eget, rnS, rnR, rnV, rnC, LtS, LtR, LtV, LtC, lget, hkd, hzz, EK.cells, EK.len, EK.sl, EK.hp, EK.rw, EK.g]) (by simp [hget, rnO, rnC, LtO, LtC, lget, hkd, hzz, EK.cells, EK.len, EK.sl, EK.hp, EK.rw, EK.g]) (.inl (by simp [lget, hkd, hzz, EK.cells, EK.len, EK.sl, EK.hp, EK.rw, EK.g]))), (by simp [hkd, EK.len] at hn; omega), rfl, (by simp [hkd, EK.len])⟩
      · try (exfalso; simp [EK.len] at hi2; done)
        all_goals
          simp [AK_at, acode_seq, acode_region, acode_draw, acode_cond, ↓CB_t, ↓CB_f, CB_u, acode_block, acode_loop, acode_exit, acode_scope, acode_ret, acode_skip, seqQ_n, seqQ_e, seqQ_r, blockQ_n, blockQ_e, blockQ_r, TK_at, OK_at, SK_at, aops_nil, aops_cons, asch_done, asch_one, asch_two, asch_top, astep, aop_eq, isLoud, aloud, aloud1, isWrite, qv, evS, strip, gof, eget, hget, putO, eput, herase, oks, opnds, gS, afin, afin0, binD, arith, D.cells, takeD, fillD, keep, trim, envOf, Fin, aresl, aresv, resD, argOk, pickV, isP, deq, deqs, boundD, slD, lenD, isT, chunks, mn_min, mx_max, D.cells, splice_one, splice_more, Rbr_at, Rfr_at, frR, frV, frC, flatC, brwR, brwV, brwC, omap, leR, leV, leC, leL, leVL, i1, i2, i3, hkd, hzz, EK.cells, EK.len, EK.sl, EK.hp, EK.rw, EK.g]
end Go.Proofs.Ytfkeddefajkobaa
