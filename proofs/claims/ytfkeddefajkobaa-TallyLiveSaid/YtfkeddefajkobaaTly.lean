/- This text proves what the functions of package tally compute, of outputs that can be counted. It has no condition of its own. -/
import Derived.Test.YtfkeddefajkobaaTlp
import Derived.Test.YtfkeddefajkobaaAcn
set_option linter.unusedSimpArgs false
set_option linter.unusedVariables false
set_option maxRecDepth 100000
set_option maxHeartbeats 2000000
namespace Go.Proofs.Ytfkeddefajkobaa
open Go.RowKit
theorem inT {z : Int} (h1 : -9223372036854775808 ≤ z) (h2 : z ≤ 9223372036854775807) : InR z := ⟨h1, h2⟩
theorem rnC_I (ρ : Nat → Nat) : rnC ρ ∘ I = I := rfl
theorem tfits_code : cfun Try.prog [] 90 = some ⟨(.seq (.region 0 [⟨(some 1), (.box (.t 0)), none⟩, ⟨(some 2), (.mov (.k (.bool false))), none⟩]) (.seq (.region 1 [⟨(some 3), (.fad 0 (.t 1)), none⟩, ⟨(some 4), (.load false 1 (.t 3)), none⟩, ⟨(some 5), (.bin .geq (.t 4) (.k (.int .i64 1))), none⟩, ⟨(some 6), (.mov (.t 5)), none⟩, ⟨(some 7), (.fad 0 (.t 1)), (some (6, true))⟩, ⟨(some 8), (.load false 1 (.t 7)), (some (6, true))⟩, ⟨(some 9), (.bin .leq (.t 8) (.k (.int .i64 10))), (some (6, true))⟩, ⟨(some 10), (.pick (.t 6) (.t 9) (.k (.bool false))), none⟩, ⟨(some 11), (.mov (.t 10)), none⟩, ⟨(some 12), (.fad 6 (.t 1)), (some (11, true))⟩, ⟨(some 13), (.load false 1 (.t 12)), (some (11, true))⟩, ⟨(some 14), (.bin .geq (.t 13) (.k (.int .i64 0))), (some (11, true))⟩, ⟨(some 15), (.pick (.t 11) (.t 14) (.k (.bool false))), none⟩, ⟨(some 16), (.mov (.t 15)), none⟩, ⟨(some 17), (.fad 6 (.t 1)), (some (16, true))⟩, ⟨(some 18), (.load false 1 (.t 17)), (some (16, true))⟩, ⟨(some 19), (.bin .leq (.t 18) (.k (.int .i64 5))), (some (16, true))⟩, ⟨(some 20), (.pick (.t 16) (.t 19) (.k (.bool false))), none⟩, ⟨(some 2), (.mov (.t 20)), none⟩]) .ret)), [(.t 2)], 21⟩ := by kernel_rfl
theorem tfits_pf (o : Outp) (h : OutFits o) : PF Try.prog 90 [.agg o.D] (.bool true) := by
  obtain ⟨h1, h2, h3, h4⟩ := h
  refine PF.of follows_ok tfits_code (by simp) (by simp [argOk]) (by simp [noV, noC, Outp.D]) fun B hBN hB0 => acode_sound [0, 1, 2] [] _ _ _ ?_
  simp [AK_at, acode_seq, acode_region, acode_draw, acode_cond, ↓CB_t, ↓CB_f, CB_u, acode_block, acode_loop, acode_exit, acode_scope, acode_ret, acode_skip, seqQ_n, seqQ_e, seqQ_r, blockQ_n, blockQ_e, blockQ_r, TK_at, OK_at, SK_at, aops_nil, aops_cons, asch_done, asch_one, asch_two, asch_top, astep, aop_eq, isLoud, aloud, aloud1, isWrite, qv, evS, strip, gof, eget, hget, putO, eput, herase, oks, opnds, gS, afin, afin0, binD, arith, D.cells, takeD, fillD, keep, trim, envOf, Fin, aresl, aresv, resD, argOk, pickV, isP, deq, deqs, boundD, slD, lenD, isT, chunks, mn_min, mx_max, D.cells, splice_one, splice_more, Rbr_at, Rfr_at, frR, frV, frC, flatC, brwR, brwV, brwC, omap, leR, leV, leC, leL, leVL, Outp.D, h1, h2, h3, h4]
theorem tallyL_succ (l : List Outp) (i : Nat) (h : i < l.length) : tallyL (l.take (i + 1)) = tallyStep (tallyL (l.take i)) l[i] := by
  unfold tallyL
  rw [List.take_succ_eq_append_getElem h, List.foldl_append]; rfl
theorem set_map (l : List Int) (j : Nat) (v : Int) (h : j < l.length) : splice (l.map I) j [I v] = (l.set j v).map I := splice_map I l j v h
theorem tof_code : cfun Try.prog [] 54 = some ⟨(.seq (.region 0 [⟨(some 2), (.alloc [(.int .i64 0), (.int .i64 0), (.int .i64 0), (.int .i64 0), (.int .i64 0), (.int .i64 0), (.int .i64 0), (.int .i64 0), (.int .i64 0), (.int .i64 0), (.int .i64 0), (.int .i64 0), (.int .i64 0), (.int .i64 0), (.int .i64 0), (.int .i64 0), (.int .i64 0)]), none⟩, ⟨(some 3), (.mov (.k (.int .i64 0))), none⟩]) (.seq (.region 1 [⟨(some 4), (.alloc [(.int .i64 0), (.int .i64 0), (.int .i64 0), (.int .i64 0), (.int .i64 0), (.int .i64 0), (.int .i64 0), (.int .i64 0), (.int .i64 0), (.int .i64 0), (.int .i64 0), (.int .i64 0), (.int .i64 0), (.int .i64 0), (.int .i64 0), (.int .i64 0), (.int .i64 0)]), none⟩]) (.seq (.seq (.region 2 [⟨(some 7), (.mov (.t 0)), none⟩, ⟨(some 8), (.len (.t 7)), none⟩, ⟨(some 9), (.mov (.k (.int .i64 0))), none⟩]) (.block 0 (.loop (.seq (.region 3 [⟨(some 10), (.bin .lss (.t 9) (.t 8)), none⟩]) (.seq (.cond 10 .skip (.exit 0)) (.seq (.block 1 (.seq (.region 4 [⟨(some 11), (.iads 7 (.t 7) (.t 9)), none⟩, ⟨(some 12), (.load true 7 (.t 11)), none⟩, ⟨(some 6), (.alloc [(.int .i64 0), (.int .i64 0), (.int .i64 0), (.int .i64 0), (.int .i64 0), (.int .i64 0), (.int .i64 0)]), none⟩, ⟨none, (.store 7 (.t 6) (.t 12)), none⟩]) (.seq (.seq (.region 5 [⟨(some 13), (.load true 7 (.t 6)), none⟩, ⟨(some 14), (.call 90 [(.t 13)]), none⟩, ⟨(some 15), (.not (.t 14)), none⟩]) (.cond 15 (.seq (.region 6 [⟨(some 16), (.build [(.int .i64 0), (.int .i64 0), (.int .i64 0), (.int .i64 0), (.int .i64 0), (.int .i64 0), (.int .i64 0), (.int .i64 0), (.int .i64 0), (.int .i64 0), (.int .i64 0), (.int .i64 0), (.int .i64 0), (.int .i64 0), (.int .i64 0), (.int .i64 0), (.int .i64 0)] []), none⟩, ⟨none, (.store 17 (.t 2) (.t 16)), none⟩, ⟨(some 3), (.mov (.k (.int .i64 5))), none⟩]) .ret) .skip)) (.seq (.region 7 [⟨(some 17), (.fad 0 (.t 6)), none⟩, ⟨(some 18), (.load false 1 (.t 17)), none⟩, ⟨(some 19), (.fad 0 (.t 4)), none⟩, ⟨(some 20), (.iada 11 1 (.t 19) (.t 18)), none⟩, ⟨(some 21), (.load false 1 (.t 20)), none⟩, ⟨(some 22), (.bin .add (.t 21) (.k (.int .i64 1))), none⟩, ⟨(some 23), (.fad 0 (.t 4)), none⟩, ⟨(some 24), (.iada 11 1 (.t 23) (.t 18)), none⟩, ⟨none, (.store 1 (.t 24) (.t 22)), none⟩]) (.seq (.region 8 [⟨(some 25), (.fad 0 (.t 6)), none⟩, ⟨(some 26), (.load false 1 (.t 25)), none⟩, ⟨(some 27), (.bin .eql (.t 26) (.k (.int .i64 6))), none⟩]) (.cond 27 (.region 9 [⟨(some 28), (.fad 6 (.t 6)), none⟩, ⟨(some 29), (.load false 1 (.t 28)), none⟩, ⟨(some 30), (.fad 11 (.t 4)), none⟩, ⟨(some 31), (.iada 6 1 (.t 30) (.t 29)), none⟩, ⟨(some 32), (.load false 1 (.t 31)), none⟩, ⟨(some 33), (.bin .add (.t 32) (.k (.int .i64 1))), none⟩, ⟨(some 34), (.fad 11 (.t 4)), none⟩, ⟨(some 35), (.iada 6 1 (.t 34) (.t 29)), none⟩, ⟨none, (.store 1 (.t 35) (.t 33)), none⟩]) .skip)))))) (.region 10 [⟨(some 36), (.bin .add (.t 9) (.k (.int .i64 1))), none⟩, ⟨(some 9), (.mov (.t 36)), none⟩]))))))) (.seq (.region 11 [⟨(some 37), (.load true 17 (.t 4)), none⟩, ⟨none, (.store 17 (.t 2) (.t 37)), none⟩, ⟨(some 3), (.mov (.k (.int .i64 0))), none⟩]) .ret)))), [(.c 2 true 17), (.t 3)], 38⟩ := by kernel_rfl
theorem tof_pf (l : List Outp) (hl : l.length ≤ 1000000) (hok : ∀ x ∈ l, OutFits x) : PF Try.prog 54 [.rows 7 (l.map Outp.D)] (.tup [.agg ((tallyL l).map I), I 0]) := by
  refine PF.of follows_ok tof_code (by simp) (by simp [argOk]) (by simp [noV, noC]) fun B hBN hB0 => acode_sound [0, 2, 3, 4, 6, 7, 8, 9, 10, 15, 27] [] _ _ _ ?_
  simp [AK_at, acode_seq, acode_region, acode_draw, acode_cond, ↓CB_t, ↓CB_f, CB_u, acode_block, acode_loop, acode_exit, acode_scope, acode_ret, acode_skip, seqQ_n, seqQ_e, seqQ_r, blockQ_n, blockQ_e, blockQ_r, TK_at, OK_at, SK_at, aops_nil, aops_cons, asch_done, asch_one, asch_two, asch_top, astep, aop_eq, isLoud, aloud, aloud1, isWrite, qv, evS, strip, gof, eget, hget, putO, eput, herase, oks, opnds, gS, afin, afin0, binD, arith, D.cells, takeD, fillD, keep, trim, envOf, Fin, aresl, aresv, resD, argOk, pickV, isP, deq, deqs, boundD, slD, lenD, isT, chunks, mn_min, mx_max, D.cells, splice_one, splice_more, Rbr_at, Rfr_at, frR, frV, frC, flatC, brwR, brwV, brwC, omap, leR, leV, leC, leL, leVL]
  refine W.loopS (fun y : Nat × List Int => ⟨[(9, I y.1), (8, I l.length), (7, D.rows 7 (l.map Outp.D)), (4, D.ptr 1 0), (3, I 0), (2, D.ptr 0 0), (0, D.rows 7 (l.map Outp.D))], [(1, .cells (y.2.map I)), (0, .cells ((List.replicate 17 (0 : Int)).map I))], 2⟩)
    (fun n y => n = l.length - y.1 ∧ y.1 ≤ l.length ∧ y.2 = tallyL (l.take y.1)) ?_ ?_
  · exact ⟨_, (0, List.replicate 17 0), Gh.of_eq (by simp [List.replicate]), rfl, by simp, by simp [tallyL]⟩
  · rintro n ⟨i, cs⟩ ⟨hn, hi, hcs⟩
    simp only at hn hi hcs
    refine acode_sound [0, 2, 3, 4, 6, 7, 8, 9, 10, 15, 27] [] _ _ _ ?_
    by_cases hlt : i < l.length
    · obtain ⟨o, ho⟩ : ∃ o, o = l[i] := ⟨_, rfl⟩
      have hfo : OutFits o := ho ▸ hok _ (List.getElem_mem hlt)
      have hts := tallyL_succ l i hlt
      rw [← ho, ← hcs] at hts
      obtain ⟨h1, h2, h3, h4⟩ := id hfo
      have hlen : cs.length = 17 := by rw [hcs, tallyL_len]
      have hbd : ∀ j, 0 ≤ cs.getD j 0 ∧ cs.getD j 0 ≤ 2 * i := fun j => by
        rw [hcs, tallyL_get _ (fun x hx => hok x (List.mem_of_mem_take hx))]
        have := cnt_bd (l.take i) j
        simp at this; omega
      have k0 : 0 ≤ o.kind := by omega
      have k1 : o.kind < 11 := by omega
      have k2 : o.kind.toNat < cs.length := by omega
      have k2' : o.kind.toNat < 17 := by omega
      have k3 : 11 + o.why.toNat < cs.length := by omega
      have k4 : 0 ≤ o.why ∧ o.why < 6 := by omega
      have hb1 := hbd o.kind.toNat
      have e1 : cs[o.kind.toNat] = cs.getD o.kind.toNat 0 := by simp [List.getD, k2]
      have i1 : InR (cs[o.kind.toNat] + 1) := by rw [e1]; exact inT (by omega) (by omega)
      have ii : InR ((i : Int) + 1) := inT (by omega) (by omega)
      simp [AK_at, acode_seq, acode_region, acode_draw, acode_cond, ↓CB_t, ↓CB_f, CB_u, acode_block, acode_loop, acode_exit, acode_scope, acode_ret, acode_skip, seqQ_n, seqQ_e, seqQ_r, blockQ_n, blockQ_e, blockQ_r, TK_at, OK_at, SK_at, aops_nil, aops_cons, asch_done, asch_one, asch_two, asch_top, astep, aop_eq, isLoud, aloud, aloud1, isWrite, qv, evS, strip, gof, eget, hget, putO, eput, herase, oks, opnds, gS, afin, afin0, binD, arith, D.cells, takeD, fillD, keep, trim, envOf, Fin, aresl, aresv, resD, argOk, pickV, isP, deq, deqs, boundD, slD, lenD, isT, chunks, mn_min, mx_max, D.cells, splice_one, splice_more, Rbr_at, Rfr_at, frR, frV, frC, flatC, brwR, brwV, brwC, omap, leR, leV, leC, leL, leVL, hlt, ← ho, Outp.D]
      by_cases h6 : o.kind = 6
      · have k6 : 6 < cs.length := by omega
        have hb6 := hbd 6
        have e6 : cs[6] = cs.getD 6 0 := by simp [List.getD, k6]
        have i6 : InR (cs[6] + 1) := by rw [e6]; exact inT (by omega) (by omega)
        have hbw := hbd (11 + o.why.toNat)
        have ew : cs[11 + o.why.toNat] = cs.getD (11 + o.why.toNat) 0 := by simp [List.getD, k3]
        have iw : InR (cs[11 + o.why.toNat] + 1) := by rw [ew]; exact inT (by omega) (by omega)
        have nw : ¬ (6 = 11 + o.why.toNat) := by omega
        have hst : tallyStep cs o = (cs.set 6 (cs[6] + 1)).set (11 + o.why.toNat) (cs[11 + o.why.toNat] + 1) := by
          unfold tallyStep bump
          rw [if_pos h6, h6]
          simp [List.getD, k6, k3, nw]
        have hset : ((cs.map I).set 6 (D.int .i64 (cs[6] + 1))).set (11 + o.why.toNat) (D.int .i64 (cs[11 + o.why.toNat] + 1)) = (tallyStep cs o).map I := by rw [hst, List.map_set, List.map_set]
        repeat' (first
          | simp [AK_at, acode_seq, acode_region, acode_draw, acode_cond, ↓CB_t, ↓CB_f, CB_u, acode_block, acode_loop, acode_exit, acode_scope, acode_ret, acode_skip, seqQ_n, seqQ_e, seqQ_r, blockQ_n, blockQ_e, blockQ_r, TK_at, OK_at, SK_at, aops_nil, aops_cons, asch_done, asch_one, asch_two, asch_top, astep, aop_eq, isLoud, aloud, aloud1, isWrite, qv, evS, strip, gof, eget, hget, putO, eput, herase, oks, opnds, gS, afin, afin0, binD, arith, D.cells, takeD, fillD, keep, trim, envOf, Fin, aresl, aresv, resD, argOk, pickV, isP, deq, deqs, boundD, slD, lenD, isT, chunks, mn_min, mx_max, D.cells, splice_one, splice_more, Rbr_at, Rfr_at, frR, frV, frC, flatC, brwR, brwV, brwC, omap, leR, leV, leC, leL, leVL, Outp.D, k6, i6, h6, ii, k3, k4, iw, nw]
          | (refine WCall.pf (tfits_pf o hfo) ?_ ?_ ?_ ?_; (focus (simp [oks, opnds, gS, gof, eget]; done)); (focus (simp [omap, brwV, brwC, evS, eget, strip, hget, leVL, leV, leC, leL, Outp.D, k6, i6, h6, ii, k3, k4, iw, nw]; done)); (focus (simp [noV, noC, flatR, flatV, flatC, evS, eget, strip, Outp.D, k6, i6, h6, ii, k3, k4, iw, nw]; done)))
          | (refine ⟨WCall.pf (tfits_pf o hfo) ?_ ?_ ?_ ?_, ?_⟩; (focus (simp [oks, opnds, gS, gof, eget]; done)); (focus (simp [omap, brwV, brwC, evS, eget, strip, hget, leVL, leV, leC, leL, Outp.D, k6, i6, h6, ii, k3, k4, iw, nw]; done)); (focus (simp [noV, noC, flatR, flatV, flatC, evS, eget, strip, Outp.D, k6, i6, h6, ii, k3, k4, iw, nw]; done)))
          | (with_reducible refine And.intro (And.intro ?_ ?_) ?_)
          | fail)
        rw [hset]
        exact ⟨by omega, by omega, by omega, by omega, _, (i + 1, tallyStep cs o), (Gh.ren [] (by simp [hB0]) (by simp [hB0] <;> decide) (by simp [eget, rnS, rnR, rnV, rnC, LtS, LtR, LtV, LtC, lget, Outp.D, rnC_I, h6]) (by simp [hget, rnO, rnC, LtO, LtC, lget, Outp.D, rnC_I, h6]) (.inr rfl)), by omega, rfl, by omega, hts.symm⟩
      · have hst : tallyStep cs o = cs.set o.kind.toNat (cs[o.kind.toNat] + 1) := by
          unfold tallyStep bump
          rw [if_neg h6, e1]
        have hset : (cs.map I).set o.kind.toNat (D.int .i64 (cs[o.kind.toNat] + 1)) = (tallyStep cs o).map I := by rw [hst, List.map_set]
        repeat' (first
          | simp [AK_at, acode_seq, acode_region, acode_draw, acode_cond, ↓CB_t, ↓CB_f, CB_u, acode_block, acode_loop, acode_exit, acode_scope, acode_ret, acode_skip, seqQ_n, seqQ_e, seqQ_r, blockQ_n, blockQ_e, blockQ_r, TK_at, OK_at, SK_at, aops_nil, aops_cons, asch_done, asch_one, asch_two, asch_top, astep, aop_eq, isLoud, aloud, aloud1, isWrite, qv, evS, strip, gof, eget, hget, putO, eput, herase, oks, opnds, gS, afin, afin0, binD, arith, D.cells, takeD, fillD, keep, trim, envOf, Fin, aresl, aresv, resD, argOk, pickV, isP, deq, deqs, boundD, slD, lenD, isT, chunks, mn_min, mx_max, D.cells, splice_one, splice_more, Rbr_at, Rfr_at, frR, frV, frC, flatC, brwR, brwV, brwC, omap, leR, leV, leC, leL, leVL, Outp.D, k0, k1, k2, i1, h6, ii]
          | (refine WCall.pf (tfits_pf o hfo) ?_ ?_ ?_ ?_; (focus (simp [oks, opnds, gS, gof, eget]; done)); (focus (simp [omap, brwV, brwC, evS, eget, strip, hget, leVL, leV, leC, leL, Outp.D, k0, k1, k2, i1, h6, ii]; done)); (focus (simp [noV, noC, flatR, flatV, flatC, evS, eget, strip, Outp.D, k0, k1, k2, i1, h6, ii]; done)))
          | (refine ⟨WCall.pf (tfits_pf o hfo) ?_ ?_ ?_ ?_, ?_⟩; (focus (simp [oks, opnds, gS, gof, eget]; done)); (focus (simp [omap, brwV, brwC, evS, eget, strip, hget, leVL, leV, leC, leL, Outp.D, k0, k1, k2, i1, h6, ii]; done)); (focus (simp [noV, noC, flatR, flatV, flatC, evS, eget, strip, Outp.D, k0, k1, k2, i1, h6, ii]; done)))
          | (with_reducible refine And.intro (And.intro ?_ ?_) ?_)
          | fail)
        rw [hset]
        exact ⟨by omega, by omega, _, (i + 1, tallyStep cs o), (Gh.ren [] (by simp [hB0]) (by simp [hB0] <;> decide) (by simp [eget, rnS, rnR, rnV, rnC, LtS, LtR, LtV, LtC, lget, Outp.D, rnC_I]) (by simp [hget, rnO, rnC, LtO, LtC, lget, Outp.D, rnC_I]) (.inr rfl)), by omega, rfl, by omega, hts.symm⟩
    · have hie : i = l.length := by omega
      subst hie
      rw [List.take_length] at hcs
      have hlen : cs.length = 17 := by rw [hcs, tallyL_len]
      obtain ⟨c, hc⟩ : ∃ c, c = tallyL l := ⟨_, rfl⟩
      rw [← hc] at hcs ⊢
      subst hcs
      match cs, hlen with
      | [c0, c1, c2, c3, c4, c5, c6, c7, c8, c9, c10, c11, c12, c13, c14, c15, c16], _ => simp [AK_at, acode_seq, acode_region, acode_draw, acode_cond, ↓CB_t, ↓CB_f, CB_u, acode_block, acode_loop, acode_exit, acode_scope, acode_ret, acode_skip, seqQ_n, seqQ_e, seqQ_r, blockQ_n, blockQ_e, blockQ_r, TK_at, OK_at, SK_at, aops_nil, aops_cons, asch_done, asch_one, asch_two, asch_top, astep, aop_eq, isLoud, aloud, aloud1, isWrite, qv, evS, strip, gof, eget, hget, putO, eput, herase, oks, opnds, gS, afin, afin0, binD, arith, D.cells, takeD, fillD, keep, trim, envOf, Fin, aresl, aresv, resD, argOk, pickV, isP, deq, deqs, boundD, slD, lenD, isT, chunks, mn_min, mx_max, D.cells, splice_one, splice_more, Rbr_at, Rfr_at, frR, frV, frC, flatC, brwR, brwV, brwC, omap, leR, leV, leC, leL, leVL]
theorem storyL_take (l : List Outp) (s g : Int) (i : Nat) (h : i < l.length) (hi : inStory s g l[i] = true) : storyL (l.take (i + 1)) s g = storyL (l.take i) s g ++ [l[i]] := by rw [storyL_step l s g i h, hi]; rfl
theorem storyL_skip (l : List Outp) (s g : Int) (i : Nat) (h : i < l.length) (hi : inStory s g l[i] = false) : storyL (l.take (i + 1)) s g = storyL (l.take i) s g := by rw [storyL_step l s g i h, hi]; simp
theorem tolds_code : cfun Try.prog [] 23 = some ⟨(.seq (.region 0 [⟨(some 2), (.mov (.k .nil0)), none⟩]) (.seq (.region 1 [⟨(some 3), (.mov (.k .nil0)), none⟩]) (.seq (.seq (.region 2 [⟨(some 4), (.mov (.k (.int .i64 0))), none⟩]) (.block 0 (.loop (.seq (.seq (.region 3 [⟨(some 5), (.mov (.t 4)), none⟩, ⟨(some 6), (.mov (.t 0)), none⟩, ⟨(some 7), (.len (.t 6)), none⟩, ⟨(some 8), (.bin .lss (.t 5) (.t 7)), none⟩, ⟨(some 9), (.mov (.t 8)), none⟩, ⟨(some 10), (.mov (.t 4)), (some (9, true))⟩, ⟨(some 11), (.bin .lss (.t 10) (.k (.int .i64 60))), (some (9, true))⟩, ⟨(some 12), (.pick (.t 9) (.t 11) (.k (.bool false))), none⟩]) (.cond 12 .skip (.exit 0))) (.seq (.block 1 (.draw 5 (.one true ⟨(some 15), (.mov (.t 3)), none⟩ (.one true ⟨(some 16), (.mov (.t 0)), none⟩ (.one true ⟨(some 17), (.mov (.t 4)), none⟩ (.one true ⟨(some 18), (.iads 5 (.t 16) (.t 17)), none⟩ (.one true ⟨(some 19), (.fad 0 (.t 18)), none⟩ (.one true ⟨(some 20), (.load false 1 (.t 19)), none⟩ (.one true ⟨(some 23), (.mov (.t 0)), none⟩ (.one true ⟨(some 24), (.mov (.t 4)), none⟩ (.one true ⟨(some 25), (.iads 5 (.t 23) (.t 24)), none⟩ (.one true ⟨(some 26), (.fad 1 (.t 25)), none⟩ (.one true ⟨(some 27), (.load false 1 (.t 26)), none⟩ (.one true ⟨(some 29), (.mov (.t 0)), none⟩ (.one true ⟨(some 30), (.mov (.t 4)), none⟩ (.one true ⟨(some 31), (.iads 5 (.t 29) (.t 30)), none⟩ (.one true ⟨(some 32), (.fad 2 (.t 31)), none⟩ (.one true ⟨(some 33), (.load false 1 (.t 32)), none⟩ (.one true ⟨(some 35), (.mov (.t 0)), none⟩ (.one true ⟨(some 36), (.mov (.t 4)), none⟩ (.one true ⟨(some 37), (.iads 5 (.t 35) (.t 36)), none⟩ (.one true ⟨(some 38), (.fad 3 (.t 37)), none⟩ (.one true ⟨(some 39), (.load false 1 (.t 38)), none⟩ (.one true ⟨(some 41), (.mov (.t 0)), none⟩ (.one true ⟨(some 42), (.mov (.t 4)), none⟩ (.one true ⟨(some 43), (.iads 5 (.t 41) (.t 42)), none⟩ (.one true ⟨(some 44), (.fad 4 (.t 43)), none⟩ (.one true ⟨(some 45), (.load false 1 (.t 44)), none⟩ (.one true ⟨(some 21), (.call 25 [(.t 20), (.k (.int .i64 10))]), none⟩ (.one true ⟨(some 22), (.bin .add (.k (.int .i64 1)) (.t 21)), none⟩ (.one true ⟨(some 28), (.call 25 [(.t 27), (.k (.int .i64 3))]), none⟩ (.one true ⟨(some 34), (.call 25 [(.t 33), (.k (.int .i64 2))]), none⟩ (.one true ⟨(some 40), (.call 25 [(.t 39), (.k (.int .i64 12))]), none⟩ (.one true ⟨(some 46), (.call 25 [(.t 45), (.k (.int .i64 6))]), none⟩ (.one true ⟨(some 47), (.build [(.int .i64 0), (.int .i64 0), (.int .i64 0), (.int .i64 0), (.int .i64 0), (.int .i64 0), (.int .i64 0)] [(0, (1, (.t 22))), (1, (1, (.t 28))), (2, (1, (.t 34))), (3, (1, (.t 40))), (6, (1, (.t 46)))]), none⟩ (.one true ⟨(some 48), (.bslice 7 1 [(.int .i64 0), (.int .i64 0), (.int .i64 0), (.int .i64 0), (.int .i64 0), (.int .i64 0), (.int .i64 0)] [(0, (.t 47))]), none⟩ (.one false ⟨(some 49), (.app 7 56 [(.int .i64 0), (.int .i64 0), (.int .i64 0), (.int .i64 0), (.int .i64 0), (.int .i64 0), (.int .i64 0)] (.t 15) (.t 48)), none⟩ (.one true ⟨(some 3), (.mov (.t 49)), none⟩ .done)))))))))))))))))))))))))))))))))))))) (.region 4 [⟨(some 13), (.mov (.t 4)), none⟩, ⟨(some 14), (.bin .add (.t 13) (.k (.int .i64 1))), none⟩, ⟨(some 4), (.mov (.t 14)), none⟩])))))) (.seq (.region 6 [⟨(some 50), (.mov (.t 3)), none⟩, ⟨(some 2), (.mov (.t 50)), none⟩]) .ret)))), [(.t 2)], 51⟩ := by kernel_rfl
theorem tolds_pf (l : List (List Int)) (hl : l.length ≤ Go.maxLen) (hr : ∀ r ∈ l, r.length = 5 ∧ ∀ z ∈ r, InR z) : PF Try.prog 23 [.rows 5 (l.map fun r => r.map I)] (.rows 7 ((toldsL l).map Outp.D)) := by
  unfold Go.maxLen at hl
  have hlen := toldsL_len l
  refine PF.of follows_ok tolds_code (by simp) (by simp [argOk]) (by simp [noV, noC]) fun B hBN hB0 => acode_sound [0, 2, 3, 4, 12] [] _ _ _ ?_
  simp [AK_at, acode_seq, acode_region, acode_draw, acode_cond, ↓CB_t, ↓CB_f, CB_u, acode_block, acode_loop, acode_exit, acode_scope, acode_ret, acode_skip, seqQ_n, seqQ_e, seqQ_r, blockQ_n, blockQ_e, blockQ_r, TK_at, OK_at, SK_at, aops_nil, aops_cons, asch_done, asch_one, asch_two, asch_top, astep, aop_eq, isLoud, aloud, aloud1, isWrite, qv, evS, strip, gof, eget, hget, putO, eput, herase, oks, opnds, gS, afin, afin0, binD, arith, D.cells, takeD, fillD, keep, trim, envOf, Fin, aresl, aresv, resD, argOk, pickV, isP, deq, deqs, boundD, slD, lenD, isT, chunks, mn_min, mx_max, D.cells, splice_one, splice_more, Rbr_at, Rfr_at, frR, frV, frC, flatC, brwR, brwV, brwC, omap, leR, leV, leC, leL, leVL]
  refine W.loopS (fun y : Nat × List Outp => ⟨[(4, I y.1), (3, .own 0), (0, D.rows 5 (l.map fun r => r.map I))], [(0, .row 7 (y.2.map Outp.D))], 1⟩)
    (fun n y => n = 60 - y.1 ∧ y.1 ≤ 60 ∧ y.1 ≤ l.length ∧ y.2 = (toldsL l).take y.1) ?_ ?_
  · refine ⟨_, (0, []), (Gh.adopt 3 7 (by omega) (by simp [eget])).trans ?_, rfl, by simp, by simp, by simp⟩
    simp [eput]
    exact (Gh.ren [] (by simp [hB0]) (by simp [hB0] <;> decide) (by simp [eget, rnS, rnR, rnV, rnC, LtS, LtR, LtV, LtC, lget]) (by simp [hget, rnO, rnC, LtO, LtC, lget]) (.inr rfl))
  · rintro n ⟨i, acc⟩ ⟨hn, h60, hil, hacc⟩
    simp only at hn h60 hil hacc
    refine acode_sound [0, 2, 3, 4, 12] [] _ _ _ ?_
    by_cases hlt : i < l.length ∧ i < 60
    · obtain ⟨hlt, hlt2⟩ := hlt
      have hlt3 : (i : Int) < 60 := by omega
      have hip : i < (toldsL l).length := by omega
      obtain ⟨hx1, hx2⟩ := hr _ (List.getElem_mem hlt)
      obtain ⟨a, b, c, d, e, hab⟩ : ∃ a b c d e, l[i] = [a, b, c, d, e] := by
        match hq : l[i], hx1 with
        | [a, b, c, d, e], _ => exact ⟨a, b, c, d, e, rfl⟩
      rw [hab] at hx2
      have ra : InR a := hx2 a (by simp)
      have rb : InR b := hx2 b (by simp)
      have rc : InR c := hx2 c (by simp)
      have rd : InR d := hx2 d (by simp)
      have re : InR e := hx2 e (by simp)
      have hi1 : InR ((i : Int) + 1) := inT (by omega) (by omega)
      have hg := toldsL_get l i hip hlt
      have hal : acc.length = i := by rw [hacc]; simp; omega
      have htk : (toldsL l).take (i + 1) = acc ++ [toldOut l[i]] := by rw [List.take_succ_eq_append_getElem hip, hg, hacc]
      have q1 := pickedZ_range a 10 (by omega)
      have hi2 : InR (1 + pickedZ a 10) := inT (by omega) (by omega)
      have hcap2 : (acc.length + 1) * 56 ≤ 140737488355328 := by omega
      simp [AK_at, acode_seq, acode_region, acode_draw, acode_cond, ↓CB_t, ↓CB_f, CB_u, acode_block, acode_loop, acode_exit, acode_scope, acode_ret, acode_skip, seqQ_n, seqQ_e, seqQ_r, blockQ_n, blockQ_e, blockQ_r, TK_at, OK_at, SK_at, aops_nil, aops_cons, asch_done, asch_one, asch_two, asch_top, astep, aop_eq, isLoud, aloud, aloud1, isWrite, qv, evS, strip, gof, eget, hget, putO, eput, herase, oks, opnds, gS, afin, afin0, binD, arith, D.cells, takeD, fillD, keep, trim, envOf, Fin, aresl, aresv, resD, argOk, pickV, isP, deq, deqs, boundD, slD, lenD, isT, chunks, mn_min, mx_max, D.cells, splice_one, splice_more, Rbr_at, Rfr_at, frR, frV, frC, flatC, brwR, brwV, brwC, omap, leR, leV, leC, leL, leVL, hlt, hlt3, hab]
      repeat' (first
        | simp [AK_at, acode_seq, acode_region, acode_draw, acode_cond, ↓CB_t, ↓CB_f, CB_u, acode_block, acode_loop, acode_exit, acode_scope, acode_ret, acode_skip, seqQ_n, seqQ_e, seqQ_r, blockQ_n, blockQ_e, blockQ_r, TK_at, OK_at, SK_at, aops_nil, aops_cons, asch_done, asch_one, asch_two, asch_top, astep, aop_eq, isLoud, aloud, aloud1, isWrite, qv, evS, strip, gof, eget, hget, putO, eput, herase, oks, opnds, gS, afin, afin0, binD, arith, D.cells, takeD, fillD, keep, trim, envOf, Fin, aresl, aresv, resD, argOk, pickV, isP, deq, deqs, boundD, slD, lenD, isT, chunks, mn_min, mx_max, D.cells, splice_one, splice_more, Rbr_at, Rfr_at, frR, frV, frC, flatC, brwR, brwV, brwC, omap, leR, leV, leC, leL, leVL, hi1, hi2, hcap2]
        | (refine WCall.pf (picked_pf a 10 ra (by omega)) ?_ ?_ ?_ ?_; (focus (simp [oks, opnds, gS, gof, eget]; done)); (focus (simp [omap, brwV, brwC, evS, eget, strip, hget, leVL, leV, leC, leL, hi1, hi2, hcap2]; done)); (focus (simp [noV, noC, flatR, flatV, flatC, evS, eget, strip, hi1, hi2, hcap2]; done)))
        | (refine ⟨WCall.pf (picked_pf a 10 ra (by omega)) ?_ ?_ ?_ ?_, ?_⟩; (focus (simp [oks, opnds, gS, gof, eget]; done)); (focus (simp [omap, brwV, brwC, evS, eget, strip, hget, leVL, leV, leC, leL, hi1, hi2, hcap2]; done)); (focus (simp [noV, noC, flatR, flatV, flatC, evS, eget, strip, hi1, hi2, hcap2]; done)))
        | (refine WCall.pf (picked_pf b 3 rb (by omega)) ?_ ?_ ?_ ?_; (focus (simp [oks, opnds, gS, gof, eget]; done)); (focus (simp [omap, brwV, brwC, evS, eget, strip, hget, leVL, leV, leC, leL, hi1, hi2, hcap2]; done)); (focus (simp [noV, noC, flatR, flatV, flatC, evS, eget, strip, hi1, hi2, hcap2]; done)))
        | (refine ⟨WCall.pf (picked_pf b 3 rb (by omega)) ?_ ?_ ?_ ?_, ?_⟩; (focus (simp [oks, opnds, gS, gof, eget]; done)); (focus (simp [omap, brwV, brwC, evS, eget, strip, hget, leVL, leV, leC, leL, hi1, hi2, hcap2]; done)); (focus (simp [noV, noC, flatR, flatV, flatC, evS, eget, strip, hi1, hi2, hcap2]; done)))
        | (refine WCall.pf (picked_pf c 2 rc (by omega)) ?_ ?_ ?_ ?_; (focus (simp [oks, opnds, gS, gof, eget]; done)); (focus (simp [omap, brwV, brwC, evS, eget, strip, hget, leVL, leV, leC, leL, hi1, hi2, hcap2]; done)); (focus (simp [noV, noC, flatR, flatV, flatC, evS, eget, strip, hi1, hi2, hcap2]; done)))
        | (refine ⟨WCall.pf (picked_pf c 2 rc (by omega)) ?_ ?_ ?_ ?_, ?_⟩; (focus (simp [oks, opnds, gS, gof, eget]; done)); (focus (simp [omap, brwV, brwC, evS, eget, strip, hget, leVL, leV, leC, leL, hi1, hi2, hcap2]; done)); (focus (simp [noV, noC, flatR, flatV, flatC, evS, eget, strip, hi1, hi2, hcap2]; done)))
        | (refine WCall.pf (picked_pf d 12 rd (by omega)) ?_ ?_ ?_ ?_; (focus (simp [oks, opnds, gS, gof, eget]; done)); (focus (simp [omap, brwV, brwC, evS, eget, strip, hget, leVL, leV, leC, leL, hi1, hi2, hcap2]; done)); (focus (simp [noV, noC, flatR, flatV, flatC, evS, eget, strip, hi1, hi2, hcap2]; done)))
        | (refine ⟨WCall.pf (picked_pf d 12 rd (by omega)) ?_ ?_ ?_ ?_, ?_⟩; (focus (simp [oks, opnds, gS, gof, eget]; done)); (focus (simp [omap, brwV, brwC, evS, eget, strip, hget, leVL, leV, leC, leL, hi1, hi2, hcap2]; done)); (focus (simp [noV, noC, flatR, flatV, flatC, evS, eget, strip, hi1, hi2, hcap2]; done)))
        | (refine WCall.pf (picked_pf e 6 re (by omega)) ?_ ?_ ?_ ?_; (focus (simp [oks, opnds, gS, gof, eget]; done)); (focus (simp [omap, brwV, brwC, evS, eget, strip, hget, leVL, leV, leC, leL, hi1, hi2, hcap2]; done)); (focus (simp [noV, noC, flatR, flatV, flatC, evS, eget, strip, hi1, hi2, hcap2]; done)))
        | (refine ⟨WCall.pf (picked_pf e 6 re (by omega)) ?_ ?_ ?_ ?_, ?_⟩; (focus (simp [oks, opnds, gS, gof, eget]; done)); (focus (simp [omap, brwV, brwC, evS, eget, strip, hget, leVL, leV, leC, leL, hi1, hi2, hcap2]; done)); (focus (simp [noV, noC, flatR, flatV, flatC, evS, eget, strip, hi1, hi2, hcap2]; done)))
        | (with_reducible refine And.intro (And.intro ?_ ?_) ?_)
        | fail)
      all_goals
        refine ⟨_, (i + 1, acc ++ [toldOut l[i]]), (Gh.ren [2] (by simp [hB0]) (by simp [hB0] <;> decide) (by simp [eget, rnS, rnR, rnV, rnC, LtS, LtR, LtV, LtC, lget, Outp.D, toldOut, hab]) (by simp [hget, rnO, rnC, LtO, LtC, lget, Outp.D, toldOut, hab]) (.inl (by simp [lget, Outp.D, toldOut, hab]))), by omega, rfl, by omega, by omega, htk.symm⟩
    · have hie : i = (toldsL l).length := by omega
      rw [hie, List.take_length] at hacc
      by_cases hll : i < l.length
      · have h3 : ¬ (i : Int) < 60 := by omega
        simp [AK_at, acode_seq, acode_region, acode_draw, acode_cond, ↓CB_t, ↓CB_f, CB_u, acode_block, acode_loop, acode_exit, acode_scope, acode_ret, acode_skip, seqQ_n, seqQ_e, seqQ_r, blockQ_n, blockQ_e, blockQ_r, TK_at, OK_at, SK_at, aops_nil, aops_cons, asch_done, asch_one, asch_two, asch_top, astep, aop_eq, isLoud, aloud, aloud1, isWrite, qv, evS, strip, gof, eget, hget, putO, eput, herase, oks, opnds, gS, afin, afin0, binD, arith, D.cells, takeD, fillD, keep, trim, envOf, Fin, aresl, aresv, resD, argOk, pickV, isP, deq, deqs, boundD, slD, lenD, isT, chunks, mn_min, mx_max, D.cells, splice_one, splice_more, Rbr_at, Rfr_at, frR, frV, frC, flatC, brwR, brwV, brwC, omap, leR, leV, leC, leL, leVL, hll, h3, hacc]
      · simp [AK_at, acode_seq, acode_region, acode_draw, acode_cond, ↓CB_t, ↓CB_f, CB_u, acode_block, acode_loop, acode_exit, acode_scope, acode_ret, acode_skip, seqQ_n, seqQ_e, seqQ_r, blockQ_n, blockQ_e, blockQ_r, TK_at, OK_at, SK_at, aops_nil, aops_cons, asch_done, asch_one, asch_two, asch_top, astep, aop_eq, isLoud, aloud, aloud1, isWrite, qv, evS, strip, gof, eget, hget, putO, eput, herase, oks, opnds, gS, afin, afin0, binD, arith, D.cells, takeD, fillD, keep, trim, envOf, Fin, aresl, aresv, resD, argOk, pickV, isP, deq, deqs, boundD, slD, lenD, isT, chunks, mn_min, mx_max, D.cells, splice_one, splice_more, Rbr_at, Rfr_at, frR, frV, frC, flatC, brwR, brwV, brwC, omap, leR, leV, leC, leL, leVL, hll, hacc]
end Go.Proofs.Ytfkeddefajkobaa
