/- This text proves what the functions of package picker compute. It has no condition of its own. -/
import Derived.Test.YtgjngknkokgpjaaPrt
import Derived.Test.YtgjngknkokgpjaaIdx
import Derived.Test.YtgjngknkokgpjaaAcp
set_option linter.unusedSimpArgs false
set_option linter.unusedVariables false
set_option maxRecDepth 100000
set_option maxHeartbeats 2000000
namespace Go.Proofs.Ytgjngknkokgpjaa
open Go.RowKit
def zload : Load := ⟨0, 0, 0⟩
def PI (z : Int) : List D := [I z]
theorem lidx_code : cfun Try.prog [] 56 = some ⟨(.seq (.region 0 [⟨(some 4), (.mov (.k (.int .i64 0))), none⟩]) (.seq (.seq (.region 1 [⟨(some 6), (.mov (.t 0)), none⟩, ⟨(some 7), (.len (.t 6)), none⟩, ⟨(some 8), (.mov (.k (.int .i64 0))), none⟩]) (.block 0 (.loop (.seq (.region 2 [⟨(some 9), (.bin .lss (.t 8) (.t 7)), none⟩]) (.seq (.cond 9 .skip (.exit 0)) (.seq (.block 1 (.seq (.region 3 [⟨(some 10), (.mov (.t 8)), none⟩, ⟨(some 5), (.mov (.t 10)), none⟩]) (.seq (.region 4 [⟨(some 11), (.mov (.t 1)), none⟩, ⟨(some 12), (.mov (.t 0)), none⟩, ⟨(some 13), (.mov (.t 5)), none⟩, ⟨(some 14), (.iads 3 (.t 12) (.t 13)), none⟩, ⟨(some 15), (.load true 3 (.t 14)), none⟩, ⟨(some 16), (.callv (.t 11) [(.t 15)]), none⟩]) (.cond 16 (.seq (.region 5 [⟨(some 17), (.mov (.t 5)), none⟩, ⟨(some 4), (.mov (.t 17)), none⟩]) .ret) .skip)))) (.region 6 [⟨(some 18), (.bin .add (.t 8) (.k (.int .i64 1))), none⟩, ⟨(some 8), (.mov (.t 18)), none⟩]))))))) (.seq (.region 7 [⟨(some 4), (.mov (.k (.int .i64 (-1)))), none⟩]) .ret))), [(.t 4)], 19⟩ := by kernel_rfl
theorem lidx_pf (l : List Load) (F : FuncId) (q : Load → Bool) (hl : l.length ≤ 1000000) (hF : ∀ s ∈ l, PF Try.prog F [.agg s.D] (.bool (q s))) : PF Try.prog 56 [.rows 3 (l.map Load.D), .fn F []] (I (idxZ q l)) := by
  refine PF.of follows_ok lidx_code (by simp) (by simp [argOk]) (by simp [noV, noC]) fun B hBN hB0 => acode_sound [0, 1, 4, 5, 7, 8, 9, 16] [] _ _ _ ?_
  simp [AK_at, acode_seq, acode_region, acode_draw, acode_cond, ↓CB_t, ↓CB_f, CB_u, acode_block, acode_loop, acode_exit, acode_scope, acode_ret, acode_skip, seqQ_n, seqQ_e, seqQ_r, blockQ_n, blockQ_e, blockQ_r, TK_at, OK_at, SK_at, aops_nil, aops_cons, asch_done, asch_one, asch_two, asch_top, astep, aop_eq, isLoud, aloud, aloud1, isWrite, qv, evS, strip, gof, eget, hget, putO, eput, herase, oks, opnds, gS, afin, afin0, binD, arith, D.cells, takeD, fillD, keep, trim, envOf, Fin, aresl, aresv, resD, argOk, pickV, isP, deq, deqs, boundD, slD, lenD, isT, chunks, mn_min, mx_max, D.cells, splice_one, splice_more, Rbr_at, Rfr_at, frR, frV, frC, flatC, brwR, brwV, brwC, omap, leR, leV, leC, leL, leVL]
  refine W.loopS (fun i : Nat => ⟨[(8, I i), (7, I l.length), (4, I 0), (1, .fn F []), (0, D.rows 3 (l.map Load.D))], [], 0⟩)
    (fun n i => n = l.length - i ∧ i ≤ l.length ∧ ∀ j (hj : j < l.length), j < i → q l[j] = false) ?_ ?_
  · exact ⟨_, 0, (Gh.ren [] (by simp [hB0]) (by simp [hB0]) (by simp [eget, rnS, rnR, rnV, rnC, LtS, LtR, LtV, LtC, lget]) (by simp [hget, rnO, rnC, LtO, LtC, lget]) (.inr rfl)), rfl, by omega, fun j _ h => by omega⟩
  · rintro n i ⟨hn, hi, hb⟩
    refine acode_sound [0, 1, 4, 5, 7, 8, 9, 16] [] _ _ _ ?_
    by_cases hlt : i < l.length
    · obtain ⟨o, ho⟩ : ∃ o, o = l[i] := ⟨_, rfl⟩
      have hFo := hF o (ho ▸ List.getElem_mem hlt)
      have ii : InR ((i : Int) + 1) := inr (by omega) (by omega)
      simp [AK_at, acode_seq, acode_region, acode_draw, acode_cond, ↓CB_t, ↓CB_f, CB_u, acode_block, acode_loop, acode_exit, acode_scope, acode_ret, acode_skip, seqQ_n, seqQ_e, seqQ_r, blockQ_n, blockQ_e, blockQ_r, TK_at, OK_at, SK_at, aops_nil, aops_cons, asch_done, asch_one, asch_two, asch_top, astep, aop_eq, isLoud, aloud, aloud1, isWrite, qv, evS, strip, gof, eget, hget, putO, eput, herase, oks, opnds, gS, afin, afin0, binD, arith, D.cells, takeD, fillD, keep, trim, envOf, Fin, aresl, aresv, resD, argOk, pickV, isP, deq, deqs, boundD, slD, lenD, isT, chunks, mn_min, mx_max, D.cells, splice_one, splice_more, Rbr_at, Rfr_at, frR, frV, frC, flatC, brwR, brwV, brwC, omap, leR, leV, leC, leL, leVL, hlt, ← ho, Load.D]
      cases hq : q o with
      | true =>
        have hz := idxZ_at q l i hlt (fun j hj => hb j (by omega) hj) (by rw [← ho]; exact hq)
        repeat' (first
          | simp [AK_at, acode_seq, acode_region, acode_draw, acode_cond, ↓CB_t, ↓CB_f, CB_u, acode_block, acode_loop, acode_exit, acode_scope, acode_ret, acode_skip, seqQ_n, seqQ_e, seqQ_r, blockQ_n, blockQ_e, blockQ_r, TK_at, OK_at, SK_at, aops_nil, aops_cons, asch_done, asch_one, asch_two, asch_top, astep, aop_eq, isLoud, aloud, aloud1, isWrite, qv, evS, strip, gof, eget, hget, putO, eput, herase, oks, opnds, gS, afin, afin0, binD, arith, D.cells, takeD, fillD, keep, trim, envOf, Fin, aresl, aresv, resD, argOk, pickV, isP, deq, deqs, boundD, slD, lenD, isT, chunks, mn_min, mx_max, D.cells, splice_one, splice_more, Rbr_at, Rfr_at, frR, frV, frC, flatC, brwR, brwV, brwC, omap, leR, leV, leC, leL, leVL, Load.D, hq, hz]
          | (refine WCall.pfv (hFo) ?_ rfl ?_ ?_ ?_; (focus (simp [oks, opnds, gS, gof, eget]; done)); (focus (simp [omap, brwV, brwC, evS, eget, strip, hget, leVL, leV, leC, leL, Load.D, hq, hz]; done)); (focus (simp [noV, noC, flatR, flatV, flatC, evS, eget, strip, Load.D, hq, hz]; done)))
          | (refine ⟨WCall.pfv (hFo) ?_ rfl ?_ ?_ ?_, ?_⟩; (focus (simp [oks, opnds, gS, gof, eget]; done)); (focus (simp [omap, brwV, brwC, evS, eget, strip, hget, leVL, leV, leC, leL, Load.D, hq, hz]; done)); (focus (simp [noV, noC, flatR, flatV, flatC, evS, eget, strip, Load.D, hq, hz]; done)))
          | (with_reducible refine And.intro (And.intro ?_ ?_) ?_)
          | fail)
      | false =>
        repeat' (first
          | simp [AK_at, acode_seq, acode_region, acode_draw, acode_cond, ↓CB_t, ↓CB_f, CB_u, acode_block, acode_loop, acode_exit, acode_scope, acode_ret, acode_skip, seqQ_n, seqQ_e, seqQ_r, blockQ_n, blockQ_e, blockQ_r, TK_at, OK_at, SK_at, aops_nil, aops_cons, asch_done, asch_one, asch_two, asch_top, astep, aop_eq, isLoud, aloud, aloud1, isWrite, qv, evS, strip, gof, eget, hget, putO, eput, herase, oks, opnds, gS, afin, afin0, binD, arith, D.cells, takeD, fillD, keep, trim, envOf, Fin, aresl, aresv, resD, argOk, pickV, isP, deq, deqs, boundD, slD, lenD, isT, chunks, mn_min, mx_max, D.cells, splice_one, splice_more, Rbr_at, Rfr_at, frR, frV, frC, flatC, brwR, brwV, brwC, omap, leR, leV, leC, leL, leVL, Load.D, hq, ii]
          | (refine WCall.pfv (hFo) ?_ rfl ?_ ?_ ?_; (focus (simp [oks, opnds, gS, gof, eget]; done)); (focus (simp [omap, brwV, brwC, evS, eget, strip, hget, leVL, leV, leC, leL, Load.D, hq, ii]; done)); (focus (simp [noV, noC, flatR, flatV, flatC, evS, eget, strip, Load.D, hq, ii]; done)))
          | (refine ⟨WCall.pfv (hFo) ?_ rfl ?_ ?_ ?_, ?_⟩; (focus (simp [oks, opnds, gS, gof, eget]; done)); (focus (simp [omap, brwV, brwC, evS, eget, strip, hget, leVL, leV, leC, leL, Load.D, hq, ii]; done)); (focus (simp [noV, noC, flatR, flatV, flatC, evS, eget, strip, Load.D, hq, ii]; done)))
          | (with_reducible refine And.intro (And.intro ?_ ?_) ?_)
          | fail)
        exact ⟨_, i + 1, (Gh.ren [] (by simp [hB0]) (by simp [hB0]) (by simp [eget, rnS, rnR, rnV, rnC, LtS, LtR, LtV, LtC, lget]) (by simp [hget, rnO, rnC, LtO, LtC, lget]) (.inr rfl)), by omega, rfl, by omega, fun j hj h => by
          by_cases hji : j = i
          · subst hji; rw [← ho]; exact hq
          · exact hb j hj (by omega)⟩
    · have hz := idxZ_none q l fun x hx => by
        obtain ⟨j, hj⟩ := List.getElem?_of_mem hx
        obtain ⟨hj2, rfl⟩ := List.getElem?_eq_some_iff.1 hj
        exact hb j hj2 (by omega)
      have hie : i = l.length := by omega
      subst hie
      simp [AK_at, acode_seq, acode_region, acode_draw, acode_cond, ↓CB_t, ↓CB_f, CB_u, acode_block, acode_loop, acode_exit, acode_scope, acode_ret, acode_skip, seqQ_n, seqQ_e, seqQ_r, blockQ_n, blockQ_e, blockQ_r, TK_at, OK_at, SK_at, aops_nil, aops_cons, asch_done, asch_one, asch_two, asch_top, astep, aop_eq, isLoud, aloud, aloud1, isWrite, qv, evS, strip, gof, eget, hget, putO, eput, herase, oks, opnds, gS, afin, afin0, binD, arith, D.cells, takeD, fillD, keep, trim, envOf, Fin, aresl, aresv, resD, argOk, pickV, isP, deq, deqs, boundD, slD, lenD, isT, chunks, mn_min, mx_max, D.cells, splice_one, splice_more, Rbr_at, Rfr_at, frR, frV, frC, flatC, brwR, brwV, brwC, omap, leR, leV, leC, leL, leVL, hz]
theorem lidx1_pf (l : List Load) (F : FuncId) (b : Int) (q : Load → Bool) (hl : l.length ≤ 1000000) (hF : ∀ s ∈ l, PF Try.prog F [.agg s.D, .pc [I b]] (.bool (q s))) : PF Try.prog 56 [.rows 3 (l.map Load.D), .fn F [.pc [I b]]] (I (idxZ q l)) := by
  refine PF.of follows_ok lidx_code (by simp) (by simp [argOk]) (by simp [noV, noC]) fun B hBN hB0 => acode_sound [0, 1, 4, 5, 7, 8, 9, 16] [] _ _ _ ?_
  simp [AK_at, acode_seq, acode_region, acode_draw, acode_cond, ↓CB_t, ↓CB_f, CB_u, acode_block, acode_loop, acode_exit, acode_scope, acode_ret, acode_skip, seqQ_n, seqQ_e, seqQ_r, blockQ_n, blockQ_e, blockQ_r, TK_at, OK_at, SK_at, aops_nil, aops_cons, asch_done, asch_one, asch_two, asch_top, astep, aop_eq, isLoud, aloud, aloud1, isWrite, qv, evS, strip, gof, eget, hget, putO, eput, herase, oks, opnds, gS, afin, afin0, binD, arith, D.cells, takeD, fillD, keep, trim, envOf, Fin, aresl, aresv, resD, argOk, pickV, isP, deq, deqs, boundD, slD, lenD, isT, chunks, mn_min, mx_max, D.cells, splice_one, splice_more, Rbr_at, Rfr_at, frR, frV, frC, flatC, brwR, brwV, brwC, omap, leR, leV, leC, leL, leVL]
  refine W.loopS (fun i : Nat => ⟨[(8, I i), (7, I l.length), (4, I 0), (1, .fn F [.pc [I b]]), (0, D.rows 3 (l.map Load.D))], [], 0⟩)
    (fun n i => n = l.length - i ∧ i ≤ l.length ∧ ∀ j (hj : j < l.length), j < i → q l[j] = false) ?_ ?_
  · exact ⟨_, 0, (Gh.ren [] (by simp [hB0]) (by simp [hB0]) (by simp [eget, rnS, rnR, rnV, rnC, LtS, LtR, LtV, LtC, lget]) (by simp [hget, rnO, rnC, LtO, LtC, lget]) (.inr rfl)), rfl, by omega, fun j _ h => by omega⟩
  · rintro n i ⟨hn, hi, hb⟩
    refine acode_sound [0, 1, 4, 5, 7, 8, 9, 16] [] _ _ _ ?_
    by_cases hlt : i < l.length
    · obtain ⟨o, ho⟩ : ∃ o, o = l[i] := ⟨_, rfl⟩
      have hFo := hF o (ho ▸ List.getElem_mem hlt)
      have ii : InR ((i : Int) + 1) := inr (by omega) (by omega)
      simp [AK_at, acode_seq, acode_region, acode_draw, acode_cond, ↓CB_t, ↓CB_f, CB_u, acode_block, acode_loop, acode_exit, acode_scope, acode_ret, acode_skip, seqQ_n, seqQ_e, seqQ_r, blockQ_n, blockQ_e, blockQ_r, TK_at, OK_at, SK_at, aops_nil, aops_cons, asch_done, asch_one, asch_two, asch_top, astep, aop_eq, isLoud, aloud, aloud1, isWrite, qv, evS, strip, gof, eget, hget, putO, eput, herase, oks, opnds, gS, afin, afin0, binD, arith, D.cells, takeD, fillD, keep, trim, envOf, Fin, aresl, aresv, resD, argOk, pickV, isP, deq, deqs, boundD, slD, lenD, isT, chunks, mn_min, mx_max, D.cells, splice_one, splice_more, Rbr_at, Rfr_at, frR, frV, frC, flatC, brwR, brwV, brwC, omap, leR, leV, leC, leL, leVL, hlt, ← ho, Load.D]
      cases hq : q o with
      | true =>
        have hz := idxZ_at q l i hlt (fun j hj => hb j (by omega) hj) (by rw [← ho]; exact hq)
        repeat' (first
          | simp [AK_at, acode_seq, acode_region, acode_draw, acode_cond, ↓CB_t, ↓CB_f, CB_u, acode_block, acode_loop, acode_exit, acode_scope, acode_ret, acode_skip, seqQ_n, seqQ_e, seqQ_r, blockQ_n, blockQ_e, blockQ_r, TK_at, OK_at, SK_at, aops_nil, aops_cons, asch_done, asch_one, asch_two, asch_top, astep, aop_eq, isLoud, aloud, aloud1, isWrite, qv, evS, strip, gof, eget, hget, putO, eput, herase, oks, opnds, gS, afin, afin0, binD, arith, D.cells, takeD, fillD, keep, trim, envOf, Fin, aresl, aresv, resD, argOk, pickV, isP, deq, deqs, boundD, slD, lenD, isT, chunks, mn_min, mx_max, D.cells, splice_one, splice_more, Rbr_at, Rfr_at, frR, frV, frC, flatC, brwR, brwV, brwC, omap, leR, leV, leC, leL, leVL, Load.D, hq, hz]
          | (refine WCall.pfv (hFo) ?_ rfl ?_ ?_ ?_; (focus (simp [oks, opnds, gS, gof, eget]; done)); (focus (simp [omap, brwV, brwC, evS, eget, strip, hget, leVL, leV, leC, leL, Load.D, hq, hz]; done)); (focus (simp [noV, noC, flatR, flatV, flatC, evS, eget, strip, Load.D, hq, hz]; done)))
          | (refine ⟨WCall.pfv (hFo) ?_ rfl ?_ ?_ ?_, ?_⟩; (focus (simp [oks, opnds, gS, gof, eget]; done)); (focus (simp [omap, brwV, brwC, evS, eget, strip, hget, leVL, leV, leC, leL, Load.D, hq, hz]; done)); (focus (simp [noV, noC, flatR, flatV, flatC, evS, eget, strip, Load.D, hq, hz]; done)))
          | (with_reducible refine And.intro (And.intro ?_ ?_) ?_)
          | fail)
      | false =>
        repeat' (first
          | simp [AK_at, acode_seq, acode_region, acode_draw, acode_cond, ↓CB_t, ↓CB_f, CB_u, acode_block, acode_loop, acode_exit, acode_scope, acode_ret, acode_skip, seqQ_n, seqQ_e, seqQ_r, blockQ_n, blockQ_e, blockQ_r, TK_at, OK_at, SK_at, aops_nil, aops_cons, asch_done, asch_one, asch_two, asch_top, astep, aop_eq, isLoud, aloud, aloud1, isWrite, qv, evS, strip, gof, eget, hget, putO, eput, herase, oks, opnds, gS, afin, afin0, binD, arith, D.cells, takeD, fillD, keep, trim, envOf, Fin, aresl, aresv, resD, argOk, pickV, isP, deq, deqs, boundD, slD, lenD, isT, chunks, mn_min, mx_max, D.cells, splice_one, splice_more, Rbr_at, Rfr_at, frR, frV, frC, flatC, brwR, brwV, brwC, omap, leR, leV, leC, leL, leVL, Load.D, hq, ii]
          | (refine WCall.pfv (hFo) ?_ rfl ?_ ?_ ?_; (focus (simp [oks, opnds, gS, gof, eget]; done)); (focus (simp [omap, brwV, brwC, evS, eget, strip, hget, leVL, leV, leC, leL, Load.D, hq, ii]; done)); (focus (simp [noV, noC, flatR, flatV, flatC, evS, eget, strip, Load.D, hq, ii]; done)))
          | (refine ⟨WCall.pfv (hFo) ?_ rfl ?_ ?_ ?_, ?_⟩; (focus (simp [oks, opnds, gS, gof, eget]; done)); (focus (simp [omap, brwV, brwC, evS, eget, strip, hget, leVL, leV, leC, leL, Load.D, hq, ii]; done)); (focus (simp [noV, noC, flatR, flatV, flatC, evS, eget, strip, Load.D, hq, ii]; done)))
          | (with_reducible refine And.intro (And.intro ?_ ?_) ?_)
          | fail)
        exact ⟨_, i + 1, (Gh.ren [] (by simp [hB0]) (by simp [hB0]) (by simp [eget, rnS, rnR, rnV, rnC, LtS, LtR, LtV, LtC, lget]) (by simp [hget, rnO, rnC, LtO, LtC, lget]) (.inr rfl)), by omega, rfl, by omega, fun j hj h => by
          by_cases hji : j = i
          · subst hji; rw [← ho]; exact hq
          · exact hb j hj (by omega)⟩
    · have hz := idxZ_none q l fun x hx => by
        obtain ⟨j, hj⟩ := List.getElem?_of_mem hx
        obtain ⟨hj2, rfl⟩ := List.getElem?_eq_some_iff.1 hj
        exact hb j hj2 (by omega)
      have hie : i = l.length := by omega
      subst hie
      simp [AK_at, acode_seq, acode_region, acode_draw, acode_cond, ↓CB_t, ↓CB_f, CB_u, acode_block, acode_loop, acode_exit, acode_scope, acode_ret, acode_skip, seqQ_n, seqQ_e, seqQ_r, blockQ_n, blockQ_e, blockQ_r, TK_at, OK_at, SK_at, aops_nil, aops_cons, asch_done, asch_one, asch_two, asch_top, astep, aop_eq, isLoud, aloud, aloud1, isWrite, qv, evS, strip, gof, eget, hget, putO, eput, herase, oks, opnds, gS, afin, afin0, binD, arith, D.cells, takeD, fillD, keep, trim, envOf, Fin, aresl, aresv, resD, argOk, pickV, isP, deq, deqs, boundD, slD, lenD, isT, chunks, mn_min, mx_max, D.cells, splice_one, splice_more, Rbr_at, Rfr_at, frR, frV, frC, flatC, brwR, brwV, brwC, omap, leR, leV, leC, leL, leVL, hz]
def tkB (b : Int) (x : Load) : Bool := decide (x.backend = b) && decide (0 < x.weight)
theorem cof1_code : cfun Try.prog [] 59 = some ⟨(.seq (.region 0 [⟨(some 2), (.box (.t 0)), none⟩, ⟨(some 3), (.mov (.k (.bool false))), none⟩]) (.seq (.region 1 [⟨(some 4), (.fad 0 (.t 2)), none⟩, ⟨(some 5), (.load false 1 (.t 4)), none⟩, ⟨(some 6), (.load false 1 (.t 1)), none⟩, ⟨(some 7), (.bin .eql (.t 5) (.t 6)), none⟩, ⟨(some 8), (.mov (.t 7)), none⟩, ⟨(some 9), (.fad 1 (.t 2)), (some (8, true))⟩, ⟨(some 10), (.load false 1 (.t 9)), (some (8, true))⟩, ⟨(some 11), (.bin .gtr (.t 10) (.k (.int .i64 0))), (some (8, true))⟩, ⟨(some 12), (.pick (.t 8) (.t 11) (.k (.bool false))), none⟩, ⟨(some 3), (.mov (.t 12)), none⟩]) .ret)), [(.t 3)], 13⟩ := by kernel_rfl
theorem cof1_pf (x : Load) (b : Int) : PF Try.prog 59 [.agg x.D, .pc [I b]] (.bool (tkB b x)) := by
  refine PF.of follows_ok cof1_code (by simp) (by simp [argOk]) (by simp [noV, noC, Load.D]) fun B hBN hB0 => acode_sound [0, 1, 2, 3] [] _ _ _ ?_
  by_cases h : x.backend = b
  · simp [AK_at, acode_seq, acode_region, acode_draw, acode_cond, ↓CB_t, ↓CB_f, CB_u, acode_block, acode_loop, acode_exit, acode_scope, acode_ret, acode_skip, seqQ_n, seqQ_e, seqQ_r, blockQ_n, blockQ_e, blockQ_r, TK_at, OK_at, SK_at, aops_nil, aops_cons, asch_done, asch_one, asch_two, asch_top, astep, aop_eq, isLoud, aloud, aloud1, isWrite, qv, evS, strip, gof, eget, hget, putO, eput, herase, oks, opnds, gS, afin, afin0, binD, arith, D.cells, takeD, fillD, keep, trim, envOf, Fin, aresl, aresv, resD, argOk, pickV, isP, deq, deqs, boundD, slD, lenD, isT, chunks, mn_min, mx_max, D.cells, splice_one, splice_more, Rbr_at, Rfr_at, frR, frV, frC, flatC, brwR, brwV, brwC, omap, leR, leV, leC, leL, leVL, Load.D, tkB, h]
  · simp [AK_at, acode_seq, acode_region, acode_draw, acode_cond, ↓CB_t, ↓CB_f, CB_u, acode_block, acode_loop, acode_exit, acode_scope, acode_ret, acode_skip, seqQ_n, seqQ_e, seqQ_r, blockQ_n, blockQ_e, blockQ_r, TK_at, OK_at, SK_at, aops_nil, aops_cons, asch_done, asch_one, asch_two, asch_top, astep, aop_eq, isLoud, aloud, aloud1, isWrite, qv, evS, strip, gof, eget, hget, putO, eput, herase, oks, opnds, gS, afin, afin0, binD, arith, D.cells, takeD, fillD, keep, trim, envOf, Fin, aresl, aresv, resD, argOk, pickV, isP, deq, deqs, boundD, slD, lenD, isT, chunks, mn_min, mx_max, D.cells, splice_one, splice_more, Rbr_at, Rfr_at, frR, frV, frC, flatC, brwR, brwV, brwC, omap, leR, leV, leC, leL, leVL, Load.D, tkB, h]
theorem cof_code : cfun Try.prog [] 57 = some ⟨(.seq (.region 0 [⟨(some 2), (.box (.t 0)), none⟩, ⟨(some 3), (.box (.t 1)), none⟩, ⟨(some 4), (.mov (.k (.int .i64 0))), none⟩]) (.seq (.region 1 [⟨(some 5), (.fad 0 (.t 2)), none⟩, ⟨(some 6), (.load false 1 (.t 5)), none⟩, ⟨(some 7), (.mkfn 59 [(.t 3)]), none⟩, ⟨(some 8), (.call 56 [(.t 6), (.t 7)]), none⟩, ⟨(some 4), (.mov (.t 8)), none⟩]) .ret)), [(.t 4)], 9⟩ := by kernel_rfl
theorem cof_pf (l : List Load) (caps : List Int) (b : Int) (hl : l.length ≤ 1000000) : PF Try.prog 57 [.agg [.rows 3 (l.map Load.D), .rows 1 (caps.map PI)], I b] (I (idxZ (tkB b) l)) := by
  refine PF.of follows_ok cof_code (by simp) (by simp [argOk]) (by simp [noV, noC]) fun B hBN hB0 => acode_sound [0, 1, 2, 3, 4] [1] _ _ _ ?_
  simp [AK_at, acode_seq, acode_region, acode_draw, acode_cond, ↓CB_t, ↓CB_f, CB_u, acode_block, acode_loop, acode_exit, acode_scope, acode_ret, acode_skip, seqQ_n, seqQ_e, seqQ_r, blockQ_n, blockQ_e, blockQ_r, TK_at, OK_at, SK_at, aops_nil, aops_cons, asch_done, asch_one, asch_two, asch_top, astep, aop_eq, isLoud, aloud, aloud1, isWrite, qv, evS, strip, gof, eget, hget, putO, eput, herase, oks, opnds, gS, afin, afin0, binD, arith, D.cells, takeD, fillD, keep, trim, envOf, Fin, aresl, aresv, resD, argOk, pickV, isP, deq, deqs, boundD, slD, lenD, isT, chunks, mn_min, mx_max, D.cells, splice_one, splice_more, Rbr_at, Rfr_at, frR, frV, frC, flatC, brwR, brwV, brwC, omap, leR, leV, leC, leL, leVL]
  refine W.freeze [1] ?_
  simp [freeze, hkeep, hdrop, fzS, fzR, fzV, fzC, fzO, brwC, omap, hget]
  refine acode_sound [0, 1, 2, 3, 4] [] _ _ _ ?_
  simp [AK_at, acode_seq, acode_region, acode_draw, acode_cond, ↓CB_t, ↓CB_f, CB_u, acode_block, acode_loop, acode_exit, acode_scope, acode_ret, acode_skip, seqQ_n, seqQ_e, seqQ_r, blockQ_n, blockQ_e, blockQ_r, TK_at, OK_at, SK_at, aops_nil, aops_cons, asch_done, asch_one, asch_two, asch_top, astep, aop_eq, isLoud, aloud, aloud1, isWrite, qv, evS, strip, gof, eget, hget, putO, eput, herase, oks, opnds, gS, afin, afin0, binD, arith, D.cells, takeD, fillD, keep, trim, envOf, Fin, aresl, aresv, resD, argOk, pickV, isP, deq, deqs, boundD, slD, lenD, isT, chunks, mn_min, mx_max, D.cells, splice_one, splice_more, Rbr_at, Rfr_at, frR, frV, frC, flatC, brwR, brwV, brwC, omap, leR, leV, leC, leL, leVL]
  repeat' (first
    | simp [AK_at, acode_seq, acode_region, acode_draw, acode_cond, ↓CB_t, ↓CB_f, CB_u, acode_block, acode_loop, acode_exit, acode_scope, acode_ret, acode_skip, seqQ_n, seqQ_e, seqQ_r, blockQ_n, blockQ_e, blockQ_r, TK_at, OK_at, SK_at, aops_nil, aops_cons, asch_done, asch_one, asch_two, asch_top, astep, aop_eq, isLoud, aloud, aloud1, isWrite, qv, evS, strip, gof, eget, hget, putO, eput, herase, oks, opnds, gS, afin, afin0, binD, arith, D.cells, takeD, fillD, keep, trim, envOf, Fin, aresl, aresv, resD, argOk, pickV, isP, deq, deqs, boundD, slD, lenD, isT, chunks, mn_min, mx_max, D.cells, splice_one, splice_more, Rbr_at, Rfr_at, frR, frV, frC, flatC, brwR, brwV, brwC, omap, leR, leV, leC, leL, leVL]
    | (refine WCall.pf (lidx1_pf l 59 b (tkB b) hl fun s _ => cof1_pf s b) ?_ ?_ ?_ ?_; (focus (simp [oks, opnds, gS, gof, eget]; done)); (focus (simp [omap, brwV, brwC, evS, eget, strip, hget, leVL, leV, leC, leL]; done)); (focus (simp [noV, noC, flatR, flatV, flatC, evS, eget, strip]; done)))
    | (refine ⟨WCall.pf (lidx1_pf l 59 b (tkB b) hl fun s _ => cof1_pf s b) ?_ ?_ ?_ ?_, ?_⟩; (focus (simp [oks, opnds, gS, gof, eget]; done)); (focus (simp [omap, brwV, brwC, evS, eget, strip, hget, leVL, leV, leC, leL]; done)); (focus (simp [noV, noC, flatR, flatV, flatC, evS, eget, strip]; done)))
    | (with_reducible refine And.intro (And.intro ?_ ?_) ?_)
    | fail)
theorem croom_code : cfun Try.prog [] 58 = some ⟨(.seq (.region 0 [⟨(some 2), (.box (.t 0)), none⟩, ⟨(some 4), (.mov (.k (.bool false))), none⟩]) (.seq (.draw 1 (.one true ⟨(some 5), (.fad 0 (.t 2)), none⟩ (.one true ⟨(some 6), (.load false 1 (.t 5)), none⟩ (.one true ⟨(some 7), (.mov (.t 1)), none⟩ (.one true ⟨(some 8), (.iads 3 (.t 6) (.t 7)), none⟩ (.one true ⟨(some 9), (.fad 2 (.t 8)), none⟩ (.one true ⟨(some 10), (.load false 1 (.t 9)), none⟩ (.one true ⟨(some 11), (.fad 1 (.t 2)), none⟩ (.one true ⟨(some 12), (.load false 1 (.t 11)), none⟩ (.one true ⟨(some 13), (.mov (.t 1)), none⟩ (.one true ⟨(some 14), (.iads 1 (.t 12) (.t 13)), none⟩ (.one true ⟨(some 15), (.load false 1 (.t 14)), none⟩ (.one true ⟨(some 16), (.bin .lss (.t 10) (.t 15)), none⟩ (.one true ⟨(some 4), (.mov (.t 16)), none⟩ .done)))))))))))))) .ret)), [(.t 4)], 17⟩ := by kernel_rfl
theorem croom_pf (l : List Load) (caps : List Int) (i : Nat) (h : i < l.length) (h2 : i < caps.length) : PF Try.prog 58 [.agg [.rows 3 (l.map Load.D), .rows 1 (caps.map PI)], I i] (.bool (decide ((l.getD i zload).flows < caps.getD i 0))) := by
  refine PF.of follows_ok croom_code (by simp) (by simp [argOk]) (by simp [noV, noC]) fun B hBN hB0 => acode_sound [0, 1, 2, 4] [] _ _ _ ?_
  have e1 : l[i]?.getD zload = l[i] := by simp [h]
  have e2 : caps[i]?.getD 0 = caps[i] := by simp [h2]
  simp [AK_at, acode_seq, acode_region, acode_draw, acode_cond, ↓CB_t, ↓CB_f, CB_u, acode_block, acode_loop, acode_exit, acode_scope, acode_ret, acode_skip, seqQ_n, seqQ_e, seqQ_r, blockQ_n, blockQ_e, blockQ_r, TK_at, OK_at, SK_at, aops_nil, aops_cons, asch_done, asch_one, asch_two, asch_top, astep, aop_eq, isLoud, aloud, aloud1, isWrite, qv, evS, strip, gof, eget, hget, putO, eput, herase, oks, opnds, gS, afin, afin0, binD, arith, D.cells, takeD, fillD, keep, trim, envOf, Fin, aresl, aresv, resD, argOk, pickV, isP, deq, deqs, boundD, slD, lenD, isT, chunks, mn_min, mx_max, D.cells, splice_one, splice_more, Rbr_at, Rfr_at, frR, frV, frC, flatC, brwR, brwV, brwC, omap, leR, leV, leC, leL, leVL, h, h2, Load.D, PI, e1, e2]
theorem pick1_code : cfun Try.prog [] 47 = some ⟨(.seq (.region 0 [⟨(some 1), (.box (.t 0)), none⟩, ⟨(some 2), (.mov (.k (.bool false))), none⟩]) (.seq (.region 1 [⟨(some 3), (.fad 1 (.t 1)), none⟩, ⟨(some 4), (.load false 1 (.t 3)), none⟩, ⟨(some 5), (.bin .gtr (.t 4) (.k (.int .i64 0))), none⟩, ⟨(some 2), (.mov (.t 5)), none⟩]) .ret)), [(.t 2)], 6⟩ := by kernel_rfl
theorem pick1_pf (x : Load) : PF Try.prog 47 [.agg x.D] (.bool (decide (0 < x.weight))) := by
  refine PF.of follows_ok pick1_code (by simp) (by simp [argOk]) (by simp [noV, noC, Load.D]) fun B hBN hB0 => acode_sound [0, 1, 2] [] _ _ _ ?_
  simp [AK_at, acode_seq, acode_region, acode_draw, acode_cond, ↓CB_t, ↓CB_f, CB_u, acode_block, acode_loop, acode_exit, acode_scope, acode_ret, acode_skip, seqQ_n, seqQ_e, seqQ_r, blockQ_n, blockQ_e, blockQ_r, TK_at, OK_at, SK_at, aops_nil, aops_cons, asch_done, asch_one, asch_two, asch_top, astep, aop_eq, isLoud, aloud, aloud1, isWrite, qv, evS, strip, gof, eget, hget, putO, eput, herase, oks, opnds, gS, afin, afin0, binD, arith, D.cells, takeD, fillD, keep, trim, envOf, Fin, aresl, aresv, resD, argOk, pickV, isP, deq, deqs, boundD, slD, lenD, isT, chunks, mn_min, mx_max, D.cells, splice_one, splice_more, Rbr_at, Rfr_at, frR, frV, frC, flatC, brwR, brwV, brwC, omap, leR, leV, leC, leL, leVL, Load.D]
theorem lcf_code : cfun Try.prog [] 46 = some ⟨(.seq (.region 0 [⟨(some 4), (.mov (.k (.bool false))), none⟩]) (.seq (.region 1 [⟨(some 5), (.mov (.t 0)), none⟩, ⟨(some 6), (.mov (.t 1)), none⟩, ⟨(some 7), (.call 56 [(.t 5), (.t 6)]), none⟩, ⟨(some 8), (.bin .geq (.t 7) (.k (.int .i64 0))), none⟩, ⟨(some 4), (.mov (.t 8)), none⟩]) .ret)), [(.t 4)], 9⟩ := by kernel_rfl
theorem lcf_pf (l : List Load) (F : FuncId) (q : Load → Bool) (hl : l.length ≤ 1000000) (hF : ∀ s ∈ l, PF Try.prog F [.agg s.D] (.bool (q s))) : PF Try.prog 46 [.rows 3 (l.map Load.D), .fn F []] (.bool (decide (0 ≤ idxZ q l))) := by
  refine PF.of follows_ok lcf_code (by simp) (by simp [argOk]) (by simp [noV, noC]) fun B hBN hB0 => acode_sound [0, 1, 4] [] _ _ _ ?_
  simp [AK_at, acode_seq, acode_region, acode_draw, acode_cond, ↓CB_t, ↓CB_f, CB_u, acode_block, acode_loop, acode_exit, acode_scope, acode_ret, acode_skip, seqQ_n, seqQ_e, seqQ_r, blockQ_n, blockQ_e, blockQ_r, TK_at, OK_at, SK_at, aops_nil, aops_cons, asch_done, asch_one, asch_two, asch_top, astep, aop_eq, isLoud, aloud, aloud1, isWrite, qv, evS, strip, gof, eget, hget, putO, eput, herase, oks, opnds, gS, afin, afin0, binD, arith, D.cells, takeD, fillD, keep, trim, envOf, Fin, aresl, aresv, resD, argOk, pickV, isP, deq, deqs, boundD, slD, lenD, isT, chunks, mn_min, mx_max, D.cells, splice_one, splice_more, Rbr_at, Rfr_at, frR, frV, frC, flatC, brwR, brwV, brwC, omap, leR, leV, leC, leL, leVL]
  repeat' (first
    | simp [AK_at, acode_seq, acode_region, acode_draw, acode_cond, ↓CB_t, ↓CB_f, CB_u, acode_block, acode_loop, acode_exit, acode_scope, acode_ret, acode_skip, seqQ_n, seqQ_e, seqQ_r, blockQ_n, blockQ_e, blockQ_r, TK_at, OK_at, SK_at, aops_nil, aops_cons, asch_done, asch_one, asch_two, asch_top, astep, aop_eq, isLoud, aloud, aloud1, isWrite, qv, evS, strip, gof, eget, hget, putO, eput, herase, oks, opnds, gS, afin, afin0, binD, arith, D.cells, takeD, fillD, keep, trim, envOf, Fin, aresl, aresv, resD, argOk, pickV, isP, deq, deqs, boundD, slD, lenD, isT, chunks, mn_min, mx_max, D.cells, splice_one, splice_more, Rbr_at, Rfr_at, frR, frV, frC, flatC, brwR, brwV, brwC, omap, leR, leV, leC, leL, leVL]
    | (refine WCall.pf (lidx_pf l F q hl hF) ?_ ?_ ?_ ?_; (focus (simp [oks, opnds, gS, gof, eget]; done)); (focus (simp [omap, brwV, brwC, evS, eget, strip, hget, leVL, leV, leC, leL]; done)); (focus (simp [noV, noC, flatR, flatV, flatC, evS, eget, strip]; done)))
    | (refine ⟨WCall.pf (lidx_pf l F q hl hF) ?_ ?_ ?_ ?_, ?_⟩; (focus (simp [oks, opnds, gS, gof, eget]; done)); (focus (simp [omap, brwV, brwC, evS, eget, strip, hget, leVL, leV, leC, leL]; done)); (focus (simp [noV, noC, flatR, flatV, flatC, evS, eget, strip]; done)))
    | (with_reducible refine And.intro (And.intro ?_ ?_) ?_)
    | fail)
def ofZ (l : List Load) (b : Int) : Int := idxZ (tkB b) l
def roomB (l : List Load) (caps : List Int) (i : Nat) : Bool := decide ((l.getD i zload).flows < caps.getD i 0)
def alongZ (l : List Load) (caps : List Int) : List Int → Int → Int
  | [], _ => -1
  | b :: w, t => if ofZ l b < 0 then alongZ l caps w t else if t = 0 then -1 else if roomB l caps (ofZ l b).toNat = true then ofZ l b else alongZ l caps w (t - 1)
theorem calong_code : cfun Try.prog [] 48 = some ⟨(.seq (.region 0 [⟨(some 3), (.box (.t 0)), none⟩, ⟨(some 6), (.mov (.k (.int .i64 0))), none⟩]) (.scope (.seq (.region 1 [⟨(some 7), (.mov (.k (.int .i64 (-1)))), none⟩]) (.seq .skip (.seq (.seq (.region 2 [⟨(some 11), (.mov (.t 1)), none⟩, ⟨(some 12), (.len (.t 11)), none⟩, ⟨(some 13), (.mov (.k (.int .i64 0))), none⟩]) (.block 0 (.loop (.seq (.region 3 [⟨(some 14), (.bin .lss (.t 13) (.t 12)), none⟩]) (.seq (.cond 14 .skip (.exit 0)) (.seq (.block 1 (.seq (.region 4 [⟨(some 15), (.iads 1 (.t 11) (.t 13)), none⟩, ⟨(some 16), (.load false 1 (.t 15)), none⟩, ⟨(some 9), (.mov (.t 16)), none⟩]) (.seq (.region 5 [⟨(some 17), (.load true 2 (.t 3)), none⟩, ⟨(some 18), (.mov (.t 9)), none⟩, ⟨(some 19), (.call 57 [(.t 17), (.t 18)]), none⟩, ⟨(some 10), (.mov (.t 19)), none⟩]) (.seq (.block 2 (.seq (.region 6 [⟨(some 21), (.mov (.t 10)), none⟩, ⟨(some 22), (.bin .lss (.t 21) (.k (.int .i64 0))), none⟩, ⟨(some 20), (.mov (.t 22)), none⟩]) (.cond 20 (.exit 1) (.seq (.region 7 [⟨(some 24), (.mov (.t 2)), none⟩, ⟨(some 25), (.bin .eql (.t 24) (.k (.int .i64 0))), none⟩, ⟨(some 23), (.mov (.t 25)), none⟩]) (.cond 23 (.exit 0) (.seq (.region 8 [⟨(some 27), (.load true 2 (.t 3)), none⟩, ⟨(some 28), (.mov (.t 10)), none⟩, ⟨(some 29), (.call 58 [(.t 27), (.t 28)]), none⟩, ⟨(some 26), (.mov (.t 29)), none⟩]) (.cond 26 (.seq (.region 9 [⟨(some 30), (.mov (.t 10)), none⟩, ⟨(some 7), (.mov (.t 30)), none⟩]) (.exit 0)) .skip))))))) (.region 10 [⟨(some 31), (.mov (.t 2)), none⟩, ⟨(some 32), (.bin .sub (.t 31) (.k (.int .i64 1))), none⟩, ⟨(some 2), (.mov (.t 32)), none⟩]))))) (.region 11 [⟨(some 33), (.bin .add (.t 13) (.k (.int .i64 1))), none⟩, ⟨(some 13), (.mov (.t 33)), none⟩]))))))) (.seq (.region 12 [⟨(some 34), (.mov (.t 7)), none⟩, ⟨(some 6), (.mov (.t 34)), none⟩]) .ret)))))), [(.t 6)], 35⟩ := by kernel_rfl
theorem calong_pf (l : List Load) (caps : List Int) (walk : List Int) (t0 : Int) (hl : l.length ≤ 12) (hc : caps.length = l.length) (hw : walk.length ≤ 12) (h0 : 0 ≤ t0) (h1 : t0 ≤ 12) :
    PF Try.prog 48 [.agg [.rows 3 (l.map Load.D), .rows 1 (caps.map PI)], .rows 1 (walk.map PI), I t0] (I (alongZ l caps walk t0)) := by
  refine PF.of follows_ok calong_code (by simp) (by simp [argOk]) (by simp [noV, noC]) fun B hBN hB0 => acode_sound [0, 1, 2, 3, 6, 7, 9, 10, 11, 12, 13, 14, 20, 23, 26] [] _ _ _ ?_
  simp [AK_at, acode_seq, acode_region, acode_draw, acode_cond, ↓CB_t, ↓CB_f, CB_u, acode_block, acode_loop, acode_exit, acode_scope, acode_ret, acode_skip, seqQ_n, seqQ_e, seqQ_r, blockQ_n, blockQ_e, blockQ_r, TK_at, OK_at, SK_at, aops_nil, aops_cons, asch_done, asch_one, asch_two, asch_top, astep, aop_eq, isLoud, aloud, aloud1, isWrite, qv, evS, strip, gof, eget, hget, putO, eput, herase, oks, opnds, gS, afin, afin0, binD, arith, D.cells, takeD, fillD, keep, trim, envOf, Fin, aresl, aresv, resD, argOk, pickV, isP, deq, deqs, boundD, slD, lenD, isT, chunks, mn_min, mx_max, D.cells, splice_one, splice_more, Rbr_at, Rfr_at, frR, frV, frC, flatC, brwR, brwV, brwC, omap, leR, leV, leC, leL, leVL]
  refine W.loopS (fun y : Nat × Int => ⟨[(13, I y.1), (12, I walk.length), (11, D.rows 1 (walk.map PI)), (7, I (-1)), (3, .ptr 0 0), (2, I y.2)], [(0, .cells [.rows 3 (l.map Load.D), .rows 1 (caps.map PI)])], 1⟩)
    (fun n y => n = walk.length - y.1 ∧ y.1 ≤ walk.length ∧ 0 ≤ y.2 ∧ y.2 ≤ 12 ∧ alongZ l caps (walk.drop y.1) y.2 = alongZ l caps walk t0) ?_ ?_
  · exact ⟨_, (0, t0), (Gh.ren [0] (by simp [hB0]) (by simp [hB0]) (by simp [eget, rnS, rnR, rnV, rnC, LtS, LtR, LtV, LtC, lget]) (by simp [hget, rnO, rnC, LtO, LtC, lget]) (.inl (by simp [lget]))), rfl, by omega, h0, h1, by simp⟩
  rintro n ⟨i, t⟩ ⟨hn, hi, ht0, ht1, ha⟩
  simp only at hn hi ht0 ht1 ha
  refine acode_sound [0, 1, 2, 3, 6, 7, 9, 10, 11, 12, 13, 14, 20, 23, 26] [] _ _ _ ?_
  by_cases hlt : i < walk.length
  · obtain ⟨b, hb⟩ : ∃ b, b = walk[i] := ⟨_, rfl⟩
    have hd : walk.drop i = b :: walk.drop (i + 1) := by rw [hb]; exact List.drop_eq_getElem_cons hlt
    rw [hd] at ha
    simp only [alongZ] at ha
    have ii : InR ((i : Int) + 1) := inr (by omega) (by omega)
    have it : InR (t - 1) := inr (by omega) (by omega)
    have hof := cof_pf l caps b (by omega)
    have hz := idxZ_lo (tkB b) l
    have hzz : ofZ l b = idxZ (tkB b) l := rfl
    by_cases hneg : ofZ l b < 0
    · rw [if_pos hneg] at ha
      rw [hzz] at hneg
      repeat' (first
        | simp [AK_at, acode_seq, acode_region, acode_draw, acode_cond, ↓CB_t, ↓CB_f, CB_u, acode_block, acode_loop, acode_exit, acode_scope, acode_ret, acode_skip, seqQ_n, seqQ_e, seqQ_r, blockQ_n, blockQ_e, blockQ_r, TK_at, OK_at, SK_at, aops_nil, aops_cons, asch_done, asch_one, asch_two, asch_top, astep, aop_eq, isLoud, aloud, aloud1, isWrite, qv, evS, strip, gof, eget, hget, putO, eput, herase, oks, opnds, gS, afin, afin0, binD, arith, D.cells, takeD, fillD, keep, trim, envOf, Fin, aresl, aresv, resD, argOk, pickV, isP, deq, deqs, boundD, slD, lenD, isT, chunks, mn_min, mx_max, D.cells, splice_one, splice_more, Rbr_at, Rfr_at, frR, frV, frC, flatC, brwR, brwV, brwC, omap, leR, leV, leC, leL, leVL, hlt, ← hb, PI, hneg, ii]
        | (refine WCall.pf (hof) ?_ ?_ ?_ ?_; (focus (simp [oks, opnds, gS, gof, eget]; done)); (focus (simp [omap, brwV, brwC, evS, eget, strip, hget, leVL, leV, leC, leL, hlt, ← hb, PI, hneg, ii]; done)); (focus (simp [noV, noC, flatR, flatV, flatC, evS, eget, strip, hlt, ← hb, PI, hneg, ii]; done)))
        | (refine ⟨WCall.pf (hof) ?_ ?_ ?_ ?_, ?_⟩; (focus (simp [oks, opnds, gS, gof, eget]; done)); (focus (simp [omap, brwV, brwC, evS, eget, strip, hget, leVL, leV, leC, leL, hlt, ← hb, PI, hneg, ii]; done)); (focus (simp [noV, noC, flatR, flatV, flatC, evS, eget, strip, hlt, ← hb, PI, hneg, ii]; done)))
        | (with_reducible refine And.intro (And.intro ?_ ?_) ?_)
        | fail)
      exact ⟨_, (i + 1, t), (Gh.ren [0] (by simp [hB0]) (by simp [hB0]) (by simp [eget, rnS, rnR, rnV, rnC, LtS, LtR, LtV, LtC, lget]) (by simp [hget, rnO, rnC, LtO, LtC, lget]) (.inl (by simp [lget]))), by omega, rfl, by omega, by omega, by omega, ha⟩
    · rw [if_neg hneg] at ha
      rw [hzz] at hneg ha
      by_cases htz : t = 0
      · rw [if_pos htz] at ha
        repeat' (first
          | simp [AK_at, acode_seq, acode_region, acode_draw, acode_cond, ↓CB_t, ↓CB_f, CB_u, acode_block, acode_loop, acode_exit, acode_scope, acode_ret, acode_skip, seqQ_n, seqQ_e, seqQ_r, blockQ_n, blockQ_e, blockQ_r, TK_at, OK_at, SK_at, aops_nil, aops_cons, asch_done, asch_one, asch_two, asch_top, astep, aop_eq, isLoud, aloud, aloud1, isWrite, qv, evS, strip, gof, eget, hget, putO, eput, herase, oks, opnds, gS, afin, afin0, binD, arith, D.cells, takeD, fillD, keep, trim, envOf, Fin, aresl, aresv, resD, argOk, pickV, isP, deq, deqs, boundD, slD, lenD, isT, chunks, mn_min, mx_max, D.cells, splice_one, splice_more, Rbr_at, Rfr_at, frR, frV, frC, flatC, brwR, brwV, brwC, omap, leR, leV, leC, leL, leVL, hlt, ← hb, PI, hneg, ii, htz, ← ha]
          | (refine WCall.pf (hof) ?_ ?_ ?_ ?_; (focus (simp [oks, opnds, gS, gof, eget]; done)); (focus (simp [omap, brwV, brwC, evS, eget, strip, hget, leVL, leV, leC, leL, hlt, ← hb, PI, hneg, ii, htz, ← ha]; done)); (focus (simp [noV, noC, flatR, flatV, flatC, evS, eget, strip, hlt, ← hb, PI, hneg, ii, htz, ← ha]; done)))
          | (refine ⟨WCall.pf (hof) ?_ ?_ ?_ ?_, ?_⟩; (focus (simp [oks, opnds, gS, gof, eget]; done)); (focus (simp [omap, brwV, brwC, evS, eget, strip, hget, leVL, leV, leC, leL, hlt, ← hb, PI, hneg, ii, htz, ← ha]; done)); (focus (simp [noV, noC, flatR, flatV, flatC, evS, eget, strip, hlt, ← hb, PI, hneg, ii, htz, ← ha]; done)))
          | (with_reducible refine And.intro (And.intro ?_ ?_) ?_)
          | fail)
      · rw [if_neg htz] at ha
        obtain ⟨k, hk⟩ : ∃ k : Nat, idxZ (tkB b) l = k := ⟨(idxZ (tkB b) l).toNat, by omega⟩
        rw [hk] at hof hneg ha hz
        have hkl : k < l.length := by omega
        have hro := croom_pf l caps k hkl (by omega)
        have ha : (if roomB l caps k = true then (k : Int) else alongZ l caps (walk.drop (i + 1)) (t - 1)) = alongZ l caps walk t0 := ha
        cases hr : roomB l caps k with
        | true =>
          rw [hr, if_pos rfl] at ha
          have hr2 : decide ((l.getD k zload).flows < caps.getD k 0) = true := hr
          rw [hr2] at hro
          repeat' (first
            | simp [AK_at, acode_seq, acode_region, acode_draw, acode_cond, ↓CB_t, ↓CB_f, CB_u, acode_block, acode_loop, acode_exit, acode_scope, acode_ret, acode_skip, seqQ_n, seqQ_e, seqQ_r, blockQ_n, blockQ_e, blockQ_r, TK_at, OK_at, SK_at, aops_nil, aops_cons, asch_done, asch_one, asch_two, asch_top, astep, aop_eq, isLoud, aloud, aloud1, isWrite, qv, evS, strip, gof, eget, hget, putO, eput, herase, oks, opnds, gS, afin, afin0, binD, arith, D.cells, takeD, fillD, keep, trim, envOf, Fin, aresl, aresv, resD, argOk, pickV, isP, deq, deqs, boundD, slD, lenD, isT, chunks, mn_min, mx_max, D.cells, splice_one, splice_more, Rbr_at, Rfr_at, frR, frV, frC, flatC, brwR, brwV, brwC, omap, leR, leV, leC, leL, leVL, hlt, ← hb, PI, hneg, ii, htz, ← ha]
            | (refine WCall.pf (hof) ?_ ?_ ?_ ?_; (focus (simp [oks, opnds, gS, gof, eget]; done)); (focus (simp [omap, brwV, brwC, evS, eget, strip, hget, leVL, leV, leC, leL, hlt, ← hb, PI, hneg, ii, htz, ← ha]; done)); (focus (simp [noV, noC, flatR, flatV, flatC, evS, eget, strip, hlt, ← hb, PI, hneg, ii, htz, ← ha]; done)))
            | (refine ⟨WCall.pf (hof) ?_ ?_ ?_ ?_, ?_⟩; (focus (simp [oks, opnds, gS, gof, eget]; done)); (focus (simp [omap, brwV, brwC, evS, eget, strip, hget, leVL, leV, leC, leL, hlt, ← hb, PI, hneg, ii, htz, ← ha]; done)); (focus (simp [noV, noC, flatR, flatV, flatC, evS, eget, strip, hlt, ← hb, PI, hneg, ii, htz, ← ha]; done)))
            | (refine WCall.pf (hro) ?_ ?_ ?_ ?_; (focus (simp [oks, opnds, gS, gof, eget]; done)); (focus (simp [omap, brwV, brwC, evS, eget, strip, hget, leVL, leV, leC, leL, hlt, ← hb, PI, hneg, ii, htz, ← ha]; done)); (focus (simp [noV, noC, flatR, flatV, flatC, evS, eget, strip, hlt, ← hb, PI, hneg, ii, htz, ← ha]; done)))
            | (refine ⟨WCall.pf (hro) ?_ ?_ ?_ ?_, ?_⟩; (focus (simp [oks, opnds, gS, gof, eget]; done)); (focus (simp [omap, brwV, brwC, evS, eget, strip, hget, leVL, leV, leC, leL, hlt, ← hb, PI, hneg, ii, htz, ← ha]; done)); (focus (simp [noV, noC, flatR, flatV, flatC, evS, eget, strip, hlt, ← hb, PI, hneg, ii, htz, ← ha]; done)))
            | (with_reducible refine And.intro (And.intro ?_ ?_) ?_)
            | fail)
        | false =>
          rw [hr, if_neg (by simp)] at ha
          have hr2 : decide ((l.getD k zload).flows < caps.getD k 0) = false := hr
          rw [hr2] at hro
          repeat' (first
            | simp [AK_at, acode_seq, acode_region, acode_draw, acode_cond, ↓CB_t, ↓CB_f, CB_u, acode_block, acode_loop, acode_exit, acode_scope, acode_ret, acode_skip, seqQ_n, seqQ_e, seqQ_r, blockQ_n, blockQ_e, blockQ_r, TK_at, OK_at, SK_at, aops_nil, aops_cons, asch_done, asch_one, asch_two, asch_top, astep, aop_eq, isLoud, aloud, aloud1, isWrite, qv, evS, strip, gof, eget, hget, putO, eput, herase, oks, opnds, gS, afin, afin0, binD, arith, D.cells, takeD, fillD, keep, trim, envOf, Fin, aresl, aresv, resD, argOk, pickV, isP, deq, deqs, boundD, slD, lenD, isT, chunks, mn_min, mx_max, D.cells, splice_one, splice_more, Rbr_at, Rfr_at, frR, frV, frC, flatC, brwR, brwV, brwC, omap, leR, leV, leC, leL, leVL, hlt, ← hb, PI, hneg, ii, htz, it]
            | (refine WCall.pf (hof) ?_ ?_ ?_ ?_; (focus (simp [oks, opnds, gS, gof, eget]; done)); (focus (simp [omap, brwV, brwC, evS, eget, strip, hget, leVL, leV, leC, leL, hlt, ← hb, PI, hneg, ii, htz, it]; done)); (focus (simp [noV, noC, flatR, flatV, flatC, evS, eget, strip, hlt, ← hb, PI, hneg, ii, htz, it]; done)))
            | (refine ⟨WCall.pf (hof) ?_ ?_ ?_ ?_, ?_⟩; (focus (simp [oks, opnds, gS, gof, eget]; done)); (focus (simp [omap, brwV, brwC, evS, eget, strip, hget, leVL, leV, leC, leL, hlt, ← hb, PI, hneg, ii, htz, it]; done)); (focus (simp [noV, noC, flatR, flatV, flatC, evS, eget, strip, hlt, ← hb, PI, hneg, ii, htz, it]; done)))
            | (refine WCall.pf (hro) ?_ ?_ ?_ ?_; (focus (simp [oks, opnds, gS, gof, eget]; done)); (focus (simp [omap, brwV, brwC, evS, eget, strip, hget, leVL, leV, leC, leL, hlt, ← hb, PI, hneg, ii, htz, it]; done)); (focus (simp [noV, noC, flatR, flatV, flatC, evS, eget, strip, hlt, ← hb, PI, hneg, ii, htz, it]; done)))
            | (refine ⟨WCall.pf (hro) ?_ ?_ ?_ ?_, ?_⟩; (focus (simp [oks, opnds, gS, gof, eget]; done)); (focus (simp [omap, brwV, brwC, evS, eget, strip, hget, leVL, leV, leC, leL, hlt, ← hb, PI, hneg, ii, htz, it]; done)); (focus (simp [noV, noC, flatR, flatV, flatC, evS, eget, strip, hlt, ← hb, PI, hneg, ii, htz, it]; done)))
            | (with_reducible refine And.intro (And.intro ?_ ?_) ?_)
            | fail)
          exact ⟨_, (i + 1, t - 1), (Gh.ren [0] (by simp [hB0]) (by simp [hB0]) (by simp [eget, rnS, rnR, rnV, rnC, LtS, LtR, LtV, LtC, lget]) (by simp [hget, rnO, rnC, LtO, LtC, lget]) (.inl (by simp [lget]))), by omega, rfl, by omega, by omega, by omega, ha⟩
  · have hie : i = walk.length := by omega
    subst hie
    simp [alongZ] at ha
    simp [AK_at, acode_seq, acode_region, acode_draw, acode_cond, ↓CB_t, ↓CB_f, CB_u, acode_block, acode_loop, acode_exit, acode_scope, acode_ret, acode_skip, seqQ_n, seqQ_e, seqQ_r, blockQ_n, blockQ_e, blockQ_r, TK_at, OK_at, SK_at, aops_nil, aops_cons, asch_done, asch_one, asch_two, asch_top, astep, aop_eq, isLoud, aloud, aloud1, isWrite, qv, evS, strip, gof, eget, hget, putO, eput, herase, oks, opnds, gS, afin, afin0, binD, arith, D.cells, takeD, fillD, keep, trim, envOf, Fin, aresl, aresv, resD, argOk, pickV, isP, deq, deqs, boundD, slD, lenD, isT, chunks, mn_min, mx_max, D.cells, splice_one, splice_more, Rbr_at, Rfr_at, frR, frV, frC, flatC, brwR, brwV, brwC, omap, leR, leV, leC, leL, leVL, ← ha]
def leastN (l : List Load) (caps : List Int) : Nat → Int
  | 0 => -1
  | i + 1 => if (l.getD i zload).weight = 0 ∨ roomB l caps i = false then leastN l caps i else
      if leastN l caps i < 0 ∨ (l.getD i zload).flows * (l.getD (leastN l caps i).toNat zload).weight < (l.getD (leastN l caps i).toNat zload).flows * (l.getD i zload).weight then i else leastN l caps i
theorem leastN_lo (l : List Load) (caps : List Int) : ∀ i : Nat, -1 ≤ leastN l caps i ∧ leastN l caps i < i
  | 0 => by simp [leastN]
  | i + 1 => by
    have := leastN_lo l caps i
    simp only [leastN]
    split
    · omega
    · split <;> omega
theorem mul_bd {a b : Int} (h1 : 0 ≤ a) (h2 : a ≤ 40) (h3 : 0 ≤ b) (h4 : b ≤ 8) : InR (a * b) := by
  have h5 : 0 ≤ a * b := Int.mul_nonneg h1 h3
  have h6 : a * b ≤ 40 * 8 := Int.mul_le_mul h2 h4 h3 (by omega)
  exact inr (by omega) (by omega)
theorem cleast_code : cfun Try.prog [] 49 = some ⟨(.seq (.region 0 [⟨(some 1), (.box (.t 0)), none⟩, ⟨(some 2), (.mov (.k (.int .i64 0))), none⟩]) (.seq (.region 1 [⟨(some 3), (.mov (.k (.int .i64 (-1)))), none⟩]) (.seq (.seq (.region 2 [⟨(some 6), (.fad 0 (.t 1)), none⟩, ⟨(some 7), (.load false 1 (.t 6)), none⟩, ⟨(some 8), (.len (.t 7)), none⟩, ⟨(some 9), (.mov (.k (.int .i64 0))), none⟩]) (.block 0 (.loop (.seq (.region 3 [⟨(some 10), (.bin .lss (.t 9) (.t 8)), none⟩]) (.seq (.cond 10 .skip (.exit 0)) (.seq (.block 1 (.seq (.region 4 [⟨(some 11), (.mov (.t 9)), none⟩, ⟨(some 12), (.iads 3 (.t 7) (.t 9)), none⟩, ⟨(some 13), (.load true 3 (.t 12)), none⟩, ⟨(some 5), (.alloc [(.int .i64 0), (.int .i64 0), (.int .i64 0)]), none⟩, ⟨(some 4), (.mov (.t 11)), none⟩, ⟨none, (.store 3 (.t 5) (.t 13)), none⟩]) (.seq (.seq (.region 5 [⟨(some 14), (.fad 1 (.t 5)), none⟩, ⟨(some 15), (.load false 1 (.t 14)), none⟩, ⟨(some 16), (.bin .eql (.t 15) (.k (.int .i64 0))), none⟩, ⟨(some 17), (.mov (.t 16)), none⟩, ⟨(some 18), (.load true 2 (.t 1)), (some (17, false))⟩, ⟨(some 19), (.mov (.t 4)), (some (17, false))⟩, ⟨(some 20), (.call 58 [(.t 18), (.t 19)]), (some (17, false))⟩, ⟨(some 21), (.not (.t 20)), (some (17, false))⟩, ⟨(some 22), (.pick (.t 17) (.k (.bool true)) (.t 21)), none⟩]) (.cond 22 (.exit 1) .skip)) (.seq (.draw 6 (.one true ⟨(some 23), (.mov (.t 3)), none⟩ (.one true ⟨(some 24), (.bin .lss (.t 23) (.k (.int .i64 0))), none⟩ (.one true ⟨(some 25), (.mov (.t 24)), none⟩ (.one true ⟨(some 26), (.fad 2 (.t 5)), (some (25, false))⟩ (.one true ⟨(some 27), (.load false 1 (.t 26)), (some (25, false))⟩ (.one true ⟨(some 28), (.fad 0 (.t 1)), (some (25, false))⟩ (.one true ⟨(some 29), (.load false 1 (.t 28)), (some (25, false))⟩ (.one true ⟨(some 30), (.mov (.t 3)), (some (25, false))⟩ (.one true ⟨(some 31), (.iads 3 (.t 29) (.t 30)), (some (25, false))⟩ (.one true ⟨(some 32), (.fad 1 (.t 31)), (some (25, false))⟩ (.one true ⟨(some 33), (.load false 1 (.t 32)), (some (25, false))⟩ (.one true ⟨(some 34), (.bin .mul (.t 27) (.t 33)), (some (25, false))⟩ (.one true ⟨(some 35), (.fad 0 (.t 1)), (some (25, false))⟩ (.one true ⟨(some 36), (.load false 1 (.t 35)), (some (25, false))⟩ (.one true ⟨(some 37), (.mov (.t 3)), (some (25, false))⟩ (.one true ⟨(some 38), (.iads 3 (.t 36) (.t 37)), (some (25, false))⟩ (.one true ⟨(some 39), (.fad 2 (.t 38)), (some (25, false))⟩ (.one true ⟨(some 40), (.load false 1 (.t 39)), (some (25, false))⟩ (.one true ⟨(some 41), (.fad 1 (.t 5)), (some (25, false))⟩ (.one true ⟨(some 42), (.load false 1 (.t 41)), (some (25, false))⟩ (.one true ⟨(some 43), (.bin .mul (.t 40) (.t 42)), (some (25, false))⟩ (.one true ⟨(some 44), (.bin .lss (.t 34) (.t 43)), (some (25, false))⟩ (.one true ⟨(some 45), (.pick (.t 25) (.k (.bool true)) (.t 44)), none⟩ .done)))))))))))))))))))))))) (.cond 45 (.region 7 [⟨(some 46), (.mov (.t 4)), none⟩, ⟨(some 3), (.mov (.t 46)), none⟩]) .skip))))) (.region 8 [⟨(some 47), (.bin .add (.t 9) (.k (.int .i64 1))), none⟩, ⟨(some 9), (.mov (.t 47)), none⟩]))))))) (.seq (.region 9 [⟨(some 48), (.mov (.t 3)), none⟩, ⟨(some 2), (.mov (.t 48)), none⟩]) .ret)))), [(.t 2)], 49⟩ := by kernel_rfl
theorem cleast_pf (l : List Load) (caps : List Int) (hl : l.length ≤ 12) (hc : caps.length = l.length) (hm : ∀ x ∈ l, 0 ≤ x.weight ∧ x.weight ≤ 8 ∧ 0 ≤ x.flows ∧ x.flows ≤ 40) :
    PF Try.prog 49 [.agg [.rows 3 (l.map Load.D), .rows 1 (caps.map PI)]] (I (leastN l caps l.length)) := by
  refine PF.of follows_ok cleast_code (by simp) (by simp [argOk]) (by simp [noV, noC]) fun B hBN hB0 => acode_sound [0, 1, 2, 3, 4, 5, 7, 8, 9, 10, 22, 45] [] _ _ _ ?_
  simp [AK_at, acode_seq, acode_region, acode_draw, acode_cond, ↓CB_t, ↓CB_f, CB_u, acode_block, acode_loop, acode_exit, acode_scope, acode_ret, acode_skip, seqQ_n, seqQ_e, seqQ_r, blockQ_n, blockQ_e, blockQ_r, TK_at, OK_at, SK_at, aops_nil, aops_cons, asch_done, asch_one, asch_two, asch_top, astep, aop_eq, isLoud, aloud, aloud1, isWrite, qv, evS, strip, gof, eget, hget, putO, eput, herase, oks, opnds, gS, afin, afin0, binD, arith, D.cells, takeD, fillD, keep, trim, envOf, Fin, aresl, aresv, resD, argOk, pickV, isP, deq, deqs, boundD, slD, lenD, isT, chunks, mn_min, mx_max, D.cells, splice_one, splice_more, Rbr_at, Rfr_at, frR, frV, frC, flatC, brwR, brwV, brwC, omap, leR, leV, leC, leL, leVL]
  refine W.loopS (fun y : Nat × Int => ⟨[(9, I y.1), (8, I l.length), (7, D.rows 3 (l.map Load.D)), (3, I y.2), (1, .ptr 0 0)], [(0, .cells [.rows 3 (l.map Load.D), .rows 1 (caps.map PI)])], 1⟩)
    (fun n y => n = l.length - y.1 ∧ y.1 ≤ l.length ∧ y.2 = leastN l caps y.1) ?_ ?_
  · exact ⟨_, (0, -1), (Gh.ren [0] (by simp [hB0]) (by simp [hB0]) (by simp [eget, rnS, rnR, rnV, rnC, LtS, LtR, LtV, LtC, lget]) (by simp [hget, rnO, rnC, LtO, LtC, lget]) (.inl (by simp [lget]))), rfl, by omega, rfl⟩
  rintro n ⟨i, best⟩ ⟨hn, hi, hbest⟩
  simp only at hn hi hbest
  refine acode_sound [0, 1, 2, 3, 4, 5, 7, 8, 9, 10, 22, 45] [] _ _ _ ?_
  by_cases hlt : i < l.length
  · obtain ⟨x, hx⟩ : ∃ x, x = l[i] := ⟨_, rfl⟩
    have hxd : l.getD i zload = x := by rw [hx]; simp [List.getD, hlt]
    have ii : InR ((i : Int) + 1) := inr (by omega) (by omega)
    have hs : leastN l caps (i + 1) = if (l.getD i zload).weight = 0 ∨ roomB l caps i = false then leastN l caps i else if leastN l caps i < 0 ∨ (l.getD i zload).flows * (l.getD (leastN l caps i).toNat zload).weight < (l.getD (leastN l caps i).toNat zload).flows * (l.getD i zload).weight then i else leastN l caps i := rfl
    rw [hxd, ← hbest] at hs
    have hlo := leastN_lo l caps i
    rw [← hbest] at hlo
    have hro := croom_pf l caps i hlt (by omega)
    have hmx := hm x (hx ▸ List.getElem_mem hlt)
    by_cases hw : x.weight = 0
    · rw [if_pos (.inl hw)] at hs
      simp [AK_at, acode_seq, acode_region, acode_draw, acode_cond, ↓CB_t, ↓CB_f, CB_u, acode_block, acode_loop, acode_exit, acode_scope, acode_ret, acode_skip, seqQ_n, seqQ_e, seqQ_r, blockQ_n, blockQ_e, blockQ_r, TK_at, OK_at, SK_at, aops_nil, aops_cons, asch_done, asch_one, asch_two, asch_top, astep, aop_eq, isLoud, aloud, aloud1, isWrite, qv, evS, strip, gof, eget, hget, putO, eput, herase, oks, opnds, gS, afin, afin0, binD, arith, D.cells, takeD, fillD, keep, trim, envOf, Fin, aresl, aresv, resD, argOk, pickV, isP, deq, deqs, boundD, slD, lenD, isT, chunks, mn_min, mx_max, D.cells, splice_one, splice_more, Rbr_at, Rfr_at, frR, frV, frC, flatC, brwR, brwV, brwC, omap, leR, leV, leC, leL, leVL, hlt, ← hx, Load.D, hw, ii]
      exact ⟨_, (i + 1, best), (Gh.ren [0] (by simp [hB0]) (by simp [hB0]) (by simp [eget, rnS, rnR, rnV, rnC, LtS, LtR, LtV, LtC, lget]) (by simp [hget, rnO, rnC, LtO, LtC, lget]) (.inl (by simp [lget]))), by omega, rfl, by omega, hs.symm⟩
    · cases hr : roomB l caps i with
      | false =>
        rw [if_pos (.inr hr)] at hs
        have hr2 : decide ((l.getD i zload).flows < caps.getD i 0) = false := hr
        rw [hr2] at hro
        repeat' (first
          | simp [AK_at, acode_seq, acode_region, acode_draw, acode_cond, ↓CB_t, ↓CB_f, CB_u, acode_block, acode_loop, acode_exit, acode_scope, acode_ret, acode_skip, seqQ_n, seqQ_e, seqQ_r, blockQ_n, blockQ_e, blockQ_r, TK_at, OK_at, SK_at, aops_nil, aops_cons, asch_done, asch_one, asch_two, asch_top, astep, aop_eq, isLoud, aloud, aloud1, isWrite, qv, evS, strip, gof, eget, hget, putO, eput, herase, oks, opnds, gS, afin, afin0, binD, arith, D.cells, takeD, fillD, keep, trim, envOf, Fin, aresl, aresv, resD, argOk, pickV, isP, deq, deqs, boundD, slD, lenD, isT, chunks, mn_min, mx_max, D.cells, splice_one, splice_more, Rbr_at, Rfr_at, frR, frV, frC, flatC, brwR, brwV, brwC, omap, leR, leV, leC, leL, leVL, hlt, ← hx, Load.D, hw, ii, PI]
          | (refine WCall.pf (hro) ?_ ?_ ?_ ?_; (focus (simp [oks, opnds, gS, gof, eget]; done)); (focus (simp [omap, brwV, brwC, evS, eget, strip, hget, leVL, leV, leC, leL, hlt, ← hx, Load.D, hw, ii, PI]; done)); (focus (simp [noV, noC, flatR, flatV, flatC, evS, eget, strip, hlt, ← hx, Load.D, hw, ii, PI]; done)))
          | (refine ⟨WCall.pf (hro) ?_ ?_ ?_ ?_, ?_⟩; (focus (simp [oks, opnds, gS, gof, eget]; done)); (focus (simp [omap, brwV, brwC, evS, eget, strip, hget, leVL, leV, leC, leL, hlt, ← hx, Load.D, hw, ii, PI]; done)); (focus (simp [noV, noC, flatR, flatV, flatC, evS, eget, strip, hlt, ← hx, Load.D, hw, ii, PI]; done)))
          | (with_reducible refine And.intro (And.intro ?_ ?_) ?_)
          | fail)
        exact ⟨_, (i + 1, best), (Gh.ren [0] (by simp [hB0]) (by simp [hB0]) (by simp [eget, rnS, rnR, rnV, rnC, LtS, LtR, LtV, LtC, lget]) (by simp [hget, rnO, rnC, LtO, LtC, lget]) (.inl (by simp [lget]))), by omega, rfl, by omega, hs.symm⟩
      | true =>
        rw [if_neg (by rw [hr]; simp [hw])] at hs
        have hr2 : decide ((l.getD i zload).flows < caps.getD i 0) = true := hr
        rw [hr2] at hro
        by_cases hneg : best < 0
        · rw [if_pos (.inl hneg)] at hs
          obtain rfl : best = -1 := by omega
          have hp0 : 0 < l.length := by omega
          obtain ⟨z0, hz0⟩ : ∃ z0, z0 = l[0] := ⟨_, rfl⟩
          repeat' (first
            | simp [AK_at, acode_seq, acode_region, acode_draw, acode_cond, ↓CB_t, ↓CB_f, CB_u, acode_block, acode_loop, acode_exit, acode_scope, acode_ret, acode_skip, seqQ_n, seqQ_e, seqQ_r, blockQ_n, blockQ_e, blockQ_r, TK_at, OK_at, SK_at, aops_nil, aops_cons, asch_done, asch_one, asch_two, asch_top, astep, aop_eq, isLoud, aloud, aloud1, isWrite, qv, evS, strip, gof, eget, hget, putO, eput, herase, oks, opnds, gS, afin, afin0, binD, arith, D.cells, takeD, fillD, keep, trim, envOf, Fin, aresl, aresv, resD, argOk, pickV, isP, deq, deqs, boundD, slD, lenD, isT, chunks, mn_min, mx_max, D.cells, splice_one, splice_more, Rbr_at, Rfr_at, frR, frV, frC, flatC, brwR, brwV, brwC, omap, leR, leV, leC, leL, leVL, hlt, ← hx, Load.D, hw, ii, PI, hp0, ← hz0]
            | (refine WCall.pf (hro) ?_ ?_ ?_ ?_; (focus (simp [oks, opnds, gS, gof, eget]; done)); (focus (simp [omap, brwV, brwC, evS, eget, strip, hget, leVL, leV, leC, leL, hlt, ← hx, Load.D, hw, ii, PI, hp0, ← hz0]; done)); (focus (simp [noV, noC, flatR, flatV, flatC, evS, eget, strip, hlt, ← hx, Load.D, hw, ii, PI, hp0, ← hz0]; done)))
            | (refine ⟨WCall.pf (hro) ?_ ?_ ?_ ?_, ?_⟩; (focus (simp [oks, opnds, gS, gof, eget]; done)); (focus (simp [omap, brwV, brwC, evS, eget, strip, hget, leVL, leV, leC, leL, hlt, ← hx, Load.D, hw, ii, PI, hp0, ← hz0]; done)); (focus (simp [noV, noC, flatR, flatV, flatC, evS, eget, strip, hlt, ← hx, Load.D, hw, ii, PI, hp0, ← hz0]; done)))
            | (with_reducible refine And.intro (And.intro ?_ ?_) ?_)
            | fail)
          exact ⟨_, (i + 1, (i : Int)), (Gh.ren [0] (by simp [hB0]) (by simp [hB0]) (by simp [eget, rnS, rnR, rnV, rnC, LtS, LtR, LtV, LtC, lget]) (by simp [hget, rnO, rnC, LtO, LtC, lget]) (.inl (by simp [lget]))), by omega, rfl, by omega, hs.symm⟩
        · obtain ⟨k, rfl⟩ : ∃ k : Nat, best = k := ⟨best.toNat, by omega⟩
          have hkl : k < l.length := by omega
          obtain ⟨z, hz⟩ : ∃ z, z = l[k] := ⟨_, rfl⟩
          have hzd : l.getD k zload = z := by rw [hz]; simp [List.getD, hkl]
          have hmz := hm z (hz ▸ List.getElem_mem hkl)
          have m1 : InR (x.flows * z.weight) := mul_bd hmx.2.2.1 hmx.2.2.2 hmz.1 hmz.2.1
          have m2 : InR (z.flows * x.weight) := mul_bd hmz.2.2.1 hmz.2.2.2 hmx.1 hmx.2.1
          simp only [Int.toNat_natCast, hzd] at hs
          by_cases hc : x.flows * z.weight < z.flows * x.weight
          · have hs : leastN l caps (i + 1) = i := by rw [hs]; simp [hc]
            repeat' (first
              | simp [AK_at, acode_seq, acode_region, acode_draw, acode_cond, ↓CB_t, ↓CB_f, CB_u, acode_block, acode_loop, acode_exit, acode_scope, acode_ret, acode_skip, seqQ_n, seqQ_e, seqQ_r, blockQ_n, blockQ_e, blockQ_r, TK_at, OK_at, SK_at, aops_nil, aops_cons, asch_done, asch_one, asch_two, asch_top, astep, aop_eq, isLoud, aloud, aloud1, isWrite, qv, evS, strip, gof, eget, hget, putO, eput, herase, oks, opnds, gS, afin, afin0, binD, arith, D.cells, takeD, fillD, keep, trim, envOf, Fin, aresl, aresv, resD, argOk, pickV, isP, deq, deqs, boundD, slD, lenD, isT, chunks, mn_min, mx_max, D.cells, splice_one, splice_more, Rbr_at, Rfr_at, frR, frV, frC, flatC, brwR, brwV, brwC, omap, leR, leV, leC, leL, leVL, hlt, ← hx, Load.D, hw, ii, PI, hkl, ← hz, m1, m2, hc, hneg]
              | (refine WCall.pf (hro) ?_ ?_ ?_ ?_; (focus (simp [oks, opnds, gS, gof, eget]; done)); (focus (simp [omap, brwV, brwC, evS, eget, strip, hget, leVL, leV, leC, leL, hlt, ← hx, Load.D, hw, ii, PI, hkl, ← hz, m1, m2, hc, hneg]; done)); (focus (simp [noV, noC, flatR, flatV, flatC, evS, eget, strip, hlt, ← hx, Load.D, hw, ii, PI, hkl, ← hz, m1, m2, hc, hneg]; done)))
              | (refine ⟨WCall.pf (hro) ?_ ?_ ?_ ?_, ?_⟩; (focus (simp [oks, opnds, gS, gof, eget]; done)); (focus (simp [omap, brwV, brwC, evS, eget, strip, hget, leVL, leV, leC, leL, hlt, ← hx, Load.D, hw, ii, PI, hkl, ← hz, m1, m2, hc, hneg]; done)); (focus (simp [noV, noC, flatR, flatV, flatC, evS, eget, strip, hlt, ← hx, Load.D, hw, ii, PI, hkl, ← hz, m1, m2, hc, hneg]; done)))
              | (with_reducible refine And.intro (And.intro ?_ ?_) ?_)
              | fail)
            exact ⟨_, (i + 1, (i : Int)), (Gh.ren [0] (by simp [hB0]) (by simp [hB0]) (by simp [eget, rnS, rnR, rnV, rnC, LtS, LtR, LtV, LtC, lget]) (by simp [hget, rnO, rnC, LtO, LtC, lget]) (.inl (by simp [lget]))), by omega, rfl, by omega, hs.symm⟩
          · have hs : leastN l caps (i + 1) = k := by rw [hs, if_neg]; omega
            repeat' (first
              | simp [AK_at, acode_seq, acode_region, acode_draw, acode_cond, ↓CB_t, ↓CB_f, CB_u, acode_block, acode_loop, acode_exit, acode_scope, acode_ret, acode_skip, seqQ_n, seqQ_e, seqQ_r, blockQ_n, blockQ_e, blockQ_r, TK_at, OK_at, SK_at, aops_nil, aops_cons, asch_done, asch_one, asch_two, asch_top, astep, aop_eq, isLoud, aloud, aloud1, isWrite, qv, evS, strip, gof, eget, hget, putO, eput, herase, oks, opnds, gS, afin, afin0, binD, arith, D.cells, takeD, fillD, keep, trim, envOf, Fin, aresl, aresv, resD, argOk, pickV, isP, deq, deqs, boundD, slD, lenD, isT, chunks, mn_min, mx_max, D.cells, splice_one, splice_more, Rbr_at, Rfr_at, frR, frV, frC, flatC, brwR, brwV, brwC, omap, leR, leV, leC, leL, leVL, hlt, ← hx, Load.D, hw, ii, PI, hkl, ← hz, m1, m2, hc, hneg]
              | (refine WCall.pf (hro) ?_ ?_ ?_ ?_; (focus (simp [oks, opnds, gS, gof, eget]; done)); (focus (simp [omap, brwV, brwC, evS, eget, strip, hget, leVL, leV, leC, leL, hlt, ← hx, Load.D, hw, ii, PI, hkl, ← hz, m1, m2, hc, hneg]; done)); (focus (simp [noV, noC, flatR, flatV, flatC, evS, eget, strip, hlt, ← hx, Load.D, hw, ii, PI, hkl, ← hz, m1, m2, hc, hneg]; done)))
              | (refine ⟨WCall.pf (hro) ?_ ?_ ?_ ?_, ?_⟩; (focus (simp [oks, opnds, gS, gof, eget]; done)); (focus (simp [omap, brwV, brwC, evS, eget, strip, hget, leVL, leV, leC, leL, hlt, ← hx, Load.D, hw, ii, PI, hkl, ← hz, m1, m2, hc, hneg]; done)); (focus (simp [noV, noC, flatR, flatV, flatC, evS, eget, strip, hlt, ← hx, Load.D, hw, ii, PI, hkl, ← hz, m1, m2, hc, hneg]; done)))
              | (with_reducible refine And.intro (And.intro ?_ ?_) ?_)
              | fail)
            exact ⟨_, (i + 1, (k : Int)), (Gh.ren [0] (by simp [hB0]) (by simp [hB0]) (by simp [eget, rnS, rnR, rnV, rnC, LtS, LtR, LtV, LtC, lget]) (by simp [hget, rnO, rnC, LtO, LtC, lget]) (.inl (by simp [lget]))), by omega, rfl, by omega, hs.symm⟩
  · have hie : i = l.length := by omega
    subst hie
    simp [AK_at, acode_seq, acode_region, acode_draw, acode_cond, ↓CB_t, ↓CB_f, CB_u, acode_block, acode_loop, acode_exit, acode_scope, acode_ret, acode_skip, seqQ_n, seqQ_e, seqQ_r, blockQ_n, blockQ_e, blockQ_r, TK_at, OK_at, SK_at, aops_nil, aops_cons, asch_done, asch_one, asch_two, asch_top, astep, aop_eq, isLoud, aloud, aloud1, isWrite, qv, evS, strip, gof, eget, hget, putO, eput, herase, oks, opnds, gS, afin, afin0, binD, arith, D.cells, takeD, fillD, keep, trim, envOf, Fin, aresl, aresv, resD, argOk, pickV, isP, deq, deqs, boundD, slD, lenD, isT, chunks, mn_min, mx_max, D.cells, splice_one, splice_more, Rbr_at, Rfr_at, frR, frV, frC, flatC, brwR, brwV, brwC, omap, leR, leV, leC, leL, leVL, hbest]
def pickI (walk : List Int) (l : List Load) (caps : List Int) (t : Int) : Int := if alongZ l caps walk t < 0 then leastN l caps l.length else alongZ l caps walk t
def pickM (walk : List Int) (l : List Load) (num den flows t : Int) : Int × Int :=
  if idxZ (fun x : Load => decide (0 < x.weight)) l < 0 then (0, 11) else
    if pickI walk l (capsOf l num den flows) t < 0 then (0, 9) else ((l.getD (pickI walk l (capsOf l num den flows) t).toNat zload).backend, 0)
theorem alongZ_lo (l : List Load) (caps : List Int) : ∀ (w : List Int) (t : Int), -1 ≤ alongZ l caps w t ∧ alongZ l caps w t < max 1 l.length
  | [], t => by simp only [alongZ]; omega
  | b :: w, t => by
    have h1 := alongZ_lo l caps w t
    have h2 := alongZ_lo l caps w (t - 1)
    have h3 := idxZ_lo (tkB b) l
    have e : alongZ l caps (b :: w) t = if idxZ (tkB b) l < 0 then alongZ l caps w t else if t = 0 then -1 else if roomB l caps (idxZ (tkB b) l).toNat = true then idxZ (tkB b) l else alongZ l caps w (t - 1) := rfl
    rw [e]
    split
    · exact h1
    · split
      · omega
      · split
        · omega
        · exact h2
theorem pick_code : cfun Try.prog [] 26 = some ⟨(.seq (.region 0 [⟨(some 12), (.mov (.k (.int .i64 0))), none⟩, ⟨(some 13), (.mov (.k (.int .i64 0))), none⟩]) (.seq (.region 1 [⟨(some 19), (.mov (.t 1)), none⟩, ⟨(some 20), (.mov (.t 2)), none⟩, ⟨(some 21), (.mov (.t 3)), none⟩, ⟨(some 22), (.mov (.t 4)), none⟩, ⟨(some 23), (.call 43 [(.t 19), (.t 20), (.t 21), (.t 22)]), none⟩, ⟨(some 18), (.mov (.t 23)), none⟩, ⟨(some 24), (.ext (.t 18) 0), none⟩, ⟨(some 25), (.ext (.t 18) 1), none⟩, ⟨(some 14), (.mov (.t 24)), none⟩, ⟨(some 15), (.mov (.t 25)), none⟩]) (.seq (.seq (.region 2 [⟨(some 26), (.mov (.t 15)), none⟩, ⟨(some 27), (.bin .neq (.t 26) (.k (.int .i64 0))), none⟩]) (.cond 27 (.seq (.region 3 [⟨(some 28), (.mov (.t 15)), none⟩, ⟨(some 12), (.mov (.k (.int .i64 0))), none⟩, ⟨(some 13), (.mov (.t 28)), none⟩]) .ret) .skip)) (.seq (.seq (.region 4 [⟨(some 29), (.mov (.t 5)), none⟩, ⟨(some 30), (.bin .lss (.t 29) (.k (.int .i64 0))), none⟩, ⟨(some 31), (.mov (.t 30)), none⟩, ⟨(some 32), (.mov (.t 5)), (some (31, false))⟩, ⟨(some 33), (.bin .gtr (.t 32) (.k (.int .i64 12))), (some (31, false))⟩, ⟨(some 34), (.pick (.t 31) (.k (.bool true)) (.t 33)), none⟩, ⟨(some 35), (.mov (.t 34)), none⟩, ⟨(some 36), (.mov (.t 0)), (some (35, false))⟩, ⟨(some 37), (.len (.t 36)), (some (35, false))⟩, ⟨(some 38), (.bin .gtr (.t 37) (.k (.int .i64 12))), (some (35, false))⟩, ⟨(some 39), (.pick (.t 35) (.k (.bool true)) (.t 38)), none⟩]) (.cond 39 (.seq (.region 5 [⟨(some 12), (.mov (.k (.int .i64 0))), none⟩, ⟨(some 13), (.mov (.k (.int .i64 2))), none⟩]) .ret) .skip)) (.seq (.seq (.region 6 [⟨(some 40), (.mov (.t 1)), none⟩, ⟨(some 41), (.call 46 [(.t 40), (.k (.fn 47 []))]), none⟩, ⟨(some 42), (.not (.t 41)), none⟩]) (.cond 42 (.seq (.region 7 [⟨(some 12), (.mov (.k (.int .i64 0))), none⟩, ⟨(some 13), (.mov (.k (.int .i64 11))), none⟩]) .ret) .skip)) (.seq (.region 8 [⟨(some 43), (.mov (.t 1)), none⟩, ⟨(some 44), (.mov (.t 14)), none⟩, ⟨(some 45), (.build [.nil0, .nil0] [(0, (1, (.t 43))), (1, (1, (.t 44)))]), none⟩, ⟨(some 16), (.alloc [.nil0, .nil0]), none⟩, ⟨none, (.store 2 (.t 16) (.t 45)), none⟩]) (.seq (.region 9 [⟨(some 46), (.load true 2 (.t 16)), none⟩, ⟨(some 47), (.mov (.t 0)), none⟩, ⟨(some 48), (.mov (.t 5)), none⟩, ⟨(some 49), (.call 48 [(.t 46), (.t 47), (.t 48)]), none⟩, ⟨(some 17), (.mov (.t 49)), none⟩]) (.seq (.seq (.region 10 [⟨(some 50), (.mov (.t 17)), none⟩, ⟨(some 51), (.bin .lss (.t 50) (.k (.int .i64 0))), none⟩]) (.cond 51 (.region 11 [⟨(some 52), (.load true 2 (.t 16)), none⟩, ⟨(some 53), (.call 49 [(.t 52)]), none⟩, ⟨(some 17), (.mov (.t 53)), none⟩]) .skip)) (.seq (.seq (.region 12 [⟨(some 54), (.mov (.t 17)), none⟩, ⟨(some 55), (.bin .lss (.t 54) (.k (.int .i64 0))), none⟩]) (.cond 55 (.seq (.region 13 [⟨(some 12), (.mov (.k (.int .i64 0))), none⟩, ⟨(some 13), (.mov (.k (.int .i64 9))), none⟩]) .ret) .skip)) (.seq (.region 14 [⟨(some 56), (.mov (.t 1)), none⟩, ⟨(some 57), (.mov (.t 17)), none⟩, ⟨(some 58), (.iads 3 (.t 56) (.t 57)), none⟩, ⟨(some 59), (.fad 0 (.t 58)), none⟩, ⟨(some 60), (.load false 1 (.t 59)), none⟩, ⟨(some 12), (.mov (.t 60)), none⟩, ⟨(some 13), (.mov (.k (.int .i64 0))), none⟩]) .ret)))))))))), [(.t 12), (.t 13)], 61⟩ := by kernel_rfl
theorem pick_pf (walk : List Int) (l : List Load) (num den flows t : Int) (hl : l.length ≤ 12) (hml : mayL (-1) l) (hf : factorB num den = true) (f0 : 0 ≤ flows) (f1 : flows ≤ 40) (t0 : 0 ≤ t) (t1 : t ≤ 12) (hw : walk.length ≤ 12) :
    PF Try.prog 26 [.rows 1 (walk.map PI), .rows 3 (l.map Load.D), I num, I den, I flows, I t] (.tup [I (pickM walk l num den flows t).1, I (pickM walk l num den flows t).2]) := by
  have hcaps := caps_pf l num den flows hl hml
  have hcr : capsRes l num den flows = [.rows 1 ((capsOf l num den flows).map PI), I 0] := by unfold capsRes; rw [if_pos ⟨hf, f0, f1⟩]; rfl
  rw [hcr] at hcaps
  have hcl : (capsOf l num den flows).length = l.length := by simp [capsOf]
  have hmem := mayL_mem hml
  have hm : ∀ x ∈ l, 0 ≤ x.weight ∧ x.weight ≤ 8 ∧ 0 ≤ x.flows ∧ x.flows ≤ 40 := fun x hx => by have := hmem x hx; omega
  have c1 : ¬ t < 0 := by omega
  have c2 : ¬ 12 < t := by omega
  have c3 : ¬ 12 < (walk.length : Int) := by omega
  have hcf := lcf_pf l 47 (fun x => decide (0 < x.weight)) (by omega) fun x _ => pick1_pf x
  have hz := idxZ_lo (fun x : Load => decide (0 < x.weight)) l
  obtain ⟨caps, hce⟩ : ∃ caps, caps = capsOf l num den flows := ⟨_, rfl⟩
  rw [← hce] at hcaps hcl
  refine PF.of follows_ok pick_code (by simp) (by simp [argOk]) (by simp [noV, noC]) fun B hBN hB0 => acode_sound [0, 1, 2, 3, 4, 5, 12, 13, 14, 15, 16, 17, 27, 39, 42, 51, 55] [] _ _ _ ?_
  simp [AK_at, acode_seq, acode_region, acode_draw, acode_cond, ↓CB_t, ↓CB_f, CB_u, acode_block, acode_loop, acode_exit, acode_scope, acode_ret, acode_skip, seqQ_n, seqQ_e, seqQ_r, blockQ_n, blockQ_e, blockQ_r, TK_at, OK_at, SK_at, aops_nil, aops_cons, asch_done, asch_one, asch_two, asch_top, astep, aop_eq, isLoud, aloud, aloud1, isWrite, qv, evS, strip, gof, eget, hget, putO, eput, herase, oks, opnds, gS, afin, afin0, binD, arith, D.cells, takeD, fillD, keep, trim, envOf, Fin, aresl, aresv, resD, argOk, pickV, isP, deq, deqs, boundD, slD, lenD, isT, chunks, mn_min, mx_max, D.cells, splice_one, splice_more, Rbr_at, Rfr_at, frR, frV, frC, flatC, brwR, brwV, brwC, omap, leR, leV, leC, leL, leVL]
  by_cases hb : idxZ (fun x : Load => decide (0 < x.weight)) l < 0
  · have hp : pickM walk l num den flows t = (0, 11) := by unfold pickM; rw [if_pos hb]
    have hb2 : decide (0 ≤ idxZ (fun x : Load => decide (0 < x.weight)) l) = false := decide_eq_false (by omega)
    rw [hb2] at hcf
    repeat' (first
      | simp [AK_at, acode_seq, acode_region, acode_draw, acode_cond, ↓CB_t, ↓CB_f, CB_u, acode_block, acode_loop, acode_exit, acode_scope, acode_ret, acode_skip, seqQ_n, seqQ_e, seqQ_r, blockQ_n, blockQ_e, blockQ_r, TK_at, OK_at, SK_at, aops_nil, aops_cons, asch_done, asch_one, asch_two, asch_top, astep, aop_eq, isLoud, aloud, aloud1, isWrite, qv, evS, strip, gof, eget, hget, putO, eput, herase, oks, opnds, gS, afin, afin0, binD, arith, D.cells, takeD, fillD, keep, trim, envOf, Fin, aresl, aresv, resD, argOk, pickV, isP, deq, deqs, boundD, slD, lenD, isT, chunks, mn_min, mx_max, D.cells, splice_one, splice_more, Rbr_at, Rfr_at, frR, frV, frC, flatC, brwR, brwV, brwC, omap, leR, leV, leC, leL, leVL, c1, c2, c3, hp]
      | (refine WCall.pf (hcaps) ?_ ?_ ?_ ?_; (focus (simp [oks, opnds, gS, gof, eget]; done)); (focus (simp [omap, brwV, brwC, evS, eget, strip, hget, leVL, leV, leC, leL, c1, c2, c3, hp]; done)); (focus (simp [noV, noC, flatR, flatV, flatC, evS, eget, strip, c1, c2, c3, hp]; done)))
      | (refine ⟨WCall.pf (hcaps) ?_ ?_ ?_ ?_, ?_⟩; (focus (simp [oks, opnds, gS, gof, eget]; done)); (focus (simp [omap, brwV, brwC, evS, eget, strip, hget, leVL, leV, leC, leL, c1, c2, c3, hp]; done)); (focus (simp [noV, noC, flatR, flatV, flatC, evS, eget, strip, c1, c2, c3, hp]; done)))
      | (refine WCall.pf (hcf) ?_ ?_ ?_ ?_; (focus (simp [oks, opnds, gS, gof, eget]; done)); (focus (simp [omap, brwV, brwC, evS, eget, strip, hget, leVL, leV, leC, leL, c1, c2, c3, hp]; done)); (focus (simp [noV, noC, flatR, flatV, flatC, evS, eget, strip, c1, c2, c3, hp]; done)))
      | (refine ⟨WCall.pf (hcf) ?_ ?_ ?_ ?_, ?_⟩; (focus (simp [oks, opnds, gS, gof, eget]; done)); (focus (simp [omap, brwV, brwC, evS, eget, strip, hget, leVL, leV, leC, leL, c1, c2, c3, hp]; done)); (focus (simp [noV, noC, flatR, flatV, flatC, evS, eget, strip, c1, c2, c3, hp]; done)))
      | (with_reducible refine And.intro (And.intro ?_ ?_) ?_)
      | fail)
  · have hb2 : decide (0 ≤ idxZ (fun x : Load => decide (0 < x.weight)) l) = true := decide_eq_true (by omega)
    rw [hb2] at hcf
    have hal := calong_pf l caps walk t hl hcl hw t0 t1
    have hlea := cleast_pf l caps hl hcl hm
    have hlo := alongZ_lo l caps walk t
    have hlo2 := leastN_lo l caps l.length
    have hp : pickM walk l num den flows t = if pickI walk l caps t < 0 then (0, 9) else ((l.getD (pickI walk l caps t).toNat zload).backend, 0) := by unfold pickM; rw [if_neg hb, ← hce]
    by_cases ha : alongZ l caps walk t < 0
    · have hi : pickI walk l caps t = leastN l caps l.length := by unfold pickI; rw [if_pos ha]
      rw [hi] at hp
      by_cases hn : leastN l caps l.length < 0
      · rw [if_pos hn] at hp
        repeat' (first
          | simp [AK_at, acode_seq, acode_region, acode_draw, acode_cond, ↓CB_t, ↓CB_f, CB_u, acode_block, acode_loop, acode_exit, acode_scope, acode_ret, acode_skip, seqQ_n, seqQ_e, seqQ_r, blockQ_n, blockQ_e, blockQ_r, TK_at, OK_at, SK_at, aops_nil, aops_cons, asch_done, asch_one, asch_two, asch_top, astep, aop_eq, isLoud, aloud, aloud1, isWrite, qv, evS, strip, gof, eget, hget, putO, eput, herase, oks, opnds, gS, afin, afin0, binD, arith, D.cells, takeD, fillD, keep, trim, envOf, Fin, aresl, aresv, resD, argOk, pickV, isP, deq, deqs, boundD, slD, lenD, isT, chunks, mn_min, mx_max, D.cells, splice_one, splice_more, Rbr_at, Rfr_at, frR, frV, frC, flatC, brwR, brwV, brwC, omap, leR, leV, leC, leL, leVL, c1, c2, c3, hp, ha, hn]
          | (refine WCall.pf (hcaps) ?_ ?_ ?_ ?_; (focus (simp [oks, opnds, gS, gof, eget]; done)); (focus (simp [omap, brwV, brwC, evS, eget, strip, hget, leVL, leV, leC, leL, c1, c2, c3, hp, ha, hn]; done)); (focus (simp [noV, noC, flatR, flatV, flatC, evS, eget, strip, c1, c2, c3, hp, ha, hn]; done)))
          | (refine ⟨WCall.pf (hcaps) ?_ ?_ ?_ ?_, ?_⟩; (focus (simp [oks, opnds, gS, gof, eget]; done)); (focus (simp [omap, brwV, brwC, evS, eget, strip, hget, leVL, leV, leC, leL, c1, c2, c3, hp, ha, hn]; done)); (focus (simp [noV, noC, flatR, flatV, flatC, evS, eget, strip, c1, c2, c3, hp, ha, hn]; done)))
          | (refine WCall.pf (hcf) ?_ ?_ ?_ ?_; (focus (simp [oks, opnds, gS, gof, eget]; done)); (focus (simp [omap, brwV, brwC, evS, eget, strip, hget, leVL, leV, leC, leL, c1, c2, c3, hp, ha, hn]; done)); (focus (simp [noV, noC, flatR, flatV, flatC, evS, eget, strip, c1, c2, c3, hp, ha, hn]; done)))
          | (refine ⟨WCall.pf (hcf) ?_ ?_ ?_ ?_, ?_⟩; (focus (simp [oks, opnds, gS, gof, eget]; done)); (focus (simp [omap, brwV, brwC, evS, eget, strip, hget, leVL, leV, leC, leL, c1, c2, c3, hp, ha, hn]; done)); (focus (simp [noV, noC, flatR, flatV, flatC, evS, eget, strip, c1, c2, c3, hp, ha, hn]; done)))
          | (refine WCall.pf (hal) ?_ ?_ ?_ ?_; (focus (simp [oks, opnds, gS, gof, eget]; done)); (focus (simp [omap, brwV, brwC, evS, eget, strip, hget, leVL, leV, leC, leL, c1, c2, c3, hp, ha, hn]; done)); (focus (simp [noV, noC, flatR, flatV, flatC, evS, eget, strip, c1, c2, c3, hp, ha, hn]; done)))
          | (refine ⟨WCall.pf (hal) ?_ ?_ ?_ ?_, ?_⟩; (focus (simp [oks, opnds, gS, gof, eget]; done)); (focus (simp [omap, brwV, brwC, evS, eget, strip, hget, leVL, leV, leC, leL, c1, c2, c3, hp, ha, hn]; done)); (focus (simp [noV, noC, flatR, flatV, flatC, evS, eget, strip, c1, c2, c3, hp, ha, hn]; done)))
          | (refine WCall.pf (hlea) ?_ ?_ ?_ ?_; (focus (simp [oks, opnds, gS, gof, eget]; done)); (focus (simp [omap, brwV, brwC, evS, eget, strip, hget, leVL, leV, leC, leL, c1, c2, c3, hp, ha, hn]; done)); (focus (simp [noV, noC, flatR, flatV, flatC, evS, eget, strip, c1, c2, c3, hp, ha, hn]; done)))
          | (refine ⟨WCall.pf (hlea) ?_ ?_ ?_ ?_, ?_⟩; (focus (simp [oks, opnds, gS, gof, eget]; done)); (focus (simp [omap, brwV, brwC, evS, eget, strip, hget, leVL, leV, leC, leL, c1, c2, c3, hp, ha, hn]; done)); (focus (simp [noV, noC, flatR, flatV, flatC, evS, eget, strip, c1, c2, c3, hp, ha, hn]; done)))
          | (with_reducible refine And.intro (And.intro ?_ ?_) ?_)
          | fail)
      · rw [if_neg hn] at hp
        obtain ⟨k, hk⟩ : ∃ k : Nat, leastN l caps l.length = k := ⟨(leastN l caps l.length).toNat, by omega⟩
        rw [hk] at hp hlea hn
        have hkl : k < l.length := by omega
        have e1 : l[k]?.getD zload = l[k] := by simp [hkl]
        repeat' (first
          | simp [AK_at, acode_seq, acode_region, acode_draw, acode_cond, ↓CB_t, ↓CB_f, CB_u, acode_block, acode_loop, acode_exit, acode_scope, acode_ret, acode_skip, seqQ_n, seqQ_e, seqQ_r, blockQ_n, blockQ_e, blockQ_r, TK_at, OK_at, SK_at, aops_nil, aops_cons, asch_done, asch_one, asch_two, asch_top, astep, aop_eq, isLoud, aloud, aloud1, isWrite, qv, evS, strip, gof, eget, hget, putO, eput, herase, oks, opnds, gS, afin, afin0, binD, arith, D.cells, takeD, fillD, keep, trim, envOf, Fin, aresl, aresv, resD, argOk, pickV, isP, deq, deqs, boundD, slD, lenD, isT, chunks, mn_min, mx_max, D.cells, splice_one, splice_more, Rbr_at, Rfr_at, frR, frV, frC, flatC, brwR, brwV, brwC, omap, leR, leV, leC, leL, leVL, c1, c2, c3, hp, ha, hn, hkl, Load.D, e1]
          | (refine WCall.pf (hcaps) ?_ ?_ ?_ ?_; (focus (simp [oks, opnds, gS, gof, eget]; done)); (focus (simp [omap, brwV, brwC, evS, eget, strip, hget, leVL, leV, leC, leL, c1, c2, c3, hp, ha, hn, hkl, Load.D, e1]; done)); (focus (simp [noV, noC, flatR, flatV, flatC, evS, eget, strip, c1, c2, c3, hp, ha, hn, hkl, Load.D, e1]; done)))
          | (refine ⟨WCall.pf (hcaps) ?_ ?_ ?_ ?_, ?_⟩; (focus (simp [oks, opnds, gS, gof, eget]; done)); (focus (simp [omap, brwV, brwC, evS, eget, strip, hget, leVL, leV, leC, leL, c1, c2, c3, hp, ha, hn, hkl, Load.D, e1]; done)); (focus (simp [noV, noC, flatR, flatV, flatC, evS, eget, strip, c1, c2, c3, hp, ha, hn, hkl, Load.D, e1]; done)))
          | (refine WCall.pf (hcf) ?_ ?_ ?_ ?_; (focus (simp [oks, opnds, gS, gof, eget]; done)); (focus (simp [omap, brwV, brwC, evS, eget, strip, hget, leVL, leV, leC, leL, c1, c2, c3, hp, ha, hn, hkl, Load.D, e1]; done)); (focus (simp [noV, noC, flatR, flatV, flatC, evS, eget, strip, c1, c2, c3, hp, ha, hn, hkl, Load.D, e1]; done)))
          | (refine ⟨WCall.pf (hcf) ?_ ?_ ?_ ?_, ?_⟩; (focus (simp [oks, opnds, gS, gof, eget]; done)); (focus (simp [omap, brwV, brwC, evS, eget, strip, hget, leVL, leV, leC, leL, c1, c2, c3, hp, ha, hn, hkl, Load.D, e1]; done)); (focus (simp [noV, noC, flatR, flatV, flatC, evS, eget, strip, c1, c2, c3, hp, ha, hn, hkl, Load.D, e1]; done)))
          | (refine WCall.pf (hal) ?_ ?_ ?_ ?_; (focus (simp [oks, opnds, gS, gof, eget]; done)); (focus (simp [omap, brwV, brwC, evS, eget, strip, hget, leVL, leV, leC, leL, c1, c2, c3, hp, ha, hn, hkl, Load.D, e1]; done)); (focus (simp [noV, noC, flatR, flatV, flatC, evS, eget, strip, c1, c2, c3, hp, ha, hn, hkl, Load.D, e1]; done)))
          | (refine ⟨WCall.pf (hal) ?_ ?_ ?_ ?_, ?_⟩; (focus (simp [oks, opnds, gS, gof, eget]; done)); (focus (simp [omap, brwV, brwC, evS, eget, strip, hget, leVL, leV, leC, leL, c1, c2, c3, hp, ha, hn, hkl, Load.D, e1]; done)); (focus (simp [noV, noC, flatR, flatV, flatC, evS, eget, strip, c1, c2, c3, hp, ha, hn, hkl, Load.D, e1]; done)))
          | (refine WCall.pf (hlea) ?_ ?_ ?_ ?_; (focus (simp [oks, opnds, gS, gof, eget]; done)); (focus (simp [omap, brwV, brwC, evS, eget, strip, hget, leVL, leV, leC, leL, c1, c2, c3, hp, ha, hn, hkl, Load.D, e1]; done)); (focus (simp [noV, noC, flatR, flatV, flatC, evS, eget, strip, c1, c2, c3, hp, ha, hn, hkl, Load.D, e1]; done)))
          | (refine ⟨WCall.pf (hlea) ?_ ?_ ?_ ?_, ?_⟩; (focus (simp [oks, opnds, gS, gof, eget]; done)); (focus (simp [omap, brwV, brwC, evS, eget, strip, hget, leVL, leV, leC, leL, c1, c2, c3, hp, ha, hn, hkl, Load.D, e1]; done)); (focus (simp [noV, noC, flatR, flatV, flatC, evS, eget, strip, c1, c2, c3, hp, ha, hn, hkl, Load.D, e1]; done)))
          | (with_reducible refine And.intro (And.intro ?_ ?_) ?_)
          | fail)
    · have hi : pickI walk l caps t = alongZ l caps walk t := by unfold pickI; rw [if_neg ha]
      rw [hi, if_neg ha] at hp
      obtain ⟨k, hk⟩ : ∃ k : Nat, alongZ l caps walk t = k := ⟨(alongZ l caps walk t).toNat, by omega⟩
      rw [hk] at hp hal ha
      have hl0 : l ≠ [] := fun h => by subst h; simp [idxZ] at hb
      have hpos := List.length_pos_iff.2 hl0
      have hkl : k < l.length := by omega
      have e1 : l[k]?.getD zload = l[k] := by simp [hkl]
      repeat' (first
        | simp [AK_at, acode_seq, acode_region, acode_draw, acode_cond, ↓CB_t, ↓CB_f, CB_u, acode_block, acode_loop, acode_exit, acode_scope, acode_ret, acode_skip, seqQ_n, seqQ_e, seqQ_r, blockQ_n, blockQ_e, blockQ_r, TK_at, OK_at, SK_at, aops_nil, aops_cons, asch_done, asch_one, asch_two, asch_top, astep, aop_eq, isLoud, aloud, aloud1, isWrite, qv, evS, strip, gof, eget, hget, putO, eput, herase, oks, opnds, gS, afin, afin0, binD, arith, D.cells, takeD, fillD, keep, trim, envOf, Fin, aresl, aresv, resD, argOk, pickV, isP, deq, deqs, boundD, slD, lenD, isT, chunks, mn_min, mx_max, D.cells, splice_one, splice_more, Rbr_at, Rfr_at, frR, frV, frC, flatC, brwR, brwV, brwC, omap, leR, leV, leC, leL, leVL, c1, c2, c3, hp, ha, hkl, Load.D, e1]
        | (refine WCall.pf (hcaps) ?_ ?_ ?_ ?_; (focus (simp [oks, opnds, gS, gof, eget]; done)); (focus (simp [omap, brwV, brwC, evS, eget, strip, hget, leVL, leV, leC, leL, c1, c2, c3, hp, ha, hkl, Load.D, e1]; done)); (focus (simp [noV, noC, flatR, flatV, flatC, evS, eget, strip, c1, c2, c3, hp, ha, hkl, Load.D, e1]; done)))
        | (refine ⟨WCall.pf (hcaps) ?_ ?_ ?_ ?_, ?_⟩; (focus (simp [oks, opnds, gS, gof, eget]; done)); (focus (simp [omap, brwV, brwC, evS, eget, strip, hget, leVL, leV, leC, leL, c1, c2, c3, hp, ha, hkl, Load.D, e1]; done)); (focus (simp [noV, noC, flatR, flatV, flatC, evS, eget, strip, c1, c2, c3, hp, ha, hkl, Load.D, e1]; done)))
        | (refine WCall.pf (hcf) ?_ ?_ ?_ ?_; (focus (simp [oks, opnds, gS, gof, eget]; done)); (focus (simp [omap, brwV, brwC, evS, eget, strip, hget, leVL, leV, leC, leL, c1, c2, c3, hp, ha, hkl, Load.D, e1]; done)); (focus (simp [noV, noC, flatR, flatV, flatC, evS, eget, strip, c1, c2, c3, hp, ha, hkl, Load.D, e1]; done)))
        | (refine ⟨WCall.pf (hcf) ?_ ?_ ?_ ?_, ?_⟩; (focus (simp [oks, opnds, gS, gof, eget]; done)); (focus (simp [omap, brwV, brwC, evS, eget, strip, hget, leVL, leV, leC, leL, c1, c2, c3, hp, ha, hkl, Load.D, e1]; done)); (focus (simp [noV, noC, flatR, flatV, flatC, evS, eget, strip, c1, c2, c3, hp, ha, hkl, Load.D, e1]; done)))
        | (refine WCall.pf (hal) ?_ ?_ ?_ ?_; (focus (simp [oks, opnds, gS, gof, eget]; done)); (focus (simp [omap, brwV, brwC, evS, eget, strip, hget, leVL, leV, leC, leL, c1, c2, c3, hp, ha, hkl, Load.D, e1]; done)); (focus (simp [noV, noC, flatR, flatV, flatC, evS, eget, strip, c1, c2, c3, hp, ha, hkl, Load.D, e1]; done)))
        | (refine ⟨WCall.pf (hal) ?_ ?_ ?_ ?_, ?_⟩; (focus (simp [oks, opnds, gS, gof, eget]; done)); (focus (simp [omap, brwV, brwC, evS, eget, strip, hget, leVL, leV, leC, leL, c1, c2, c3, hp, ha, hkl, Load.D, e1]; done)); (focus (simp [noV, noC, flatR, flatV, flatC, evS, eget, strip, c1, c2, c3, hp, ha, hkl, Load.D, e1]; done)))
        | (with_reducible refine And.intro (And.intro ?_ ?_) ?_)
        | fail)
end Go.Proofs.Ytgjngknkokgpjaa
