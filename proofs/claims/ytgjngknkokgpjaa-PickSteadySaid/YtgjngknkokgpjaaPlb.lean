/- This text proves the laws PickFirst and PickLeast over the small machine. It has no condition of its own. -/
import Derived.Test.YtgjngknkokgpjaaPla
set_option linter.unusedSimpArgs false
set_option linter.unusedVariables false
set_option maxRecDepth 100000
set_option maxHeartbeats 2000000
namespace Go.Proofs.Ytgjngknkokgpjaa
open Go.RowKit
theorem loadM_cases {l : List Load} (hb : ∀ i (h : i < l.length), l[i].backend = i) (hok : LOk l) (b : Int) :
    (∃ (k : Nat) (h : k < l.length), b = k ∧ loadM l b = l[k] ∧ 0 < l[k].weight ∧ ofZ l b = k) ∨
    (ofZ l b = -1 ∧ (loadM l b).weight = 0) := by
  by_cases hk : b < 0 ∨ l.length ≤ b
  · right
    refine ⟨ofZ_none hb b (hk.elim .inl fun h => .inr (.inl h)), ?_⟩
    rw [loadM_none hb b hk]
  · obtain ⟨k, rfl⟩ : ∃ k : Nat, b = k := ⟨b.toNat, by omega⟩
    have hkl : k < l.length := by omega
    have hm := loadM_at hb k hkl
    by_cases hw : 0 < l[k].weight
    · exact .inl ⟨k, hkl, rfl, hm, hw, ofZ_place hb k hkl hw⟩
    · refine .inr ⟨ofZ_none hb _ (.inr (.inr ⟨k, hkl, rfl, hw⟩)), ?_⟩
      rw [hm]
      have := hok _ (List.getElem_mem hkl)
      omega
theorem roomB_at {l : List Load} {num den flows : Int} (k : Nat) (hk : k < l.length) (hw : 0 < l[k].weight) :
    roomB l (capsOf l num den flows) k = decide (l[k].flows < capZ num den flows l[k].weight (sumW l)) := by
  unfold roomB
  simp only [List.getD, capsOf, List.getElem?_eq_getElem hk, List.getElem?_map, Option.map_some, Option.getD_some, capOf, if_pos hw]
theorem pfirst_code : cfun Try.prog [] 8 = some ⟨(.seq (.region 0 [⟨(some 6), (.mov (.k (.bool false))), none⟩]) (.seq (.region 1 [⟨(some 19), (.mov (.t 1)), none⟩, ⟨(some 20), (.call 25 [(.t 19)]), none⟩, ⟨(some 18), (.mov (.t 20)), none⟩, ⟨(some 21), (.ext (.t 18) 0), none⟩, ⟨(some 22), (.ext (.t 18) 1), none⟩, ⟨(some 23), (.ext (.t 18) 2), none⟩, ⟨(some 7), (.mov (.t 21)), none⟩, ⟨(some 8), (.mov (.t 22)), none⟩, ⟨(some 9), (.mov (.t 23)), none⟩]) (.seq (.region 2 [⟨(some 24), (.mov (.t 0)), none⟩, ⟨(some 25), (.call 27 [(.t 24)]), none⟩, ⟨(some 10), (.mov (.t 25)), none⟩]) (.seq (.region 3 [⟨(some 26), (.mov (.t 8)), none⟩, ⟨(some 27), (.mov (.t 2)), none⟩, ⟨(some 28), (.call 19 [(.t 27), (.k (.int .i64 4))]), none⟩, ⟨(some 29), (.bin .add (.t 26) (.t 28)), none⟩, ⟨(some 30), (.mn (.t 29) (.k (.int .i64 40))), none⟩, ⟨(some 11), (.mov (.t 30)), none⟩]) (.seq (.region 4 [⟨(some 32), (.mov (.t 10)), none⟩, ⟨(some 33), (.mov (.t 7)), none⟩, ⟨(some 34), (.mov (.t 11)), none⟩, ⟨(some 35), (.call 26 [(.t 32), (.t 33), (.k (.int .i64 5)), (.k (.int .i64 4)), (.t 34), (.k (.int .i64 12))]), none⟩, ⟨(some 31), (.mov (.t 35)), none⟩, ⟨(some 36), (.ext (.t 31) 0), none⟩, ⟨(some 37), (.ext (.t 31) 1), none⟩, ⟨(some 12), (.mov (.t 36)), none⟩, ⟨(some 13), (.mov (.t 37)), none⟩]) (.seq (.seq (.region 5 [⟨(some 38), (.mov (.t 9)), none⟩, ⟨(some 39), (.bin .eql (.t 38) (.k (.int .i64 0))), none⟩]) (.cond 39 (.seq (.region 6 [⟨(some 40), (.mov (.t 13)), none⟩, ⟨(some 41), (.bin .eql (.t 40) (.k (.int .i64 11))), none⟩, ⟨(some 6), (.mov (.t 41)), none⟩]) .ret) .skip)) (.seq (.seq (.region 7 [⟨(some 14), (.mov (.k (.int .i64 0))), none⟩]) (.block 0 (.loop (.seq (.seq (.region 8 [⟨(some 42), (.mov (.t 14)), none⟩, ⟨(some 43), (.mov (.t 10)), none⟩, ⟨(some 44), (.len (.t 43)), none⟩, ⟨(some 45), (.bin .lss (.t 42) (.t 44)), none⟩]) (.cond 45 .skip (.exit 0))) (.seq (.block 1 (.seq (.region 10 [⟨(some 48), (.mov (.t 7)), none⟩, ⟨(some 49), (.mov (.t 10)), none⟩, ⟨(some 50), (.mov (.t 14)), none⟩, ⟨(some 51), (.iads 1 (.t 49) (.t 50)), none⟩, ⟨(some 52), (.load false 1 (.t 51)), none⟩, ⟨(some 53), (.call 28 [(.t 48), (.t 52)]), none⟩, ⟨(some 15), (.alloc [(.int .i64 0), (.int .i64 0), (.int .i64 0)]), none⟩, ⟨none, (.store 3 (.t 15) (.t 53)), none⟩]) (.seq (.seq (.region 11 [⟨(some 54), (.fad 0 (.t 15)), none⟩, ⟨(some 55), (.load false 1 (.t 54)), none⟩, ⟨(some 56), (.bin .lss (.t 55) (.k (.int .i64 0))), none⟩, ⟨(some 57), (.mov (.t 56)), none⟩, ⟨(some 58), (.fad 1 (.t 15)), (some (57, false))⟩, ⟨(some 59), (.load false 1 (.t 58)), (some (57, false))⟩, ⟨(some 60), (.bin .eql (.t 59) (.k (.int .i64 0))), (some (57, false))⟩, ⟨(some 61), (.pick (.t 57) (.k (.bool true)) (.t 60)), none⟩]) (.cond 61 (.exit 1) .skip)) (.seq (.region 12 [⟨(some 63), (.mov (.t 11)), none⟩, ⟨(some 64), (.fad 1 (.t 15)), none⟩, ⟨(some 65), (.load false 1 (.t 64)), none⟩, ⟨(some 66), (.mov (.t 9)), none⟩, ⟨(some 67), (.call 29 [(.k (.int .i64 5)), (.k (.int .i64 4)), (.t 63), (.t 65), (.t 66)]), none⟩, ⟨(some 62), (.mov (.t 67)), none⟩, ⟨(some 68), (.ext (.t 62) 0), none⟩, ⟨(some 69), (.ext (.t 62) 1), none⟩, ⟨(some 16), (.mov (.t 68)), none⟩, ⟨(some 17), (.mov (.t 69)), none⟩]) (.seq (.seq (.region 13 [⟨(some 70), (.mov (.t 17)), none⟩, ⟨(some 71), (.bin .neq (.t 70) (.k (.int .i64 0))), none⟩]) (.cond 71 (.seq (.region 14 [⟨(some 6), (.mov (.k (.bool false))), none⟩]) .ret) .skip)) (.seq (.region 15 [⟨(some 72), (.fad 2 (.t 15)), none⟩, ⟨(some 73), (.load false 1 (.t 72)), none⟩, ⟨(some 74), (.mov (.t 16)), none⟩, ⟨(some 75), (.bin .lss (.t 73) (.t 74)), none⟩]) (.cond 75 (.seq (.region 16 [⟨(some 76), (.mov (.t 13)), none⟩, ⟨(some 77), (.bin .eql (.t 76) (.k (.int .i64 0))), none⟩, ⟨(some 78), (.mov (.t 77)), none⟩, ⟨(some 79), (.mov (.t 12)), (some (78, true))⟩, ⟨(some 80), (.mov (.t 10)), (some (78, true))⟩, ⟨(some 81), (.mov (.t 14)), (some (78, true))⟩, ⟨(some 82), (.iads 1 (.t 80) (.t 81)), (some (78, true))⟩, ⟨(some 83), (.load false 1 (.t 82)), (some (78, true))⟩, ⟨(some 84), (.bin .eql (.t 79) (.t 83)), (some (78, true))⟩, ⟨(some 85), (.pick (.t 78) (.t 84) (.k (.bool false))), none⟩, ⟨(some 6), (.mov (.t 85)), none⟩]) .ret) .skip))))))) (.region 9 [⟨(some 46), (.mov (.t 14)), none⟩, ⟨(some 47), (.bin .add (.t 46) (.k (.int .i64 1))), none⟩, ⟨(some 14), (.mov (.t 47)), none⟩])))))) (.seq (.region 17 [⟨(some 86), (.mov (.t 13)), none⟩, ⟨(some 87), (.bin .eql (.t 86) (.k (.int .i64 0))), none⟩, ⟨(some 6), (.mov (.t 87)), none⟩]) .ret)))))))), [(.t 6)], 88⟩ := by kernel_rfl
theorem pfirst_pf (walk : List Int) (raw : List (List Int)) (more : Int) (hwl : walk.length ≤ Go.maxLen) (hwr : ∀ z ∈ walk, InR z) (hl : raw.length ≤ Go.maxLen) (hr : ∀ r ∈ raw, r.length = 2 ∧ ∀ z ∈ r, InR z) (h3 : InR more) :
    PF Try.prog 8 [.rows 1 (walk.map PI), .rows 2 (raw.map fun r => r.map I), I more] (.bool true) := by
  have pp := parts_pf raw hl hr
  have hfl := parts_flows raw
  have hbk := parts_back raw
  have hok := parts_ok raw
  have hmay := partsL_may raw
  obtain ⟨L, hLe⟩ : ∃ L, L = partsL raw := ⟨_, rfl⟩
  rw [← hLe] at pp hfl hok hmay
  simp only [← hLe] at hbk
  have hmin : min (sumF L) 40 = sumF L := by omega
  rw [hmin] at pp
  have hbw := sumW_bd (l := L) fun y hy => by have := hok y hy; omega
  have pm := picked_pf more 4 h3 (by omega)
  have rm := pickedZ_range more 4 (by omega)
  obtain ⟨m, hm⟩ : ∃ m, m = pickedZ more 4 := ⟨_, rfl⟩
  rw [← hm] at pm rm
  have i5 : InR (sumF L + m) := inr (by omega) (by omega)
  have hmin2 : min (sumF L + m) 40 = sumF L + m := by omega
  have hfac : factorB 5 4 = true := rfl
  have hwo := walkof_pf walk hwl hwr
  have hwok : WOk (walkL walk) := walkN_ok walk _
  obtain ⟨w, hw⟩ : ∃ w, w = walkL walk := ⟨_, rfl⟩
  rw [← hw] at hwo hwok
  have hlen := hwok.len
  have hpk := pick_pf w L 5 4 (sumF L + m) 12 hmay.1 hmay.2 hfac (by omega) (by omega) (by omega) (by omega) hlen
  refine PF.of follows_ok pfirst_code (by simp) (by simp [argOk]) (by simp [noV, noC]) fun B hBN hB0 => acode_sound [0, 1, 2, 6, 7, 8, 9, 10, 11, 12, 13, 14, 15, 16, 17, 39, 45, 61, 71, 75] [] _ _ _ ?_
  simp [AK_at, acode_seq, acode_region, acode_draw, acode_cond, ↓CB_t, ↓CB_f, CB_u, acode_block, acode_loop, acode_exit, acode_scope, acode_ret, acode_skip, seqQ_n, seqQ_e, seqQ_r, blockQ_n, blockQ_e, blockQ_r, TK_at, OK_at, SK_at, aops_nil, aops_cons, asch_done, asch_one, asch_two, asch_top, astep, aop_eq, isLoud, aloud, aloud1, isWrite, qv, evS, strip, gof, eget, hget, putO, eput, herase, oks, opnds, gS, afin, afin0, binD, arith, D.cells, takeD, fillD, keep, trim, envOf, Fin, aresl, aresv, resD, argOk, pickV, isP, deq, deqs, boundD, slD, lenD, isT, chunks, mn_min, mx_max, D.cells, splice_one, splice_more, Rbr_at, Rfr_at, frR, frV, frC, flatC, brwR, brwV, brwC, omap, leR, leV, leC, leL, leVL]
  by_cases hw0 : sumW L = 0
  · rw [pickM_busy _ L 5 4 _ 12 hok hw0] at hpk
    repeat' (first
      | simp [AK_at, acode_seq, acode_region, acode_draw, acode_cond, ↓CB_t, ↓CB_f, CB_u, acode_block, acode_loop, acode_exit, acode_scope, acode_ret, acode_skip, seqQ_n, seqQ_e, seqQ_r, blockQ_n, blockQ_e, blockQ_r, TK_at, OK_at, SK_at, aops_nil, aops_cons, asch_done, asch_one, asch_two, asch_top, astep, aop_eq, isLoud, aloud, aloud1, isWrite, qv, evS, strip, gof, eget, hget, putO, eput, herase, oks, opnds, gS, afin, afin0, binD, arith, D.cells, takeD, fillD, keep, trim, envOf, Fin, aresl, aresv, resD, argOk, pickV, isP, deq, deqs, boundD, slD, lenD, isT, chunks, mn_min, mx_max, D.cells, splice_one, splice_more, Rbr_at, Rfr_at, frR, frV, frC, flatC, brwR, brwV, brwC, omap, leR, leV, leC, leL, leVL, i5, hmin2, hw0]
      | (refine WCall.pf (pp) ?_ ?_ ?_ ?_; (focus (simp [oks, opnds, gS, gof, eget]; done)); (focus (simp [omap, brwV, brwC, evS, eget, strip, hget, leVL, leV, leC, leL, i5, hmin2, hw0]; done)); (focus (simp [noV, noC, flatR, flatV, flatC, evS, eget, strip, i5, hmin2, hw0]; done)))
      | (refine ⟨WCall.pf (pp) ?_ ?_ ?_ ?_, ?_⟩; (focus (simp [oks, opnds, gS, gof, eget]; done)); (focus (simp [omap, brwV, brwC, evS, eget, strip, hget, leVL, leV, leC, leL, i5, hmin2, hw0]; done)); (focus (simp [noV, noC, flatR, flatV, flatC, evS, eget, strip, i5, hmin2, hw0]; done)))
      | (refine WCall.pf (hwo) ?_ ?_ ?_ ?_; (focus (simp [oks, opnds, gS, gof, eget]; done)); (focus (simp [omap, brwV, brwC, evS, eget, strip, hget, leVL, leV, leC, leL, i5, hmin2, hw0]; done)); (focus (simp [noV, noC, flatR, flatV, flatC, evS, eget, strip, i5, hmin2, hw0]; done)))
      | (refine ⟨WCall.pf (hwo) ?_ ?_ ?_ ?_, ?_⟩; (focus (simp [oks, opnds, gS, gof, eget]; done)); (focus (simp [omap, brwV, brwC, evS, eget, strip, hget, leVL, leV, leC, leL, i5, hmin2, hw0]; done)); (focus (simp [noV, noC, flatR, flatV, flatC, evS, eget, strip, i5, hmin2, hw0]; done)))
      | (refine WCall.pf (pm) ?_ ?_ ?_ ?_; (focus (simp [oks, opnds, gS, gof, eget]; done)); (focus (simp [omap, brwV, brwC, evS, eget, strip, hget, leVL, leV, leC, leL, i5, hmin2, hw0]; done)); (focus (simp [noV, noC, flatR, flatV, flatC, evS, eget, strip, i5, hmin2, hw0]; done)))
      | (refine ⟨WCall.pf (pm) ?_ ?_ ?_ ?_, ?_⟩; (focus (simp [oks, opnds, gS, gof, eget]; done)); (focus (simp [omap, brwV, brwC, evS, eget, strip, hget, leVL, leV, leC, leL, i5, hmin2, hw0]; done)); (focus (simp [noV, noC, flatR, flatV, flatC, evS, eget, strip, i5, hmin2, hw0]; done)))
      | (refine WCall.pf (hpk) ?_ ?_ ?_ ?_; (focus (simp [oks, opnds, gS, gof, eget]; done)); (focus (simp [omap, brwV, brwC, evS, eget, strip, hget, leVL, leV, leC, leL, i5, hmin2, hw0]; done)); (focus (simp [noV, noC, flatR, flatV, flatC, evS, eget, strip, i5, hmin2, hw0]; done)))
      | (refine ⟨WCall.pf (hpk) ?_ ?_ ?_ ?_, ?_⟩; (focus (simp [oks, opnds, gS, gof, eget]; done)); (focus (simp [omap, brwV, brwC, evS, eget, strip, hget, leVL, leV, leC, leL, i5, hmin2, hw0]; done)); (focus (simp [noV, noC, flatR, flatV, flatC, evS, eget, strip, i5, hmin2, hw0]; done)))
      | (with_reducible refine And.intro (And.intro ?_ ?_) ?_)
      | fail)
  · obtain ⟨k, hk, hkI, hkw, hkr, hM⟩ := pickI_at w L 5 4 (sumF L + m) 12 hfac hok (by omega) (by omega) hw0
    rw [hM, hbk k hk] at hpk
    repeat' (first
      | simp [AK_at, acode_seq, acode_region, acode_draw, acode_cond, ↓CB_t, ↓CB_f, CB_u, acode_block, acode_loop, acode_exit, acode_scope, acode_ret, acode_skip, seqQ_n, seqQ_e, seqQ_r, blockQ_n, blockQ_e, blockQ_r, TK_at, OK_at, SK_at, aops_nil, aops_cons, asch_done, asch_one, asch_two, asch_top, astep, aop_eq, isLoud, aloud, aloud1, isWrite, qv, evS, strip, gof, eget, hget, putO, eput, herase, oks, opnds, gS, afin, afin0, binD, arith, D.cells, takeD, fillD, keep, trim, envOf, Fin, aresl, aresv, resD, argOk, pickV, isP, deq, deqs, boundD, slD, lenD, isT, chunks, mn_min, mx_max, D.cells, splice_one, splice_more, Rbr_at, Rfr_at, frR, frV, frC, flatC, brwR, brwV, brwC, omap, leR, leV, leC, leL, leVL, i5, hmin2, hw0]
      | (refine WCall.pf (pp) ?_ ?_ ?_ ?_; (focus (simp [oks, opnds, gS, gof, eget]; done)); (focus (simp [omap, brwV, brwC, evS, eget, strip, hget, leVL, leV, leC, leL, i5, hmin2, hw0]; done)); (focus (simp [noV, noC, flatR, flatV, flatC, evS, eget, strip, i5, hmin2, hw0]; done)))
      | (refine ⟨WCall.pf (pp) ?_ ?_ ?_ ?_, ?_⟩; (focus (simp [oks, opnds, gS, gof, eget]; done)); (focus (simp [omap, brwV, brwC, evS, eget, strip, hget, leVL, leV, leC, leL, i5, hmin2, hw0]; done)); (focus (simp [noV, noC, flatR, flatV, flatC, evS, eget, strip, i5, hmin2, hw0]; done)))
      | (refine WCall.pf (hwo) ?_ ?_ ?_ ?_; (focus (simp [oks, opnds, gS, gof, eget]; done)); (focus (simp [omap, brwV, brwC, evS, eget, strip, hget, leVL, leV, leC, leL, i5, hmin2, hw0]; done)); (focus (simp [noV, noC, flatR, flatV, flatC, evS, eget, strip, i5, hmin2, hw0]; done)))
      | (refine ⟨WCall.pf (hwo) ?_ ?_ ?_ ?_, ?_⟩; (focus (simp [oks, opnds, gS, gof, eget]; done)); (focus (simp [omap, brwV, brwC, evS, eget, strip, hget, leVL, leV, leC, leL, i5, hmin2, hw0]; done)); (focus (simp [noV, noC, flatR, flatV, flatC, evS, eget, strip, i5, hmin2, hw0]; done)))
      | (refine WCall.pf (pm) ?_ ?_ ?_ ?_; (focus (simp [oks, opnds, gS, gof, eget]; done)); (focus (simp [omap, brwV, brwC, evS, eget, strip, hget, leVL, leV, leC, leL, i5, hmin2, hw0]; done)); (focus (simp [noV, noC, flatR, flatV, flatC, evS, eget, strip, i5, hmin2, hw0]; done)))
      | (refine ⟨WCall.pf (pm) ?_ ?_ ?_ ?_, ?_⟩; (focus (simp [oks, opnds, gS, gof, eget]; done)); (focus (simp [omap, brwV, brwC, evS, eget, strip, hget, leVL, leV, leC, leL, i5, hmin2, hw0]; done)); (focus (simp [noV, noC, flatR, flatV, flatC, evS, eget, strip, i5, hmin2, hw0]; done)))
      | (refine WCall.pf (hpk) ?_ ?_ ?_ ?_; (focus (simp [oks, opnds, gS, gof, eget]; done)); (focus (simp [omap, brwV, brwC, evS, eget, strip, hget, leVL, leV, leC, leL, i5, hmin2, hw0]; done)); (focus (simp [noV, noC, flatR, flatV, flatC, evS, eget, strip, i5, hmin2, hw0]; done)))
      | (refine ⟨WCall.pf (hpk) ?_ ?_ ?_ ?_, ?_⟩; (focus (simp [oks, opnds, gS, gof, eget]; done)); (focus (simp [omap, brwV, brwC, evS, eget, strip, hget, leVL, leV, leC, leL, i5, hmin2, hw0]; done)); (focus (simp [noV, noC, flatR, flatV, flatC, evS, eget, strip, i5, hmin2, hw0]; done)))
      | (with_reducible refine And.intro (And.intro ?_ ?_) ?_)
      | fail)
    obtain ⟨caps, hce⟩ : ∃ caps, caps = capsOf L 5 4 (sumF L + m) := ⟨_, rfl⟩
    rw [← hce] at hkI hkr
    refine W.loopS (fun y : Nat × Int => ⟨[(14, I y.1), (13, I 0), (12, I (k : Int)), (11, I (sumF L + m)), (10, D.rows 1 (w.map PI)), (9, I (sumW L)), (7, D.rows 3 (L.map Load.D))], [], 0⟩)
      (fun n y => n = w.length - y.1 ∧ y.1 ≤ w.length ∧ (w.length : Int) - y.1 ≤ y.2 ∧ alongZ L caps (w.drop y.1) y.2 = alongZ L caps w 12) ?_ ?_
    · exact ⟨_, (0, 12), (Gh.ren [] (by simp [hB0]) (by simp [hB0]) (by simp [eget, rnS, rnR, rnV, rnC, LtS, LtR, LtV, LtC, lget]) (by simp [hget, rnO, rnC, LtO, LtC, lget]) (.inr rfl)), rfl, by omega, by simp only; omega, by simp⟩
    rintro n ⟨i, t⟩ ⟨hn, hi, ht, ha⟩
    simp only at hn hi ht ha
    refine acode_sound [0, 1, 2, 6, 7, 8, 9, 10, 11, 12, 13, 14, 15, 16, 17, 39, 45, 61, 71, 75] [] _ _ _ ?_
    by_cases hlt : i < w.length
    · obtain ⟨b, hb⟩ : ∃ b, b = w[i] := ⟨_, rfl⟩
      have hd : w.drop i = b :: w.drop (i + 1) := by rw [hb]; exact List.drop_eq_getElem_cons hlt
      rw [hd] at ha
      simp only [alongZ] at ha
      have ii : InR ((i : Int) + 1) := inr (by omega) (by omega)
      have hlo := loadof_pf L b (by have := hmay.1; omega)
      rcases loadM_cases hbk hok b with ⟨q, hq, hbq, hlm, hqw, hqo⟩ | ⟨hqo, hqw⟩
      · rw [hlm] at hlo
        have hqb := hbk q hq
        obtain ⟨x, hx⟩ : ∃ x, x = L[q] := ⟨_, rfl⟩
        have hxm : x ∈ L := hx ▸ List.getElem_mem hq
        have hra := roomB_at (l := L) (num := 5) (den := 4) (flows := sumF L + m) q hq hqw
        rw [← hx] at hlo hqw hqb hra
        rw [← hce] at hra
        have hxo := hok x hxm
        have hxs := sumW_mem (fun y hy => by have := hok y hy; omega) x hxm
        have hcap := cap_pf 5 4 (sumF L + m) x.weight (sumW L) hfac (by omega) (by omega) (by omega) hxs (by have := hmay.1; omega)
        obtain ⟨c, hc⟩ : ∃ c, c = capZ 5 4 (sumF L + m) x.weight (sumW L) := ⟨_, rfl⟩
        rw [← hc] at hra hcap
        have e1 : ¬ x.backend < 0 := by omega
        have e2 : ¬ x.weight = 0 := by omega
        rw [hqo, if_neg (by omega), if_neg (by omega)] at ha
        have ha : (if roomB L caps q = true then (q : Int) else alongZ L caps (w.drop (i + 1)) (t - 1)) = alongZ L caps w 12 := ha
        by_cases hroom : x.flows < c
        · rw [hra, if_pos (decide_eq_true hroom)] at ha
          have hkq : q = k := by
            unfold pickI at hkI
            rw [← ha, if_neg (by omega)] at hkI
            omega
          subst hkq
          repeat' (first
            | simp [AK_at, acode_seq, acode_region, acode_draw, acode_cond, ↓CB_t, ↓CB_f, CB_u, acode_block, acode_loop, acode_exit, acode_scope, acode_ret, acode_skip, seqQ_n, seqQ_e, seqQ_r, blockQ_n, blockQ_e, blockQ_r, TK_at, OK_at, SK_at, aops_nil, aops_cons, asch_done, asch_one, asch_two, asch_top, astep, aop_eq, isLoud, aloud, aloud1, isWrite, qv, evS, strip, gof, eget, hget, putO, eput, herase, oks, opnds, gS, afin, afin0, binD, arith, D.cells, takeD, fillD, keep, trim, envOf, Fin, aresl, aresv, resD, argOk, pickV, isP, deq, deqs, boundD, slD, lenD, isT, chunks, mn_min, mx_max, D.cells, splice_one, splice_more, Rbr_at, Rfr_at, frR, frV, frC, flatC, brwR, brwV, brwC, omap, leR, leV, leC, leL, leVL, hlt, ← hb, PI, Load.D, e1, e2, hroom, hbq]
            | (refine WCall.pf (hlo) ?_ ?_ ?_ ?_; (focus (simp [oks, opnds, gS, gof, eget]; done)); (focus (simp [omap, brwV, brwC, evS, eget, strip, hget, leVL, leV, leC, leL, hlt, ← hb, PI, Load.D, e1, e2, hroom, hbq]; done)); (focus (simp [noV, noC, flatR, flatV, flatC, evS, eget, strip, hlt, ← hb, PI, Load.D, e1, e2, hroom, hbq]; done)))
            | (refine ⟨WCall.pf (hlo) ?_ ?_ ?_ ?_, ?_⟩; (focus (simp [oks, opnds, gS, gof, eget]; done)); (focus (simp [omap, brwV, brwC, evS, eget, strip, hget, leVL, leV, leC, leL, hlt, ← hb, PI, Load.D, e1, e2, hroom, hbq]; done)); (focus (simp [noV, noC, flatR, flatV, flatC, evS, eget, strip, hlt, ← hb, PI, Load.D, e1, e2, hroom, hbq]; done)))
            | (refine WCall.pf (hcap) ?_ ?_ ?_ ?_; (focus (simp [oks, opnds, gS, gof, eget]; done)); (focus (simp [omap, brwV, brwC, evS, eget, strip, hget, leVL, leV, leC, leL, hlt, ← hb, PI, Load.D, e1, e2, hroom, hbq]; done)); (focus (simp [noV, noC, flatR, flatV, flatC, evS, eget, strip, hlt, ← hb, PI, Load.D, e1, e2, hroom, hbq]; done)))
            | (refine ⟨WCall.pf (hcap) ?_ ?_ ?_ ?_, ?_⟩; (focus (simp [oks, opnds, gS, gof, eget]; done)); (focus (simp [omap, brwV, brwC, evS, eget, strip, hget, leVL, leV, leC, leL, hlt, ← hb, PI, Load.D, e1, e2, hroom, hbq]; done)); (focus (simp [noV, noC, flatR, flatV, flatC, evS, eget, strip, hlt, ← hb, PI, Load.D, e1, e2, hroom, hbq]; done)))
            | (with_reducible refine And.intro (And.intro ?_ ?_) ?_)
            | fail)
        · rw [hra, if_neg (by simpa using hroom)] at ha
          repeat' (first
            | simp [AK_at, acode_seq, acode_region, acode_draw, acode_cond, ↓CB_t, ↓CB_f, CB_u, acode_block, acode_loop, acode_exit, acode_scope, acode_ret, acode_skip, seqQ_n, seqQ_e, seqQ_r, blockQ_n, blockQ_e, blockQ_r, TK_at, OK_at, SK_at, aops_nil, aops_cons, asch_done, asch_one, asch_two, asch_top, astep, aop_eq, isLoud, aloud, aloud1, isWrite, qv, evS, strip, gof, eget, hget, putO, eput, herase, oks, opnds, gS, afin, afin0, binD, arith, D.cells, takeD, fillD, keep, trim, envOf, Fin, aresl, aresv, resD, argOk, pickV, isP, deq, deqs, boundD, slD, lenD, isT, chunks, mn_min, mx_max, D.cells, splice_one, splice_more, Rbr_at, Rfr_at, frR, frV, frC, flatC, brwR, brwV, brwC, omap, leR, leV, leC, leL, leVL, hlt, ← hb, PI, Load.D, e1, e2, hroom, ii]
            | (refine WCall.pf (hlo) ?_ ?_ ?_ ?_; (focus (simp [oks, opnds, gS, gof, eget]; done)); (focus (simp [omap, brwV, brwC, evS, eget, strip, hget, leVL, leV, leC, leL, hlt, ← hb, PI, Load.D, e1, e2, hroom, ii]; done)); (focus (simp [noV, noC, flatR, flatV, flatC, evS, eget, strip, hlt, ← hb, PI, Load.D, e1, e2, hroom, ii]; done)))
            | (refine ⟨WCall.pf (hlo) ?_ ?_ ?_ ?_, ?_⟩; (focus (simp [oks, opnds, gS, gof, eget]; done)); (focus (simp [omap, brwV, brwC, evS, eget, strip, hget, leVL, leV, leC, leL, hlt, ← hb, PI, Load.D, e1, e2, hroom, ii]; done)); (focus (simp [noV, noC, flatR, flatV, flatC, evS, eget, strip, hlt, ← hb, PI, Load.D, e1, e2, hroom, ii]; done)))
            | (refine WCall.pf (hcap) ?_ ?_ ?_ ?_; (focus (simp [oks, opnds, gS, gof, eget]; done)); (focus (simp [omap, brwV, brwC, evS, eget, strip, hget, leVL, leV, leC, leL, hlt, ← hb, PI, Load.D, e1, e2, hroom, ii]; done)); (focus (simp [noV, noC, flatR, flatV, flatC, evS, eget, strip, hlt, ← hb, PI, Load.D, e1, e2, hroom, ii]; done)))
            | (refine ⟨WCall.pf (hcap) ?_ ?_ ?_ ?_, ?_⟩; (focus (simp [oks, opnds, gS, gof, eget]; done)); (focus (simp [omap, brwV, brwC, evS, eget, strip, hget, leVL, leV, leC, leL, hlt, ← hb, PI, Load.D, e1, e2, hroom, ii]; done)); (focus (simp [noV, noC, flatR, flatV, flatC, evS, eget, strip, hlt, ← hb, PI, Load.D, e1, e2, hroom, ii]; done)))
            | (with_reducible refine And.intro (And.intro ?_ ?_) ?_)
            | fail)
          exact ⟨_, (i + 1, t - 1), (Gh.ren [] (by simp [hB0]) (by simp [hB0]) (by simp [eget, rnS, rnR, rnV, rnC, LtS, LtR, LtV, LtC, lget]) (by simp [hget, rnO, rnC, LtO, LtC, lget]) (.inr rfl)), by omega, rfl, by omega, by simp only; omega, ha⟩
      · rw [hqo, if_pos (by omega)] at ha
        obtain ⟨x, hx⟩ : ∃ x, x = loadM L b := ⟨_, rfl⟩
        rw [← hx] at hlo hqw
        by_cases hxb : x.backend < 0
        · skip
          repeat' (first
            | simp [AK_at, acode_seq, acode_region, acode_draw, acode_cond, ↓CB_t, ↓CB_f, CB_u, acode_block, acode_loop, acode_exit, acode_scope, acode_ret, acode_skip, seqQ_n, seqQ_e, seqQ_r, blockQ_n, blockQ_e, blockQ_r, TK_at, OK_at, SK_at, aops_nil, aops_cons, asch_done, asch_one, asch_two, asch_top, astep, aop_eq, isLoud, aloud, aloud1, isWrite, qv, evS, strip, gof, eget, hget, putO, eput, herase, oks, opnds, gS, afin, afin0, binD, arith, D.cells, takeD, fillD, keep, trim, envOf, Fin, aresl, aresv, resD, argOk, pickV, isP, deq, deqs, boundD, slD, lenD, isT, chunks, mn_min, mx_max, D.cells, splice_one, splice_more, Rbr_at, Rfr_at, frR, frV, frC, flatC, brwR, brwV, brwC, omap, leR, leV, leC, leL, leVL, hlt, ← hb, PI, Load.D, hxb, hqw, ii]
            | (refine WCall.pf (hlo) ?_ ?_ ?_ ?_; (focus (simp [oks, opnds, gS, gof, eget]; done)); (focus (simp [omap, brwV, brwC, evS, eget, strip, hget, leVL, leV, leC, leL, hlt, ← hb, PI, Load.D, hxb, hqw, ii]; done)); (focus (simp [noV, noC, flatR, flatV, flatC, evS, eget, strip, hlt, ← hb, PI, Load.D, hxb, hqw, ii]; done)))
            | (refine ⟨WCall.pf (hlo) ?_ ?_ ?_ ?_, ?_⟩; (focus (simp [oks, opnds, gS, gof, eget]; done)); (focus (simp [omap, brwV, brwC, evS, eget, strip, hget, leVL, leV, leC, leL, hlt, ← hb, PI, Load.D, hxb, hqw, ii]; done)); (focus (simp [noV, noC, flatR, flatV, flatC, evS, eget, strip, hlt, ← hb, PI, Load.D, hxb, hqw, ii]; done)))
            | (with_reducible refine And.intro (And.intro ?_ ?_) ?_)
            | fail)
          exact ⟨_, (i + 1, t), (Gh.ren [] (by simp [hB0]) (by simp [hB0]) (by simp [eget, rnS, rnR, rnV, rnC, LtS, LtR, LtV, LtC, lget]) (by simp [hget, rnO, rnC, LtO, LtC, lget]) (.inr rfl)), by omega, rfl, by omega, by simp only; omega, ha⟩
        · skip
          repeat' (first
            | simp [AK_at, acode_seq, acode_region, acode_draw, acode_cond, ↓CB_t, ↓CB_f, CB_u, acode_block, acode_loop, acode_exit, acode_scope, acode_ret, acode_skip, seqQ_n, seqQ_e, seqQ_r, blockQ_n, blockQ_e, blockQ_r, TK_at, OK_at, SK_at, aops_nil, aops_cons, asch_done, asch_one, asch_two, asch_top, astep, aop_eq, isLoud, aloud, aloud1, isWrite, qv, evS, strip, gof, eget, hget, putO, eput, herase, oks, opnds, gS, afin, afin0, binD, arith, D.cells, takeD, fillD, keep, trim, envOf, Fin, aresl, aresv, resD, argOk, pickV, isP, deq, deqs, boundD, slD, lenD, isT, chunks, mn_min, mx_max, D.cells, splice_one, splice_more, Rbr_at, Rfr_at, frR, frV, frC, flatC, brwR, brwV, brwC, omap, leR, leV, leC, leL, leVL, hlt, ← hb, PI, Load.D, hxb, hqw, ii]
            | (refine WCall.pf (hlo) ?_ ?_ ?_ ?_; (focus (simp [oks, opnds, gS, gof, eget]; done)); (focus (simp [omap, brwV, brwC, evS, eget, strip, hget, leVL, leV, leC, leL, hlt, ← hb, PI, Load.D, hxb, hqw, ii]; done)); (focus (simp [noV, noC, flatR, flatV, flatC, evS, eget, strip, hlt, ← hb, PI, Load.D, hxb, hqw, ii]; done)))
            | (refine ⟨WCall.pf (hlo) ?_ ?_ ?_ ?_, ?_⟩; (focus (simp [oks, opnds, gS, gof, eget]; done)); (focus (simp [omap, brwV, brwC, evS, eget, strip, hget, leVL, leV, leC, leL, hlt, ← hb, PI, Load.D, hxb, hqw, ii]; done)); (focus (simp [noV, noC, flatR, flatV, flatC, evS, eget, strip, hlt, ← hb, PI, Load.D, hxb, hqw, ii]; done)))
            | (with_reducible refine And.intro (And.intro ?_ ?_) ?_)
            | fail)
          exact ⟨_, (i + 1, t), (Gh.ren [] (by simp [hB0]) (by simp [hB0]) (by simp [eget, rnS, rnR, rnV, rnC, LtS, LtR, LtV, LtC, lget]) (by simp [hget, rnO, rnC, LtO, LtC, lget]) (.inr rfl)), by omega, rfl, by omega, by simp only; omega, ha⟩
    · have hie : i = w.length := by omega
      subst hie
      simp [AK_at, acode_seq, acode_region, acode_draw, acode_cond, ↓CB_t, ↓CB_f, CB_u, acode_block, acode_loop, acode_exit, acode_scope, acode_ret, acode_skip, seqQ_n, seqQ_e, seqQ_r, blockQ_n, blockQ_e, blockQ_r, TK_at, OK_at, SK_at, aops_nil, aops_cons, asch_done, asch_one, asch_two, asch_top, astep, aop_eq, isLoud, aloud, aloud1, isWrite, qv, evS, strip, gof, eget, hget, putO, eput, herase, oks, opnds, gS, afin, afin0, binD, arith, D.cells, takeD, fillD, keep, trim, envOf, Fin, aresl, aresv, resD, argOk, pickV, isP, deq, deqs, boundD, slD, lenD, isT, chunks, mn_min, mx_max, D.cells, splice_one, splice_more, Rbr_at, Rfr_at, frR, frV, frC, flatC, brwR, brwV, brwC, omap, leR, leV, leC, leL, leVL]
theorem pleast_code : cfun Try.prog [] 9 = some ⟨(.seq (.region 0 [⟨(some 6), (.mov (.k (.bool false))), none⟩]) (.seq (.region 1 [⟨(some 19), (.mov (.t 1)), none⟩, ⟨(some 20), (.call 25 [(.t 19)]), none⟩, ⟨(some 18), (.mov (.t 20)), none⟩, ⟨(some 21), (.ext (.t 18) 0), none⟩, ⟨(some 22), (.ext (.t 18) 1), none⟩, ⟨(some 23), (.ext (.t 18) 2), none⟩, ⟨(some 7), (.mov (.t 21)), none⟩, ⟨(some 8), (.mov (.t 22)), none⟩, ⟨(some 9), (.mov (.t 23)), none⟩]) (.seq (.region 2 [⟨(some 24), (.mov (.t 8)), none⟩, ⟨(some 25), (.mov (.t 2)), none⟩, ⟨(some 26), (.call 19 [(.t 25), (.k (.int .i64 4))]), none⟩, ⟨(some 27), (.bin .add (.t 24) (.t 26)), none⟩, ⟨(some 28), (.mn (.t 27) (.k (.int .i64 40))), none⟩, ⟨(some 10), (.mov (.t 28)), none⟩]) (.seq (.region 3 [⟨(some 30), (.mov (.t 0)), none⟩, ⟨(some 31), (.call 27 [(.t 30)]), none⟩, ⟨(some 32), (.mov (.t 7)), none⟩, ⟨(some 33), (.mov (.t 10)), none⟩, ⟨(some 34), (.call 26 [(.t 31), (.t 32), (.k (.int .i64 5)), (.k (.int .i64 4)), (.t 33), (.k (.int .i64 0))]), none⟩, ⟨(some 29), (.mov (.t 34)), none⟩, ⟨(some 35), (.ext (.t 29) 0), none⟩, ⟨(some 36), (.ext (.t 29) 1), none⟩, ⟨(some 11), (.mov (.t 35)), none⟩, ⟨(some 12), (.mov (.t 36)), none⟩]) (.seq (.seq (.region 4 [⟨(some 37), (.mov (.t 9)), none⟩, ⟨(some 38), (.bin .eql (.t 37) (.k (.int .i64 0))), none⟩]) (.cond 38 (.seq (.region 5 [⟨(some 39), (.mov (.t 12)), none⟩, ⟨(some 40), (.bin .eql (.t 39) (.k (.int .i64 11))), none⟩, ⟨(some 6), (.mov (.t 40)), none⟩]) .ret) .skip)) (.seq (.region 6 [⟨(some 41), (.mov (.t 7)), none⟩, ⟨(some 42), (.mov (.t 11)), none⟩, ⟨(some 43), (.call 28 [(.t 41), (.t 42)]), none⟩, ⟨(some 13), (.alloc [(.int .i64 0), (.int .i64 0), (.int .i64 0)]), none⟩, ⟨none, (.store 3 (.t 13) (.t 43)), none⟩]) (.seq (.seq (.region 7 [⟨(some 44), (.mov (.t 12)), none⟩, ⟨(some 45), (.bin .neq (.t 44) (.k (.int .i64 0))), none⟩, ⟨(some 46), (.mov (.t 45)), none⟩, ⟨(some 47), (.fad 1 (.t 13)), (some (46, false))⟩, ⟨(some 48), (.load false 1 (.t 47)), (some (46, false))⟩, ⟨(some 49), (.bin .eql (.t 48) (.k (.int .i64 0))), (some (46, false))⟩, ⟨(some 50), (.pick (.t 46) (.k (.bool true)) (.t 49)), none⟩]) (.cond 50 (.seq (.region 8 [⟨(some 6), (.mov (.k (.bool false))), none⟩]) .ret) .skip)) (.seq (.seq (.region 9 [⟨(some 14), (.mov (.k (.int .i64 0))), none⟩]) (.block 0 (.loop (.seq (.seq (.region 10 [⟨(some 51), (.mov (.t 14)), none⟩, ⟨(some 52), (.mov (.t 7)), none⟩, ⟨(some 53), (.len (.t 52)), none⟩, ⟨(some 54), (.bin .lss (.t 51) (.t 53)), none⟩]) (.cond 54 .skip (.exit 0))) (.seq (.block 1 (.seq (.region 12 [⟨(some 57), (.mov (.t 7)), none⟩, ⟨(some 58), (.mov (.t 14)), none⟩, ⟨(some 59), (.iads 3 (.t 57) (.t 58)), none⟩, ⟨(some 60), (.load true 3 (.t 59)), none⟩, ⟨(some 15), (.alloc [(.int .i64 0), (.int .i64 0), (.int .i64 0)]), none⟩, ⟨none, (.store 3 (.t 15) (.t 60)), none⟩]) (.seq (.seq (.region 13 [⟨(some 61), (.fad 1 (.t 15)), none⟩, ⟨(some 62), (.load false 1 (.t 61)), none⟩, ⟨(some 63), (.bin .eql (.t 62) (.k (.int .i64 0))), none⟩]) (.cond 63 (.exit 1) .skip)) (.seq (.region 14 [⟨(some 65), (.mov (.t 10)), none⟩, ⟨(some 66), (.fad 1 (.t 15)), none⟩, ⟨(some 67), (.load false 1 (.t 66)), none⟩, ⟨(some 68), (.mov (.t 9)), none⟩, ⟨(some 69), (.call 29 [(.k (.int .i64 5)), (.k (.int .i64 4)), (.t 65), (.t 67), (.t 68)]), none⟩, ⟨(some 64), (.mov (.t 69)), none⟩, ⟨(some 70), (.ext (.t 64) 0), none⟩, ⟨(some 71), (.ext (.t 64) 1), none⟩, ⟨(some 16), (.mov (.t 70)), none⟩, ⟨(some 17), (.mov (.t 71)), none⟩]) (.seq (.region 15 [⟨(some 72), (.mov (.t 17)), none⟩, ⟨(some 73), (.bin .neq (.t 72) (.k (.int .i64 0))), none⟩, ⟨(some 74), (.mov (.t 73)), none⟩, ⟨(some 75), (.fad 2 (.t 15)), (some (74, false))⟩, ⟨(some 76), (.load false 1 (.t 75)), (some (74, false))⟩, ⟨(some 77), (.mov (.t 16)), (some (74, false))⟩, ⟨(some 78), (.bin .lss (.t 76) (.t 77)), (some (74, false))⟩, ⟨(some 79), (.mov (.t 78)), (some (74, false))⟩, ⟨(some 80), (.fad 2 (.t 15)), (some (79, true))⟩, ⟨(some 81), (.load false 1 (.t 80)), (some (79, true))⟩, ⟨(some 82), (.fad 1 (.t 13)), (some (79, true))⟩, ⟨(some 83), (.load false 1 (.t 82)), (some (79, true))⟩, ⟨(some 84), (.bin .mul (.t 81) (.t 83)), (some (79, true))⟩, ⟨(some 85), (.fad 2 (.t 13)), (some (79, true))⟩, ⟨(some 86), (.load false 1 (.t 85)), (some (79, true))⟩, ⟨(some 87), (.fad 1 (.t 15)), (some (79, true))⟩, ⟨(some 88), (.load false 1 (.t 87)), (some (79, true))⟩, ⟨(some 89), (.bin .mul (.t 86) (.t 88)), (some (79, true))⟩, ⟨(some 90), (.bin .lss (.t 84) (.t 89)), (some (79, true))⟩, ⟨(some 91), (.pick (.t 79) (.t 90) (.k (.bool false))), (some (74, false))⟩, ⟨(some 92), (.pick (.t 74) (.k (.bool true)) (.t 91)), none⟩]) (.cond 92 (.seq (.region 16 [⟨(some 6), (.mov (.k (.bool false))), none⟩]) .ret) .skip)))))) (.region 11 [⟨(some 55), (.mov (.t 14)), none⟩, ⟨(some 56), (.bin .add (.t 55) (.k (.int .i64 1))), none⟩, ⟨(some 14), (.mov (.t 56)), none⟩])))))) (.seq (.region 17 [⟨(some 6), (.mov (.k (.bool true))), none⟩]) .ret))))))))), [(.t 6)], 93⟩ := by kernel_rfl
theorem pleast_pf (walk : List Int) (raw : List (List Int)) (more : Int) (hwl : walk.length ≤ Go.maxLen) (hwr : ∀ z ∈ walk, InR z) (hl : raw.length ≤ Go.maxLen) (hr : ∀ r ∈ raw, r.length = 2 ∧ ∀ z ∈ r, InR z) (h3 : InR more) :
    PF Try.prog 9 [.rows 1 (walk.map PI), .rows 2 (raw.map fun r => r.map I), I more] (.bool true) := by
  have pp := parts_pf raw hl hr
  have hfl := parts_flows raw
  have hbk := parts_back raw
  have hok := parts_ok raw
  have hmay := partsL_may raw
  obtain ⟨L, hLe⟩ : ∃ L, L = partsL raw := ⟨_, rfl⟩
  rw [← hLe] at pp hfl hok hmay
  simp only [← hLe] at hbk
  have hmin : min (sumF L) 40 = sumF L := by omega
  rw [hmin] at pp
  have hbw := sumW_bd (l := L) fun y hy => by have := hok y hy; omega
  have pm := picked_pf more 4 h3 (by omega)
  have rm := pickedZ_range more 4 (by omega)
  obtain ⟨m, hm⟩ : ∃ m, m = pickedZ more 4 := ⟨_, rfl⟩
  rw [← hm] at pm rm
  have i5 : InR (sumF L + m) := inr (by omega) (by omega)
  have hmin2 : min (sumF L + m) 40 = sumF L + m := by omega
  have hfac : factorB 5 4 = true := rfl
  have hwo := walkof_pf walk hwl hwr
  have hwok : WOk (walkL walk) := walkN_ok walk _
  obtain ⟨w, hw⟩ : ∃ w, w = walkL walk := ⟨_, rfl⟩
  rw [← hw] at hwo hwok
  have hlen := hwok.len
  have hpk := pick_pf w L 5 4 (sumF L + m) 0 hmay.1 hmay.2 hfac (by omega) (by omega) (by omega) (by omega) hlen
  refine PF.of follows_ok pleast_code (by simp) (by simp [argOk]) (by simp [noV, noC]) fun B hBN hB0 => acode_sound [0, 1, 2, 6, 7, 8, 9, 10, 11, 12, 13, 14, 15, 16, 17, 38, 50, 54, 63, 92] [] _ _ _ ?_
  simp [AK_at, acode_seq, acode_region, acode_draw, acode_cond, ↓CB_t, ↓CB_f, CB_u, acode_block, acode_loop, acode_exit, acode_scope, acode_ret, acode_skip, seqQ_n, seqQ_e, seqQ_r, blockQ_n, blockQ_e, blockQ_r, TK_at, OK_at, SK_at, aops_nil, aops_cons, asch_done, asch_one, asch_two, asch_top, astep, aop_eq, isLoud, aloud, aloud1, isWrite, qv, evS, strip, gof, eget, hget, putO, eput, herase, oks, opnds, gS, afin, afin0, binD, arith, D.cells, takeD, fillD, keep, trim, envOf, Fin, aresl, aresv, resD, argOk, pickV, isP, deq, deqs, boundD, slD, lenD, isT, chunks, mn_min, mx_max, D.cells, splice_one, splice_more, Rbr_at, Rfr_at, frR, frV, frC, flatC, brwR, brwV, brwC, omap, leR, leV, leC, leL, leVL]
  by_cases hw0 : sumW L = 0
  · rw [pickM_busy _ L 5 4 _ 0 hok hw0] at hpk
    repeat' (first
      | simp [AK_at, acode_seq, acode_region, acode_draw, acode_cond, ↓CB_t, ↓CB_f, CB_u, acode_block, acode_loop, acode_exit, acode_scope, acode_ret, acode_skip, seqQ_n, seqQ_e, seqQ_r, blockQ_n, blockQ_e, blockQ_r, TK_at, OK_at, SK_at, aops_nil, aops_cons, asch_done, asch_one, asch_two, asch_top, astep, aop_eq, isLoud, aloud, aloud1, isWrite, qv, evS, strip, gof, eget, hget, putO, eput, herase, oks, opnds, gS, afin, afin0, binD, arith, D.cells, takeD, fillD, keep, trim, envOf, Fin, aresl, aresv, resD, argOk, pickV, isP, deq, deqs, boundD, slD, lenD, isT, chunks, mn_min, mx_max, D.cells, splice_one, splice_more, Rbr_at, Rfr_at, frR, frV, frC, flatC, brwR, brwV, brwC, omap, leR, leV, leC, leL, leVL, i5, hmin2, hw0]
      | (refine WCall.pf (pp) ?_ ?_ ?_ ?_; (focus (simp [oks, opnds, gS, gof, eget]; done)); (focus (simp [omap, brwV, brwC, evS, eget, strip, hget, leVL, leV, leC, leL, i5, hmin2, hw0]; done)); (focus (simp [noV, noC, flatR, flatV, flatC, evS, eget, strip, i5, hmin2, hw0]; done)))
      | (refine ⟨WCall.pf (pp) ?_ ?_ ?_ ?_, ?_⟩; (focus (simp [oks, opnds, gS, gof, eget]; done)); (focus (simp [omap, brwV, brwC, evS, eget, strip, hget, leVL, leV, leC, leL, i5, hmin2, hw0]; done)); (focus (simp [noV, noC, flatR, flatV, flatC, evS, eget, strip, i5, hmin2, hw0]; done)))
      | (refine WCall.pf (pm) ?_ ?_ ?_ ?_; (focus (simp [oks, opnds, gS, gof, eget]; done)); (focus (simp [omap, brwV, brwC, evS, eget, strip, hget, leVL, leV, leC, leL, i5, hmin2, hw0]; done)); (focus (simp [noV, noC, flatR, flatV, flatC, evS, eget, strip, i5, hmin2, hw0]; done)))
      | (refine ⟨WCall.pf (pm) ?_ ?_ ?_ ?_, ?_⟩; (focus (simp [oks, opnds, gS, gof, eget]; done)); (focus (simp [omap, brwV, brwC, evS, eget, strip, hget, leVL, leV, leC, leL, i5, hmin2, hw0]; done)); (focus (simp [noV, noC, flatR, flatV, flatC, evS, eget, strip, i5, hmin2, hw0]; done)))
      | (refine WCall.pf (hwo) ?_ ?_ ?_ ?_; (focus (simp [oks, opnds, gS, gof, eget]; done)); (focus (simp [omap, brwV, brwC, evS, eget, strip, hget, leVL, leV, leC, leL, i5, hmin2, hw0]; done)); (focus (simp [noV, noC, flatR, flatV, flatC, evS, eget, strip, i5, hmin2, hw0]; done)))
      | (refine ⟨WCall.pf (hwo) ?_ ?_ ?_ ?_, ?_⟩; (focus (simp [oks, opnds, gS, gof, eget]; done)); (focus (simp [omap, brwV, brwC, evS, eget, strip, hget, leVL, leV, leC, leL, i5, hmin2, hw0]; done)); (focus (simp [noV, noC, flatR, flatV, flatC, evS, eget, strip, i5, hmin2, hw0]; done)))
      | (refine WCall.pf (hpk) ?_ ?_ ?_ ?_; (focus (simp [oks, opnds, gS, gof, eget]; done)); (focus (simp [omap, brwV, brwC, evS, eget, strip, hget, leVL, leV, leC, leL, i5, hmin2, hw0]; done)); (focus (simp [noV, noC, flatR, flatV, flatC, evS, eget, strip, i5, hmin2, hw0]; done)))
      | (refine ⟨WCall.pf (hpk) ?_ ?_ ?_ ?_, ?_⟩; (focus (simp [oks, opnds, gS, gof, eget]; done)); (focus (simp [omap, brwV, brwC, evS, eget, strip, hget, leVL, leV, leC, leL, i5, hmin2, hw0]; done)); (focus (simp [noV, noC, flatR, flatV, flatC, evS, eget, strip, i5, hmin2, hw0]; done)))
      | (with_reducible refine And.intro (And.intro ?_ ?_) ?_)
      | fail)
  · obtain ⟨k, hk, hkI, hkw, hkr, hM⟩ := pickI_at w L 5 4 (sumF L + m) 0 hfac hok (by omega) (by omega) hw0
    rw [hM, hbk k hk] at hpk
    have hlo := loadof_pf L k (by have := hmay.1; omega)
    rw [loadM_at hbk k hk] at hlo
    have hle : ∀ j (hj : j < L.length), 0 < L[j].weight → roomB L (capsOf L 5 4 (sumF L + m)) j = true → L[k].flows * L[j].weight ≤ L[j].flows * L[k].weight := fun j hj hjw hjr => by
      unfold pickI at hkI
      rw [alongZ_zero, if_pos (by omega)] at hkI
      have h2 := ((leastN_at L (capsOf L 5 4 (sumF L + m)) hok L.length (Nat.le_refl _)).2 k hkI).2.2.2 j hj
      simp only [List.getD, List.getElem?_eq_getElem hj, List.getElem?_eq_getElem hk, Option.getD_some] at h2
      exact h2 (by omega) hjr
    have hko := hok _ (List.getElem_mem hk)
    obtain ⟨x, hx⟩ : ∃ x, x = L[k] := ⟨_, rfl⟩
    rw [← hx] at hlo hkw hko
    simp only [← hx] at hle
    have e2 : ¬ x.weight = 0 := by omega
    repeat' (first
      | simp [AK_at, acode_seq, acode_region, acode_draw, acode_cond, ↓CB_t, ↓CB_f, CB_u, acode_block, acode_loop, acode_exit, acode_scope, acode_ret, acode_skip, seqQ_n, seqQ_e, seqQ_r, blockQ_n, blockQ_e, blockQ_r, TK_at, OK_at, SK_at, aops_nil, aops_cons, asch_done, asch_one, asch_two, asch_top, astep, aop_eq, isLoud, aloud, aloud1, isWrite, qv, evS, strip, gof, eget, hget, putO, eput, herase, oks, opnds, gS, afin, afin0, binD, arith, D.cells, takeD, fillD, keep, trim, envOf, Fin, aresl, aresv, resD, argOk, pickV, isP, deq, deqs, boundD, slD, lenD, isT, chunks, mn_min, mx_max, D.cells, splice_one, splice_more, Rbr_at, Rfr_at, frR, frV, frC, flatC, brwR, brwV, brwC, omap, leR, leV, leC, leL, leVL, i5, hmin2, hw0, e2, Load.D]
      | (refine WCall.pf (pp) ?_ ?_ ?_ ?_; (focus (simp [oks, opnds, gS, gof, eget]; done)); (focus (simp [omap, brwV, brwC, evS, eget, strip, hget, leVL, leV, leC, leL, i5, hmin2, hw0, e2, Load.D]; done)); (focus (simp [noV, noC, flatR, flatV, flatC, evS, eget, strip, i5, hmin2, hw0, e2, Load.D]; done)))
      | (refine ⟨WCall.pf (pp) ?_ ?_ ?_ ?_, ?_⟩; (focus (simp [oks, opnds, gS, gof, eget]; done)); (focus (simp [omap, brwV, brwC, evS, eget, strip, hget, leVL, leV, leC, leL, i5, hmin2, hw0, e2, Load.D]; done)); (focus (simp [noV, noC, flatR, flatV, flatC, evS, eget, strip, i5, hmin2, hw0, e2, Load.D]; done)))
      | (refine WCall.pf (pm) ?_ ?_ ?_ ?_; (focus (simp [oks, opnds, gS, gof, eget]; done)); (focus (simp [omap, brwV, brwC, evS, eget, strip, hget, leVL, leV, leC, leL, i5, hmin2, hw0, e2, Load.D]; done)); (focus (simp [noV, noC, flatR, flatV, flatC, evS, eget, strip, i5, hmin2, hw0, e2, Load.D]; done)))
      | (refine ⟨WCall.pf (pm) ?_ ?_ ?_ ?_, ?_⟩; (focus (simp [oks, opnds, gS, gof, eget]; done)); (focus (simp [omap, brwV, brwC, evS, eget, strip, hget, leVL, leV, leC, leL, i5, hmin2, hw0, e2, Load.D]; done)); (focus (simp [noV, noC, flatR, flatV, flatC, evS, eget, strip, i5, hmin2, hw0, e2, Load.D]; done)))
      | (refine WCall.pf (hwo) ?_ ?_ ?_ ?_; (focus (simp [oks, opnds, gS, gof, eget]; done)); (focus (simp [omap, brwV, brwC, evS, eget, strip, hget, leVL, leV, leC, leL, i5, hmin2, hw0, e2, Load.D]; done)); (focus (simp [noV, noC, flatR, flatV, flatC, evS, eget, strip, i5, hmin2, hw0, e2, Load.D]; done)))
      | (refine ⟨WCall.pf (hwo) ?_ ?_ ?_ ?_, ?_⟩; (focus (simp [oks, opnds, gS, gof, eget]; done)); (focus (simp [omap, brwV, brwC, evS, eget, strip, hget, leVL, leV, leC, leL, i5, hmin2, hw0, e2, Load.D]; done)); (focus (simp [noV, noC, flatR, flatV, flatC, evS, eget, strip, i5, hmin2, hw0, e2, Load.D]; done)))
      | (refine WCall.pf (hpk) ?_ ?_ ?_ ?_; (focus (simp [oks, opnds, gS, gof, eget]; done)); (focus (simp [omap, brwV, brwC, evS, eget, strip, hget, leVL, leV, leC, leL, i5, hmin2, hw0, e2, Load.D]; done)); (focus (simp [noV, noC, flatR, flatV, flatC, evS, eget, strip, i5, hmin2, hw0, e2, Load.D]; done)))
      | (refine ⟨WCall.pf (hpk) ?_ ?_ ?_ ?_, ?_⟩; (focus (simp [oks, opnds, gS, gof, eget]; done)); (focus (simp [omap, brwV, brwC, evS, eget, strip, hget, leVL, leV, leC, leL, i5, hmin2, hw0, e2, Load.D]; done)); (focus (simp [noV, noC, flatR, flatV, flatC, evS, eget, strip, i5, hmin2, hw0, e2, Load.D]; done)))
      | (refine WCall.pf (hlo) ?_ ?_ ?_ ?_; (focus (simp [oks, opnds, gS, gof, eget]; done)); (focus (simp [omap, brwV, brwC, evS, eget, strip, hget, leVL, leV, leC, leL, i5, hmin2, hw0, e2, Load.D]; done)); (focus (simp [noV, noC, flatR, flatV, flatC, evS, eget, strip, i5, hmin2, hw0, e2, Load.D]; done)))
      | (refine ⟨WCall.pf (hlo) ?_ ?_ ?_ ?_, ?_⟩; (focus (simp [oks, opnds, gS, gof, eget]; done)); (focus (simp [omap, brwV, brwC, evS, eget, strip, hget, leVL, leV, leC, leL, i5, hmin2, hw0, e2, Load.D]; done)); (focus (simp [noV, noC, flatR, flatV, flatC, evS, eget, strip, i5, hmin2, hw0, e2, Load.D]; done)))
      | (with_reducible refine And.intro (And.intro ?_ ?_) ?_)
      | fail)
    refine W.loopS (fun i : Nat => ⟨[(14, I i), (13, .ptr 0 0), (10, I (sumF L + m)), (9, I (sumW L)), (7, D.rows 3 (L.map Load.D))], [(0, .cells [I x.backend, I x.weight, I x.flows])], 1⟩)
      (fun n i => n = L.length - i ∧ i ≤ L.length) ?_ ?_
    · exact ⟨_, 0, (Gh.ren [0] (by simp [hB0]) (by simp [hB0]) (by simp [eget, rnS, rnR, rnV, rnC, LtS, LtR, LtV, LtC, lget]) (by simp [hget, rnO, rnC, LtO, LtC, lget]) (.inl (by simp [lget]))), rfl, by omega⟩
    rintro n i ⟨hn, hi⟩
    refine acode_sound [0, 1, 2, 6, 7, 8, 9, 10, 11, 12, 13, 14, 15, 16, 17, 38, 50, 54, 63, 92] [] _ _ _ ?_
    by_cases hlt : i < L.length
    · have ii : InR ((i : Int) + 1) := inr (by omega) (by omega)
      have hyo := hok _ (List.getElem_mem hlt)
      have hli := hle i hlt
      have hra := roomB_at (l := L) (num := 5) (den := 4) (flows := sumF L + m) i hlt
      have hys := sumW_mem (fun y hy => by have := hok y hy; omega) _ (List.getElem_mem hlt)
      obtain ⟨y, hy⟩ : ∃ y, y = L[i] := ⟨_, rfl⟩
      rw [← hy] at hyo hli hra hys
      by_cases hyw : y.weight = 0
      · skip
        repeat' (first
          | simp [AK_at, acode_seq, acode_region, acode_draw, acode_cond, ↓CB_t, ↓CB_f, CB_u, acode_block, acode_loop, acode_exit, acode_scope, acode_ret, acode_skip, seqQ_n, seqQ_e, seqQ_r, blockQ_n, blockQ_e, blockQ_r, TK_at, OK_at, SK_at, aops_nil, aops_cons, asch_done, asch_one, asch_two, asch_top, astep, aop_eq, isLoud, aloud, aloud1, isWrite, qv, evS, strip, gof, eget, hget, putO, eput, herase, oks, opnds, gS, afin, afin0, binD, arith, D.cells, takeD, fillD, keep, trim, envOf, Fin, aresl, aresv, resD, argOk, pickV, isP, deq, deqs, boundD, slD, lenD, isT, chunks, mn_min, mx_max, D.cells, splice_one, splice_more, Rbr_at, Rfr_at, frR, frV, frC, flatC, brwR, brwV, brwC, omap, leR, leV, leC, leL, leVL, hlt, ← hy, Load.D, hyw, ii]
          | (refine WCall.pf () ?_ ?_ ?_ ?_; (focus (simp [oks, opnds, gS, gof, eget]; done)); (focus (simp [omap, brwV, brwC, evS, eget, strip, hget, leVL, leV, leC, leL, hlt, ← hy, Load.D, hyw, ii]; done)); (focus (simp [noV, noC, flatR, flatV, flatC, evS, eget, strip, hlt, ← hy, Load.D, hyw, ii]; done)))
          | (refine ⟨WCall.pf () ?_ ?_ ?_ ?_, ?_⟩; (focus (simp [oks, opnds, gS, gof, eget]; done)); (focus (simp [omap, brwV, brwC, evS, eget, strip, hget, leVL, leV, leC, leL, hlt, ← hy, Load.D, hyw, ii]; done)); (focus (simp [noV, noC, flatR, flatV, flatC, evS, eget, strip, hlt, ← hy, Load.D, hyw, ii]; done)))
          | (with_reducible refine And.intro (And.intro ?_ ?_) ?_)
          | fail)
        exact ⟨_, i + 1, (Gh.ren [0] (by simp [hB0]) (by simp [hB0]) (by simp [eget, rnS, rnR, rnV, rnC, LtS, LtR, LtV, LtC, lget]) (by simp [hget, rnO, rnC, LtO, LtC, lget]) (.inl (by simp [lget]))), by omega, rfl, by omega⟩
      · have hcap := cap_pf 5 4 (sumF L + m) y.weight (sumW L) hfac (by omega) (by omega) (by omega) hys (by have := hmay.1; omega)
        obtain ⟨c, hc⟩ : ∃ c, c = capZ 5 4 (sumF L + m) y.weight (sumW L) := ⟨_, rfl⟩
        rw [← hc] at hra hcap
        by_cases hroom : y.flows < c
        · have hnl : ¬ y.flows * x.weight < x.flows * y.weight := by
            have := hli (by omega) ((hra (by omega)).trans (decide_eq_true hroom))
            omega
          have m1 : InR (y.flows * x.weight) := mul_bd hyo.2.2.1 hyo.2.2.2 hko.1 hko.2.1
          have m2 : InR (x.flows * y.weight) := mul_bd hko.2.2.1 hko.2.2.2 hyo.1 hyo.2.1
          repeat' (first
            | simp [AK_at, acode_seq, acode_region, acode_draw, acode_cond, ↓CB_t, ↓CB_f, CB_u, acode_block, acode_loop, acode_exit, acode_scope, acode_ret, acode_skip, seqQ_n, seqQ_e, seqQ_r, blockQ_n, blockQ_e, blockQ_r, TK_at, OK_at, SK_at, aops_nil, aops_cons, asch_done, asch_one, asch_two, asch_top, astep, aop_eq, isLoud, aloud, aloud1, isWrite, qv, evS, strip, gof, eget, hget, putO, eput, herase, oks, opnds, gS, afin, afin0, binD, arith, D.cells, takeD, fillD, keep, trim, envOf, Fin, aresl, aresv, resD, argOk, pickV, isP, deq, deqs, boundD, slD, lenD, isT, chunks, mn_min, mx_max, D.cells, splice_one, splice_more, Rbr_at, Rfr_at, frR, frV, frC, flatC, brwR, brwV, brwC, omap, leR, leV, leC, leL, leVL, hlt, ← hy, Load.D, hyw, hroom, hnl, m1, m2, ii]
            | (refine WCall.pf (hcap) ?_ ?_ ?_ ?_; (focus (simp [oks, opnds, gS, gof, eget]; done)); (focus (simp [omap, brwV, brwC, evS, eget, strip, hget, leVL, leV, leC, leL, hlt, ← hy, Load.D, hyw, hroom, hnl, m1, m2, ii]; done)); (focus (simp [noV, noC, flatR, flatV, flatC, evS, eget, strip, hlt, ← hy, Load.D, hyw, hroom, hnl, m1, m2, ii]; done)))
            | (refine ⟨WCall.pf (hcap) ?_ ?_ ?_ ?_, ?_⟩; (focus (simp [oks, opnds, gS, gof, eget]; done)); (focus (simp [omap, brwV, brwC, evS, eget, strip, hget, leVL, leV, leC, leL, hlt, ← hy, Load.D, hyw, hroom, hnl, m1, m2, ii]; done)); (focus (simp [noV, noC, flatR, flatV, flatC, evS, eget, strip, hlt, ← hy, Load.D, hyw, hroom, hnl, m1, m2, ii]; done)))
            | (with_reducible refine And.intro (And.intro ?_ ?_) ?_)
            | fail)
          exact ⟨_, i + 1, (Gh.ren [0] (by simp [hB0]) (by simp [hB0]) (by simp [eget, rnS, rnR, rnV, rnC, LtS, LtR, LtV, LtC, lget]) (by simp [hget, rnO, rnC, LtO, LtC, lget]) (.inl (by simp [lget]))), by omega, rfl, by omega⟩
        · skip
          repeat' (first
            | simp [AK_at, acode_seq, acode_region, acode_draw, acode_cond, ↓CB_t, ↓CB_f, CB_u, acode_block, acode_loop, acode_exit, acode_scope, acode_ret, acode_skip, seqQ_n, seqQ_e, seqQ_r, blockQ_n, blockQ_e, blockQ_r, TK_at, OK_at, SK_at, aops_nil, aops_cons, asch_done, asch_one, asch_two, asch_top, astep, aop_eq, isLoud, aloud, aloud1, isWrite, qv, evS, strip, gof, eget, hget, putO, eput, herase, oks, opnds, gS, afin, afin0, binD, arith, D.cells, takeD, fillD, keep, trim, envOf, Fin, aresl, aresv, resD, argOk, pickV, isP, deq, deqs, boundD, slD, lenD, isT, chunks, mn_min, mx_max, D.cells, splice_one, splice_more, Rbr_at, Rfr_at, frR, frV, frC, flatC, brwR, brwV, brwC, omap, leR, leV, leC, leL, leVL, hlt, ← hy, Load.D, hyw, hroom, ii]
            | (refine WCall.pf (hcap) ?_ ?_ ?_ ?_; (focus (simp [oks, opnds, gS, gof, eget]; done)); (focus (simp [omap, brwV, brwC, evS, eget, strip, hget, leVL, leV, leC, leL, hlt, ← hy, Load.D, hyw, hroom, ii]; done)); (focus (simp [noV, noC, flatR, flatV, flatC, evS, eget, strip, hlt, ← hy, Load.D, hyw, hroom, ii]; done)))
            | (refine ⟨WCall.pf (hcap) ?_ ?_ ?_ ?_, ?_⟩; (focus (simp [oks, opnds, gS, gof, eget]; done)); (focus (simp [omap, brwV, brwC, evS, eget, strip, hget, leVL, leV, leC, leL, hlt, ← hy, Load.D, hyw, hroom, ii]; done)); (focus (simp [noV, noC, flatR, flatV, flatC, evS, eget, strip, hlt, ← hy, Load.D, hyw, hroom, ii]; done)))
            | (with_reducible refine And.intro (And.intro ?_ ?_) ?_)
            | fail)
          exact ⟨_, i + 1, (Gh.ren [0] (by simp [hB0]) (by simp [hB0]) (by simp [eget, rnS, rnR, rnV, rnC, LtS, LtR, LtV, LtC, lget]) (by simp [hget, rnO, rnC, LtO, LtC, lget]) (.inl (by simp [lget]))), by omega, rfl, by omega⟩
    · have hie : i = L.length := by omega
      subst hie
      simp [AK_at, acode_seq, acode_region, acode_draw, acode_cond, ↓CB_t, ↓CB_f, CB_u, acode_block, acode_loop, acode_exit, acode_scope, acode_ret, acode_skip, seqQ_n, seqQ_e, seqQ_r, blockQ_n, blockQ_e, blockQ_r, TK_at, OK_at, SK_at, aops_nil, aops_cons, asch_done, asch_one, asch_two, asch_top, astep, aop_eq, isLoud, aloud, aloud1, isWrite, qv, evS, strip, gof, eget, hget, putO, eput, herase, oks, opnds, gS, afin, afin0, binD, arith, D.cells, takeD, fillD, keep, trim, envOf, Fin, aresl, aresv, resD, argOk, pickV, isP, deq, deqs, boundD, slD, lenD, isT, chunks, mn_min, mx_max, D.cells, splice_one, splice_more, Rbr_at, Rfr_at, frR, frV, frC, flatC, brwR, brwV, brwC, omap, leR, leV, leC, leL, leVL]
end Go.Proofs.Ytgjngknkokgpjaa
