/- This text proves the law PickTries over the small machine. It has no condition of its own. -/
import Derived.Test.YtgjngknkokgpjaaPlb
set_option linter.unusedSimpArgs false
set_option linter.unusedVariables false
set_option maxRecDepth 100000
set_option maxHeartbeats 2000000
namespace Go.Proofs.Ytgjngknkokgpjaa
open Go.RowKit
def cntZ (l : List Load) (w : List Int) : Nat := w.countP fun b => decide (0 ≤ ofZ l b)
theorem cntZ_snoc (l : List Load) (w : List Int) (b : Int) : cntZ l (w ++ [b]) = cntZ l w + if 0 ≤ ofZ l b then 1 else 0 := by
  unfold cntZ
  rw [List.countP_append]
  congr 1
  by_cases h : 0 ≤ ofZ l b
  · simp [h]
  · simp [h]
theorem alongZ_take (l : List Load) (caps : List Int) (r : List Int) : ∀ (a : List Int), alongZ l caps (a ++ r) (cntZ l a) = alongZ l caps a (cntZ l a)
  | [] => by
    show alongZ l caps r 0 = -1
    exact alongZ_zero l caps r
  | b :: a => by
    have ih := alongZ_take l caps r a
    have e : ∀ (w : List Int) (t : Int), alongZ l caps (b :: w) t = if ofZ l b < 0 then alongZ l caps w t else if t = 0 then -1 else if roomB l caps (ofZ l b).toNat = true then ofZ l b else alongZ l caps w (t - 1) := fun _ _ => rfl
    rw [List.cons_append, e, e]
    by_cases h : ofZ l b < 0
    · have hc : cntZ l (b :: a) = cntZ l a := by unfold cntZ; rw [List.countP_cons]; simp; omega
      rw [if_pos h, if_pos h, hc, ih]
    · have hc : cntZ l (b :: a) = cntZ l a + 1 := by unfold cntZ; rw [List.countP_cons]; simp; omega
      rw [if_neg h, if_neg h, hc, show ((cntZ l a + 1 : Nat) : Int) - 1 = cntZ l a by omega, ih]
theorem pickM_along {w w' : List Int} {l : List Load} {num den flows t : Int} (h : alongZ l (capsOf l num den flows) w t = alongZ l (capsOf l num den flows) w' t) : pickM w l num den flows t = pickM w' l num den flows t := by
  unfold pickM pickI
  rw [h]
theorem ptries_code : cfun Try.prog [] 12 = some ⟨(.seq (.region 0 [⟨(some 6), (.mov (.k (.bool false))), none⟩]) (.seq (.region 1 [⟨(some 21), (.mov (.t 1)), none⟩, ⟨(some 22), (.call 25 [(.t 21)]), none⟩, ⟨(some 20), (.mov (.t 22)), none⟩, ⟨(some 23), (.ext (.t 20) 0), none⟩, ⟨(some 24), (.ext (.t 20) 1), none⟩, ⟨(some 25), (.ext (.t 20) 2), none⟩, ⟨(some 7), (.mov (.t 23)), none⟩, ⟨(some 8), (.mov (.t 24)), none⟩, ⟨(some 9), (.mov (.t 25)), none⟩]) (.seq (.region 2 [⟨(some 26), (.mov (.t 0)), none⟩, ⟨(some 27), (.call 27 [(.t 26)]), none⟩, ⟨(some 10), (.mov (.t 27)), none⟩]) (.seq (.region 3 [⟨(some 28), (.mov (.t 2)), none⟩, ⟨(some 29), (.call 19 [(.t 28), (.k (.int .i64 13))]), none⟩, ⟨(some 11), (.mov (.t 29)), none⟩]) (.seq (.region 4 [⟨(some 12), (.mov (.k .nil0)), none⟩]) (.seq (.region 5 [⟨(some 13), (.mov (.k (.int .i64 0))), none⟩]) (.seq (.seq (.region 6 [⟨(some 14), (.mov (.k (.int .i64 0))), none⟩]) (.block 0 (.loop (.seq (.seq (.region 7 [⟨(some 30), (.mov (.t 14)), none⟩, ⟨(some 31), (.mov (.t 10)), none⟩, ⟨(some 32), (.len (.t 31)), none⟩, ⟨(some 33), (.bin .lss (.t 30) (.t 32)), none⟩, ⟨(some 34), (.mov (.t 33)), none⟩, ⟨(some 35), (.mov (.t 13)), (some (34, true))⟩, ⟨(some 36), (.mov (.t 11)), (some (34, true))⟩, ⟨(some 37), (.bin .lss (.t 35) (.t 36)), (some (34, true))⟩, ⟨(some 38), (.pick (.t 34) (.t 37) (.k (.bool false))), none⟩]) (.cond 38 .skip (.exit 0))) (.seq (.block 1 (.seq (.region 9 [⟨(some 41), (.mov (.t 12)), none⟩, ⟨(some 42), (.mov (.t 10)), none⟩, ⟨(some 43), (.mov (.t 14)), none⟩, ⟨(some 44), (.iads 1 (.t 42) (.t 43)), none⟩, ⟨(some 45), (.load false 1 (.t 44)), none⟩, ⟨(some 46), (.bslice 1 1 [(.int .i64 0)] [(0, (.t 45))]), none⟩, ⟨(some 47), (.app 1 8 [(.int .i64 0)] (.t 41) (.t 46)), none⟩, ⟨(some 12), (.mov (.t 47)), none⟩]) (.seq (.region 10 [⟨(some 48), (.mov (.t 7)), none⟩, ⟨(some 49), (.mov (.t 10)), none⟩, ⟨(some 50), (.mov (.t 14)), none⟩, ⟨(some 51), (.iads 1 (.t 49) (.t 50)), none⟩, ⟨(some 52), (.load false 1 (.t 51)), none⟩, ⟨(some 53), (.call 28 [(.t 48), (.t 52)]), none⟩, ⟨(some 15), (.alloc [(.int .i64 0), (.int .i64 0), (.int .i64 0)]), none⟩, ⟨none, (.store 3 (.t 15) (.t 53)), none⟩]) (.seq (.region 11 [⟨(some 54), (.fad 0 (.t 15)), none⟩, ⟨(some 55), (.load false 1 (.t 54)), none⟩, ⟨(some 56), (.bin .geq (.t 55) (.k (.int .i64 0))), none⟩, ⟨(some 57), (.mov (.t 56)), none⟩, ⟨(some 58), (.fad 1 (.t 15)), (some (57, true))⟩, ⟨(some 59), (.load false 1 (.t 58)), (some (57, true))⟩, ⟨(some 60), (.bin .gtr (.t 59) (.k (.int .i64 0))), (some (57, true))⟩, ⟨(some 61), (.pick (.t 57) (.t 60) (.k (.bool false))), none⟩]) (.cond 61 (.region 12 [⟨(some 62), (.mov (.t 13)), none⟩, ⟨(some 63), (.bin .add (.t 62) (.k (.int .i64 1))), none⟩, ⟨(some 13), (.mov (.t 63)), none⟩]) .skip))))) (.region 8 [⟨(some 39), (.mov (.t 14)), none⟩, ⟨(some 40), (.bin .add (.t 39) (.k (.int .i64 1))), none⟩, ⟨(some 14), (.mov (.t 40)), none⟩])))))) (.seq (.region 13 [⟨(some 65), (.mov (.t 10)), none⟩, ⟨(some 66), (.mov (.t 7)), none⟩, ⟨(some 67), (.mov (.t 8)), none⟩, ⟨(some 68), (.mov (.t 11)), none⟩, ⟨(some 69), (.call 26 [(.t 65), (.t 66), (.k (.int .i64 3)), (.k (.int .i64 2)), (.t 67), (.t 68)]), none⟩, ⟨(some 64), (.mov (.t 69)), none⟩, ⟨(some 70), (.ext (.t 64) 0), none⟩, ⟨(some 71), (.ext (.t 64) 1), none⟩, ⟨(some 16), (.mov (.t 70)), none⟩, ⟨(some 17), (.mov (.t 71)), none⟩]) (.seq (.region 14 [⟨(some 73), (.mov (.t 12)), none⟩, ⟨(some 74), (.mov (.t 7)), none⟩, ⟨(some 75), (.mov (.t 8)), none⟩, ⟨(some 76), (.mov (.t 11)), none⟩, ⟨(some 77), (.call 26 [(.t 73), (.t 74), (.k (.int .i64 3)), (.k (.int .i64 2)), (.t 75), (.t 76)]), none⟩, ⟨(some 72), (.mov (.t 77)), none⟩, ⟨(some 78), (.ext (.t 72) 0), none⟩, ⟨(some 79), (.ext (.t 72) 1), none⟩, ⟨(some 18), (.mov (.t 78)), none⟩, ⟨(some 19), (.mov (.t 79)), none⟩]) (.seq (.region 15 [⟨(some 80), (.mov (.t 16)), none⟩, ⟨(some 81), (.mov (.t 18)), none⟩, ⟨(some 82), (.bin .eql (.t 80) (.t 81)), none⟩, ⟨(some 83), (.mov (.t 82)), none⟩, ⟨(some 84), (.mov (.t 17)), (some (83, true))⟩, ⟨(some 85), (.mov (.t 19)), (some (83, true))⟩, ⟨(some 86), (.bin .eql (.t 84) (.t 85)), (some (83, true))⟩, ⟨(some 87), (.pick (.t 83) (.t 86) (.k (.bool false))), none⟩, ⟨(some 88), (.mov (.t 87)), none⟩, ⟨(some 89), (.mov (.t 17)), (some (88, true))⟩, ⟨(some 90), (.bin .eql (.t 89) (.k (.int .i64 0))), (some (88, true))⟩, ⟨(some 91), (.mov (.t 9)), (some (88, true))⟩, ⟨(some 92), (.bin .gtr (.t 91) (.k (.int .i64 0))), (some (88, true))⟩, ⟨(some 93), (.eqb false (.t 90) (.t 92)), (some (88, true))⟩, ⟨(some 94), (.pick (.t 88) (.t 93) (.k (.bool false))), none⟩, ⟨(some 6), (.mov (.t 94)), none⟩]) .ret)))))))))), [(.t 6)], 95⟩ := by kernel_rfl
theorem ptries_pf (walk : List Int) (raw : List (List Int)) (tries : Int) (hwl : walk.length ≤ Go.maxLen) (hwr : ∀ z ∈ walk, InR z) (hl : raw.length ≤ Go.maxLen) (hr : ∀ r ∈ raw, r.length = 2 ∧ ∀ z ∈ r, InR z) (h4 : InR tries) :
    PF Try.prog 12 [.rows 1 (walk.map PI), .rows 2 (raw.map fun r => r.map I), I tries] (.bool true) := by
  have pp := parts_pf raw hl hr
  have hfl := parts_flows raw
  have hbk := parts_back raw
  have hok := parts_ok raw
  have hmay := partsL_may raw
  obtain ⟨L, hLe⟩ : ∃ L, L = partsL raw := ⟨_, rfl⟩
  rw [← hLe] at pp hfl hok hmay
  simp only [← hLe] at hbk
  have hmin : min (sumF L) 40 = sumF L := by omega
  rw [hmin] at pp
  have hbw := sumW_bd (l := L) fun y hy => by have := hok y hy; omega
  have pt := picked_pf tries 13 h4 (by omega)
  have rt := pickedZ_range tries 13 (by omega)
  obtain ⟨t, ht⟩ : ∃ t, t = pickedZ tries 13 := ⟨_, rfl⟩
  rw [← ht] at pt rt
  have hfac : factorB 3 2 = true := rfl
  have hwo := walkof_pf walk hwl hwr
  have hwok : WOk (walkL walk) := walkN_ok walk _
  obtain ⟨w, hw⟩ : ∃ w, w = walkL walk := ⟨_, rfl⟩
  rw [← hw] at hwo hwok
  have hlen := hwok.len
  have hpk := pick_pf w L 3 2 (sumF L) t hmay.1 hmay.2 hfac (by omega) (by omega) (by omega) (by omega) hlen
  refine PF.of follows_ok ptries_code (by simp) (by simp [argOk]) (by simp [noV, noC]) fun B hBN hB0 => acode_sound [0, 1, 2, 6, 7, 8, 9, 10, 11, 12, 13, 14, 15, 16, 17, 18, 19, 38, 61] [] _ _ _ ?_
  simp [AK_at, acode_seq, acode_region, acode_draw, acode_cond, ↓CB_t, ↓CB_f, CB_u, acode_block, acode_loop, acode_exit, acode_scope, acode_ret, acode_skip, seqQ_n, seqQ_e, seqQ_r, blockQ_n, blockQ_e, blockQ_r, TK_at, OK_at, SK_at, aops_nil, aops_cons, asch_done, asch_one, asch_two, asch_top, astep, aop_eq, isLoud, aloud, aloud1, isWrite, qv, evS, strip, gof, eget, hget, putO, eput, herase, oks, opnds, gS, afin, afin0, binD, arith, D.cells, takeD, fillD, keep, trim, envOf, Fin, aresl, aresv, resD, argOk, pickV, isP, deq, deqs, boundD, slD, lenD, isT, chunks, mn_min, mx_max, D.cells, splice_one, splice_more, Rbr_at, Rfr_at, frR, frV, frC, flatC, brwR, brwV, brwC, omap, leR, leV, leC, leL, leVL]
  repeat' (first
    | simp [AK_at, acode_seq, acode_region, acode_draw, acode_cond, ↓CB_t, ↓CB_f, CB_u, acode_block, acode_loop, acode_exit, acode_scope, acode_ret, acode_skip, seqQ_n, seqQ_e, seqQ_r, blockQ_n, blockQ_e, blockQ_r, TK_at, OK_at, SK_at, aops_nil, aops_cons, asch_done, asch_one, asch_two, asch_top, astep, aop_eq, isLoud, aloud, aloud1, isWrite, qv, evS, strip, gof, eget, hget, putO, eput, herase, oks, opnds, gS, afin, afin0, binD, arith, D.cells, takeD, fillD, keep, trim, envOf, Fin, aresl, aresv, resD, argOk, pickV, isP, deq, deqs, boundD, slD, lenD, isT, chunks, mn_min, mx_max, D.cells, splice_one, splice_more, Rbr_at, Rfr_at, frR, frV, frC, flatC, brwR, brwV, brwC, omap, leR, leV, leC, leL, leVL, ]
    | (refine WCall.pf (pp) ?_ ?_ ?_ ?_; (focus (simp [oks, opnds, gS, gof, eget]; done)); (focus (simp [omap, brwV, brwC, evS, eget, strip, hget, leVL, leV, leC, leL, ]; done)); (focus (simp [noV, noC, flatR, flatV, flatC, evS, eget, strip, ]; done)))
    | (refine ⟨WCall.pf (pp) ?_ ?_ ?_ ?_, ?_⟩; (focus (simp [oks, opnds, gS, gof, eget]; done)); (focus (simp [omap, brwV, brwC, evS, eget, strip, hget, leVL, leV, leC, leL, ]; done)); (focus (simp [noV, noC, flatR, flatV, flatC, evS, eget, strip, ]; done)))
    | (refine WCall.pf (hwo) ?_ ?_ ?_ ?_; (focus (simp [oks, opnds, gS, gof, eget]; done)); (focus (simp [omap, brwV, brwC, evS, eget, strip, hget, leVL, leV, leC, leL, ]; done)); (focus (simp [noV, noC, flatR, flatV, flatC, evS, eget, strip, ]; done)))
    | (refine ⟨WCall.pf (hwo) ?_ ?_ ?_ ?_, ?_⟩; (focus (simp [oks, opnds, gS, gof, eget]; done)); (focus (simp [omap, brwV, brwC, evS, eget, strip, hget, leVL, leV, leC, leL, ]; done)); (focus (simp [noV, noC, flatR, flatV, flatC, evS, eget, strip, ]; done)))
    | (refine WCall.pf (pt) ?_ ?_ ?_ ?_; (focus (simp [oks, opnds, gS, gof, eget]; done)); (focus (simp [omap, brwV, brwC, evS, eget, strip, hget, leVL, leV, leC, leL, ]; done)); (focus (simp [noV, noC, flatR, flatV, flatC, evS, eget, strip, ]; done)))
    | (refine ⟨WCall.pf (pt) ?_ ?_ ?_ ?_, ?_⟩; (focus (simp [oks, opnds, gS, gof, eget]; done)); (focus (simp [omap, brwV, brwC, evS, eget, strip, hget, leVL, leV, leC, leL, ]; done)); (focus (simp [noV, noC, flatR, flatV, flatC, evS, eget, strip, ]; done)))
    | (with_reducible refine And.intro (And.intro ?_ ?_) ?_)
    | fail)
  refine W.loopS (fun i : Nat => ⟨[(14, I i), (13, I (cntZ L (w.take i))), (12, .own 0), (11, I t), (10, D.rows 1 (w.map PI)), (9, I (sumW L)), (8, I (sumF L)), (7, D.rows 3 (L.map Load.D))], [(0, .row 1 ((w.take i).map PI))], 1⟩)
      (fun n i => n = w.length - i ∧ i ≤ w.length ∧ (cntZ L (w.take i) : Int) ≤ t) ?_ ?_
  · refine ⟨_, 0, (Gh.adopt 12 1 (by omega) (by simp [eget])).trans ?_, rfl, by omega, by simp [cntZ]; omega⟩
    simp [eput]
    exact (Gh.ren [] (by simp [hB0]) (by simp [hB0]) (by simp [eget, rnS, rnR, rnV, rnC, LtS, LtR, LtV, LtC, lget, cntZ]) (by simp [hget, rnO, rnC, LtO, LtC, lget, cntZ]) (.inr rfl))
  rintro n i ⟨hn, hi, hct⟩
  refine acode_sound [0, 1, 2, 6, 7, 8, 9, 10, 11, 12, 13, 14, 15, 16, 17, 18, 19, 38, 61] [] _ _ _ ?_
  have hhl : (w.take i).length ≤ 12 := by simp; omega
  by_cases hgo : i < w.length ∧ (cntZ L (w.take i) : Int) < t
  · obtain ⟨hlt, hct2⟩ := hgo
    have hsn := cntZ_snoc L (w.take i) w[i]
    rw [← List.take_succ_eq_append_getElem hlt] at hsn
    have hts := List.take_succ_eq_append_getElem hlt
    obtain ⟨b, hb⟩ : ∃ b, b = w[i] := ⟨_, rfl⟩
    rw [← hb] at hsn hts
    obtain ⟨hd, hhd⟩ : ∃ hd, hd = w.take i := ⟨_, rfl⟩
    rw [← hhd] at hsn hts hct2 hhl
    have hsn2 := hsn
    rw [hts] at hsn2
    have htm : List.take (i + 1) (List.map PI w) = List.map PI hd ++ [[I b]] := by rw [← List.map_take, hts, List.map_append]; rfl
    have ii : InR ((i : Int) + 1) := inr (by omega) (by omega)
    have ic : InR ((cntZ L hd : Int) + 1) := inr (by omega) (by omega)
    have hlo := loadof_pf L b (by have := hmay.1; omega)
    have hcap : (hd.length + 1) * 8 ≤ 140737488355328 := by omega
    have hti : ∀ P : Prop, P → P := fun _ h => h
    rcases loadM_cases hbk hok b with ⟨q, hq, hbq, hlm, hqw, hqo⟩ | ⟨hqo, hqw⟩
    · rw [hlm] at hlo
      have hqb := hbk q hq
      obtain ⟨x, hx⟩ : ∃ x, x = L[q] := ⟨_, rfl⟩
      rw [← hx] at hlo hqw hqb
      have e1 : 0 ≤ x.backend := by omega
      rw [hqo, if_pos (by omega)] at hsn hsn2
      simp [AK_at, acode_seq, acode_region, acode_draw, acode_cond, ↓CB_t, ↓CB_f, CB_u, acode_block, acode_loop, acode_exit, acode_scope, acode_ret, acode_skip, seqQ_n, seqQ_e, seqQ_r, blockQ_n, blockQ_e, blockQ_r, TK_at, OK_at, SK_at, aops_nil, aops_cons, asch_done, asch_one, asch_two, asch_top, astep, aop_eq, isLoud, aloud, aloud1, isWrite, qv, evS, strip, gof, eget, hget, putO, eput, herase, oks, opnds, gS, afin, afin0, binD, arith, D.cells, takeD, fillD, keep, trim, envOf, Fin, aresl, aresv, resD, argOk, pickV, isP, deq, deqs, boundD, slD, lenD, isT, chunks, mn_min, mx_max, D.cells, splice_one, splice_more, Rbr_at, Rfr_at, frR, frV, frC, flatC, brwR, brwV, brwC, omap, leR, leV, leC, leL, leVL, ← hhd, hlt, hct2, ← hb, PI, hcap]
      repeat' (first
        | simp [AK_at, acode_seq, acode_region, acode_draw, acode_cond, ↓CB_t, ↓CB_f, CB_u, acode_block, acode_loop, acode_exit, acode_scope, acode_ret, acode_skip, seqQ_n, seqQ_e, seqQ_r, blockQ_n, blockQ_e, blockQ_r, TK_at, OK_at, SK_at, aops_nil, aops_cons, asch_done, asch_one, asch_two, asch_top, astep, aop_eq, isLoud, aloud, aloud1, isWrite, qv, evS, strip, gof, eget, hget, putO, eput, herase, oks, opnds, gS, afin, afin0, binD, arith, D.cells, takeD, fillD, keep, trim, envOf, Fin, aresl, aresv, resD, argOk, pickV, isP, deq, deqs, boundD, slD, lenD, isT, chunks, mn_min, mx_max, D.cells, splice_one, splice_more, Rbr_at, Rfr_at, frR, frV, frC, flatC, brwR, brwV, brwC, omap, leR, leV, leC, leL, leVL, hlt, ← hb, PI, Load.D, e1, hqw, ii, ic]
        | (refine WCall.pf (hlo) ?_ ?_ ?_ ?_; (focus (simp [oks, opnds, gS, gof, eget]; done)); (focus (simp [omap, brwV, brwC, evS, eget, strip, hget, leVL, leV, leC, leL, hlt, ← hb, PI, Load.D, e1, hqw, ii, ic]; done)); (focus (simp [noV, noC, flatR, flatV, flatC, evS, eget, strip, hlt, ← hb, PI, Load.D, e1, hqw, ii, ic]; done)))
        | (refine ⟨WCall.pf (hlo) ?_ ?_ ?_ ?_, ?_⟩; (focus (simp [oks, opnds, gS, gof, eget]; done)); (focus (simp [omap, brwV, brwC, evS, eget, strip, hget, leVL, leV, leC, leL, hlt, ← hb, PI, Load.D, e1, hqw, ii, ic]; done)); (focus (simp [noV, noC, flatR, flatV, flatC, evS, eget, strip, hlt, ← hb, PI, Load.D, e1, hqw, ii, ic]; done)))
        | (with_reducible refine And.intro (And.intro ?_ ?_) ?_)
        | fail)
      exact ⟨_, i + 1, (Gh.ren [2] (by simp [hB0]) (by simp [hB0]) (by simp [eget, rnS, rnR, rnV, rnC, LtS, LtR, LtV, LtC, lget, hts, hsn2, htm, PI]) (by simp [hget, rnO, rnC, LtO, LtC, lget, hts, hsn2, htm, PI]) (.inl (by simp [lget]))), by omega, rfl, by omega, by omega⟩
    · rw [hqo, if_neg (by omega)] at hsn hsn2
      obtain ⟨x, hx⟩ : ∃ x, x = loadM L b := ⟨_, rfl⟩
      rw [← hx] at hlo hqw
      have e2 : ¬ 0 < x.weight := by omega
      simp [AK_at, acode_seq, acode_region, acode_draw, acode_cond, ↓CB_t, ↓CB_f, CB_u, acode_block, acode_loop, acode_exit, acode_scope, acode_ret, acode_skip, seqQ_n, seqQ_e, seqQ_r, blockQ_n, blockQ_e, blockQ_r, TK_at, OK_at, SK_at, aops_nil, aops_cons, asch_done, asch_one, asch_two, asch_top, astep, aop_eq, isLoud, aloud, aloud1, isWrite, qv, evS, strip, gof, eget, hget, putO, eput, herase, oks, opnds, gS, afin, afin0, binD, arith, D.cells, takeD, fillD, keep, trim, envOf, Fin, aresl, aresv, resD, argOk, pickV, isP, deq, deqs, boundD, slD, lenD, isT, chunks, mn_min, mx_max, D.cells, splice_one, splice_more, Rbr_at, Rfr_at, frR, frV, frC, flatC, brwR, brwV, brwC, omap, leR, leV, leC, leL, leVL, ← hhd, hlt, hct2, ← hb, PI, hcap]
      by_cases e1 : 0 ≤ x.backend
      · skip
        repeat' (first
          | simp [AK_at, acode_seq, acode_region, acode_draw, acode_cond, ↓CB_t, ↓CB_f, CB_u, acode_block, acode_loop, acode_exit, acode_scope, acode_ret, acode_skip, seqQ_n, seqQ_e, seqQ_r, blockQ_n, blockQ_e, blockQ_r, TK_at, OK_at, SK_at, aops_nil, aops_cons, asch_done, asch_one, asch_two, asch_top, astep, aop_eq, isLoud, aloud, aloud1, isWrite, qv, evS, strip, gof, eget, hget, putO, eput, herase, oks, opnds, gS, afin, afin0, binD, arith, D.cells, takeD, fillD, keep, trim, envOf, Fin, aresl, aresv, resD, argOk, pickV, isP, deq, deqs, boundD, slD, lenD, isT, chunks, mn_min, mx_max, D.cells, splice_one, splice_more, Rbr_at, Rfr_at, frR, frV, frC, flatC, brwR, brwV, brwC, omap, leR, leV, leC, leL, leVL, hlt, ← hb, PI, Load.D, e1, hqw, e2, ii]
          | (refine WCall.pf (hlo) ?_ ?_ ?_ ?_; (focus (simp [oks, opnds, gS, gof, eget]; done)); (focus (simp [omap, brwV, brwC, evS, eget, strip, hget, leVL, leV, leC, leL, hlt, ← hb, PI, Load.D, e1, hqw, e2, ii]; done)); (focus (simp [noV, noC, flatR, flatV, flatC, evS, eget, strip, hlt, ← hb, PI, Load.D, e1, hqw, e2, ii]; done)))
          | (refine ⟨WCall.pf (hlo) ?_ ?_ ?_ ?_, ?_⟩; (focus (simp [oks, opnds, gS, gof, eget]; done)); (focus (simp [omap, brwV, brwC, evS, eget, strip, hget, leVL, leV, leC, leL, hlt, ← hb, PI, Load.D, e1, hqw, e2, ii]; done)); (focus (simp [noV, noC, flatR, flatV, flatC, evS, eget, strip, hlt, ← hb, PI, Load.D, e1, hqw, e2, ii]; done)))
          | (with_reducible refine And.intro (And.intro ?_ ?_) ?_)
          | fail)
        exact ⟨_, i + 1, (Gh.ren [2] (by simp [hB0]) (by simp [hB0]) (by simp [eget, rnS, rnR, rnV, rnC, LtS, LtR, LtV, LtC, lget, hts, hsn2, htm, PI]) (by simp [hget, rnO, rnC, LtO, LtC, lget, hts, hsn2, htm, PI]) (.inl (by simp [lget]))), by omega, rfl, by omega, by omega⟩
      · skip
        repeat' (first
          | simp [AK_at, acode_seq, acode_region, acode_draw, acode_cond, ↓CB_t, ↓CB_f, CB_u, acode_block, acode_loop, acode_exit, acode_scope, acode_ret, acode_skip, seqQ_n, seqQ_e, seqQ_r, blockQ_n, blockQ_e, blockQ_r, TK_at, OK_at, SK_at, aops_nil, aops_cons, asch_done, asch_one, asch_two, asch_top, astep, aop_eq, isLoud, aloud, aloud1, isWrite, qv, evS, strip, gof, eget, hget, putO, eput, herase, oks, opnds, gS, afin, afin0, binD, arith, D.cells, takeD, fillD, keep, trim, envOf, Fin, aresl, aresv, resD, argOk, pickV, isP, deq, deqs, boundD, slD, lenD, isT, chunks, mn_min, mx_max, D.cells, splice_one, splice_more, Rbr_at, Rfr_at, frR, frV, frC, flatC, brwR, brwV, brwC, omap, leR, leV, leC, leL, leVL, hlt, ← hb, PI, Load.D, e1, hqw, e2, ii]
          | (refine WCall.pf (hlo) ?_ ?_ ?_ ?_; (focus (simp [oks, opnds, gS, gof, eget]; done)); (focus (simp [omap, brwV, brwC, evS, eget, strip, hget, leVL, leV, leC, leL, hlt, ← hb, PI, Load.D, e1, hqw, e2, ii]; done)); (focus (simp [noV, noC, flatR, flatV, flatC, evS, eget, strip, hlt, ← hb, PI, Load.D, e1, hqw, e2, ii]; done)))
          | (refine ⟨WCall.pf (hlo) ?_ ?_ ?_ ?_, ?_⟩; (focus (simp [oks, opnds, gS, gof, eget]; done)); (focus (simp [omap, brwV, brwC, evS, eget, strip, hget, leVL, leV, leC, leL, hlt, ← hb, PI, Load.D, e1, hqw, e2, ii]; done)); (focus (simp [noV, noC, flatR, flatV, flatC, evS, eget, strip, hlt, ← hb, PI, Load.D, e1, hqw, e2, ii]; done)))
          | (with_reducible refine And.intro (And.intro ?_ ?_) ?_)
          | fail)
        exact ⟨_, i + 1, (Gh.ren [2] (by simp [hB0]) (by simp [hB0]) (by simp [eget, rnS, rnR, rnV, rnC, LtS, LtR, LtV, LtC, lget, hts, hsn2, htm, PI]) (by simp [hget, rnO, rnC, LtO, LtC, lget, hts, hsn2, htm, PI]) (.inl (by simp [lget]))), by omega, rfl, by omega, by omega⟩
  · have hal : alongZ L (capsOf L 3 2 (sumF L)) w t = alongZ L (capsOf L 3 2 (sumF L)) (w.take i) t := by
      by_cases hct2 : (cntZ L (w.take i) : Int) < t
      · have hie : i = w.length := by omega
        rw [hie, List.take_length]
      · have hte : t = (cntZ L (w.take i) : Int) := by omega
        have := alongZ_take L (capsOf L 3 2 (sumF L)) (w.drop i) (w.take i)
        rw [List.take_append_drop, ← hte] at this
        exact this
    have hpk2 := pick_pf (w.take i) L 3 2 (sumF L) t hmay.1 hmay.2 hfac (by omega) (by omega) (by omega) (by omega) hhl
    rw [← pickM_along hal] at hpk2
    obtain ⟨hd, hhd⟩ : ∃ hd, hd = w.take i := ⟨_, rfl⟩
    rw [← hhd] at hpk2 hgo
    by_cases hw0 : sumW L = 0
    · rw [pickM_busy _ L 3 2 _ t hok hw0] at hpk hpk2
      by_cases hlt : i < w.length
      · have hg : ¬ (cntZ L hd : Int) < t := by omega
        simp [AK_at, acode_seq, acode_region, acode_draw, acode_cond, ↓CB_t, ↓CB_f, CB_u, acode_block, acode_loop, acode_exit, acode_scope, acode_ret, acode_skip, seqQ_n, seqQ_e, seqQ_r, blockQ_n, blockQ_e, blockQ_r, TK_at, OK_at, SK_at, aops_nil, aops_cons, asch_done, asch_one, asch_two, asch_top, astep, aop_eq, isLoud, aloud, aloud1, isWrite, qv, evS, strip, gof, eget, hget, putO, eput, herase, oks, opnds, gS, afin, afin0, binD, arith, D.cells, takeD, fillD, keep, trim, envOf, Fin, aresl, aresv, resD, argOk, pickV, isP, deq, deqs, boundD, slD, lenD, isT, chunks, mn_min, mx_max, D.cells, splice_one, splice_more, Rbr_at, Rfr_at, frR, frV, frC, flatC, brwR, brwV, brwC, omap, leR, leV, leC, leL, leVL, ← hhd, hlt, hg]
        repeat' (first
          | simp [AK_at, acode_seq, acode_region, acode_draw, acode_cond, ↓CB_t, ↓CB_f, CB_u, acode_block, acode_loop, acode_exit, acode_scope, acode_ret, acode_skip, seqQ_n, seqQ_e, seqQ_r, blockQ_n, blockQ_e, blockQ_r, TK_at, OK_at, SK_at, aops_nil, aops_cons, asch_done, asch_one, asch_two, asch_top, astep, aop_eq, isLoud, aloud, aloud1, isWrite, qv, evS, strip, gof, eget, hget, putO, eput, herase, oks, opnds, gS, afin, afin0, binD, arith, D.cells, takeD, fillD, keep, trim, envOf, Fin, aresl, aresv, resD, argOk, pickV, isP, deq, deqs, boundD, slD, lenD, isT, chunks, mn_min, mx_max, D.cells, splice_one, splice_more, Rbr_at, Rfr_at, frR, frV, frC, flatC, brwR, brwV, brwC, omap, leR, leV, leC, leL, leVL, hw0]
          | (refine WCall.pf (hpk) ?_ ?_ ?_ ?_; (focus (simp [oks, opnds, gS, gof, eget]; done)); (focus (simp [omap, brwV, brwC, evS, eget, strip, hget, leVL, leV, leC, leL, hw0]; done)); (focus (simp [noV, noC, flatR, flatV, flatC, evS, eget, strip, hw0]; done)))
          | (refine ⟨WCall.pf (hpk) ?_ ?_ ?_ ?_, ?_⟩; (focus (simp [oks, opnds, gS, gof, eget]; done)); (focus (simp [omap, brwV, brwC, evS, eget, strip, hget, leVL, leV, leC, leL, hw0]; done)); (focus (simp [noV, noC, flatR, flatV, flatC, evS, eget, strip, hw0]; done)))
          | (refine WCall.pf (hpk2) ?_ ?_ ?_ ?_; (focus (simp [oks, opnds, gS, gof, eget]; done)); (focus (simp [omap, brwV, brwC, evS, eget, strip, hget, leVL, leV, leC, leL, hw0]; done)); (focus (simp [noV, noC, flatR, flatV, flatC, evS, eget, strip, hw0]; done)))
          | (refine ⟨WCall.pf (hpk2) ?_ ?_ ?_ ?_, ?_⟩; (focus (simp [oks, opnds, gS, gof, eget]; done)); (focus (simp [omap, brwV, brwC, evS, eget, strip, hget, leVL, leV, leC, leL, hw0]; done)); (focus (simp [noV, noC, flatR, flatV, flatC, evS, eget, strip, hw0]; done)))
          | (with_reducible refine And.intro (And.intro ?_ ?_) ?_)
          | fail)
      · simp [AK_at, acode_seq, acode_region, acode_draw, acode_cond, ↓CB_t, ↓CB_f, CB_u, acode_block, acode_loop, acode_exit, acode_scope, acode_ret, acode_skip, seqQ_n, seqQ_e, seqQ_r, blockQ_n, blockQ_e, blockQ_r, TK_at, OK_at, SK_at, aops_nil, aops_cons, asch_done, asch_one, asch_two, asch_top, astep, aop_eq, isLoud, aloud, aloud1, isWrite, qv, evS, strip, gof, eget, hget, putO, eput, herase, oks, opnds, gS, afin, afin0, binD, arith, D.cells, takeD, fillD, keep, trim, envOf, Fin, aresl, aresv, resD, argOk, pickV, isP, deq, deqs, boundD, slD, lenD, isT, chunks, mn_min, mx_max, D.cells, splice_one, splice_more, Rbr_at, Rfr_at, frR, frV, frC, flatC, brwR, brwV, brwC, omap, leR, leV, leC, leL, leVL, ← hhd, hlt]
        repeat' (first
          | simp [AK_at, acode_seq, acode_region, acode_draw, acode_cond, ↓CB_t, ↓CB_f, CB_u, acode_block, acode_loop, acode_exit, acode_scope, acode_ret, acode_skip, seqQ_n, seqQ_e, seqQ_r, blockQ_n, blockQ_e, blockQ_r, TK_at, OK_at, SK_at, aops_nil, aops_cons, asch_done, asch_one, asch_two, asch_top, astep, aop_eq, isLoud, aloud, aloud1, isWrite, qv, evS, strip, gof, eget, hget, putO, eput, herase, oks, opnds, gS, afin, afin0, binD, arith, D.cells, takeD, fillD, keep, trim, envOf, Fin, aresl, aresv, resD, argOk, pickV, isP, deq, deqs, boundD, slD, lenD, isT, chunks, mn_min, mx_max, D.cells, splice_one, splice_more, Rbr_at, Rfr_at, frR, frV, frC, flatC, brwR, brwV, brwC, omap, leR, leV, leC, leL, leVL, hw0]
          | (refine WCall.pf (hpk) ?_ ?_ ?_ ?_; (focus (simp [oks, opnds, gS, gof, eget]; done)); (focus (simp [omap, brwV, brwC, evS, eget, strip, hget, leVL, leV, leC, leL, hw0]; done)); (focus (simp [noV, noC, flatR, flatV, flatC, evS, eget, strip, hw0]; done)))
          | (refine ⟨WCall.pf (hpk) ?_ ?_ ?_ ?_, ?_⟩; (focus (simp [oks, opnds, gS, gof, eget]; done)); (focus (simp [omap, brwV, brwC, evS, eget, strip, hget, leVL, leV, leC, leL, hw0]; done)); (focus (simp [noV, noC, flatR, flatV, flatC, evS, eget, strip, hw0]; done)))
          | (refine WCall.pf (hpk2) ?_ ?_ ?_ ?_; (focus (simp [oks, opnds, gS, gof, eget]; done)); (focus (simp [omap, brwV, brwC, evS, eget, strip, hget, leVL, leV, leC, leL, hw0]; done)); (focus (simp [noV, noC, flatR, flatV, flatC, evS, eget, strip, hw0]; done)))
          | (refine ⟨WCall.pf (hpk2) ?_ ?_ ?_ ?_, ?_⟩; (focus (simp [oks, opnds, gS, gof, eget]; done)); (focus (simp [omap, brwV, brwC, evS, eget, strip, hget, leVL, leV, leC, leL, hw0]; done)); (focus (simp [noV, noC, flatR, flatV, flatC, evS, eget, strip, hw0]; done)))
          | (with_reducible refine And.intro (And.intro ?_ ?_) ?_)
          | fail)
    · obtain ⟨k, hk, hkI, hkw, hkr, hM⟩ := pickI_at w L 3 2 (sumF L) t hfac hok (by omega) (by omega) hw0
      rw [hM, hbk k hk] at hpk hpk2
      have hw1 : 0 < sumW L := by omega
      by_cases hlt : i < w.length
      · have hg : ¬ (cntZ L hd : Int) < t := by omega
        simp [AK_at, acode_seq, acode_region, acode_draw, acode_cond, ↓CB_t, ↓CB_f, CB_u, acode_block, acode_loop, acode_exit, acode_scope, acode_ret, acode_skip, seqQ_n, seqQ_e, seqQ_r, blockQ_n, blockQ_e, blockQ_r, TK_at, OK_at, SK_at, aops_nil, aops_cons, asch_done, asch_one, asch_two, asch_top, astep, aop_eq, isLoud, aloud, aloud1, isWrite, qv, evS, strip, gof, eget, hget, putO, eput, herase, oks, opnds, gS, afin, afin0, binD, arith, D.cells, takeD, fillD, keep, trim, envOf, Fin, aresl, aresv, resD, argOk, pickV, isP, deq, deqs, boundD, slD, lenD, isT, chunks, mn_min, mx_max, D.cells, splice_one, splice_more, Rbr_at, Rfr_at, frR, frV, frC, flatC, brwR, brwV, brwC, omap, leR, leV, leC, leL, leVL, ← hhd, hlt, hg]
        repeat' (first
          | simp [AK_at, acode_seq, acode_region, acode_draw, acode_cond, ↓CB_t, ↓CB_f, CB_u, acode_block, acode_loop, acode_exit, acode_scope, acode_ret, acode_skip, seqQ_n, seqQ_e, seqQ_r, blockQ_n, blockQ_e, blockQ_r, TK_at, OK_at, SK_at, aops_nil, aops_cons, asch_done, asch_one, asch_two, asch_top, astep, aop_eq, isLoud, aloud, aloud1, isWrite, qv, evS, strip, gof, eget, hget, putO, eput, herase, oks, opnds, gS, afin, afin0, binD, arith, D.cells, takeD, fillD, keep, trim, envOf, Fin, aresl, aresv, resD, argOk, pickV, isP, deq, deqs, boundD, slD, lenD, isT, chunks, mn_min, mx_max, D.cells, splice_one, splice_more, Rbr_at, Rfr_at, frR, frV, frC, flatC, brwR, brwV, brwC, omap, leR, leV, leC, leL, leVL, hw1]
          | (refine WCall.pf (hpk) ?_ ?_ ?_ ?_; (focus (simp [oks, opnds, gS, gof, eget]; done)); (focus (simp [omap, brwV, brwC, evS, eget, strip, hget, leVL, leV, leC, leL, hw1]; done)); (focus (simp [noV, noC, flatR, flatV, flatC, evS, eget, strip, hw1]; done)))
          | (refine ⟨WCall.pf (hpk) ?_ ?_ ?_ ?_, ?_⟩; (focus (simp [oks, opnds, gS, gof, eget]; done)); (focus (simp [omap, brwV, brwC, evS, eget, strip, hget, leVL, leV, leC, leL, hw1]; done)); (focus (simp [noV, noC, flatR, flatV, flatC, evS, eget, strip, hw1]; done)))
          | (refine WCall.pf (hpk2) ?_ ?_ ?_ ?_; (focus (simp [oks, opnds, gS, gof, eget]; done)); (focus (simp [omap, brwV, brwC, evS, eget, strip, hget, leVL, leV, leC, leL, hw1]; done)); (focus (simp [noV, noC, flatR, flatV, flatC, evS, eget, strip, hw1]; done)))
          | (refine ⟨WCall.pf (hpk2) ?_ ?_ ?_ ?_, ?_⟩; (focus (simp [oks, opnds, gS, gof, eget]; done)); (focus (simp [omap, brwV, brwC, evS, eget, strip, hget, leVL, leV, leC, leL, hw1]; done)); (focus (simp [noV, noC, flatR, flatV, flatC, evS, eget, strip, hw1]; done)))
          | (with_reducible refine And.intro (And.intro ?_ ?_) ?_)
          | fail)
      · simp [AK_at, acode_seq, acode_region, acode_draw, acode_cond, ↓CB_t, ↓CB_f, CB_u, acode_block, acode_loop, acode_exit, acode_scope, acode_ret, acode_skip, seqQ_n, seqQ_e, seqQ_r, blockQ_n, blockQ_e, blockQ_r, TK_at, OK_at, SK_at, aops_nil, aops_cons, asch_done, asch_one, asch_two, asch_top, astep, aop_eq, isLoud, aloud, aloud1, isWrite, qv, evS, strip, gof, eget, hget, putO, eput, herase, oks, opnds, gS, afin, afin0, binD, arith, D.cells, takeD, fillD, keep, trim, envOf, Fin, aresl, aresv, resD, argOk, pickV, isP, deq, deqs, boundD, slD, lenD, isT, chunks, mn_min, mx_max, D.cells, splice_one, splice_more, Rbr_at, Rfr_at, frR, frV, frC, flatC, brwR, brwV, brwC, omap, leR, leV, leC, leL, leVL, ← hhd, hlt]
        repeat' (first
          | simp [AK_at, acode_seq, acode_region, acode_draw, acode_cond, ↓CB_t, ↓CB_f, CB_u, acode_block, acode_loop, acode_exit, acode_scope, acode_ret, acode_skip, seqQ_n, seqQ_e, seqQ_r, blockQ_n, blockQ_e, blockQ_r, TK_at, OK_at, SK_at, aops_nil, aops_cons, asch_done, asch_one, asch_two, asch_top, astep, aop_eq, isLoud, aloud, aloud1, isWrite, qv, evS, strip, gof, eget, hget, putO, eput, herase, oks, opnds, gS, afin, afin0, binD, arith, D.cells, takeD, fillD, keep, trim, envOf, Fin, aresl, aresv, resD, argOk, pickV, isP, deq, deqs, boundD, slD, lenD, isT, chunks, mn_min, mx_max, D.cells, splice_one, splice_more, Rbr_at, Rfr_at, frR, frV, frC, flatC, brwR, brwV, brwC, omap, leR, leV, leC, leL, leVL, hw1]
          | (refine WCall.pf (hpk) ?_ ?_ ?_ ?_; (focus (simp [oks, opnds, gS, gof, eget]; done)); (focus (simp [omap, brwV, brwC, evS, eget, strip, hget, leVL, leV, leC, leL, hw1]; done)); (focus (simp [noV, noC, flatR, flatV, flatC, evS, eget, strip, hw1]; done)))
          | (refine ⟨WCall.pf (hpk) ?_ ?_ ?_ ?_, ?_⟩; (focus (simp [oks, opnds, gS, gof, eget]; done)); (focus (simp [omap, brwV, brwC, evS, eget, strip, hget, leVL, leV, leC, leL, hw1]; done)); (focus (simp [noV, noC, flatR, flatV, flatC, evS, eget, strip, hw1]; done)))
          | (refine WCall.pf (hpk2) ?_ ?_ ?_ ?_; (focus (simp [oks, opnds, gS, gof, eget]; done)); (focus (simp [omap, brwV, brwC, evS, eget, strip, hget, leVL, leV, leC, leL, hw1]; done)); (focus (simp [noV, noC, flatR, flatV, flatC, evS, eget, strip, hw1]; done)))
          | (refine ⟨WCall.pf (hpk2) ?_ ?_ ?_ ?_, ?_⟩; (focus (simp [oks, opnds, gS, gof, eget]; done)); (focus (simp [omap, brwV, brwC, evS, eget, strip, hget, leVL, leV, leC, leL, hw1]; done)); (focus (simp [noV, noC, flatR, flatV, flatC, evS, eget, strip, hw1]; done)))
          | (with_reducible refine And.intro (And.intro ?_ ?_) ?_)
          | fail)
end Go.Proofs.Ytgjngknkokgpjaa
