/- This text proves the laws TableOld, TableOnce and TableFull over the small machine. It has no condition of its own. -/
import Derived.Test.YtdlcjkmigcgkhaaTbs
set_option linter.unusedSimpArgs false
set_option linter.unusedVariables false
set_option maxRecDepth 100000
set_option maxHeartbeats 2000000
namespace Go.Proofs.Ytdlcjkmigcgkhaa
open Go.RowKit
theorem seated_ok (n : Int) (l : List (List Int)) (hn : InR n) (hl : l.length ≤ Go.maxLen) (hr : ∀ r ∈ l, r.length = 3 ∧ ∀ z ∈ r, InR z) :
    ∃ x, SInv 30 x ∧ PF Try.prog 41 [I n, .rows 3 (l.map fun r => r.map I)] (.tup [.agg [.rows 4 (x.tb.map TSlot.D)], .rows 2 (x.hs.map Hnd.D), .rows 1 (x.good.map GB), .rows 1 (x.at_.map GI), .bool true]) := by
  have rn := pickedZ_range n 6 (by omega)
  refine ⟨_, ?_, seated_pf n l hn hl hr⟩
  have h := seatN_inv l (1 + pickedZ n 6) (by omega) (by omega) (min 30 l.length) (by omega)
  have : ∀ (j i : Nat) (x : Seat), SInv i x → SInv (i + j) x := fun j => by
    induction j with
    | zero => exact fun i x h => h
    | succ j ih => exact fun i x h => by have := ih (i + 1) x h.up; rwa [show i + 1 + j = i + (j + 1) by omega] at this
  have h2 := this (30 - min 30 l.length) _ _ h
  rwa [show min 30 l.length + (30 - min 30 l.length) = 30 by omega] at h2
theorem tonce_code : cfun Try.prog [] 12 = some ⟨(.seq (.region 0 [⟨(some 4), (.mov (.k (.bool false))), none⟩]) (.seq (.region 1 [⟨(some 15), (.mov (.t 0)), none⟩, ⟨(some 16), (.mov (.t 1)), none⟩, ⟨(some 17), (.call 41 [(.t 15), (.t 16)]), none⟩, ⟨(some 14), (.mov (.t 17)), none⟩, ⟨(some 18), (.ext (.t 14) 0), none⟩, ⟨(some 19), (.ext (.t 14) 1), none⟩, ⟨(some 20), (.ext (.t 14) 2), none⟩, ⟨(some 21), (.ext (.t 14) 3), none⟩, ⟨(some 22), (.ext (.t 14) 4), none⟩, ⟨(some 5), (.alloc [.nil0]), none⟩, ⟨none, (.store 1 (.t 5) (.t 18)), none⟩, ⟨(some 6), (.mov (.t 19)), none⟩, ⟨(some 7), (.mov (.t 20)), none⟩, ⟨(some 8), (.mov (.t 21)), none⟩, ⟨(some 9), (.mov (.t 22)), none⟩]) (.seq (.seq (.region 2 [⟨(some 23), (.mov (.t 9)), none⟩, ⟨(some 24), (.not (.t 23)), none⟩]) (.cond 24 (.seq (.region 3 [⟨(some 4), (.mov (.k (.bool false))), none⟩]) .ret) .skip)) (.seq (.seq (.region 4 [⟨(some 10), (.mov (.k (.int .i64 0))), none⟩]) (.block 0 (.loop (.seq (.seq (.region 5 [⟨(some 25), (.mov (.t 10)), none⟩, ⟨(some 26), (.mov (.t 6)), none⟩, ⟨(some 27), (.len (.t 26)), none⟩, ⟨(some 28), (.bin .lss (.t 25) (.t 27)), none⟩]) (.cond 28 .skip (.exit 0))) (.seq (.block 1 (.seq (.seq (.region 7 [⟨(some 11), (.mov (.k (.int .i64 0))), none⟩]) (.block 2 (.loop (.seq (.seq (.region 8 [⟨(some 31), (.mov (.t 11)), none⟩, ⟨(some 32), (.mov (.t 10)), none⟩, ⟨(some 33), (.bin .lss (.t 31) (.t 32)), none⟩]) (.cond 33 .skip (.exit 2))) (.seq (.block 3 (.seq (.draw 10 (.one true ⟨(some 36), (.mov (.t 6)), none⟩ (.one true ⟨(some 37), (.mov (.t 10)), none⟩ (.one true ⟨(some 38), (.iads 2 (.t 36) (.t 37)), none⟩ (.one true ⟨(some 39), (.load true 2 (.t 38)), none⟩ (.one true ⟨(some 40), (.mov (.t 6)), none⟩ (.one true ⟨(some 41), (.mov (.t 11)), none⟩ (.one true ⟨(some 42), (.iads 2 (.t 40) (.t 41)), none⟩ (.one true ⟨(some 43), (.load true 2 (.t 42)), none⟩ (.one true ⟨(some 44), (.eqa false [.i, .i] (.t 39) (.t 43)), none⟩ .done)))))))))) (.cond 44 (.seq (.region 11 [⟨(some 4), (.mov (.k (.bool false))), none⟩]) .ret) .skip))) (.region 9 [⟨(some 34), (.mov (.t 11)), none⟩, ⟨(some 35), (.bin .add (.t 34) (.k (.int .i64 1))), none⟩, ⟨(some 11), (.mov (.t 35)), none⟩])))))) (.seq (.draw 12 (.one true ⟨(some 46), (.load true 1 (.t 5)), none⟩ (.one true ⟨(some 47), (.mov (.t 6)), none⟩ (.one true ⟨(some 48), (.mov (.t 10)), none⟩ (.one true ⟨(some 49), (.iads 2 (.t 47) (.t 48)), none⟩ (.one true ⟨(some 50), (.load true 2 (.t 49)), none⟩ (.two (.one true ⟨(some 51), (.call 42 [(.t 46), (.t 50)]), none⟩ (.one true ⟨(some 45), (.mov (.t 51)), none⟩ (.one true ⟨(some 52), (.ext (.t 45) 0), none⟩ (.one true ⟨(some 53), (.ext (.t 45) 1), none⟩ (.one true ⟨(some 12), (.alloc [(.int .i64 0), (.bool false), (.int .i64 0), (.int .i64 0)]), none⟩ (.one false ⟨none, (.store 4 (.t 12) (.t 52)), none⟩ (.one true ⟨(some 13), (.mov (.t 53)), none⟩ .done))))))) (.two (.one true ⟨(some 12), (.alloc [(.int .i64 0), (.bool false), (.int .i64 0), (.int .i64 0)]), none⟩ (.one true ⟨(some 51), (.call 42 [(.t 46), (.t 50)]), none⟩ (.one true ⟨(some 45), (.mov (.t 51)), none⟩ (.one true ⟨(some 52), (.ext (.t 45) 0), none⟩ (.one true ⟨(some 53), (.ext (.t 45) 1), none⟩ (.one false ⟨none, (.store 4 (.t 12) (.t 52)), none⟩ (.one true ⟨(some 13), (.mov (.t 53)), none⟩ .done))))))) .top)))))))) (.seq (.draw 13 (.one true ⟨(some 54), (.mov (.t 7)), none⟩ (.one true ⟨(some 55), (.mov (.t 10)), none⟩ (.one true ⟨(some 56), (.iads 1 (.t 54) (.t 55)), none⟩ (.one true ⟨(some 57), (.load false 1 (.t 56)), none⟩ (.one true ⟨(some 58), (.mov (.t 57)), none⟩ (.one true ⟨(some 59), (.mov (.t 13)), (some (58, true))⟩ (.one true ⟨(some 60), (.bin .neq (.t 59) (.k (.int .i64 0))), (some (58, true))⟩ (.one true ⟨(some 61), (.mov (.t 60)), (some (58, true))⟩ (.one true ⟨(some 62), (.fad 3 (.t 12)), (some (61, false))⟩ (.one true ⟨(some 63), (.load false 1 (.t 62)), (some (61, false))⟩ (.one true ⟨(some 64), (.mov (.t 8)), (some (61, false))⟩ (.one true ⟨(some 65), (.mov (.t 10)), (some (61, false))⟩ (.one true ⟨(some 66), (.iads 1 (.t 64) (.t 65)), (some (61, false))⟩ (.one true ⟨(some 67), (.load false 1 (.t 66)), (some (61, false))⟩ (.one true ⟨(some 68), (.bin .neq (.t 63) (.t 67)), (some (61, false))⟩ (.one true ⟨(some 69), (.pick (.t 61) (.k (.bool true)) (.t 68)), (some (58, true))⟩ (.one true ⟨(some 70), (.mov (.t 69)), (some (58, true))⟩ (.one true ⟨(some 71), (.fad 1 (.t 12)), (some (70, false))⟩ (.one true ⟨(some 72), (.load false 1 (.t 71)), (some (70, false))⟩ (.one true ⟨(some 73), (.not (.t 72)), (some (70, false))⟩ (.one true ⟨(some 74), (.pick (.t 70) (.k (.bool true)) (.t 73)), (some (58, true))⟩ (.one true ⟨(some 75), (.pick (.t 58) (.t 74) (.k (.bool false))), none⟩ (.one true ⟨(some 76), (.mov (.t 75)), none⟩ (.one true ⟨(some 77), (.mov (.t 7)), (some (76, false))⟩ (.one true ⟨(some 78), (.mov (.t 10)), (some (76, false))⟩ (.one true ⟨(some 79), (.iads 1 (.t 77) (.t 78)), (some (76, false))⟩ (.one true ⟨(some 80), (.load false 1 (.t 79)), (some (76, false))⟩ (.one true ⟨(some 81), (.not (.t 80)), (some (76, false))⟩ (.one true ⟨(some 82), (.mov (.t 81)), (some (76, false))⟩ (.one true ⟨(some 83), (.mov (.t 13)), (some (82, true))⟩ (.one true ⟨(some 84), (.bin .neq (.t 83) (.k (.int .i64 10))), (some (82, true))⟩ (.one true ⟨(some 85), (.pick (.t 82) (.t 84) (.k (.bool false))), (some (76, false))⟩ (.one true ⟨(some 86), (.pick (.t 76) (.k (.bool true)) (.t 85)), none⟩ .done)))))))))))))))))))))))))))))))))) (.cond 86 (.seq (.region 14 [⟨(some 4), (.mov (.k (.bool false))), none⟩]) .ret) .skip))))) (.region 6 [⟨(some 29), (.mov (.t 10)), none⟩, ⟨(some 30), (.bin .add (.t 29) (.k (.int .i64 1))), none⟩, ⟨(some 10), (.mov (.t 30)), none⟩])))))) (.seq (.region 15 [⟨(some 4), (.mov (.k (.bool true))), none⟩]) .ret))))), [(.t 4)], 87⟩ := by kernel_rfl
theorem tonce_pf (n : Int) (l : List (List Int)) (hn : InR n) (hl : l.length ≤ Go.maxLen) (hr : ∀ r ∈ l, r.length = 3 ∧ ∀ z ∈ r, InR z) : PF Try.prog 12 [I n, .rows 3 (l.map fun r => r.map I)] (.bool true) := by
  obtain ⟨x, hI, hpf⟩ := seated_ok n l hn hl hr
  have e1 := hI.lg
  have e2 := hI.la
  have hle := hI.le
  refine PF.of follows_ok tonce_code (by simp) (by simp [argOk]) (by simp [noV, noC]) fun B hBN hB0 => acode_sound [0, 1, 4, 5, 6, 7, 8, 9, 10, 11, 12, 13, 24, 28, 33, 44, 86] [] _ _ _ ?_
  simp [AK_at, acode_seq, acode_region, acode_draw, acode_cond, ↓CB_t, ↓CB_f, CB_u, acode_block, acode_loop, acode_exit, acode_scope, acode_ret, acode_skip, seqQ_n, seqQ_e, seqQ_r, blockQ_n, blockQ_e, blockQ_r, TK_at, OK_at, SK_at, aops_nil, aops_cons, asch_done, asch_one, asch_two, asch_top, astep, aop_eq, isLoud, aloud, aloud1, isWrite, qv, evS, strip, gof, eget, hget, putO, eput, herase, oks, opnds, gS, afin, afin0, binD, arith, D.cells, takeD, fillD, keep, trim, envOf, Fin, aresl, aresv, resD, argOk, pickV, isP, deq, deqs, boundD, slD, lenD, isT, chunks, mn_min, mx_max, D.cells, splice_one, splice_more, Rbr_at, Rfr_at, frR, frV, frC, flatC, brwR, brwV, brwC, omap, leR, leV, leC, leL, leVL]
  repeat' (first
    | simp [AK_at, acode_seq, acode_region, acode_draw, acode_cond, ↓CB_t, ↓CB_f, CB_u, acode_block, acode_loop, acode_exit, acode_scope, acode_ret, acode_skip, seqQ_n, seqQ_e, seqQ_r, blockQ_n, blockQ_e, blockQ_r, TK_at, OK_at, SK_at, aops_nil, aops_cons, asch_done, asch_one, asch_two, asch_top, astep, aop_eq, isLoud, aloud, aloud1, isWrite, qv, evS, strip, gof, eget, hget, putO, eput, herase, oks, opnds, gS, afin, afin0, binD, arith, D.cells, takeD, fillD, keep, trim, envOf, Fin, aresl, aresv, resD, argOk, pickV, isP, deq, deqs, boundD, slD, lenD, isT, chunks, mn_min, mx_max, D.cells, splice_one, splice_more, Rbr_at, Rfr_at, frR, frV, frC, flatC, brwR, brwV, brwC, omap, leR, leV, leC, leL, leVL]
    | (refine WCall.pf (hpf) ?_ ?_ ?_ ?_; (focus (simp [oks, opnds, gS, gof, eget]; done)); (focus (simp [omap, brwV, brwC, evS, eget, strip, hget, leVL, leV, leC, leL]; done)); (focus (simp [noV, noC, flatR, flatV, flatC, evS, eget, strip]; done)))
    | (refine ⟨WCall.pf (hpf) ?_ ?_ ?_ ?_, ?_⟩; (focus (simp [oks, opnds, gS, gof, eget]; done)); (focus (simp [omap, brwV, brwC, evS, eget, strip, hget, leVL, leV, leC, leL]; done)); (focus (simp [noV, noC, flatR, flatV, flatC, evS, eget, strip]; done)))
    | fail)
  refine W.loopS (fun y : Nat => ⟨[(10, I y), (8, D.rows 1 (x.at_.map GI)), (7, D.rows 1 (x.good.map GB)), (6, D.rows 2 (x.hs.map Hnd.D)), (5, .ptr 0 0), (4, .bool false)], [(0, .cells [.rows 4 (x.tb.map TSlot.D)])], 1⟩)
    (fun n y => n = x.hs.length - y ∧ y ≤ x.hs.length) ?_ ?_
  · exact ⟨_, 0, (Gh.ren [0] (by simp [hB0]) (by simp [hB0]) (by simp [eget, rnS, rnR, rnV, rnC, LtS, LtR, LtV, LtC, lget]) (by simp [hget, rnO, rnC, LtO, LtC, lget]) (.inl (by simp [lget]))), rfl, by omega⟩
  rintro m i ⟨hm, hi⟩
  refine acode_sound [0, 1, 4, 5, 6, 7, 8, 9, 10, 11, 12, 13, 24, 28, 33, 44, 86] [] _ _ _ ?_
  by_cases hlt : i < x.hs.length
  · have hig : i < x.good.length := by omega
    have hia : i < x.at_.length := by omega
    have ii : InR ((i : Int) + 1) := inB (by omega) (by omega)
    obtain ⟨p, hp⟩ : ∃ p, p = x.hs[i] := ⟨_, rfl⟩
    have hpd : x.hs.getD i (0, 0) = p := by rw [hp]; simp [List.getD, hlt]
    simp [AK_at, acode_seq, acode_region, acode_draw, acode_cond, ↓CB_t, ↓CB_f, CB_u, acode_block, acode_loop, acode_exit, acode_scope, acode_ret, acode_skip, seqQ_n, seqQ_e, seqQ_r, blockQ_n, blockQ_e, blockQ_r, TK_at, OK_at, SK_at, aops_nil, aops_cons, asch_done, asch_one, asch_two, asch_top, astep, aop_eq, isLoud, aloud, aloud1, isWrite, qv, evS, strip, gof, eget, hget, putO, eput, herase, oks, opnds, gS, afin, afin0, binD, arith, D.cells, takeD, fillD, keep, trim, envOf, Fin, aresl, aresv, resD, argOk, pickV, isP, deq, deqs, boundD, slD, lenD, isT, chunks, mn_min, mx_max, D.cells, splice_one, splice_more, Rbr_at, Rfr_at, frR, frV, frC, flatC, brwR, brwV, brwC, omap, leR, leV, leC, leL, leVL, hlt]
    refine W.loopS (fun y : Nat => ⟨[(11, I y), (10, I i), (8, D.rows 1 (x.at_.map GI)), (7, D.rows 1 (x.good.map GB)), (6, D.rows 2 (x.hs.map Hnd.D)), (5, .ptr 0 0), (4, .bool false)], [(0, .cells [.rows 4 (x.tb.map TSlot.D)])], 1⟩)
      (fun n y => n = i - y ∧ y ≤ i) ?_ ?_
    · exact ⟨_, 0, (Gh.ren [0] (by simp [hB0]) (by simp [hB0]) (by simp [eget, rnS, rnR, rnV, rnC, LtS, LtR, LtV, LtC, lget]) (by simp [hget, rnO, rnC, LtO, LtC, lget]) (.inl (by simp [lget]))), rfl, by omega⟩
    rintro m2 j ⟨hm2, hj⟩
    refine acode_sound [0, 1, 4, 5, 6, 7, 8, 9, 10, 11, 12, 13, 24, 28, 33, 44, 86] [] _ _ _ ?_
    by_cases hji : j < i
    · have hjl : j < x.hs.length := by omega
      have ij : InR ((j : Int) + 1) := inB (by omega) (by omega)
      obtain ⟨r, hrr⟩ : ∃ r, r = x.hs[j] := ⟨_, rfl⟩
      have hrd : x.hs.getD j (0, 0) = r := by rw [hrr]; simp [List.getD, hjl]
      have hne : (p.1 : Int) = (r.1 : Int) → ¬ p.2 = r.2 := fun e1 e2 => by
        have := hI.uniq j i hji hlt
        rw [hpd, hrd] at this
        exact this (Prod.ext (by omega) e2.symm)
      have hne2 : (decide ((p.1 : Int) = (r.1 : Int)) && decide (p.2 = r.2)) = false := by
        rw [Bool.and_eq_false_iff]
        by_cases h5 : (p.1 : Int) = (r.1 : Int)
        · right; exact decide_eq_false (hne h5)
        · left; exact decide_eq_false h5
      simp [AK_at, acode_seq, acode_region, acode_draw, acode_cond, ↓CB_t, ↓CB_f, CB_u, acode_block, acode_loop, acode_exit, acode_scope, acode_ret, acode_skip, seqQ_n, seqQ_e, seqQ_r, blockQ_n, blockQ_e, blockQ_r, TK_at, OK_at, SK_at, aops_nil, aops_cons, asch_done, asch_one, asch_two, asch_top, astep, aop_eq, isLoud, aloud, aloud1, isWrite, qv, evS, strip, gof, eget, hget, putO, eput, herase, oks, opnds, gS, afin, afin0, binD, arith, D.cells, takeD, fillD, keep, trim, envOf, Fin, aresl, aresv, resD, argOk, pickV, isP, deq, deqs, boundD, slD, lenD, isT, chunks, mn_min, mx_max, D.cells, splice_one, splice_more, Rbr_at, Rfr_at, frR, frV, frC, flatC, brwR, brwV, brwC, omap, leR, leV, leC, leL, leVL, hji, hlt, hjl, ← hp, ← hrr, Hnd.D, hne2, hne, ij]
      first
        | exact ⟨hne, fun _ => ⟨_, j + 1, (Gh.ren [0] (by simp [hB0]) (by simp [hB0]) (by simp [eget, rnS, rnR, rnV, rnC, LtS, LtR, LtV, LtC, lget]) (by simp [hget, rnO, rnC, LtO, LtC, lget]) (.inl (by simp [lget]))), by omega, rfl, by omega⟩⟩
        | exact ⟨hne, _, j + 1, (Gh.ren [0] (by simp [hB0]) (by simp [hB0]) (by simp [eget, rnS, rnR, rnV, rnC, LtS, LtR, LtV, LtC, lget]) (by simp [hget, rnO, rnC, LtO, LtC, lget]) (.inl (by simp [lget]))), by omega, rfl, by omega⟩
        | exact ⟨_, j + 1, (Gh.ren [0] (by simp [hB0]) (by simp [hB0]) (by simp [eget, rnS, rnR, rnV, rnC, LtS, LtR, LtV, LtC, lget]) (by simp [hget, rnO, rnC, LtO, LtC, lget]) (.inl (by simp [lget]))), by omega, rfl, by omega⟩
    · have hgm := hI.get hlt
      have hslt := hI.slot i hlt
      rw [hpd] at hgm hslt
      have hgp := tget_pf x.tb p.1 p.2 hI.tok
      have hgd : x.good.getD i false = x.good[i] := by simp [List.getD, hig]
      have had : x.at_.getD i 0 = x.at_[i] := by simp [List.getD, hia]
      rw [hgd] at hgm
      cases hgk : x.good[i] with
      | true =>
        have hlv := hI.live i hlt (by rw [hgd, hgk])
        rw [hpd, had] at hlv
        obtain ⟨l1, l2, l3⟩ := hlv
        rw [hgk, if_pos rfl] at hgm
        rw [hgm] at hgp
        obtain ⟨v, hv⟩ : ∃ v, v = x.tb.getD p.1 tzero := ⟨_, rfl⟩
        rw [← hv] at hgp l1 l2 l3
        repeat' (first
          | simp [AK_at, acode_seq, acode_region, acode_draw, acode_cond, ↓CB_t, ↓CB_f, CB_u, acode_block, acode_loop, acode_exit, acode_scope, acode_ret, acode_skip, seqQ_n, seqQ_e, seqQ_r, blockQ_n, blockQ_e, blockQ_r, TK_at, OK_at, SK_at, aops_nil, aops_cons, asch_done, asch_one, asch_two, asch_top, astep, aop_eq, isLoud, aloud, aloud1, isWrite, qv, evS, strip, gof, eget, hget, putO, eput, herase, oks, opnds, gS, afin, afin0, binD, arith, D.cells, takeD, fillD, keep, trim, envOf, Fin, aresl, aresv, resD, argOk, pickV, isP, deq, deqs, boundD, slD, lenD, isT, chunks, mn_min, mx_max, D.cells, splice_one, splice_more, Rbr_at, Rfr_at, frR, frV, frC, flatC, brwR, brwV, brwC, omap, leR, leV, leC, leL, leVL, hji, hlt, hig, hia, ← hp, Hnd.D, TSlot.D, GB, GI, hgk, l1, l3, ii]
          | (refine WCall.pf (hgp) ?_ ?_ ?_ ?_; (focus (simp [oks, opnds, gS, gof, eget]; done)); (focus (simp [omap, brwV, brwC, evS, eget, strip, hget, leVL, leV, leC, leL, hji, hlt, hig, hia, ← hp, Hnd.D, TSlot.D, GB, GI, hgk, l1, l3, ii]; done)); (focus (simp [noV, noC, flatR, flatV, flatC, evS, eget, strip, hji, hlt, hig, hia, ← hp, Hnd.D, TSlot.D, GB, GI, hgk, l1, l3, ii]; done)))
          | (refine ⟨WCall.pf (hgp) ?_ ?_ ?_ ?_, ?_⟩; (focus (simp [oks, opnds, gS, gof, eget]; done)); (focus (simp [omap, brwV, brwC, evS, eget, strip, hget, leVL, leV, leC, leL, hji, hlt, hig, hia, ← hp, Hnd.D, TSlot.D, GB, GI, hgk, l1, l3, ii]; done)); (focus (simp [noV, noC, flatR, flatV, flatC, evS, eget, strip, hji, hlt, hig, hia, ← hp, Hnd.D, TSlot.D, GB, GI, hgk, l1, l3, ii]; done)))
          | fail)
        all_goals exact ⟨_, i + 1, (Gh.ren [0] (by simp [hB0]) (by simp [hB0]) (by simp [eget, rnS, rnR, rnV, rnC, LtS, LtR, LtV, LtC, lget]) (by simp [hget, rnO, rnC, LtO, LtC, lget]) (.inl (by simp [lget]))), by omega, rfl, by omega⟩
      | false =>
        rw [hgk] at hgm
        rw [hgm] at hgp
        repeat' (first
          | simp [AK_at, acode_seq, acode_region, acode_draw, acode_cond, ↓CB_t, ↓CB_f, CB_u, acode_block, acode_loop, acode_exit, acode_scope, acode_ret, acode_skip, seqQ_n, seqQ_e, seqQ_r, blockQ_n, blockQ_e, blockQ_r, TK_at, OK_at, SK_at, aops_nil, aops_cons, asch_done, asch_one, asch_two, asch_top, astep, aop_eq, isLoud, aloud, aloud1, isWrite, qv, evS, strip, gof, eget, hget, putO, eput, herase, oks, opnds, gS, afin, afin0, binD, arith, D.cells, takeD, fillD, keep, trim, envOf, Fin, aresl, aresv, resD, argOk, pickV, isP, deq, deqs, boundD, slD, lenD, isT, chunks, mn_min, mx_max, D.cells, splice_one, splice_more, Rbr_at, Rfr_at, frR, frV, frC, flatC, brwR, brwV, brwC, omap, leR, leV, leC, leL, leVL, hji, hlt, hig, hia, ← hp, Hnd.D, TSlot.D, GB, GI, hgk, ii]
          | (refine WCall.pf (hgp) ?_ ?_ ?_ ?_; (focus (simp [oks, opnds, gS, gof, eget]; done)); (focus (simp [omap, brwV, brwC, evS, eget, strip, hget, leVL, leV, leC, leL, hji, hlt, hig, hia, ← hp, Hnd.D, TSlot.D, GB, GI, hgk, ii]; done)); (focus (simp [noV, noC, flatR, flatV, flatC, evS, eget, strip, hji, hlt, hig, hia, ← hp, Hnd.D, TSlot.D, GB, GI, hgk, ii]; done)))
          | (refine ⟨WCall.pf (hgp) ?_ ?_ ?_ ?_, ?_⟩; (focus (simp [oks, opnds, gS, gof, eget]; done)); (focus (simp [omap, brwV, brwC, evS, eget, strip, hget, leVL, leV, leC, leL, hji, hlt, hig, hia, ← hp, Hnd.D, TSlot.D, GB, GI, hgk, ii]; done)); (focus (simp [noV, noC, flatR, flatV, flatC, evS, eget, strip, hji, hlt, hig, hia, ← hp, Hnd.D, TSlot.D, GB, GI, hgk, ii]; done)))
          | fail)
        all_goals exact ⟨_, i + 1, (Gh.ren [0] (by simp [hB0]) (by simp [hB0]) (by simp [eget, rnS, rnR, rnV, rnC, LtS, LtR, LtV, LtC, lget]) (by simp [hget, rnO, rnC, LtO, LtC, lget]) (.inl (by simp [lget]))), by omega, rfl, by omega⟩
  · simp [AK_at, acode_seq, acode_region, acode_draw, acode_cond, ↓CB_t, ↓CB_f, CB_u, acode_block, acode_loop, acode_exit, acode_scope, acode_ret, acode_skip, seqQ_n, seqQ_e, seqQ_r, blockQ_n, blockQ_e, blockQ_r, TK_at, OK_at, SK_at, aops_nil, aops_cons, asch_done, asch_one, asch_two, asch_top, astep, aop_eq, isLoud, aloud, aloud1, isWrite, qv, evS, strip, gof, eget, hget, putO, eput, herase, oks, opnds, gS, afin, afin0, binD, arith, D.cells, takeD, fillD, keep, trim, envOf, Fin, aresl, aresv, resD, argOk, pickV, isP, deq, deqs, boundD, slD, lenD, isT, chunks, mn_min, mx_max, D.cells, splice_one, splice_more, Rbr_at, Rfr_at, frR, frV, frC, flatC, brwR, brwV, brwC, omap, leR, leV, leC, leL, leVL, hlt]
end Go.Proofs.Ytdlcjkmigcgkhaa
