/- This text proves the law TableCount over the small machine. It has no condition of its own. -/
import Derived.Test.YtdlcjkmigcgkhaaTbn
set_option linter.unusedSimpArgs false
set_option linter.unusedVariables false
set_option maxRecDepth 100000
set_option maxHeartbeats 2000000
namespace Go.Proofs.Ytdlcjkmigcgkhaa
open Go.RowKit
/-- flows of a backend -/
def cntB (l : List TSlot) (b : Int) : Nat := l.countP fun s => s.used && decide (s.backend = b)
def countsL (l : List TSlot) : List Int := (List.range 12).map fun (b : Nat) => ((cntB l (b : Int) : Nat) : Int)
theorem cntB_app (l : List TSlot) (s : TSlot) (b : Int) : cntB (l ++ [s]) b = cntB l b + if s.used = true ∧ s.backend = b then 1 else 0 := by
  unfold cntB
  rw [List.countP_append]
  congr 1
  simp [List.countP_cons]
theorem cntB_take (l : List TSlot) (i : Nat) (h : i < l.length) (b : Int) : cntB (l.take (i + 1)) b = cntB (l.take i) b + if l[i].used = true ∧ l[i].backend = b then 1 else 0 := by
  rw [List.take_succ_eq_append_getElem h, cntB_app]
theorem cntB_le (l : List TSlot) (b : Int) : cntB l b ≤ l.length := List.countP_le_length
theorem countsL_get (l : List TSlot) (j : Nat) (h : j < 12) : (countsL l)[j]'(by simp [countsL, h]) = cntB l j := by simp [countsL]
theorem countsL_same (l : List TSlot) (i : Nat) (h : i < l.length) (hu : l[i].used = false) : countsL (l.take (i + 1)) = countsL (l.take i) := by
  unfold countsL
  refine List.map_congr_left fun b _ => ?_
  rw [cntB_take l i h, hu]; simp
theorem countsL_set (l : List TSlot) (i : Nat) (h : i < l.length) (hu : l[i].used = true) (k : Nat) (hk : l[i].backend = k) (hk2 : k < 12) : countsL (l.take (i + 1)) = (countsL (l.take i)).set k ((cntB (l.take i) k : Nat) + 1) := by
  refine List.ext_getElem (by simp [countsL]) fun j h1 h2 => ?_
  have hj : j < 12 := by simpa [countsL] using h1
  rw [List.getElem_set]
  simp only [countsL, List.getElem_map, List.getElem_range]
  rw [cntB_take l i h, hu, hk]
  by_cases hjk : k = j
  · subst hjk; simp
  · rw [if_neg (by omega), if_neg hjk]; simp
theorem countsL_nil : countsL [] = [0, 0, 0, 0, 0, 0, 0, 0, 0, 0, 0, 0] := rfl
theorem tcounts_code : cfun Try.prog [] 55 = some ⟨(.seq (.region 0 [⟨(some 1), (.box (.t 0)), none⟩, ⟨(some 2), (.mov (.k .nil0)), none⟩, ⟨(some 3), (.mov (.k (.int .i64 0))), none⟩]) (.seq (.seq (.region 1 [⟨(some 8), (.load true 1 (.t 1)), none⟩, ⟨(some 9), (.call 40 [(.t 8)]), none⟩, ⟨(some 4), (.mov (.t 9)), none⟩]) (.seq (.region 2 [⟨(some 10), (.mov (.t 4)), none⟩, ⟨(some 11), (.bin .neq (.t 10) (.k (.int .i64 0))), none⟩]) (.cond 11 (.seq (.region 3 [⟨(some 12), (.mov (.t 4)), none⟩, ⟨(some 2), (.mov (.k .nil0)), none⟩, ⟨(some 3), (.mov (.t 12)), none⟩]) .ret) .skip))) (.seq (.region 4 [⟨(some 13), (.mks 1 8 [(.int .i64 0)] (.k (.int .i64 12)) (.k (.int .i64 12))), none⟩, ⟨(some 5), (.mov (.t 13)), none⟩]) (.seq (.seq (.region 5 [⟨(some 14), (.fad 0 (.t 1)), none⟩, ⟨(some 15), (.load false 1 (.t 14)), none⟩, ⟨(some 16), (.len (.t 15)), none⟩, ⟨(some 17), (.mov (.k (.int .i64 0))), none⟩]) (.block 0 (.loop (.seq (.region 6 [⟨(some 18), (.bin .lss (.t 17) (.t 16)), none⟩]) (.seq (.cond 18 .skip (.exit 0)) (.seq (.block 1 (.seq (.region 7 [⟨(some 19), (.iads 4 (.t 15) (.t 17)), none⟩, ⟨(some 20), (.load true 4 (.t 19)), none⟩, ⟨(some 7), (.alloc [(.int .i64 0), (.bool false), (.int .i64 0), (.int .i64 0)]), none⟩, ⟨none, (.store 4 (.t 7) (.t 20)), none⟩]) (.seq (.region 8 [⟨(some 21), (.fad 1 (.t 7)), none⟩, ⟨(some 22), (.load false 1 (.t 21)), none⟩]) (.cond 22 (.region 9 [⟨(some 23), (.mov (.t 5)), none⟩, ⟨(some 24), (.fad 3 (.t 7)), none⟩, ⟨(some 25), (.load false 1 (.t 24)), none⟩, ⟨(some 26), (.iads 1 (.t 23) (.t 25)), none⟩, ⟨(some 27), (.load false 1 (.t 26)), none⟩, ⟨(some 28), (.bin .add (.t 27) (.k (.int .i64 1))), none⟩, ⟨(some 29), (.iads 1 (.t 23) (.t 25)), none⟩, ⟨none, (.store 1 (.t 29) (.t 28)), none⟩]) .skip)))) (.region 10 [⟨(some 30), (.bin .add (.t 17) (.k (.int .i64 1))), none⟩, ⟨(some 17), (.mov (.t 30)), none⟩]))))))) (.seq (.region 11 [⟨(some 31), (.mov (.t 5)), none⟩, ⟨(some 2), (.mov (.t 31)), none⟩, ⟨(some 3), (.mov (.k (.int .i64 0))), none⟩]) .ret))))), [(.t 2), (.t 3)], 32⟩ := by kernel_rfl
theorem tcounts_pf (l : List TSlot) (h : TOk l) : PF Try.prog 55 [.agg [.rows 4 (l.map TSlot.D)]] (.tup [.rows 1 ((countsL l).map GI), I 0]) := by
  have hl := h.2.1
  refine PF.of follows_ok tcounts_code (by simp) (by simp [argOk]) (by simp [noV, noC]) fun B hBN hB0 => acode_sound [0, 1, 2, 3, 4, 5, 7, 11, 15, 16, 17, 18, 22] [] _ _ _ ?_
  simp [AK_at, acode_seq, acode_region, acode_draw, acode_cond, ↓CB_t, ↓CB_f, CB_u, acode_block, acode_loop, acode_exit, acode_scope, acode_ret, acode_skip, seqQ_n, seqQ_e, seqQ_r, blockQ_n, blockQ_e, blockQ_r, TK_at, OK_at, SK_at, aops_nil, aops_cons, asch_done, asch_one, asch_two, asch_top, astep, aop_eq, isLoud, aloud, aloud1, isWrite, qv, evS, strip, gof, eget, hget, putO, eput, herase, oks, opnds, gS, afin, afin0, binD, arith, D.cells, takeD, fillD, keep, trim, envOf, Fin, aresl, aresv, resD, argOk, pickV, isP, deq, deqs, boundD, slD, lenD, isT, chunks, mn_min, mx_max, D.cells, splice_one, splice_more, Rbr_at, Rfr_at, frR, frV, frC, flatC, brwR, brwV, brwC, omap, leR, leV, leC, leL, leVL]
  repeat' (first
    | simp [AK_at, acode_seq, acode_region, acode_draw, acode_cond, ↓CB_t, ↓CB_f, CB_u, acode_block, acode_loop, acode_exit, acode_scope, acode_ret, acode_skip, seqQ_n, seqQ_e, seqQ_r, blockQ_n, blockQ_e, blockQ_r, TK_at, OK_at, SK_at, aops_nil, aops_cons, asch_done, asch_one, asch_two, asch_top, astep, aop_eq, isLoud, aloud, aloud1, isWrite, qv, evS, strip, gof, eget, hget, putO, eput, herase, oks, opnds, gS, afin, afin0, binD, arith, D.cells, takeD, fillD, keep, trim, envOf, Fin, aresl, aresv, resD, argOk, pickV, isP, deq, deqs, boundD, slD, lenD, isT, chunks, mn_min, mx_max, D.cells, splice_one, splice_more, Rbr_at, Rfr_at, frR, frV, frC, flatC, brwR, brwV, brwC, omap, leR, leV, leC, leL, leVL]
    | (refine WCall.pf (tcheck_pf l h) ?_ ?_ ?_ ?_; (focus (simp [oks, opnds, gS, gof, eget]; done)); (focus (simp [omap, brwV, brwC, evS, eget, strip, hget, leVL, leV, leC, leL]; done)); (focus (simp [noV, noC, flatR, flatV, flatC, evS, eget, strip]; done)))
    | (refine ⟨WCall.pf (tcheck_pf l h) ?_ ?_ ?_ ?_, ?_⟩; (focus (simp [oks, opnds, gS, gof, eget]; done)); (focus (simp [omap, brwV, brwC, evS, eget, strip, hget, leVL, leV, leC, leL]; done)); (focus (simp [noV, noC, flatR, flatV, flatC, evS, eget, strip]; done)))
    | (with_reducible refine And.intro (And.intro ?_ ?_) ?_)
    | fail)
  refine W.loopS (fun y : Nat × List Int => ⟨[(17, I y.1), (16, I l.length), (15, D.rows 4 (l.map TSlot.D)), (5, .own 0)], [(0, .row 1 (y.2.map GI))], 1⟩)
    (fun n y => n = l.length - y.1 ∧ y.1 ≤ l.length ∧ y.2 = countsL (l.take y.1)) ?_ ?_
  · exact ⟨_, (0, countsL []), (Gh.ren [1] (by simp [hB0]) (by simp [hB0]) (by simp [eget, rnS, rnR, rnV, rnC, LtS, LtR, LtV, LtC, lget, countsL_nil, GI]) (by simp [hget, rnO, rnC, LtO, LtC, lget, countsL_nil, GI]) (.inl (by simp [lget]))), rfl, by omega, by simp⟩
  rintro n ⟨i, cs⟩ ⟨hn, hi, hcs⟩
  simp only at hn hi hcs
  refine acode_sound [0, 1, 2, 3, 4, 5, 7, 11, 15, 16, 17, 18, 22] [] _ _ _ ?_
  by_cases hlt : i < l.length
  · obtain ⟨s, hs⟩ : ∃ s, s = l[i] := ⟨_, rfl⟩
    have ii : InR ((i : Int) + 1) := inB (by omega) (by omega)
    have hok := h.2.2 _ (List.getElem_mem hlt)
    have q1 := countsL_same l i hlt
    have q2 := countsL_set l i hlt
    rw [← hs] at hok q1 q2
    have hlen : cs.length = 12 := by rw [hcs]; simp [countsL]
    cases hu : s.used with
    | false =>
      simp [AK_at, acode_seq, acode_region, acode_draw, acode_cond, ↓CB_t, ↓CB_f, CB_u, acode_block, acode_loop, acode_exit, acode_scope, acode_ret, acode_skip, seqQ_n, seqQ_e, seqQ_r, blockQ_n, blockQ_e, blockQ_r, TK_at, OK_at, SK_at, aops_nil, aops_cons, asch_done, asch_one, asch_two, asch_top, astep, aop_eq, isLoud, aloud, aloud1, isWrite, qv, evS, strip, gof, eget, hget, putO, eput, herase, oks, opnds, gS, afin, afin0, binD, arith, D.cells, takeD, fillD, keep, trim, envOf, Fin, aresl, aresv, resD, argOk, pickV, isP, deq, deqs, boundD, slD, lenD, isT, chunks, mn_min, mx_max, D.cells, splice_one, splice_more, Rbr_at, Rfr_at, frR, frV, frC, flatC, brwR, brwV, brwC, omap, leR, leV, leC, leL, leVL, hlt, ← hs, TSlot.D, hu, ii]
      exact ⟨_, (i + 1, cs), (Gh.ren [0] (by simp [hB0]) (by simp [hB0]) (by simp [eget, rnS, rnR, rnV, rnC, LtS, LtR, LtV, LtC, lget, GI]) (by simp [hget, rnO, rnC, LtO, LtC, lget, GI]) (.inl (by simp [lget]))), by omega, rfl, by omega, by rw [q1 hu, hcs]⟩
    | true =>
      obtain ⟨_, _, _, b0, b1⟩ := hok.2.2 hu
      obtain ⟨k, hk⟩ : ∃ k : Nat, s.backend = k := ⟨s.backend.toNat, by omega⟩
      have k12 : k < 12 := by omega
      have hkl : k < cs.length := by omega
      have hck : cs[k] = (cntB (l.take i) k : Nat) := by
        subst hcs
        exact countsL_get _ _ k12
      have hle := cntB_le (l.take i) k
      have hle2 : (l.take i).length ≤ l.length := by simp; omega
      have ic : InR ((cntB (l.take i) k : Nat) + (1 : Int)) := inB (by omega) (by omega)
      simp [AK_at, acode_seq, acode_region, acode_draw, acode_cond, ↓CB_t, ↓CB_f, CB_u, acode_block, acode_loop, acode_exit, acode_scope, acode_ret, acode_skip, seqQ_n, seqQ_e, seqQ_r, blockQ_n, blockQ_e, blockQ_r, TK_at, OK_at, SK_at, aops_nil, aops_cons, asch_done, asch_one, asch_two, asch_top, astep, aop_eq, isLoud, aloud, aloud1, isWrite, qv, evS, strip, gof, eget, hget, putO, eput, herase, oks, opnds, gS, afin, afin0, binD, arith, D.cells, takeD, fillD, keep, trim, envOf, Fin, aresl, aresv, resD, argOk, pickV, isP, deq, deqs, boundD, slD, lenD, isT, chunks, mn_min, mx_max, D.cells, splice_one, splice_more, Rbr_at, Rfr_at, frR, frV, frC, flatC, brwR, brwV, brwC, omap, leR, leV, leC, leL, leVL, hlt, ← hs, TSlot.D, hu, ii, hk, hkl, GI, hck, ic]
      exact ⟨_, (i + 1, cs.set k ((cntB (l.take i) k : Nat) + (1 : Int))), (Gh.ren [0] (by simp [hB0]) (by simp [hB0]) (by simp [eget, rnS, rnR, rnV, rnC, LtS, LtR, LtV, LtC, lget, GI]) (by simp [hget, rnO, rnC, LtO, LtC, lget, GI]) (.inl (by simp [lget]))), by omega, rfl, by omega, by rw [q2 hu k hk k12, hcs]⟩
  · have hie : i = l.length := by omega
    subst hie
    rw [List.take_length] at hcs
    simp [AK_at, acode_seq, acode_region, acode_draw, acode_cond, ↓CB_t, ↓CB_f, CB_u, acode_block, acode_loop, acode_exit, acode_scope, acode_ret, acode_skip, seqQ_n, seqQ_e, seqQ_r, blockQ_n, blockQ_e, blockQ_r, TK_at, OK_at, SK_at, aops_nil, aops_cons, asch_done, asch_one, asch_two, asch_top, astep, aop_eq, isLoud, aloud, aloud1, isWrite, qv, evS, strip, gof, eget, hget, putO, eput, herase, oks, opnds, gS, afin, afin0, binD, arith, D.cells, takeD, fillD, keep, trim, envOf, Fin, aresl, aresv, resD, argOk, pickV, isP, deq, deqs, boundD, slD, lenD, isT, chunks, mn_min, mx_max, D.cells, splice_one, splice_more, Rbr_at, Rfr_at, frR, frV, frC, flatC, brwR, brwV, brwC, omap, leR, leV, leC, leL, leVL, hcs]
/-- handles of a backend -/
def ofL (l : List TSlot) (b : Int) : List Hnd := (l.zipIdx.filter fun p => p.1.used && decide (p.1.backend = b)).map fun p => (p.2, p.1.gen)
theorem ofL_len (l : List TSlot) (b : Int) : (ofL l b).length = cntB l b := by
  unfold ofL cntB
  rw [List.length_map, ← List.countP_eq_length_filter]
  have : (l.zipIdx.map Prod.fst) = l := by simp
  conv => rhs; rw [← this, List.countP_map]
  rfl
theorem ofL_take (l : List TSlot) (i : Nat) (h : i < l.length) (b : Int) : ofL (l.take (i + 1)) b = ofL (l.take i) b ++ if l[i].used = true ∧ l[i].backend = b then [(i, l[i].gen)] else [] := by
  unfold ofL
  rw [List.take_succ_eq_append_getElem h, List.zipIdx_append, List.filter_append, List.map_append]
  congr 1
  have : (l.take i).length = i := by simp; omega
  by_cases hc : l[i].used = true ∧ l[i].backend = b
  · simp [hc.1, hc.2, this]
  · rw [if_neg hc]
    simp only [List.zipIdx_cons, List.zipIdx_nil, List.filter_cons, List.filter_nil]
    rw [if_neg (by simpa using hc)]
    rfl
theorem tofb_code : cfun Try.prog [] 56 = some ⟨(.seq (.region 0 [⟨(some 2), (.box (.t 0)), none⟩, ⟨(some 4), (.mov (.k .nil0)), none⟩, ⟨(some 5), (.mov (.k (.int .i64 0))), none⟩]) (.seq (.seq (.region 1 [⟨(some 10), (.load true 1 (.t 2)), none⟩, ⟨(some 11), (.call 40 [(.t 10)]), none⟩, ⟨(some 6), (.mov (.t 11)), none⟩]) (.seq (.region 2 [⟨(some 12), (.mov (.t 6)), none⟩, ⟨(some 13), (.bin .neq (.t 12) (.k (.int .i64 0))), none⟩]) (.cond 13 (.seq (.region 3 [⟨(some 14), (.mov (.t 6)), none⟩, ⟨(some 4), (.mov (.k .nil0)), none⟩, ⟨(some 5), (.mov (.t 14)), none⟩]) .ret) .skip))) (.seq (.region 4 [⟨(some 7), (.mov (.k .nil0)), none⟩]) (.seq (.seq (.region 5 [⟨(some 15), (.fad 0 (.t 2)), none⟩, ⟨(some 16), (.load false 1 (.t 15)), none⟩, ⟨(some 17), (.len (.t 16)), none⟩, ⟨(some 18), (.mov (.k (.int .i64 0))), none⟩]) (.block 0 (.loop (.seq (.region 6 [⟨(some 19), (.bin .lss (.t 18) (.t 17)), none⟩]) (.seq (.cond 19 .skip (.exit 0)) (.seq (.block 1 (.seq (.region 7 [⟨(some 20), (.mov (.t 18)), none⟩, ⟨(some 21), (.iads 4 (.t 16) (.t 18)), none⟩, ⟨(some 22), (.load true 4 (.t 21)), none⟩, ⟨(some 9), (.alloc [(.int .i64 0), (.bool false), (.int .i64 0), (.int .i64 0)]), none⟩, ⟨(some 8), (.mov (.t 20)), none⟩, ⟨none, (.store 4 (.t 9) (.t 22)), none⟩]) (.seq (.region 8 [⟨(some 23), (.fad 1 (.t 9)), none⟩, ⟨(some 24), (.load false 1 (.t 23)), none⟩, ⟨(some 25), (.mov (.t 24)), none⟩, ⟨(some 26), (.fad 3 (.t 9)), (some (25, true))⟩, ⟨(some 27), (.load false 1 (.t 26)), (some (25, true))⟩, ⟨(some 28), (.mov (.t 1)), (some (25, true))⟩, ⟨(some 29), (.bin .eql (.t 27) (.t 28)), (some (25, true))⟩, ⟨(some 30), (.pick (.t 25) (.t 29) (.k (.bool false))), none⟩]) (.cond 30 (.region 9 [⟨(some 31), (.mov (.t 7)), none⟩, ⟨(some 32), (.mov (.t 8)), none⟩, ⟨(some 33), (.fad 0 (.t 9)), none⟩, ⟨(some 34), (.load false 1 (.t 33)), none⟩, ⟨(some 35), (.build [(.int .i64 0), (.int .i64 0)] [(0, (1, (.t 32))), (1, (1, (.t 34)))]), none⟩, ⟨(some 36), (.bslice 2 1 [(.int .i64 0), (.int .i64 0)] [(0, (.t 35))]), none⟩, ⟨(some 37), (.app 2 16 [(.int .i64 0), (.int .i64 0)] (.t 31) (.t 36)), none⟩, ⟨(some 7), (.mov (.t 37)), none⟩]) .skip)))) (.region 10 [⟨(some 38), (.bin .add (.t 18) (.k (.int .i64 1))), none⟩, ⟨(some 18), (.mov (.t 38)), none⟩]))))))) (.seq (.region 11 [⟨(some 39), (.mov (.t 7)), none⟩, ⟨(some 4), (.mov (.t 39)), none⟩, ⟨(some 5), (.mov (.k (.int .i64 0))), none⟩]) .ret))))), [(.t 4), (.t 5)], 40⟩ := by kernel_rfl
theorem tofb_pf (l : List TSlot) (b : Int) (h : TOk l) : PF Try.prog 56 [.agg [.rows 4 (l.map TSlot.D)], I b] (.tup [.rows 2 ((ofL l b).map Hnd.D), I 0]) := by
  have hl := h.2.1
  refine PF.of follows_ok tofb_code (by simp) (by simp [argOk]) (by simp [noV, noC]) fun B hBN hB0 => acode_sound [0, 1, 2, 4, 5, 6, 7, 8, 9, 13, 16, 17, 18, 19, 30] [] _ _ _ ?_
  simp [AK_at, acode_seq, acode_region, acode_draw, acode_cond, ↓CB_t, ↓CB_f, CB_u, acode_block, acode_loop, acode_exit, acode_scope, acode_ret, acode_skip, seqQ_n, seqQ_e, seqQ_r, blockQ_n, blockQ_e, blockQ_r, TK_at, OK_at, SK_at, aops_nil, aops_cons, asch_done, asch_one, asch_two, asch_top, astep, aop_eq, isLoud, aloud, aloud1, isWrite, qv, evS, strip, gof, eget, hget, putO, eput, herase, oks, opnds, gS, afin, afin0, binD, arith, D.cells, takeD, fillD, keep, trim, envOf, Fin, aresl, aresv, resD, argOk, pickV, isP, deq, deqs, boundD, slD, lenD, isT, chunks, mn_min, mx_max, D.cells, splice_one, splice_more, Rbr_at, Rfr_at, frR, frV, frC, flatC, brwR, brwV, brwC, omap, leR, leV, leC, leL, leVL]
  repeat' (first
    | simp [AK_at, acode_seq, acode_region, acode_draw, acode_cond, ↓CB_t, ↓CB_f, CB_u, acode_block, acode_loop, acode_exit, acode_scope, acode_ret, acode_skip, seqQ_n, seqQ_e, seqQ_r, blockQ_n, blockQ_e, blockQ_r, TK_at, OK_at, SK_at, aops_nil, aops_cons, asch_done, asch_one, asch_two, asch_top, astep, aop_eq, isLoud, aloud, aloud1, isWrite, qv, evS, strip, gof, eget, hget, putO, eput, herase, oks, opnds, gS, afin, afin0, binD, arith, D.cells, takeD, fillD, keep, trim, envOf, Fin, aresl, aresv, resD, argOk, pickV, isP, deq, deqs, boundD, slD, lenD, isT, chunks, mn_min, mx_max, D.cells, splice_one, splice_more, Rbr_at, Rfr_at, frR, frV, frC, flatC, brwR, brwV, brwC, omap, leR, leV, leC, leL, leVL]
    | (refine WCall.pf (tcheck_pf l h) ?_ ?_ ?_ ?_; (focus (simp [oks, opnds, gS, gof, eget]; done)); (focus (simp [omap, brwV, brwC, evS, eget, strip, hget, leVL, leV, leC, leL]; done)); (focus (simp [noV, noC, flatR, flatV, flatC, evS, eget, strip]; done)))
    | (refine ⟨WCall.pf (tcheck_pf l h) ?_ ?_ ?_ ?_, ?_⟩; (focus (simp [oks, opnds, gS, gof, eget]; done)); (focus (simp [omap, brwV, brwC, evS, eget, strip, hget, leVL, leV, leC, leL]; done)); (focus (simp [noV, noC, flatR, flatV, flatC, evS, eget, strip]; done)))
    | (with_reducible refine And.intro (And.intro ?_ ?_) ?_)
    | fail)
  refine W.loopS (fun y : Nat × List Hnd => ⟨[(18, I y.1), (17, I l.length), (16, D.rows 4 (l.map TSlot.D)), (7, .own 0), (1, I b)], [(0, .row 2 (y.2.map Hnd.D))], 1⟩)
    (fun n y => n = l.length - y.1 ∧ y.1 ≤ l.length ∧ y.2 = ofL (l.take y.1) b) ?_ ?_
  · refine ⟨_, (0, []), (Gh.adopt 7 2 (by omega) (by simp [eget])).trans ?_, rfl, by omega, by simp [ofL]⟩
    simp [eput]
    exact (Gh.ren [1] (by simp [hB0]) (by simp [hB0]) (by simp [eget, rnS, rnR, rnV, rnC, LtS, LtR, LtV, LtC, lget]) (by simp [hget, rnO, rnC, LtO, LtC, lget]) (.inl (by simp [lget])))
  rintro n ⟨i, acc⟩ ⟨hn, hi, hacc⟩
  simp only at hn hi hacc
  refine acode_sound [0, 1, 2, 4, 5, 6, 7, 8, 9, 13, 16, 17, 18, 19, 30] [] _ _ _ ?_
  by_cases hlt : i < l.length
  · obtain ⟨s, hs⟩ : ∃ s, s = l[i] := ⟨_, rfl⟩
    have ii : InR ((i : Int) + 1) := inB (by omega) (by omega)
    have q1 := ofL_take l i hlt b
    rw [← hs, ← hacc] at q1
    have hal : acc.length ≤ 40 := by
      have h1 := cntB_le (l.take i) b
      have h2 : (l.take i).length ≤ l.length := by simp; omega
      rw [hacc, ofL_len]; omega
    have hcap : (acc.length + 1) * 16 ≤ 140737488355328 := by omega
    cases hu : s.used with
    | false =>
      have e : ofL (l.take (i + 1)) b = acc := by rw [q1, if_neg (by simp [hu])]; simp
      simp [AK_at, acode_seq, acode_region, acode_draw, acode_cond, ↓CB_t, ↓CB_f, CB_u, acode_block, acode_loop, acode_exit, acode_scope, acode_ret, acode_skip, seqQ_n, seqQ_e, seqQ_r, blockQ_n, blockQ_e, blockQ_r, TK_at, OK_at, SK_at, aops_nil, aops_cons, asch_done, asch_one, asch_two, asch_top, astep, aop_eq, isLoud, aloud, aloud1, isWrite, qv, evS, strip, gof, eget, hget, putO, eput, herase, oks, opnds, gS, afin, afin0, binD, arith, D.cells, takeD, fillD, keep, trim, envOf, Fin, aresl, aresv, resD, argOk, pickV, isP, deq, deqs, boundD, slD, lenD, isT, chunks, mn_min, mx_max, D.cells, splice_one, splice_more, Rbr_at, Rfr_at, frR, frV, frC, flatC, brwR, brwV, brwC, omap, leR, leV, leC, leL, leVL, hlt, ← hs, TSlot.D, hu, ii]
      exact ⟨_, (i + 1, acc), (Gh.ren [0] (by simp [hB0]) (by simp [hB0]) (by simp [eget, rnS, rnR, rnV, rnC, LtS, LtR, LtV, LtC, lget, Hnd.D]) (by simp [hget, rnO, rnC, LtO, LtC, lget, Hnd.D]) (.inl (by simp [lget]))), by omega, rfl, by omega, e.symm⟩
    | true =>
      by_cases hb : s.backend = b
      · have e : ofL (l.take (i + 1)) b = acc ++ [(i, s.gen)] := by rw [q1, if_pos ⟨hu, hb⟩]
        simp [AK_at, acode_seq, acode_region, acode_draw, acode_cond, ↓CB_t, ↓CB_f, CB_u, acode_block, acode_loop, acode_exit, acode_scope, acode_ret, acode_skip, seqQ_n, seqQ_e, seqQ_r, blockQ_n, blockQ_e, blockQ_r, TK_at, OK_at, SK_at, aops_nil, aops_cons, asch_done, asch_one, asch_two, asch_top, astep, aop_eq, isLoud, aloud, aloud1, isWrite, qv, evS, strip, gof, eget, hget, putO, eput, herase, oks, opnds, gS, afin, afin0, binD, arith, D.cells, takeD, fillD, keep, trim, envOf, Fin, aresl, aresv, resD, argOk, pickV, isP, deq, deqs, boundD, slD, lenD, isT, chunks, mn_min, mx_max, D.cells, splice_one, splice_more, Rbr_at, Rfr_at, frR, frV, frC, flatC, brwR, brwV, brwC, omap, leR, leV, leC, leL, leVL, hlt, ← hs, TSlot.D, hu, ii, hb, hcap]
        exact ⟨_, (i + 1, acc ++ [(i, s.gen)]), (Gh.ren [3] (by simp [hB0]) (by simp [hB0]) (by simp [eget, rnS, rnR, rnV, rnC, LtS, LtR, LtV, LtC, lget, Hnd.D]) (by simp [hget, rnO, rnC, LtO, LtC, lget, Hnd.D]) (.inl (by simp [lget]))), by omega, rfl, by omega, e.symm⟩
      · have e : ofL (l.take (i + 1)) b = acc := by rw [q1, if_neg (fun hh => hb hh.2)]; simp
        simp [AK_at, acode_seq, acode_region, acode_draw, acode_cond, ↓CB_t, ↓CB_f, CB_u, acode_block, acode_loop, acode_exit, acode_scope, acode_ret, acode_skip, seqQ_n, seqQ_e, seqQ_r, blockQ_n, blockQ_e, blockQ_r, TK_at, OK_at, SK_at, aops_nil, aops_cons, asch_done, asch_one, asch_two, asch_top, astep, aop_eq, isLoud, aloud, aloud1, isWrite, qv, evS, strip, gof, eget, hget, putO, eput, herase, oks, opnds, gS, afin, afin0, binD, arith, D.cells, takeD, fillD, keep, trim, envOf, Fin, aresl, aresv, resD, argOk, pickV, isP, deq, deqs, boundD, slD, lenD, isT, chunks, mn_min, mx_max, D.cells, splice_one, splice_more, Rbr_at, Rfr_at, frR, frV, frC, flatC, brwR, brwV, brwC, omap, leR, leV, leC, leL, leVL, hlt, ← hs, TSlot.D, hu, ii, hb]
        exact ⟨_, (i + 1, acc), (Gh.ren [0] (by simp [hB0]) (by simp [hB0]) (by simp [eget, rnS, rnR, rnV, rnC, LtS, LtR, LtV, LtC, lget, Hnd.D]) (by simp [hget, rnO, rnC, LtO, LtC, lget, Hnd.D]) (.inl (by simp [lget]))), by omega, rfl, by omega, e.symm⟩
  · have hie : i = l.length := by omega
    subst hie
    rw [List.take_length] at hacc
    simp [AK_at, acode_seq, acode_region, acode_draw, acode_cond, ↓CB_t, ↓CB_f, CB_u, acode_block, acode_loop, acode_exit, acode_scope, acode_ret, acode_skip, seqQ_n, seqQ_e, seqQ_r, blockQ_n, blockQ_e, blockQ_r, TK_at, OK_at, SK_at, aops_nil, aops_cons, asch_done, asch_one, asch_two, asch_top, astep, aop_eq, isLoud, aloud, aloud1, isWrite, qv, evS, strip, gof, eget, hget, putO, eput, herase, oks, opnds, gS, afin, afin0, binD, arith, D.cells, takeD, fillD, keep, trim, envOf, Fin, aresl, aresv, resD, argOk, pickV, isP, deq, deqs, boundD, slD, lenD, isT, chunks, mn_min, mx_max, D.cells, splice_one, splice_more, Rbr_at, Rfr_at, frR, frV, frC, flatC, brwR, brwV, brwC, omap, leR, leV, leC, leL, leVL, hacc]
/-- of those that are good so many are at b -/
def manyB (good : List Bool) (at_ : List Int) (b : Int) (k : Nat) : Nat := (List.range k).countP fun j => good.getD j false && decide (at_.getD j 0 = b)
theorem manyB_succ (good : List Bool) (at_ : List Int) (b : Int) (k : Nat) : manyB good at_ b (k + 1) = manyB good at_ b k + if good.getD k false = true ∧ at_.getD k 0 = b then 1 else 0 := by
  unfold manyB
  rw [List.range_succ, List.countP_append]
  congr 1
  simp [List.countP_cons]
theorem cntB_range (l : List TSlot) (b : Int) : cntB l b = (List.range l.length).countP fun s => (l.getD s tzero).used && decide ((l.getD s tzero).backend = b) := by
  have e : l = (List.range l.length).map fun s => l.getD s tzero := by
    refine List.ext_getElem (by simp) fun j h1 h2 => ?_
    simp [List.getD, h1]
  conv => lhs; rw [e]
  unfold cntB
  rw [List.countP_map]
  rfl
/-- each flow at b is one good handle at b -/
theorem many_cnt {i : Nat} {x : Seat} (h : SInv i x) (b : Int) : manyB x.good x.at_ b x.hs.length = cntB x.tb b := by
  rw [cntB_range]
  unfold manyB
  rw [List.countP_eq_length_filter, List.countP_eq_length_filter]
  have e1 : (((List.range x.hs.length).filter fun j => x.good.getD j false && decide (x.at_.getD j 0 = b)).map fun j => (x.hs.getD j (0, 0)).1).length = ((List.range x.hs.length).filter fun j => x.good.getD j false && decide (x.at_.getD j 0 = b)).length := by simp
  rw [← e1]
  refine List.Perm.length_eq ?_
  refine (List.perm_ext_iff_of_nodup ?_ (List.nodup_range.filter _)).2 fun s => ?_
  · refine List.pairwise_map.2 (List.Pairwise.imp_of_mem ?_ (List.nodup_range.filter _))
    intro j k hj hk hne e
    refine hne ?_
    obtain ⟨j1, j2⟩ := List.mem_filter.1 hj
    obtain ⟨k1, k2⟩ := List.mem_filter.1 hk
    simp only [Bool.and_eq_true, decide_eq_true_eq] at j2 k2
    have j3 := h.live j (List.mem_range.1 j1) j2.1
    have k3 := h.live k (List.mem_range.1 k1) k2.1
    exact uniq_sym h (List.mem_range.1 j1) (List.mem_range.1 k1) (Prod.ext e (by rw [← j3.2.1, ← k3.2.1, e]))
  · simp only [List.mem_map, List.mem_filter, List.mem_range, Bool.and_eq_true, decide_eq_true_eq]
    constructor
    · rintro ⟨j, ⟨j1, j2, j3⟩, rfl⟩
      have l1 := h.live j j1 j2
      exact ⟨h.slot j j1, l1.1, by rw [l1.2.2, j3]⟩
    · rintro ⟨s1, s2, s3⟩
      obtain ⟨k, k1, k2, k3⟩ := h.all s s1 s2
      have l1 := h.live k k1 k2
      rw [k3] at l1
      exact ⟨k, ⟨k1, k2, by rw [← l1.2.2]; exact s3⟩, by rw [k3]⟩
theorem tcount_code : cfun Try.prog [] 26 = some ⟨(.seq (.region 0 [⟨(some 4), (.mov (.k (.bool false))), none⟩]) (.seq (.region 1 [⟨(some 18), (.mov (.t 0)), none⟩, ⟨(some 19), (.mov (.t 1)), none⟩, ⟨(some 20), (.call 41 [(.t 18), (.t 19)]), none⟩, ⟨(some 17), (.mov (.t 20)), none⟩, ⟨(some 21), (.ext (.t 17) 0), none⟩, ⟨(some 22), (.ext (.t 17) 1), none⟩, ⟨(some 23), (.ext (.t 17) 2), none⟩, ⟨(some 24), (.ext (.t 17) 3), none⟩, ⟨(some 25), (.ext (.t 17) 4), none⟩, ⟨(some 5), (.alloc [.nil0]), none⟩, ⟨none, (.store 1 (.t 5) (.t 21)), none⟩, ⟨(some 6), (.mov (.t 22)), none⟩, ⟨(some 7), (.mov (.t 23)), none⟩, ⟨(some 8), (.mov (.t 24)), none⟩, ⟨(some 9), (.mov (.t 25)), none⟩]) (.seq (.region 2 [⟨(some 27), (.load true 1 (.t 5)), none⟩, ⟨(some 28), (.call 55 [(.t 27)]), none⟩, ⟨(some 26), (.mov (.t 28)), none⟩, ⟨(some 29), (.ext (.t 26) 0), none⟩, ⟨(some 30), (.ext (.t 26) 1), none⟩, ⟨(some 10), (.mov (.t 29)), none⟩, ⟨(some 11), (.mov (.t 30)), none⟩]) (.seq (.seq (.region 3 [⟨(some 31), (.mov (.t 9)), none⟩, ⟨(some 32), (.not (.t 31)), none⟩, ⟨(some 33), (.mov (.t 32)), none⟩, ⟨(some 34), (.mov (.t 11)), (some (33, false))⟩, ⟨(some 35), (.bin .neq (.t 34) (.k (.int .i64 0))), (some (33, false))⟩, ⟨(some 36), (.pick (.t 33) (.k (.bool true)) (.t 35)), none⟩, ⟨(some 37), (.mov (.t 36)), none⟩, ⟨(some 38), (.mov (.t 10)), (some (37, false))⟩, ⟨(some 39), (.len (.t 38)), (some (37, false))⟩, ⟨(some 40), (.bin .neq (.t 39) (.k (.int .i64 12))), (some (37, false))⟩, ⟨(some 41), (.pick (.t 37) (.k (.bool true)) (.t 40)), none⟩]) (.cond 41 (.seq (.region 4 [⟨(some 4), (.mov (.k (.bool false))), none⟩]) .ret) .skip)) (.seq (.seq (.region 5 [⟨(some 12), (.mov (.k (.int .i64 0))), none⟩]) (.block 0 (.loop (.seq (.seq (.region 6 [⟨(some 42), (.mov (.t 12)), none⟩, ⟨(some 43), (.bin .lss (.t 42) (.k (.int .i64 12))), none⟩]) (.cond 43 .skip (.exit 0))) (.seq (.block 1 (.seq (.region 8 [⟨(some 47), (.load true 1 (.t 5)), none⟩, ⟨(some 48), (.mov (.t 12)), none⟩, ⟨(some 49), (.call 56 [(.t 47), (.t 48)]), none⟩, ⟨(some 46), (.mov (.t 49)), none⟩, ⟨(some 50), (.ext (.t 46) 0), none⟩, ⟨(some 51), (.ext (.t 46) 1), none⟩, ⟨(some 13), (.mov (.t 50)), none⟩, ⟨(some 14), (.mov (.t 51)), none⟩]) (.seq (.region 9 [⟨(some 15), (.mov (.k (.int .i64 0))), none⟩]) (.seq (.seq (.region 10 [⟨(some 16), (.mov (.k (.int .i64 0))), none⟩]) (.block 2 (.loop (.seq (.seq (.region 11 [⟨(some 52), (.mov (.t 16)), none⟩, ⟨(some 53), (.mov (.t 6)), none⟩, ⟨(some 54), (.len (.t 53)), none⟩, ⟨(some 55), (.bin .lss (.t 52) (.t 54)), none⟩]) (.cond 55 .skip (.exit 2))) (.seq (.block 3 (.seq (.region 13 [⟨(some 58), (.mov (.t 7)), none⟩, ⟨(some 59), (.mov (.t 16)), none⟩, ⟨(some 60), (.iads 1 (.t 58) (.t 59)), none⟩, ⟨(some 61), (.load false 1 (.t 60)), none⟩, ⟨(some 62), (.mov (.t 61)), none⟩, ⟨(some 63), (.mov (.t 8)), (some (62, true))⟩, ⟨(some 64), (.mov (.t 16)), (some (62, true))⟩, ⟨(some 65), (.iads 1 (.t 63) (.t 64)), (some (62, true))⟩, ⟨(some 66), (.load false 1 (.t 65)), (some (62, true))⟩, ⟨(some 67), (.mov (.t 12)), (some (62, true))⟩, ⟨(some 68), (.bin .eql (.t 66) (.t 67)), (some (62, true))⟩, ⟨(some 69), (.pick (.t 62) (.t 68) (.k (.bool false))), none⟩]) (.cond 69 (.region 14 [⟨(some 70), (.mov (.t 15)), none⟩, ⟨(some 71), (.bin .add (.t 70) (.k (.int .i64 1))), none⟩, ⟨(some 15), (.mov (.t 71)), none⟩]) .skip))) (.region 12 [⟨(some 56), (.mov (.t 16)), none⟩, ⟨(some 57), (.bin .add (.t 56) (.k (.int .i64 1))), none⟩, ⟨(some 16), (.mov (.t 57)), none⟩])))))) (.seq (.region 15 [⟨(some 72), (.mov (.t 14)), none⟩, ⟨(some 73), (.bin .neq (.t 72) (.k (.int .i64 0))), none⟩, ⟨(some 74), (.mov (.t 73)), none⟩, ⟨(some 75), (.mov (.t 13)), (some (74, false))⟩, ⟨(some 76), (.len (.t 75)), (some (74, false))⟩, ⟨(some 77), (.mov (.t 10)), (some (74, false))⟩, ⟨(some 78), (.mov (.t 12)), (some (74, false))⟩, ⟨(some 79), (.iads 1 (.t 77) (.t 78)), (some (74, false))⟩, ⟨(some 80), (.load false 1 (.t 79)), (some (74, false))⟩, ⟨(some 81), (.bin .neq (.t 76) (.t 80)), (some (74, false))⟩, ⟨(some 82), (.pick (.t 74) (.k (.bool true)) (.t 81)), none⟩, ⟨(some 83), (.mov (.t 82)), none⟩, ⟨(some 84), (.mov (.t 10)), (some (83, false))⟩, ⟨(some 85), (.mov (.t 12)), (some (83, false))⟩, ⟨(some 86), (.iads 1 (.t 84) (.t 85)), (some (83, false))⟩, ⟨(some 87), (.load false 1 (.t 86)), (some (83, false))⟩, ⟨(some 88), (.mov (.t 15)), (some (83, false))⟩, ⟨(some 89), (.bin .neq (.t 87) (.t 88)), (some (83, false))⟩, ⟨(some 90), (.pick (.t 83) (.k (.bool true)) (.t 89)), none⟩]) (.cond 90 (.seq (.region 16 [⟨(some 4), (.mov (.k (.bool false))), none⟩]) .ret) .skip)))))) (.region 7 [⟨(some 44), (.mov (.t 12)), none⟩, ⟨(some 45), (.bin .add (.t 44) (.k (.int .i64 1))), none⟩, ⟨(some 12), (.mov (.t 45)), none⟩])))))) (.seq (.region 17 [⟨(some 4), (.mov (.k (.bool true))), none⟩]) .ret)))))), [(.t 4)], 91⟩ := by kernel_rfl
theorem tcount_pf (n : Int) (l : List (List Int)) (hn : InR n) (hl : l.length ≤ Go.maxLen) (hr : ∀ r ∈ l, r.length = 3 ∧ ∀ z ∈ r, InR z) : PF Try.prog 26 [I n, .rows 3 (l.map fun r => r.map I)] (.bool true) := by
  obtain ⟨x, hI, hpf⟩ := seated_ok n l hn hl hr
  have e1 := hI.lg
  have e2 := hI.la
  have hle := hI.le
  have htok := hI.tok
  have hmany := many_cnt hI
  obtain ⟨tb, htb⟩ : ∃ tb, tb = x.tb := ⟨_, rfl⟩
  rw [← htb] at hpf htok
  simp only [← htb] at hmany
  have t2 := htok.2.1
  have hcl : (countsL tb).length = 12 := by simp [countsL]
  refine PF.of follows_ok tcount_code (by simp) (by simp [argOk]) (by simp [noV, noC]) fun B hBN hB0 => acode_sound [0, 1, 4, 5, 6, 7, 8, 9, 10, 11, 12, 13, 14, 15, 16, 41, 43, 55, 69, 90] [] _ _ _ ?_
  simp [AK_at, acode_seq, acode_region, acode_draw, acode_cond, ↓CB_t, ↓CB_f, CB_u, acode_block, acode_loop, acode_exit, acode_scope, acode_ret, acode_skip, seqQ_n, seqQ_e, seqQ_r, blockQ_n, blockQ_e, blockQ_r, TK_at, OK_at, SK_at, aops_nil, aops_cons, asch_done, asch_one, asch_two, asch_top, astep, aop_eq, isLoud, aloud, aloud1, isWrite, qv, evS, strip, gof, eget, hget, putO, eput, herase, oks, opnds, gS, afin, afin0, binD, arith, D.cells, takeD, fillD, keep, trim, envOf, Fin, aresl, aresv, resD, argOk, pickV, isP, deq, deqs, boundD, slD, lenD, isT, chunks, mn_min, mx_max, D.cells, splice_one, splice_more, Rbr_at, Rfr_at, frR, frV, frC, flatC, brwR, brwV, brwC, omap, leR, leV, leC, leL, leVL]
  repeat' (first
    | simp [AK_at, acode_seq, acode_region, acode_draw, acode_cond, ↓CB_t, ↓CB_f, CB_u, acode_block, acode_loop, acode_exit, acode_scope, acode_ret, acode_skip, seqQ_n, seqQ_e, seqQ_r, blockQ_n, blockQ_e, blockQ_r, TK_at, OK_at, SK_at, aops_nil, aops_cons, asch_done, asch_one, asch_two, asch_top, astep, aop_eq, isLoud, aloud, aloud1, isWrite, qv, evS, strip, gof, eget, hget, putO, eput, herase, oks, opnds, gS, afin, afin0, binD, arith, D.cells, takeD, fillD, keep, trim, envOf, Fin, aresl, aresv, resD, argOk, pickV, isP, deq, deqs, boundD, slD, lenD, isT, chunks, mn_min, mx_max, D.cells, splice_one, splice_more, Rbr_at, Rfr_at, frR, frV, frC, flatC, brwR, brwV, brwC, omap, leR, leV, leC, leL, leVL, hcl]
    | (refine WCall.pf (hpf) ?_ ?_ ?_ ?_; (focus (simp [oks, opnds, gS, gof, eget]; done)); (focus (simp [omap, brwV, brwC, evS, eget, strip, hget, leVL, leV, leC, leL, hcl]; done)); (focus (simp [noV, noC, flatR, flatV, flatC, evS, eget, strip, hcl]; done)))
    | (refine ⟨WCall.pf (hpf) ?_ ?_ ?_ ?_, ?_⟩; (focus (simp [oks, opnds, gS, gof, eget]; done)); (focus (simp [omap, brwV, brwC, evS, eget, strip, hget, leVL, leV, leC, leL, hcl]; done)); (focus (simp [noV, noC, flatR, flatV, flatC, evS, eget, strip, hcl]; done)))
    | (refine WCall.pf (tcounts_pf tb htok) ?_ ?_ ?_ ?_; (focus (simp [oks, opnds, gS, gof, eget]; done)); (focus (simp [omap, brwV, brwC, evS, eget, strip, hget, leVL, leV, leC, leL, hcl]; done)); (focus (simp [noV, noC, flatR, flatV, flatC, evS, eget, strip, hcl]; done)))
    | (refine ⟨WCall.pf (tcounts_pf tb htok) ?_ ?_ ?_ ?_, ?_⟩; (focus (simp [oks, opnds, gS, gof, eget]; done)); (focus (simp [omap, brwV, brwC, evS, eget, strip, hget, leVL, leV, leC, leL, hcl]; done)); (focus (simp [noV, noC, flatR, flatV, flatC, evS, eget, strip, hcl]; done)))
    | (with_reducible refine And.intro (And.intro ?_ ?_) ?_)
    | fail)
  refine W.loopS (fun y : Nat => ⟨[(12, I y), (11, I 0), (10, D.rows 1 ((countsL tb).map GI)), (8, D.rows 1 (x.at_.map GI)), (7, D.rows 1 (x.good.map GB)), (6, D.rows 2 (x.hs.map Hnd.D)), (5, .ptr 0 0), (4, .bool false)], [(0, .cells [.rows 4 (tb.map TSlot.D)])], 1⟩)
    (fun n y => n = 12 - y ∧ y ≤ 12) ?_ ?_
  · exact ⟨_, 0, (Gh.ren [0] (by simp [hB0]) (by simp [hB0]) (by simp [eget, rnS, rnR, rnV, rnC, LtS, LtR, LtV, LtC, lget]) (by simp [hget, rnO, rnC, LtO, LtC, lget]) (.inl (by simp [lget]))), rfl, by omega⟩
  rintro m b ⟨hm, hb⟩
  refine acode_sound [0, 1, 4, 5, 6, 7, 8, 9, 10, 11, 12, 13, 14, 15, 16, 41, 43, 55, 69, 90] [] _ _ _ ?_
  by_cases hb12 : b < 12
  · have hb3 : (b : Int) < 12 := by omega
    have ib : InR ((b : Int) + 1) := inB (by omega) (by omega)
    have hbl : b < (countsL tb).length := by omega
    have hcg := countsL_get tb b hb12
    have hol := ofL_len tb b
    obtain ⟨own, hown⟩ : ∃ own, own = ofL tb b := ⟨_, rfl⟩
    have hof := tofb_pf tb b htok
    rw [← hown] at hof hol
    repeat' (first
      | simp [AK_at, acode_seq, acode_region, acode_draw, acode_cond, ↓CB_t, ↓CB_f, CB_u, acode_block, acode_loop, acode_exit, acode_scope, acode_ret, acode_skip, seqQ_n, seqQ_e, seqQ_r, blockQ_n, blockQ_e, blockQ_r, TK_at, OK_at, SK_at, aops_nil, aops_cons, asch_done, asch_one, asch_two, asch_top, astep, aop_eq, isLoud, aloud, aloud1, isWrite, qv, evS, strip, gof, eget, hget, putO, eput, herase, oks, opnds, gS, afin, afin0, binD, arith, D.cells, takeD, fillD, keep, trim, envOf, Fin, aresl, aresv, resD, argOk, pickV, isP, deq, deqs, boundD, slD, lenD, isT, chunks, mn_min, mx_max, D.cells, splice_one, splice_more, Rbr_at, Rfr_at, frR, frV, frC, flatC, brwR, brwV, brwC, omap, leR, leV, leC, leL, leVL, hb3]
      | (refine WCall.pf (hof) ?_ ?_ ?_ ?_; (focus (simp [oks, opnds, gS, gof, eget]; done)); (focus (simp [omap, brwV, brwC, evS, eget, strip, hget, leVL, leV, leC, leL, hb3]; done)); (focus (simp [noV, noC, flatR, flatV, flatC, evS, eget, strip, hb3]; done)))
      | (refine ⟨WCall.pf (hof) ?_ ?_ ?_ ?_, ?_⟩; (focus (simp [oks, opnds, gS, gof, eget]; done)); (focus (simp [omap, brwV, brwC, evS, eget, strip, hget, leVL, leV, leC, leL, hb3]; done)); (focus (simp [noV, noC, flatR, flatV, flatC, evS, eget, strip, hb3]; done)))
      | (with_reducible refine And.intro (And.intro ?_ ?_) ?_)
      | fail)
    refine W.loopS (fun y : Nat => ⟨[(16, I y), (15, I (manyB x.good x.at_ b y : Nat)), (14, I 0), (13, D.rows 2 (own.map Hnd.D)), (12, I b), (11, I 0), (10, D.rows 1 ((countsL tb).map GI)), (8, D.rows 1 (x.at_.map GI)), (7, D.rows 1 (x.good.map GB)), (6, D.rows 2 (x.hs.map Hnd.D)), (5, .ptr 0 0), (4, .bool false)], [(0, .cells [.rows 4 (tb.map TSlot.D)])], 1⟩)
      (fun n y => n = x.hs.length - y ∧ y ≤ x.hs.length) ?_ ?_
    · exact ⟨_, 0, (Gh.ren [0] (by simp [hB0]) (by simp [hB0]) (by simp [eget, rnS, rnR, rnV, rnC, LtS, LtR, LtV, LtC, lget, manyB]) (by simp [hget, rnO, rnC, LtO, LtC, lget, manyB]) (.inl (by simp [lget]))), rfl, by omega⟩
    rintro m2 i ⟨hm2, hi⟩
    refine acode_sound [0, 1, 4, 5, 6, 7, 8, 9, 10, 11, 12, 13, 14, 15, 16, 41, 43, 55, 69, 90] [] _ _ _ ?_
    by_cases hlt : i < x.hs.length
    · have hig : i < x.good.length := by omega
      have hia : i < x.at_.length := by omega
      have ii : InR ((i : Int) + 1) := inB (by omega) (by omega)
      have hs := manyB_succ x.good x.at_ b i
      have hgd : x.good.getD i false = x.good[i] := by simp [List.getD, hig]
      have had : x.at_.getD i 0 = x.at_[i] := by simp [List.getD, hia]
      rw [hgd, had] at hs
      have hmb : manyB x.good x.at_ b i ≤ i := by
        unfold manyB
        have := List.countP_le_length (p := fun j => x.good.getD j false && decide (x.at_.getD j 0 = b)) (l := List.range i)
        simpa using this
      have im : InR ((manyB x.good x.at_ b i : Nat) + (1 : Int)) := inB (by omega) (by omega)
      cases hg : x.good[i] with
      | false =>
        have e : manyB x.good x.at_ b (i + 1) = manyB x.good x.at_ b i := by rw [hs, if_neg (by simp [hg])]; rfl
        simp [AK_at, acode_seq, acode_region, acode_draw, acode_cond, ↓CB_t, ↓CB_f, CB_u, acode_block, acode_loop, acode_exit, acode_scope, acode_ret, acode_skip, seqQ_n, seqQ_e, seqQ_r, blockQ_n, blockQ_e, blockQ_r, TK_at, OK_at, SK_at, aops_nil, aops_cons, asch_done, asch_one, asch_two, asch_top, astep, aop_eq, isLoud, aloud, aloud1, isWrite, qv, evS, strip, gof, eget, hget, putO, eput, herase, oks, opnds, gS, afin, afin0, binD, arith, D.cells, takeD, fillD, keep, trim, envOf, Fin, aresl, aresv, resD, argOk, pickV, isP, deq, deqs, boundD, slD, lenD, isT, chunks, mn_min, mx_max, D.cells, splice_one, splice_more, Rbr_at, Rfr_at, frR, frV, frC, flatC, brwR, brwV, brwC, omap, leR, leV, leC, leL, leVL, hlt, hig, hia, hg, GB, GI, ii]
        exact ⟨_, i + 1, (Gh.ren [0] (by simp [hB0]) (by simp [hB0]) (by simp [eget, rnS, rnR, rnV, rnC, LtS, LtR, LtV, LtC, lget, e]) (by simp [hget, rnO, rnC, LtO, LtC, lget, e]) (.inl (by simp [lget]))), by omega, rfl, by omega⟩
      | true =>
        by_cases hab : x.at_[i] = b
        · have e : manyB x.good x.at_ b (i + 1) = manyB x.good x.at_ b i + 1 := by rw [hs, if_pos ⟨hg, hab⟩]
          simp [AK_at, acode_seq, acode_region, acode_draw, acode_cond, ↓CB_t, ↓CB_f, CB_u, acode_block, acode_loop, acode_exit, acode_scope, acode_ret, acode_skip, seqQ_n, seqQ_e, seqQ_r, blockQ_n, blockQ_e, blockQ_r, TK_at, OK_at, SK_at, aops_nil, aops_cons, asch_done, asch_one, asch_two, asch_top, astep, aop_eq, isLoud, aloud, aloud1, isWrite, qv, evS, strip, gof, eget, hget, putO, eput, herase, oks, opnds, gS, afin, afin0, binD, arith, D.cells, takeD, fillD, keep, trim, envOf, Fin, aresl, aresv, resD, argOk, pickV, isP, deq, deqs, boundD, slD, lenD, isT, chunks, mn_min, mx_max, D.cells, splice_one, splice_more, Rbr_at, Rfr_at, frR, frV, frC, flatC, brwR, brwV, brwC, omap, leR, leV, leC, leL, leVL, hlt, hig, hia, hg, GB, GI, ii, hab, im]
          exact ⟨_, i + 1, (Gh.ren [0] (by simp [hB0]) (by simp [hB0]) (by simp [eget, rnS, rnR, rnV, rnC, LtS, LtR, LtV, LtC, lget, e]) (by simp [hget, rnO, rnC, LtO, LtC, lget, e]) (.inl (by simp [lget]))), by omega, rfl, by omega⟩
        · have e : manyB x.good x.at_ b (i + 1) = manyB x.good x.at_ b i := by rw [hs, if_neg (fun hh => hab hh.2)]; rfl
          simp [AK_at, acode_seq, acode_region, acode_draw, acode_cond, ↓CB_t, ↓CB_f, CB_u, acode_block, acode_loop, acode_exit, acode_scope, acode_ret, acode_skip, seqQ_n, seqQ_e, seqQ_r, blockQ_n, blockQ_e, blockQ_r, TK_at, OK_at, SK_at, aops_nil, aops_cons, asch_done, asch_one, asch_two, asch_top, astep, aop_eq, isLoud, aloud, aloud1, isWrite, qv, evS, strip, gof, eget, hget, putO, eput, herase, oks, opnds, gS, afin, afin0, binD, arith, D.cells, takeD, fillD, keep, trim, envOf, Fin, aresl, aresv, resD, argOk, pickV, isP, deq, deqs, boundD, slD, lenD, isT, chunks, mn_min, mx_max, D.cells, splice_one, splice_more, Rbr_at, Rfr_at, frR, frV, frC, flatC, brwR, brwV, brwC, omap, leR, leV, leC, leL, leVL, hlt, hig, hia, hg, GB, GI, ii, hab]
          exact ⟨_, i + 1, (Gh.ren [0] (by simp [hB0]) (by simp [hB0]) (by simp [eget, rnS, rnR, rnV, rnC, LtS, LtR, LtV, LtC, lget, e]) (by simp [hget, rnO, rnC, LtO, LtC, lget, e]) (.inl (by simp [lget]))), by omega, rfl, by omega⟩
    · have hie : i = x.hs.length := by omega
      subst hie
      have hmb := hmany b
      simp [AK_at, acode_seq, acode_region, acode_draw, acode_cond, ↓CB_t, ↓CB_f, CB_u, acode_block, acode_loop, acode_exit, acode_scope, acode_ret, acode_skip, seqQ_n, seqQ_e, seqQ_r, blockQ_n, blockQ_e, blockQ_r, TK_at, OK_at, SK_at, aops_nil, aops_cons, asch_done, asch_one, asch_two, asch_top, astep, aop_eq, isLoud, aloud, aloud1, isWrite, qv, evS, strip, gof, eget, hget, putO, eput, herase, oks, opnds, gS, afin, afin0, binD, arith, D.cells, takeD, fillD, keep, trim, envOf, Fin, aresl, aresv, resD, argOk, pickV, isP, deq, deqs, boundD, slD, lenD, isT, chunks, mn_min, mx_max, D.cells, splice_one, splice_more, Rbr_at, Rfr_at, frR, frV, frC, flatC, brwR, brwV, brwC, omap, leR, leV, leC, leL, leVL, hbl, hcg, hol, hmb, GI, ib]
      exact ⟨_, b + 1, (Gh.ren [0] (by simp [hB0]) (by simp [hB0]) (by simp [eget, rnS, rnR, rnV, rnC, LtS, LtR, LtV, LtC, lget]) (by simp [hget, rnO, rnC, LtO, LtC, lget]) (.inl (by simp [lget]))), by omega, rfl, by omega⟩
  · simp [AK_at, acode_seq, acode_region, acode_draw, acode_cond, ↓CB_t, ↓CB_f, CB_u, acode_block, acode_loop, acode_exit, acode_scope, acode_ret, acode_skip, seqQ_n, seqQ_e, seqQ_r, blockQ_n, blockQ_e, blockQ_r, TK_at, OK_at, SK_at, aops_nil, aops_cons, asch_done, asch_one, asch_two, asch_top, astep, aop_eq, isLoud, aloud, aloud1, isWrite, qv, evS, strip, gof, eget, hget, putO, eput, herase, oks, opnds, gS, afin, afin0, binD, arith, D.cells, takeD, fillD, keep, trim, envOf, Fin, aresl, aresv, resD, argOk, pickV, isP, deq, deqs, boundD, slD, lenD, isT, chunks, mn_min, mx_max, D.cells, splice_one, splice_more, Rbr_at, Rfr_at, frR, frV, frC, flatC, brwR, brwV, brwC, omap, leR, leV, leC, leL, leVL, show ¬ (b : Int) < 12 by omega]
end Go.Proofs.Ytdlcjkmigcgkhaa
