/- This text proves what the helpers walkOf, without and loadOf of the statements compute. It has no condition of its own. -/
import Derived.Test.YtgjngknkokgpjaaPck
set_option linter.unusedSimpArgs false
set_option linter.unusedVariables false
set_option maxRecDepth 100000
set_option maxHeartbeats 2000000
namespace Go.Proofs.Ytgjngknkokgpjaa
open Go.RowKit
def notL (l : List Int) (n : Int) : List Int := l.filter fun x => decide (x ≠ n)
theorem notL_take (l : List Int) (n : Int) (i : Nat) (h : i < l.length) : notL (l.take (i + 1)) n = notL (l.take i) n ++ if l[i] = n then [] else [l[i]] := by
  unfold notL
  rw [List.take_succ_eq_append_getElem h, List.filter_append]
  congr 1
  by_cases hn : l[i] = n
  · simp [hn]
  · simp [hn]
theorem notL_len (l : List Int) (n : Int) : (notL l n).length ≤ l.length := List.length_filter_le ..
theorem wout_code : cfun Try.prog [] 30 = some ⟨(.seq (.region 0 [⟨(some 4), (.mov (.k .nil0)), none⟩]) (.seq (.region 1 [⟨(some 5), (.mov (.k .nil0)), none⟩]) (.seq (.seq (.region 2 [⟨(some 6), (.mov (.k (.int .i64 0))), none⟩]) (.block 0 (.loop (.seq (.seq (.region 3 [⟨(some 7), (.mov (.t 6)), none⟩, ⟨(some 8), (.mov (.t 0)), none⟩, ⟨(some 9), (.len (.t 8)), none⟩, ⟨(some 10), (.bin .lss (.t 7) (.t 9)), none⟩]) (.cond 10 .skip (.exit 0))) (.seq (.block 1 (.seq (.region 5 [⟨(some 13), (.mov (.t 0)), none⟩, ⟨(some 14), (.mov (.t 6)), none⟩, ⟨(some 15), (.iads 1 (.t 13) (.t 14)), none⟩, ⟨(some 16), (.load false 1 (.t 15)), none⟩, ⟨(some 17), (.mov (.t 1)), none⟩, ⟨(some 18), (.bin .neq (.t 16) (.t 17)), none⟩]) (.cond 18 (.region 6 [⟨(some 19), (.mov (.t 5)), none⟩, ⟨(some 20), (.mov (.t 0)), none⟩, ⟨(some 21), (.mov (.t 6)), none⟩, ⟨(some 22), (.iads 1 (.t 20) (.t 21)), none⟩, ⟨(some 23), (.load false 1 (.t 22)), none⟩, ⟨(some 24), (.bslice 1 1 [(.int .i64 0)] [(0, (.t 23))]), none⟩, ⟨(some 25), (.app 1 8 [(.int .i64 0)] (.t 19) (.t 24)), none⟩, ⟨(some 5), (.mov (.t 25)), none⟩]) .skip))) (.region 4 [⟨(some 11), (.mov (.t 6)), none⟩, ⟨(some 12), (.bin .add (.t 11) (.k (.int .i64 1))), none⟩, ⟨(some 6), (.mov (.t 12)), none⟩])))))) (.seq (.region 7 [⟨(some 26), (.mov (.t 5)), none⟩, ⟨(some 4), (.mov (.t 26)), none⟩]) .ret)))), [(.t 4)], 27⟩ := by kernel_rfl
theorem wout_pfn (l : List Int) (n : Int) (hl : l.length ≤ 100000) : PFn Try.prog 30 [.rows 1 (l.map PI), I n] (.rows 1 ((notL l n).map PI)) := by
  refine PFn.of follows_ok wout_code (by simp) (by simp [argOk]) (by simp [noV, noC]) fun B hBN hB0 => acode_sound [0, 1, 4, 5, 6, 10, 18] [] _ _ _ ?_
  simp [AK_at, acode_seq, acode_region, acode_draw, acode_cond, ↓CB_t, ↓CB_f, CB_u, acode_block, acode_loop, acode_exit, acode_scope, acode_ret, acode_skip, seqQ_n, seqQ_e, seqQ_r, blockQ_n, blockQ_e, blockQ_r, TK_at, OK_at, SK_at, aops_nil, aops_cons, asch_done, asch_one, asch_two, asch_top, astep, aop_eq, isLoud, aloud, aloud1, isWrite, qv, evS, strip, gof, eget, hget, putO, eput, herase, oks, opnds, gS, afin, afin0, binD, arith, D.cells, takeD, fillD, keep, trim, envOf, Fin, aresl, aresv, resD, argOk, pickV, isP, deq, deqs, boundD, slD, lenD, isT, chunks, mn_min, mx_max, D.cells, splice_one, splice_more, Rbr_at, Rfr_at, frR, frV, frC, flatC, brwR, brwV, brwC, omap, leR, leV, leC, leL, leVL]
  refine W.loopS (fun y : Nat × List Int => ⟨[(6, I y.1), (5, .own 0), (1, I n), (0, D.rows 1 (l.map PI))], [(0, .row 1 (y.2.map PI))], 1⟩)
    (fun m y => m = l.length - y.1 ∧ y.1 ≤ l.length ∧ y.2 = notL (l.take y.1) n) ?_ ?_
  · refine ⟨_, (0, []), (Gh.adopt 5 1 (by omega) (by simp [eget])).trans ?_, rfl, by omega, by simp [notL]⟩
    simp [eput]
    exact (Gh.ren [] (by simp [hB0]) (by simp [hB0]) (by simp [eget, rnS, rnR, rnV, rnC, LtS, LtR, LtV, LtC, lget]) (by simp [hget, rnO, rnC, LtO, LtC, lget]) (.inr rfl))
  rintro m ⟨i, acc⟩ ⟨hm, hi, hacc⟩
  simp only at hm hi hacc
  refine acode_sound [0, 1, 4, 5, 6, 10, 18] [] _ _ _ ?_
  by_cases hlt : i < l.length
  · have hs := notL_take l n i hlt
    rw [← hacc] at hs
    obtain ⟨x, hx⟩ : ∃ x, x = l[i] := ⟨_, rfl⟩
    rw [← hx] at hs
    have hle := notL_len (l.take i) n
    rw [← hacc] at hle
    have hle2 : (l.take i).length ≤ l.length := by simp; omega
    have ii : InR ((i : Int) + 1) := inr (by omega) (by omega)
    have hcap : (acc.length + 1) * 8 ≤ 140737488355328 := by omega
    by_cases hn : x = n
    · rw [if_pos hn, List.append_nil] at hs
      simp [AK_at, acode_seq, acode_region, acode_draw, acode_cond, ↓CB_t, ↓CB_f, CB_u, acode_block, acode_loop, acode_exit, acode_scope, acode_ret, acode_skip, seqQ_n, seqQ_e, seqQ_r, blockQ_n, blockQ_e, blockQ_r, TK_at, OK_at, SK_at, aops_nil, aops_cons, asch_done, asch_one, asch_two, asch_top, astep, aop_eq, isLoud, aloud, aloud1, isWrite, qv, evS, strip, gof, eget, hget, putO, eput, herase, oks, opnds, gS, afin, afin0, binD, arith, D.cells, takeD, fillD, keep, trim, envOf, Fin, aresl, aresv, resD, argOk, pickV, isP, deq, deqs, boundD, slD, lenD, isT, chunks, mn_min, mx_max, D.cells, splice_one, splice_more, Rbr_at, Rfr_at, frR, frV, frC, flatC, brwR, brwV, brwC, omap, leR, leV, leC, leL, leVL, hlt, ← hx, PI, ii, hn]
      exact ⟨_, (i + 1, acc), (Gh.ren [0] (by simp [hB0]) (by simp [hB0]) (by simp [eget, rnS, rnR, rnV, rnC, LtS, LtR, LtV, LtC, lget, PI]) (by simp [hget, rnO, rnC, LtO, LtC, lget, PI]) (.inl (by simp [lget]))), by omega, rfl, by omega, hs.symm⟩
    · rw [if_neg hn] at hs
      simp [AK_at, acode_seq, acode_region, acode_draw, acode_cond, ↓CB_t, ↓CB_f, CB_u, acode_block, acode_loop, acode_exit, acode_scope, acode_ret, acode_skip, seqQ_n, seqQ_e, seqQ_r, blockQ_n, blockQ_e, blockQ_r, TK_at, OK_at, SK_at, aops_nil, aops_cons, asch_done, asch_one, asch_two, asch_top, astep, aop_eq, isLoud, aloud, aloud1, isWrite, qv, evS, strip, gof, eget, hget, putO, eput, herase, oks, opnds, gS, afin, afin0, binD, arith, D.cells, takeD, fillD, keep, trim, envOf, Fin, aresl, aresv, resD, argOk, pickV, isP, deq, deqs, boundD, slD, lenD, isT, chunks, mn_min, mx_max, D.cells, splice_one, splice_more, Rbr_at, Rfr_at, frR, frV, frC, flatC, brwR, brwV, brwC, omap, leR, leV, leC, leL, leVL, hlt, ← hx, PI, ii, hn, hcap]
      exact ⟨_, (i + 1, acc ++ [x]), (Gh.ren [2] (by simp [hB0]) (by simp [hB0]) (by simp [eget, rnS, rnR, rnV, rnC, LtS, LtR, LtV, LtC, lget, PI]) (by simp [hget, rnO, rnC, LtO, LtC, lget, PI]) (.inl (by simp [lget]))), by omega, rfl, by omega, hs.symm⟩
  · have hie : i = l.length := by omega
    subst hie
    rw [List.take_length] at hacc
    simp [AK_at, acode_seq, acode_region, acode_draw, acode_cond, ↓CB_t, ↓CB_f, CB_u, acode_block, acode_loop, acode_exit, acode_scope, acode_ret, acode_skip, seqQ_n, seqQ_e, seqQ_r, blockQ_n, blockQ_e, blockQ_r, TK_at, OK_at, SK_at, aops_nil, aops_cons, asch_done, asch_one, asch_two, asch_top, astep, aop_eq, isLoud, aloud, aloud1, isWrite, qv, evS, strip, gof, eget, hget, putO, eput, herase, oks, opnds, gS, afin, afin0, binD, arith, D.cells, takeD, fillD, keep, trim, envOf, Fin, aresl, aresv, resD, argOk, pickV, isP, deq, deqs, boundD, slD, lenD, isT, chunks, mn_min, mx_max, D.cells, splice_one, splice_more, Rbr_at, Rfr_at, frR, frV, frC, flatC, brwR, brwV, brwC, omap, leR, leV, leC, leL, leVL, hacc]
    intro a _ d hd
    simp [PI] at hd
    subst hd; rfl
theorem notL_same {l : List Int} {n : Int} (h : n ∉ l) : notL l n = l := List.filter_eq_self.2 fun x hx => by simpa using fun e : x = n => h (e ▸ hx)
theorem notL_less {l : List Int} {n : Int} (h : n ∈ l) : (notL l n).length < l.length := by
  unfold notL
  have h1 : ((l.filter fun x => decide (x ≠ n)).length ≤ l.length) := List.length_filter_le ..
  have h2 : (l.filter fun x => decide (x ≠ n)).length ≠ l.length := fun e => by
    have := List.length_filter_eq_length_iff.1 e n h
    simp at this
  omega
def walkN (l : List Int) : Nat → List Int
  | 0 => []
  | i + 1 => if (walkN l i).length < 12 ∧ pickedZ (l.getD i 0) 12 ∉ walkN l i then walkN l i ++ [pickedZ (l.getD i 0) 12] else walkN l i
structure WOk (w : List Int) : Prop where
  len : w.length ≤ 12
  nd : w.Nodup
  bd : ∀ b ∈ w, 0 ≤ b ∧ b < 12
theorem walkN_ok (l : List Int) : ∀ i, WOk (walkN l i)
  | 0 => ⟨by simp [walkN], by simp [walkN], fun b hb => by simp [walkN] at hb⟩
  | i + 1 => by
    have h := walkN_ok l i
    simp only [walkN]
    split
    · rename_i hc
      have hr := pickedZ_range (l.getD i 0) 12 (by omega)
      refine ⟨by simp; omega, ?_, fun b hb => ?_⟩
      · rw [List.nodup_append]
        refine ⟨h.nd, by simp, fun a ha b hb e => ?_⟩
        rw [List.mem_singleton] at hb
        subst hb
        subst e
        exact hc.2 ha
      · rcases List.mem_append.1 hb with hb | hb
        · exact h.bd b hb
        · rw [List.mem_singleton] at hb; subst hb; exact hr
    · exact h
theorem walkN_stay (l : List Int) (i : Nat) (h : ¬ (walkN l i).length < 12) : ∀ j, walkN l (i + j) = walkN l i
  | 0 => rfl
  | j + 1 => by
    have ih := walkN_stay l i h j
    show walkN l ((i + j) + 1) = _
    simp only [walkN, ih]
    rw [if_neg fun hh => h hh.1]
def walkL (l : List Int) : List Int := walkN l l.length
theorem walkof_code : cfun Try.prog [] 27 = some ⟨(.seq (.region 0 [⟨(some 2), (.mov (.k .nil0)), none⟩]) (.seq (.region 1 [⟨(some 3), (.mov (.k .nil0)), none⟩]) (.seq (.seq (.region 2 [⟨(some 4), (.mov (.k (.int .i64 0))), none⟩]) (.block 0 (.loop (.seq (.seq (.region 3 [⟨(some 6), (.mov (.t 4)), none⟩, ⟨(some 7), (.mov (.t 0)), none⟩, ⟨(some 8), (.len (.t 7)), none⟩, ⟨(some 9), (.bin .lss (.t 6) (.t 8)), none⟩, ⟨(some 10), (.mov (.t 9)), none⟩, ⟨(some 11), (.mov (.t 3)), (some (10, true))⟩, ⟨(some 12), (.len (.t 11)), (some (10, true))⟩, ⟨(some 13), (.bin .lss (.t 12) (.k (.int .i64 12))), (some (10, true))⟩, ⟨(some 14), (.pick (.t 10) (.t 13) (.k (.bool false))), none⟩]) (.cond 14 .skip (.exit 0))) (.seq (.block 1 (.seq (.region 5 [⟨(some 17), (.mov (.t 0)), none⟩, ⟨(some 18), (.mov (.t 4)), none⟩, ⟨(some 19), (.iads 1 (.t 17) (.t 18)), none⟩, ⟨(some 20), (.load false 1 (.t 19)), none⟩, ⟨(some 21), (.call 19 [(.t 20), (.k (.int .i64 12))]), none⟩, ⟨(some 5), (.mov (.t 21)), none⟩]) (.seq (.region 6 [⟨(some 22), (.mov (.t 3)), none⟩, ⟨(some 23), (.mov (.t 5)), none⟩, ⟨(some 24), (.call 30 [(.t 22), (.t 23)]), none⟩, ⟨(some 25), (.len (.t 24)), none⟩, ⟨(some 26), (.mov (.t 3)), none⟩, ⟨(some 27), (.len (.t 26)), none⟩, ⟨(some 28), (.bin .eql (.t 25) (.t 27)), none⟩]) (.cond 28 (.region 7 [⟨(some 29), (.mov (.t 3)), none⟩, ⟨(some 30), (.mov (.t 5)), none⟩, ⟨(some 31), (.bslice 1 1 [(.int .i64 0)] [(0, (.t 30))]), none⟩, ⟨(some 32), (.app 1 8 [(.int .i64 0)] (.t 29) (.t 31)), none⟩, ⟨(some 3), (.mov (.t 32)), none⟩]) .skip)))) (.region 4 [⟨(some 15), (.mov (.t 4)), none⟩, ⟨(some 16), (.bin .add (.t 15) (.k (.int .i64 1))), none⟩, ⟨(some 4), (.mov (.t 16)), none⟩])))))) (.seq (.region 8 [⟨(some 33), (.mov (.t 3)), none⟩, ⟨(some 2), (.mov (.t 33)), none⟩]) .ret)))), [(.t 2)], 34⟩ := by kernel_rfl
theorem walkof_pf (l : List Int) (hl : l.length ≤ Go.maxLen) (hr : ∀ z ∈ l, InR z) : PF Try.prog 27 [.rows 1 (l.map PI)] (.rows 1 ((walkL l).map PI)) := by
  unfold Go.maxLen at hl
  refine PF.of follows_ok walkof_code (by simp) (by simp [argOk]) (by simp [noV, noC]) fun B hBN hB0 => acode_sound [0, 2, 3, 4, 5, 14, 28] [] _ _ _ ?_
  simp [AK_at, acode_seq, acode_region, acode_draw, acode_cond, ↓CB_t, ↓CB_f, CB_u, acode_block, acode_loop, acode_exit, acode_scope, acode_ret, acode_skip, seqQ_n, seqQ_e, seqQ_r, blockQ_n, blockQ_e, blockQ_r, TK_at, OK_at, SK_at, aops_nil, aops_cons, asch_done, asch_one, asch_two, asch_top, astep, aop_eq, isLoud, aloud, aloud1, isWrite, qv, evS, strip, gof, eget, hget, putO, eput, herase, oks, opnds, gS, afin, afin0, binD, arith, D.cells, takeD, fillD, keep, trim, envOf, Fin, aresl, aresv, resD, argOk, pickV, isP, deq, deqs, boundD, slD, lenD, isT, chunks, mn_min, mx_max, D.cells, splice_one, splice_more, Rbr_at, Rfr_at, frR, frV, frC, flatC, brwR, brwV, brwC, omap, leR, leV, leC, leL, leVL]
  refine W.loopS (fun y : Nat × List Int => ⟨[(4, I y.1), (3, .own 0), (0, D.rows 1 (l.map PI))], [(0, .row 1 (y.2.map PI))], 1⟩)
    (fun m y => m = l.length - y.1 ∧ y.1 ≤ l.length ∧ y.2 = walkN l y.1) ?_ ?_
  · refine ⟨_, (0, []), (Gh.adopt 3 1 (by omega) (by simp [eget])).trans ?_, rfl, by omega, rfl⟩
    simp [eput]
    exact (Gh.ren [] (by simp [hB0]) (by simp [hB0]) (by simp [eget, rnS, rnR, rnV, rnC, LtS, LtR, LtV, LtC, lget]) (by simp [hget, rnO, rnC, LtO, LtC, lget]) (.inr rfl))
  rintro m ⟨i, acc⟩ ⟨hm, hi, hacc⟩
  simp only at hm hi hacc
  refine acode_sound [0, 2, 3, 4, 5, 14, 28] [] _ _ _ ?_
  have hok := walkN_ok l i
  rw [← hacc] at hok
  have hlen := hok.len
  by_cases hlt : i < l.length
  · by_cases hl12 : acc.length < 12
    · have hl13 : (acc.length : Int) < 12 := by omega
      have hxr := hr _ (List.getElem_mem hlt)
      obtain ⟨x, hx⟩ : ∃ x, x = l[i] := ⟨_, rfl⟩
      rw [← hx] at hxr
      have hxd : l.getD i 0 = x := by rw [hx]; simp [List.getD, hlt]
      have hs : walkN l (i + 1) = if (walkN l i).length < 12 ∧ pickedZ (l.getD i 0) 12 ∉ walkN l i then walkN l i ++ [pickedZ (l.getD i 0) 12] else walkN l i := rfl
      rw [hxd, ← hacc] at hs
      have ii : InR ((i : Int) + 1) := inr (by omega) (by omega)
      have hp := picked_pf x 12 hxr (by omega)
      obtain ⟨b, hb⟩ : ∃ b, b = pickedZ x 12 := ⟨_, rfl⟩
      rw [← hb] at hp hs
      have hwo_pfn := wout_pfn acc b (by omega)
      have hcap : (acc.length + 1) * 8 ≤ 140737488355328 := by omega
      by_cases hin : b ∈ acc
      · have hls := notL_less hin
        have hne : ¬ ((notL acc b).length : Int) = acc.length := by omega
        have hne2 : ¬ (notL acc b).length = acc.length := by omega
        rw [if_neg (fun hh => hh.2 hin)] at hs
        simp [AK_at, acode_seq, acode_region, acode_draw, acode_cond, ↓CB_t, ↓CB_f, CB_u, acode_block, acode_loop, acode_exit, acode_scope, acode_ret, acode_skip, seqQ_n, seqQ_e, seqQ_r, blockQ_n, blockQ_e, blockQ_r, TK_at, OK_at, SK_at, aops_nil, aops_cons, asch_done, asch_one, asch_two, asch_top, astep, aop_eq, isLoud, aloud, aloud1, isWrite, qv, evS, strip, gof, eget, hget, putO, eput, herase, oks, opnds, gS, afin, afin0, binD, arith, D.cells, takeD, fillD, keep, trim, envOf, Fin, aresl, aresv, resD, argOk, pickV, isP, deq, deqs, boundD, slD, lenD, isT, chunks, mn_min, mx_max, D.cells, splice_one, splice_more, Rbr_at, Rfr_at, frR, frV, frC, flatC, brwR, brwV, brwC, omap, leR, leV, leC, leL, leVL, hlt, hl13]
        repeat' (first
          | simp [AK_at, acode_seq, acode_region, acode_draw, acode_cond, ↓CB_t, ↓CB_f, CB_u, acode_block, acode_loop, acode_exit, acode_scope, acode_ret, acode_skip, seqQ_n, seqQ_e, seqQ_r, blockQ_n, blockQ_e, blockQ_r, TK_at, OK_at, SK_at, aops_nil, aops_cons, asch_done, asch_one, asch_two, asch_top, astep, aop_eq, isLoud, aloud, aloud1, isWrite, qv, evS, strip, gof, eget, hget, putO, eput, herase, oks, opnds, gS, afin, afin0, binD, arith, D.cells, takeD, fillD, keep, trim, envOf, Fin, aresl, aresv, resD, argOk, pickV, isP, deq, deqs, boundD, slD, lenD, isT, chunks, mn_min, mx_max, D.cells, splice_one, splice_more, Rbr_at, Rfr_at, frR, frV, frC, flatC, brwR, brwV, brwC, omap, leR, leV, leC, leL, leVL, hlt, ← hx, PI, ii, hl13, hne, hne2]
          | (refine WCall.pf (hp) ?_ ?_ ?_ ?_; (focus (simp [oks, opnds, gS, gof, eget]; done)); (focus (simp [omap, brwV, brwC, evS, eget, strip, hget, leVL, leV, leC, leL, hlt, ← hx, PI, ii, hl13, hne, hne2]; done)); (focus (simp [noV, noC, flatR, flatV, flatC, evS, eget, strip, hlt, ← hx, PI, ii, hl13, hne, hne2]; done)))
          | (refine ⟨WCall.pf (hp) ?_ ?_ ?_ ?_, ?_⟩; (focus (simp [oks, opnds, gS, gof, eget]; done)); (focus (simp [omap, brwV, brwC, evS, eget, strip, hget, leVL, leV, leC, leL, hlt, ← hx, PI, ii, hl13, hne, hne2]; done)); (focus (simp [noV, noC, flatR, flatV, flatC, evS, eget, strip, hlt, ← hx, PI, ii, hl13, hne, hne2]; done)))
          | (refine WCall.pfn (hwo_pfn) ?_ ?_ ?_; (focus (simp [oks, opnds, gS, gof, eget]; done)); (focus (simp [omap, brwV, brwC, evS, eget, strip, hget, leVL, leV, leC, leL, hlt, ← hx, PI, ii, hl13, hne, hne2]; done)))
          | (refine ⟨WCall.pfn (hwo_pfn) ?_ ?_ ?_, ?_⟩; (focus (simp [oks, opnds, gS, gof, eget]; done)); (focus (simp [omap, brwV, brwC, evS, eget, strip, hget, leVL, leV, leC, leL, hlt, ← hx, PI, ii, hl13, hne, hne2]; done)))
          | (with_reducible refine And.intro (And.intro ?_ ?_) ?_)
          | fail)
        exact ⟨_, (i + 1, acc), (Gh.ren [0] (by simp [hB0]) (by simp [hB0]) (by simp [eget, rnS, rnR, rnV, rnC, LtS, LtR, LtV, LtC, lget, PI]) (by simp [hget, rnO, rnC, LtO, LtC, lget, PI]) (.inl (by simp [lget]))), by omega, rfl, by omega, hs.symm⟩
      · rw [notL_same hin] at hwo_pfn
        rw [if_pos ⟨hl12, hin⟩] at hs
        simp [AK_at, acode_seq, acode_region, acode_draw, acode_cond, ↓CB_t, ↓CB_f, CB_u, acode_block, acode_loop, acode_exit, acode_scope, acode_ret, acode_skip, seqQ_n, seqQ_e, seqQ_r, blockQ_n, blockQ_e, blockQ_r, TK_at, OK_at, SK_at, aops_nil, aops_cons, asch_done, asch_one, asch_two, asch_top, astep, aop_eq, isLoud, aloud, aloud1, isWrite, qv, evS, strip, gof, eget, hget, putO, eput, herase, oks, opnds, gS, afin, afin0, binD, arith, D.cells, takeD, fillD, keep, trim, envOf, Fin, aresl, aresv, resD, argOk, pickV, isP, deq, deqs, boundD, slD, lenD, isT, chunks, mn_min, mx_max, D.cells, splice_one, splice_more, Rbr_at, Rfr_at, frR, frV, frC, flatC, brwR, brwV, brwC, omap, leR, leV, leC, leL, leVL, hlt, hl13]
        repeat' (first
          | simp [AK_at, acode_seq, acode_region, acode_draw, acode_cond, ↓CB_t, ↓CB_f, CB_u, acode_block, acode_loop, acode_exit, acode_scope, acode_ret, acode_skip, seqQ_n, seqQ_e, seqQ_r, blockQ_n, blockQ_e, blockQ_r, TK_at, OK_at, SK_at, aops_nil, aops_cons, asch_done, asch_one, asch_two, asch_top, astep, aop_eq, isLoud, aloud, aloud1, isWrite, qv, evS, strip, gof, eget, hget, putO, eput, herase, oks, opnds, gS, afin, afin0, binD, arith, D.cells, takeD, fillD, keep, trim, envOf, Fin, aresl, aresv, resD, argOk, pickV, isP, deq, deqs, boundD, slD, lenD, isT, chunks, mn_min, mx_max, D.cells, splice_one, splice_more, Rbr_at, Rfr_at, frR, frV, frC, flatC, brwR, brwV, brwC, omap, leR, leV, leC, leL, leVL, hlt, ← hx, PI, ii, hl13, hcap]
          | (refine WCall.pf (hp) ?_ ?_ ?_ ?_; (focus (simp [oks, opnds, gS, gof, eget]; done)); (focus (simp [omap, brwV, brwC, evS, eget, strip, hget, leVL, leV, leC, leL, hlt, ← hx, PI, ii, hl13, hcap]; done)); (focus (simp [noV, noC, flatR, flatV, flatC, evS, eget, strip, hlt, ← hx, PI, ii, hl13, hcap]; done)))
          | (refine ⟨WCall.pf (hp) ?_ ?_ ?_ ?_, ?_⟩; (focus (simp [oks, opnds, gS, gof, eget]; done)); (focus (simp [omap, brwV, brwC, evS, eget, strip, hget, leVL, leV, leC, leL, hlt, ← hx, PI, ii, hl13, hcap]; done)); (focus (simp [noV, noC, flatR, flatV, flatC, evS, eget, strip, hlt, ← hx, PI, ii, hl13, hcap]; done)))
          | (refine WCall.pfn (hwo_pfn) ?_ ?_ ?_; (focus (simp [oks, opnds, gS, gof, eget]; done)); (focus (simp [omap, brwV, brwC, evS, eget, strip, hget, leVL, leV, leC, leL, hlt, ← hx, PI, ii, hl13, hcap]; done)))
          | (refine ⟨WCall.pfn (hwo_pfn) ?_ ?_ ?_, ?_⟩; (focus (simp [oks, opnds, gS, gof, eget]; done)); (focus (simp [omap, brwV, brwC, evS, eget, strip, hget, leVL, leV, leC, leL, hlt, ← hx, PI, ii, hl13, hcap]; done)))
          | (with_reducible refine And.intro (And.intro ?_ ?_) ?_)
          | fail)
        exact ⟨_, (i + 1, acc ++ [b]), (Gh.ren [2] (by simp [hB0]) (by simp [hB0]) (by simp [eget, rnS, rnR, rnV, rnC, LtS, LtR, LtV, LtC, lget, PI]) (by simp [hget, rnO, rnC, LtO, LtC, lget, PI]) (.inl (by simp [lget]))), by omega, rfl, by omega, hs.symm⟩
    · have hst := walkN_stay l i (by rw [← hacc]; exact hl12) (l.length - i)
      rw [show i + (l.length - i) = l.length by omega, ← hacc] at hst
      have hw : walkL l = acc := hst
      have hl13 : ¬ (acc.length : Int) < 12 := by omega
      simp [AK_at, acode_seq, acode_region, acode_draw, acode_cond, ↓CB_t, ↓CB_f, CB_u, acode_block, acode_loop, acode_exit, acode_scope, acode_ret, acode_skip, seqQ_n, seqQ_e, seqQ_r, blockQ_n, blockQ_e, blockQ_r, TK_at, OK_at, SK_at, aops_nil, aops_cons, asch_done, asch_one, asch_two, asch_top, astep, aop_eq, isLoud, aloud, aloud1, isWrite, qv, evS, strip, gof, eget, hget, putO, eput, herase, oks, opnds, gS, afin, afin0, binD, arith, D.cells, takeD, fillD, keep, trim, envOf, Fin, aresl, aresv, resD, argOk, pickV, isP, deq, deqs, boundD, slD, lenD, isT, chunks, mn_min, mx_max, D.cells, splice_one, splice_more, Rbr_at, Rfr_at, frR, frV, frC, flatC, brwR, brwV, brwC, omap, leR, leV, leC, leL, leVL, hlt, hl13, hw]
  · have hie : i = l.length := by omega
    subst hie
    have hw : walkL l = acc := hacc.symm
    simp [AK_at, acode_seq, acode_region, acode_draw, acode_cond, ↓CB_t, ↓CB_f, CB_u, acode_block, acode_loop, acode_exit, acode_scope, acode_ret, acode_skip, seqQ_n, seqQ_e, seqQ_r, blockQ_n, blockQ_e, blockQ_r, TK_at, OK_at, SK_at, aops_nil, aops_cons, asch_done, asch_one, asch_two, asch_top, astep, aop_eq, isLoud, aloud, aloud1, isWrite, qv, evS, strip, gof, eget, hget, putO, eput, herase, oks, opnds, gS, afin, afin0, binD, arith, D.cells, takeD, fillD, keep, trim, envOf, Fin, aresl, aresv, resD, argOk, pickV, isP, deq, deqs, boundD, slD, lenD, isT, chunks, mn_min, mx_max, D.cells, splice_one, splice_more, Rbr_at, Rfr_at, frR, frV, frC, flatC, brwR, brwV, brwC, omap, leR, leV, leC, leL, leVL, hw]
def loadM (l : List Load) (b : Int) : Load := if idxZ (fun x : Load => decide (x.backend = b)) l < 0 then ⟨-1, 0, 0⟩ else l.getD (idxZ (fun x : Load => decide (x.backend = b)) l).toNat zload
theorem loadof_code : cfun Try.prog [] 28 = some ⟨(.seq (.region 0 [⟨(some 4), (.alloc [(.int .i64 0), (.int .i64 0), (.int .i64 0)]), none⟩]) (.seq (.seq (.region 1 [⟨(some 5), (.mov (.k (.int .i64 0))), none⟩]) (.block 0 (.loop (.seq (.seq (.region 2 [⟨(some 6), (.mov (.t 5)), none⟩, ⟨(some 7), (.mov (.t 0)), none⟩, ⟨(some 8), (.len (.t 7)), none⟩, ⟨(some 9), (.bin .lss (.t 6) (.t 8)), none⟩]) (.cond 9 .skip (.exit 0))) (.seq (.block 1 (.seq (.region 4 [⟨(some 12), (.mov (.t 0)), none⟩, ⟨(some 13), (.mov (.t 5)), none⟩, ⟨(some 14), (.iads 3 (.t 12) (.t 13)), none⟩, ⟨(some 15), (.fad 0 (.t 14)), none⟩, ⟨(some 16), (.load false 1 (.t 15)), none⟩, ⟨(some 17), (.mov (.t 1)), none⟩, ⟨(some 18), (.bin .eql (.t 16) (.t 17)), none⟩]) (.cond 18 (.seq (.region 5 [⟨(some 19), (.mov (.t 0)), none⟩, ⟨(some 20), (.mov (.t 5)), none⟩, ⟨(some 21), (.iads 3 (.t 19) (.t 20)), none⟩, ⟨(some 22), (.load true 3 (.t 21)), none⟩, ⟨none, (.store 3 (.t 4) (.t 22)), none⟩]) .ret) .skip))) (.region 3 [⟨(some 10), (.mov (.t 5)), none⟩, ⟨(some 11), (.bin .add (.t 10) (.k (.int .i64 1))), none⟩, ⟨(some 5), (.mov (.t 11)), none⟩])))))) (.seq (.region 6 [⟨(some 23), (.build [(.int .i64 0), (.int .i64 0), (.int .i64 0)] [(0, (1, (.k (.int .i64 (-1)))))]), none⟩, ⟨none, (.store 3 (.t 4) (.t 23)), none⟩]) .ret))), [(.c 4 true 3)], 24⟩ := by kernel_rfl
theorem loadof_pf (l : List Load) (b : Int) (hl : l.length ≤ 100000) : PF Try.prog 28 [.rows 3 (l.map Load.D), I b] (.agg (loadM l b).D) := by
  refine PF.of follows_ok loadof_code (by simp) (by simp [argOk]) (by simp [noV, noC]) fun B hBN hB0 => acode_sound [0, 1, 4, 5, 9, 18] [] _ _ _ ?_
  simp [AK_at, acode_seq, acode_region, acode_draw, acode_cond, ↓CB_t, ↓CB_f, CB_u, acode_block, acode_loop, acode_exit, acode_scope, acode_ret, acode_skip, seqQ_n, seqQ_e, seqQ_r, blockQ_n, blockQ_e, blockQ_r, TK_at, OK_at, SK_at, aops_nil, aops_cons, asch_done, asch_one, asch_two, asch_top, astep, aop_eq, isLoud, aloud, aloud1, isWrite, qv, evS, strip, gof, eget, hget, putO, eput, herase, oks, opnds, gS, afin, afin0, binD, arith, D.cells, takeD, fillD, keep, trim, envOf, Fin, aresl, aresv, resD, argOk, pickV, isP, deq, deqs, boundD, slD, lenD, isT, chunks, mn_min, mx_max, D.cells, splice_one, splice_more, Rbr_at, Rfr_at, frR, frV, frC, flatC, brwR, brwV, brwC, omap, leR, leV, leC, leL, leVL]
  refine W.loopS (fun i : Nat => ⟨[(5, I i), (4, .ptr 0 0), (1, I b), (0, D.rows 3 (l.map Load.D))], [(0, .cells [I 0, I 0, I 0])], 1⟩)
    (fun n i => n = l.length - i ∧ i ≤ l.length ∧ ∀ j (hj : j < l.length), j < i → decide (l[j].backend = b) = false) ?_ ?_
  · exact ⟨_, 0, (Gh.ren [0] (by simp [hB0]) (by simp [hB0]) (by simp [eget, rnS, rnR, rnV, rnC, LtS, LtR, LtV, LtC, lget]) (by simp [hget, rnO, rnC, LtO, LtC, lget]) (.inl (by simp [lget]))), rfl, by omega, fun j _ h => by omega⟩
  · rintro n i ⟨hn, hi, hb⟩
    refine acode_sound [0, 1, 4, 5, 9, 18] [] _ _ _ ?_
    by_cases hlt : i < l.length
    · obtain ⟨o, ho⟩ : ∃ o, o = l[i] := ⟨_, rfl⟩
      have ii : InR ((i : Int) + 1) := inr (by omega) (by omega)
      by_cases hq : o.backend = b
      · have hz := idxZ_at (fun x : Load => decide (x.backend = b)) l i hlt (fun j hj => hb j (by omega) hj) (by rw [← ho]; exact decide_eq_true hq)
        have hm : loadM l b = o := by
          unfold loadM
          rw [hz, if_neg (by omega), ho]
          simp [List.getD, hlt]
        simp [AK_at, acode_seq, acode_region, acode_draw, acode_cond, ↓CB_t, ↓CB_f, CB_u, acode_block, acode_loop, acode_exit, acode_scope, acode_ret, acode_skip, seqQ_n, seqQ_e, seqQ_r, blockQ_n, blockQ_e, blockQ_r, TK_at, OK_at, SK_at, aops_nil, aops_cons, asch_done, asch_one, asch_two, asch_top, astep, aop_eq, isLoud, aloud, aloud1, isWrite, qv, evS, strip, gof, eget, hget, putO, eput, herase, oks, opnds, gS, afin, afin0, binD, arith, D.cells, takeD, fillD, keep, trim, envOf, Fin, aresl, aresv, resD, argOk, pickV, isP, deq, deqs, boundD, slD, lenD, isT, chunks, mn_min, mx_max, D.cells, splice_one, splice_more, Rbr_at, Rfr_at, frR, frV, frC, flatC, brwR, brwV, brwC, omap, leR, leV, leC, leL, leVL, hlt, ← ho, Load.D, hq, hm]
      · simp [AK_at, acode_seq, acode_region, acode_draw, acode_cond, ↓CB_t, ↓CB_f, CB_u, acode_block, acode_loop, acode_exit, acode_scope, acode_ret, acode_skip, seqQ_n, seqQ_e, seqQ_r, blockQ_n, blockQ_e, blockQ_r, TK_at, OK_at, SK_at, aops_nil, aops_cons, asch_done, asch_one, asch_two, asch_top, astep, aop_eq, isLoud, aloud, aloud1, isWrite, qv, evS, strip, gof, eget, hget, putO, eput, herase, oks, opnds, gS, afin, afin0, binD, arith, D.cells, takeD, fillD, keep, trim, envOf, Fin, aresl, aresv, resD, argOk, pickV, isP, deq, deqs, boundD, slD, lenD, isT, chunks, mn_min, mx_max, D.cells, splice_one, splice_more, Rbr_at, Rfr_at, frR, frV, frC, flatC, brwR, brwV, brwC, omap, leR, leV, leC, leL, leVL, hlt, ← ho, Load.D, hq, ii]
        exact ⟨_, i + 1, (Gh.ren [0] (by simp [hB0]) (by simp [hB0]) (by simp [eget, rnS, rnR, rnV, rnC, LtS, LtR, LtV, LtC, lget]) (by simp [hget, rnO, rnC, LtO, LtC, lget]) (.inl (by simp [lget]))), by omega, rfl, by omega, fun j hj h => by
          by_cases hji : j = i
          · subst hji; rw [← ho]; first | exact decide_eq_false hq | exact hq
          · first | exact hb j hj (by omega) | exact of_decide_eq_false (hb j hj (by omega))⟩
    · have hz := idxZ_none (fun x : Load => decide (x.backend = b)) l fun x hx => by
        obtain ⟨j, hj⟩ := List.getElem?_of_mem hx
        obtain ⟨hj2, rfl⟩ := List.getElem?_eq_some_iff.1 hj
        exact hb j hj2 (by omega)
      have hm : loadM l b = ⟨-1, 0, 0⟩ := by unfold loadM; rw [hz, if_pos (by omega)]
      have hie : i = l.length := by omega
      subst hie
      simp [AK_at, acode_seq, acode_region, acode_draw, acode_cond, ↓CB_t, ↓CB_f, CB_u, acode_block, acode_loop, acode_exit, acode_scope, acode_ret, acode_skip, seqQ_n, seqQ_e, seqQ_r, blockQ_n, blockQ_e, blockQ_r, TK_at, OK_at, SK_at, aops_nil, aops_cons, asch_done, asch_one, asch_two, asch_top, astep, aop_eq, isLoud, aloud, aloud1, isWrite, qv, evS, strip, gof, eget, hget, putO, eput, herase, oks, opnds, gS, afin, afin0, binD, arith, D.cells, takeD, fillD, keep, trim, envOf, Fin, aresl, aresv, resD, argOk, pickV, isP, deq, deqs, boundD, slD, lenD, isT, chunks, mn_min, mx_max, D.cells, splice_one, splice_more, Rbr_at, Rfr_at, frR, frV, frC, flatC, brwR, brwV, brwC, omap, leR, leV, leC, leL, leVL, hm, Load.D]
end Go.Proofs.Ytgjngknkokgpjaa
