/- This text proves what the helper 'parts' of the statements computes. It has no condition of its own. -/
import Derived.Test.YtgjngknkokgpjaaBnd
import Derived.Test.YtgjngknkokgpjaaAcn
set_option linter.unusedSimpArgs false
set_option linter.unusedVariables false
set_option maxRecDepth 100000
set_option maxHeartbeats 2000000
namespace Go.Proofs.Ytgjngknkokgpjaa
open Go.RowKit
def partAt (i : Nat) (r : List Int) : Load := ⟨i, pickedZ (r.getD 0 0) 9, pickedZ (r.getD 1 0) 4⟩
def partsL (l : List (List Int)) : List Load := (l.take 12).mapIdx partAt
def sumF (l : List Load) : Int := (l.map fun x => if 0 < x.weight then x.flows else 0).sum
theorem sumF_take (l : List Load) (i : Nat) (h : i < l.length) : sumF (l.take (i + 1)) = sumF (l.take i) + if 0 < l[i].weight then l[i].flows else 0 := by
  unfold sumF
  rw [List.take_succ_eq_append_getElem h, List.map_append, List.sum_append]
  simp
theorem sumF_bd : ∀ {l : List Load}, (∀ x ∈ l, 0 ≤ x.flows ∧ x.flows ≤ 40) → 0 ≤ sumF l ∧ sumF l ≤ 40 * l.length
  | [], _ => by simp [sumF]
  | x :: t, h => by
    have h1 := h x (by simp)
    have h2 := sumF_bd (l := t) fun y hy => h y (List.mem_cons_of_mem _ hy)
    simp only [sumF, List.map_cons, List.sum_cons, List.length_cons] at h2 ⊢
    split <;> omega
theorem partsL_len (l : List (List Int)) : (partsL l).length = min 12 l.length := by simp [partsL]
theorem partsL_get (l : List (List Int)) (i : Nat) (h : i < (partsL l).length) (h' : i < l.length) : (partsL l)[i] = partAt i l[i] := by simp [partsL]
theorem partsL_mem {l : List (List Int)} {x : Load} (h : x ∈ partsL l) : 0 ≤ x.weight ∧ x.weight ≤ 8 ∧ 0 ≤ x.flows ∧ x.flows ≤ 3 := by
  obtain ⟨i, hi⟩ := List.getElem?_of_mem h
  obtain ⟨hi', rfl⟩ := List.getElem?_eq_some_iff.1 hi
  have h2 := partsL_len l
  rw [partsL_get l i hi' (by omega)]
  have h3 := pickedZ_range (l[i]'(by omega) |>.getD 0 0) 9 (by omega)
  have h4 := pickedZ_range (l[i]'(by omega) |>.getD 1 0) 4 (by omega)
  unfold partAt
  simp only
  omega
theorem mayL_of : ∀ (l : List Load) (k : Nat) (p : Int), p < k → (∀ i x, l[i]? = some x → x.backend = ((k + i : Nat) : Int) ∧ k + i < 12 ∧ 0 ≤ x.weight ∧ x.weight ≤ 8 ∧ 0 ≤ x.flows ∧ x.flows ≤ 40) → mayL p l
  | [], _, _, _, _ => trivial
  | y :: t, k, p, hp, h => by
    have h0 := h 0 y rfl
    refine ⟨⟨by omega, by omega, by omega, by omega, by omega, by omega⟩, mayL_of t (k + 1) _ (by omega) fun i x hx => ?_⟩
    have := h (i + 1) x (by simpa using hx)
    rw [show k + (i + 1) = k + 1 + i by omega] at this
    exact this
theorem partsL_may (l : List (List Int)) : (partsL l).length ≤ 12 ∧ mayL (-1) (partsL l) := by
  have h2 := partsL_len l
  refine ⟨by omega, mayL_of _ 0 _ (by omega) fun i x hx => ?_⟩
  obtain ⟨hi, rfl⟩ := List.getElem?_eq_some_iff.1 hx
  have h3 := partsL_mem (List.getElem_mem hi)
  have h4 : (partsL l)[i].backend = i := by rw [partsL_get l i hi (by omega)]; rfl
  omega
theorem parts_code : cfun Try.prog [] 25 = some ⟨(.seq (.region 0 [⟨(some 2), (.mov (.k .nil0)), none⟩, ⟨(some 3), (.mov (.k (.int .i64 0))), none⟩, ⟨(some 4), (.mov (.k (.int .i64 0))), none⟩]) (.seq (.region 1 [⟨(some 5), (.mov (.k .nil0)), none⟩]) (.seq (.region 2 [⟨(some 6), (.mov (.k (.int .i64 0))), none⟩]) (.seq (.region 3 [⟨(some 7), (.mov (.k (.int .i64 0))), none⟩]) (.seq (.seq (.region 4 [⟨(some 8), (.mov (.k (.int .i64 0))), none⟩]) (.block 0 (.loop (.seq (.seq (.region 5 [⟨(some 10), (.mov (.t 8)), none⟩, ⟨(some 11), (.mov (.t 0)), none⟩, ⟨(some 12), (.len (.t 11)), none⟩, ⟨(some 13), (.bin .lss (.t 10) (.t 12)), none⟩, ⟨(some 14), (.mov (.t 13)), none⟩, ⟨(some 15), (.mov (.t 8)), (some (14, true))⟩, ⟨(some 16), (.bin .lss (.t 15) (.k (.int .i64 12))), (some (14, true))⟩, ⟨(some 17), (.pick (.t 14) (.t 16) (.k (.bool false))), none⟩]) (.cond 17 .skip (.exit 0))) (.seq (.block 1 (.seq (.draw 7 (.one true ⟨(some 20), (.mov (.t 8)), none⟩ (.one true ⟨(some 21), (.mov (.t 0)), none⟩ (.one true ⟨(some 22), (.mov (.t 8)), none⟩ (.one true ⟨(some 23), (.iads 2 (.t 21) (.t 22)), none⟩ (.one true ⟨(some 24), (.fad 0 (.t 23)), none⟩ (.one true ⟨(some 25), (.load false 1 (.t 24)), none⟩ (.one true ⟨(some 27), (.mov (.t 0)), none⟩ (.one true ⟨(some 28), (.mov (.t 8)), none⟩ (.one true ⟨(some 29), (.iads 2 (.t 27) (.t 28)), none⟩ (.one true ⟨(some 30), (.fad 1 (.t 29)), none⟩ (.one true ⟨(some 31), (.load false 1 (.t 30)), none⟩ (.two (.one true ⟨(some 26), (.call 19 [(.t 25), (.k (.int .i64 9))]), none⟩ (.two (.one true ⟨(some 32), (.call 19 [(.t 31), (.k (.int .i64 4))]), none⟩ (.one true ⟨(some 33), (.build [(.int .i64 0), (.int .i64 0), (.int .i64 0)] [(0, (1, (.t 20))), (1, (1, (.t 26))), (2, (1, (.t 32)))]), none⟩ (.one true ⟨(some 9), (.alloc [(.int .i64 0), (.int .i64 0), (.int .i64 0)]), none⟩ (.one false ⟨none, (.store 3 (.t 9) (.t 33)), none⟩ .done)))) (.two (.one true ⟨(some 9), (.alloc [(.int .i64 0), (.int .i64 0), (.int .i64 0)]), none⟩ (.one true ⟨(some 32), (.call 19 [(.t 31), (.k (.int .i64 4))]), none⟩ (.one true ⟨(some 33), (.build [(.int .i64 0), (.int .i64 0), (.int .i64 0)] [(0, (1, (.t 20))), (1, (1, (.t 26))), (2, (1, (.t 32)))]), none⟩ (.one false ⟨none, (.store 3 (.t 9) (.t 33)), none⟩ .done)))) .top))) (.two (.one true ⟨(some 9), (.alloc [(.int .i64 0), (.int .i64 0), (.int .i64 0)]), none⟩ (.one true ⟨(some 26), (.call 19 [(.t 25), (.k (.int .i64 9))]), none⟩ (.one true ⟨(some 32), (.call 19 [(.t 31), (.k (.int .i64 4))]), none⟩ (.one true ⟨(some 33), (.build [(.int .i64 0), (.int .i64 0), (.int .i64 0)] [(0, (1, (.t 20))), (1, (1, (.t 26))), (2, (1, (.t 32)))]), none⟩ (.one false ⟨none, (.store 3 (.t 9) (.t 33)), none⟩ .done))))) .top)))))))))))))) (.seq (.region 8 [⟨(some 34), (.mov (.t 5)), none⟩, ⟨(some 35), (.load true 3 (.t 9)), none⟩, ⟨(some 36), (.bslice 3 1 [(.int .i64 0), (.int .i64 0), (.int .i64 0)] [(0, (.t 35))]), none⟩, ⟨(some 37), (.app 3 24 [(.int .i64 0), (.int .i64 0), (.int .i64 0)] (.t 34) (.t 36)), none⟩, ⟨(some 5), (.mov (.t 37)), none⟩]) (.seq (.region 9 [⟨(some 38), (.mov (.t 7)), none⟩, ⟨(some 39), (.fad 1 (.t 9)), none⟩, ⟨(some 40), (.load false 1 (.t 39)), none⟩, ⟨(some 41), (.bin .add (.t 38) (.t 40)), none⟩, ⟨(some 7), (.mov (.t 41)), none⟩]) (.seq (.region 10 [⟨(some 42), (.fad 1 (.t 9)), none⟩, ⟨(some 43), (.load false 1 (.t 42)), none⟩, ⟨(some 44), (.bin .gtr (.t 43) (.k (.int .i64 0))), none⟩]) (.cond 44 (.region 11 [⟨(some 45), (.mov (.t 6)), none⟩, ⟨(some 46), (.fad 2 (.t 9)), none⟩, ⟨(some 47), (.load false 1 (.t 46)), none⟩, ⟨(some 48), (.bin .add (.t 45) (.t 47)), none⟩, ⟨(some 6), (.mov (.t 48)), none⟩]) .skip)))))) (.region 6 [⟨(some 18), (.mov (.t 8)), none⟩, ⟨(some 19), (.bin .add (.t 18) (.k (.int .i64 1))), none⟩, ⟨(some 8), (.mov (.t 19)), none⟩])))))) (.seq (.region 12 [⟨(some 49), (.mov (.t 5)), none⟩, ⟨(some 50), (.mov (.t 6)), none⟩, ⟨(some 51), (.mn (.t 50) (.k (.int .i64 40))), none⟩, ⟨(some 52), (.mov (.t 7)), none⟩, ⟨(some 2), (.mov (.t 49)), none⟩, ⟨(some 3), (.mov (.t 51)), none⟩, ⟨(some 4), (.mov (.t 52)), none⟩]) .ret)))))), [(.t 2), (.t 3), (.t 4)], 53⟩ := by kernel_rfl
theorem parts_pf (l : List (List Int)) (hl : l.length ≤ Go.maxLen) (hr : ∀ r ∈ l, r.length = 2 ∧ ∀ z ∈ r, InR z) : PF Try.prog 25 [.rows 2 (l.map fun r => r.map I)] (.tup [.rows 3 ((partsL l).map Load.D), I (min (sumF (partsL l)) 40), I (sumW (partsL l))]) := by
  unfold Go.maxLen at hl
  have hlen := partsL_len l
  refine PF.of follows_ok parts_code (by simp) (by simp [argOk]) (by simp [noV, noC]) fun B hBN hB0 => acode_sound [0, 2, 3, 4, 5, 6, 7, 8, 9, 17, 44] [] _ _ _ ?_
  simp [AK_at, acode_seq, acode_region, acode_draw, acode_cond, ↓CB_t, ↓CB_f, CB_u, acode_block, acode_loop, acode_exit, acode_scope, acode_ret, acode_skip, seqQ_n, seqQ_e, seqQ_r, blockQ_n, blockQ_e, blockQ_r, TK_at, OK_at, SK_at, aops_nil, aops_cons, asch_done, asch_one, asch_two, asch_top, astep, aop_eq, isLoud, aloud, aloud1, isWrite, qv, evS, strip, gof, eget, hget, putO, eput, herase, oks, opnds, gS, afin, afin0, binD, arith, D.cells, takeD, fillD, keep, trim, envOf, Fin, aresl, aresv, resD, argOk, pickV, isP, deq, deqs, boundD, slD, lenD, isT, chunks, mn_min, mx_max, D.cells, splice_one, splice_more, Rbr_at, Rfr_at, frR, frV, frC, flatC, brwR, brwV, brwC, omap, leR, leV, leC, leL, leVL]
  refine W.loopS (fun y : Nat × List Load => ⟨[(8, I y.1), (7, I (sumW y.2)), (6, I (sumF y.2)), (5, .own 0), (4, I 0), (3, I 0), (2, .nil0), (0, D.rows 2 (l.map fun r => r.map I))], [(0, .row 3 (y.2.map Load.D))], 1⟩)
    (fun n y => n = 12 - y.1 ∧ y.1 ≤ 12 ∧ y.1 ≤ l.length ∧ y.2 = (partsL l).take y.1) ?_ ?_
  · exact ⟨_, (0, []), (Gh.adopt 5 3 (by omega) (by simp [eget])).trans (Gh.of_eq (by simp [eput, sumW, sumF])), rfl, by simp, by simp, by simp⟩
  · rintro n ⟨i, acc⟩ ⟨hn, h12, hil, hacc⟩
    simp only at hn h12 hil hacc
    refine acode_sound [0, 2, 3, 4, 5, 6, 7, 8, 9, 17, 44] [] _ _ _ ?_
    by_cases hlt : i < l.length ∧ i < 12
    · obtain ⟨hlt, hlt2⟩ := hlt
      have hlt3 : (i : Int) < 12 := by omega
      have hip : i < (partsL l).length := by omega
      have hx : l[i] ∈ l := List.getElem_mem hlt
      obtain ⟨hx1, hx2⟩ := hr _ hx
      obtain ⟨a, b, hab⟩ : ∃ a b, l[i] = [a, b] := by
        match hq : l[i], hx1 with
        | [a, b], _ => exact ⟨a, b, rfl⟩
      have ha : InR a := hx2 a (by rw [hab]; simp)
      have hb : InR b := hx2 b (by rw [hab]; simp)
      have hi1 : InR ((i : Int) + 1) := inr (by omega) (by omega)
      have hg := partsL_get l i hip hlt
      have hpa : partAt i l[i] = ⟨i, pickedZ a 9, pickedZ b 4⟩ := by rw [hab]; rfl
      rw [hpa] at hg
      have hw := sumW_take (partsL l) i hip
      have hf := sumF_take (partsL l) i hip
      rw [hg, ← hacc] at hw hf
      have hal : acc.length = i := by rw [hacc]; simp; omega
      have htk : (partsL l).take (i + 1) = acc ++ [⟨i, pickedZ a 9, pickedZ b 4⟩] := by rw [List.take_succ_eq_append_getElem hip, hg, hacc]
      rw [htk] at hw hf
      have bw := sumW_bd (l := acc) fun y hy => by have := partsL_mem (List.mem_of_mem_take (hacc ▸ hy)); omega
      have bf := sumF_bd (l := acc) fun y hy => by have := partsL_mem (List.mem_of_mem_take (hacc ▸ hy)); omega
      have r1 := pickedZ_range a 9 (by omega)
      have r2 := pickedZ_range b 4 (by omega)
      have hi2 : InR (sumW acc + pickedZ a 9) := inr (by omega) (by omega)
      have hi3 : InR (sumF acc + pickedZ b 4) := inr (by omega) (by omega)
      have hcap : ((acc.length + 1 : Nat) : Int) * 24 ≤ 140737488355328 := by omega
      have hcap2 : (acc.length + 1) * 24 ≤ 140737488355328 := by omega
      by_cases hw0 : 0 < pickedZ a 9
      · simp [AK_at, acode_seq, acode_region, acode_draw, acode_cond, ↓CB_t, ↓CB_f, CB_u, acode_block, acode_loop, acode_exit, acode_scope, acode_ret, acode_skip, seqQ_n, seqQ_e, seqQ_r, blockQ_n, blockQ_e, blockQ_r, TK_at, OK_at, SK_at, aops_nil, aops_cons, asch_done, asch_one, asch_two, asch_top, astep, aop_eq, isLoud, aloud, aloud1, isWrite, qv, evS, strip, gof, eget, hget, putO, eput, herase, oks, opnds, gS, afin, afin0, binD, arith, D.cells, takeD, fillD, keep, trim, envOf, Fin, aresl, aresv, resD, argOk, pickV, isP, deq, deqs, boundD, slD, lenD, isT, chunks, mn_min, mx_max, D.cells, splice_one, splice_more, Rbr_at, Rfr_at, frR, frV, frC, flatC, brwR, brwV, brwC, omap, leR, leV, leC, leL, leVL, hlt, hlt3, hab]
        repeat' (first
          | simp [AK_at, acode_seq, acode_region, acode_draw, acode_cond, ↓CB_t, ↓CB_f, CB_u, acode_block, acode_loop, acode_exit, acode_scope, acode_ret, acode_skip, seqQ_n, seqQ_e, seqQ_r, blockQ_n, blockQ_e, blockQ_r, TK_at, OK_at, SK_at, aops_nil, aops_cons, asch_done, asch_one, asch_two, asch_top, astep, aop_eq, isLoud, aloud, aloud1, isWrite, qv, evS, strip, gof, eget, hget, putO, eput, herase, oks, opnds, gS, afin, afin0, binD, arith, D.cells, takeD, fillD, keep, trim, envOf, Fin, aresl, aresv, resD, argOk, pickV, isP, deq, deqs, boundD, slD, lenD, isT, chunks, mn_min, mx_max, D.cells, splice_one, splice_more, Rbr_at, Rfr_at, frR, frV, frC, flatC, brwR, brwV, brwC, omap, leR, leV, leC, leL, leVL, hi1, hi2, hi3, hcap2, Load.D, hw0]
          | (refine WCall.pf (picked_pf a 9 ha (by omega)) ?_ ?_ ?_ ?_; (focus (simp [oks, opnds, gS, gof, eget]; done)); (focus (simp [omap, brwV, brwC, evS, eget, strip, hget, leVL, leV, leC, leL, hi1, hi2, hi3, hcap2, Load.D, hw0]; done)); (focus (simp [noV, noC, flatR, flatV, flatC, evS, eget, strip, hi1, hi2, hi3, hcap2, Load.D, hw0]; done)))
          | (refine ⟨WCall.pf (picked_pf a 9 ha (by omega)) ?_ ?_ ?_ ?_, ?_⟩; (focus (simp [oks, opnds, gS, gof, eget]; done)); (focus (simp [omap, brwV, brwC, evS, eget, strip, hget, leVL, leV, leC, leL, hi1, hi2, hi3, hcap2, Load.D, hw0]; done)); (focus (simp [noV, noC, flatR, flatV, flatC, evS, eget, strip, hi1, hi2, hi3, hcap2, Load.D, hw0]; done)))
          | (refine WCall.pf (picked_pf b 4 hb (by omega)) ?_ ?_ ?_ ?_; (focus (simp [oks, opnds, gS, gof, eget]; done)); (focus (simp [omap, brwV, brwC, evS, eget, strip, hget, leVL, leV, leC, leL, hi1, hi2, hi3, hcap2, Load.D, hw0]; done)); (focus (simp [noV, noC, flatR, flatV, flatC, evS, eget, strip, hi1, hi2, hi3, hcap2, Load.D, hw0]; done)))
          | (refine ⟨WCall.pf (picked_pf b 4 hb (by omega)) ?_ ?_ ?_ ?_, ?_⟩; (focus (simp [oks, opnds, gS, gof, eget]; done)); (focus (simp [omap, brwV, brwC, evS, eget, strip, hget, leVL, leV, leC, leL, hi1, hi2, hi3, hcap2, Load.D, hw0]; done)); (focus (simp [noV, noC, flatR, flatV, flatC, evS, eget, strip, hi1, hi2, hi3, hcap2, Load.D, hw0]; done)))
          | (with_reducible refine And.intro (And.intro ?_ ?_) ?_)
          | fail)
        all_goals
          refine ⟨_, (i + 1, acc ++ [⟨i, pickedZ a 9, pickedZ b 4⟩]), (Gh.ren [3] (by simp [hB0]) (by simp [hB0]) (by simp [eget, rnS, rnR, rnV, rnC, LtS, LtR, LtV, LtC, lget, hw, hf, hw0, Load.D]) (by simp [hget, rnO, rnC, LtO, LtC, lget, hw, hf, hw0, Load.D]) (.inl (by simp [lget]))), by omega, rfl, by omega, by omega, htk.symm⟩
      · simp [AK_at, acode_seq, acode_region, acode_draw, acode_cond, ↓CB_t, ↓CB_f, CB_u, acode_block, acode_loop, acode_exit, acode_scope, acode_ret, acode_skip, seqQ_n, seqQ_e, seqQ_r, blockQ_n, blockQ_e, blockQ_r, TK_at, OK_at, SK_at, aops_nil, aops_cons, asch_done, asch_one, asch_two, asch_top, astep, aop_eq, isLoud, aloud, aloud1, isWrite, qv, evS, strip, gof, eget, hget, putO, eput, herase, oks, opnds, gS, afin, afin0, binD, arith, D.cells, takeD, fillD, keep, trim, envOf, Fin, aresl, aresv, resD, argOk, pickV, isP, deq, deqs, boundD, slD, lenD, isT, chunks, mn_min, mx_max, D.cells, splice_one, splice_more, Rbr_at, Rfr_at, frR, frV, frC, flatC, brwR, brwV, brwC, omap, leR, leV, leC, leL, leVL, hlt, hlt3, hab]
        repeat' (first
          | simp [AK_at, acode_seq, acode_region, acode_draw, acode_cond, ↓CB_t, ↓CB_f, CB_u, acode_block, acode_loop, acode_exit, acode_scope, acode_ret, acode_skip, seqQ_n, seqQ_e, seqQ_r, blockQ_n, blockQ_e, blockQ_r, TK_at, OK_at, SK_at, aops_nil, aops_cons, asch_done, asch_one, asch_two, asch_top, astep, aop_eq, isLoud, aloud, aloud1, isWrite, qv, evS, strip, gof, eget, hget, putO, eput, herase, oks, opnds, gS, afin, afin0, binD, arith, D.cells, takeD, fillD, keep, trim, envOf, Fin, aresl, aresv, resD, argOk, pickV, isP, deq, deqs, boundD, slD, lenD, isT, chunks, mn_min, mx_max, D.cells, splice_one, splice_more, Rbr_at, Rfr_at, frR, frV, frC, flatC, brwR, brwV, brwC, omap, leR, leV, leC, leL, leVL, hi1, hi2, hi3, hcap2, Load.D, hw0]
          | (refine WCall.pf (picked_pf a 9 ha (by omega)) ?_ ?_ ?_ ?_; (focus (simp [oks, opnds, gS, gof, eget]; done)); (focus (simp [omap, brwV, brwC, evS, eget, strip, hget, leVL, leV, leC, leL, hi1, hi2, hi3, hcap2, Load.D, hw0]; done)); (focus (simp [noV, noC, flatR, flatV, flatC, evS, eget, strip, hi1, hi2, hi3, hcap2, Load.D, hw0]; done)))
          | (refine ⟨WCall.pf (picked_pf a 9 ha (by omega)) ?_ ?_ ?_ ?_, ?_⟩; (focus (simp [oks, opnds, gS, gof, eget]; done)); (focus (simp [omap, brwV, brwC, evS, eget, strip, hget, leVL, leV, leC, leL, hi1, hi2, hi3, hcap2, Load.D, hw0]; done)); (focus (simp [noV, noC, flatR, flatV, flatC, evS, eget, strip, hi1, hi2, hi3, hcap2, Load.D, hw0]; done)))
          | (refine WCall.pf (picked_pf b 4 hb (by omega)) ?_ ?_ ?_ ?_; (focus (simp [oks, opnds, gS, gof, eget]; done)); (focus (simp [omap, brwV, brwC, evS, eget, strip, hget, leVL, leV, leC, leL, hi1, hi2, hi3, hcap2, Load.D, hw0]; done)); (focus (simp [noV, noC, flatR, flatV, flatC, evS, eget, strip, hi1, hi2, hi3, hcap2, Load.D, hw0]; done)))
          | (refine ⟨WCall.pf (picked_pf b 4 hb (by omega)) ?_ ?_ ?_ ?_, ?_⟩; (focus (simp [oks, opnds, gS, gof, eget]; done)); (focus (simp [omap, brwV, brwC, evS, eget, strip, hget, leVL, leV, leC, leL, hi1, hi2, hi3, hcap2, Load.D, hw0]; done)); (focus (simp [noV, noC, flatR, flatV, flatC, evS, eget, strip, hi1, hi2, hi3, hcap2, Load.D, hw0]; done)))
          | (with_reducible refine And.intro (And.intro ?_ ?_) ?_)
          | fail)
        all_goals
          refine ⟨_, (i + 1, acc ++ [⟨i, pickedZ a 9, pickedZ b 4⟩]), (Gh.ren [3] (by simp [hB0]) (by simp [hB0]) (by simp [eget, rnS, rnR, rnV, rnC, LtS, LtR, LtV, LtC, lget, hw, hf, hw0, Load.D]) (by simp [hget, rnO, rnC, LtO, LtC, lget, hw, hf, hw0, Load.D]) (.inl (by simp [lget]))), by omega, rfl, by omega, by omega, htk.symm⟩
    · have hie : i = (partsL l).length := by omega
      rw [hie, List.take_length] at hacc
      by_cases hll : i < l.length
      · have h3 : ¬ (i : Int) < 12 := by omega
        simp [AK_at, acode_seq, acode_region, acode_draw, acode_cond, ↓CB_t, ↓CB_f, CB_u, acode_block, acode_loop, acode_exit, acode_scope, acode_ret, acode_skip, seqQ_n, seqQ_e, seqQ_r, blockQ_n, blockQ_e, blockQ_r, TK_at, OK_at, SK_at, aops_nil, aops_cons, asch_done, asch_one, asch_two, asch_top, astep, aop_eq, isLoud, aloud, aloud1, isWrite, qv, evS, strip, gof, eget, hget, putO, eput, herase, oks, opnds, gS, afin, afin0, binD, arith, D.cells, takeD, fillD, keep, trim, envOf, Fin, aresl, aresv, resD, argOk, pickV, isP, deq, deqs, boundD, slD, lenD, isT, chunks, mn_min, mx_max, D.cells, splice_one, splice_more, Rbr_at, Rfr_at, frR, frV, frC, flatC, brwR, brwV, brwC, omap, leR, leV, leC, leL, leVL, hll, h3, hacc]
      · simp [AK_at, acode_seq, acode_region, acode_draw, acode_cond, ↓CB_t, ↓CB_f, CB_u, acode_block, acode_loop, acode_exit, acode_scope, acode_ret, acode_skip, seqQ_n, seqQ_e, seqQ_r, blockQ_n, blockQ_e, blockQ_r, TK_at, OK_at, SK_at, aops_nil, aops_cons, asch_done, asch_one, asch_two, asch_top, astep, aop_eq, isLoud, aloud, aloud1, isWrite, qv, evS, strip, gof, eget, hget, putO, eput, herase, oks, opnds, gS, afin, afin0, binD, arith, D.cells, takeD, fillD, keep, trim, envOf, Fin, aresl, aresv, resD, argOk, pickV, isP, deq, deqs, boundD, slD, lenD, isT, chunks, mn_min, mx_max, D.cells, splice_one, splice_more, Rbr_at, Rfr_at, frR, frV, frC, flatC, brwR, brwV, brwC, omap, leR, leV, leC, leL, leVL, hll, hacc]
end Go.Proofs.Ytgjngknkokgpjaa
