/- This text proves the laws on caps. It has no condition of its own. -/
import Derived.Test.YtbfmjccbbkijlabPrt
set_option linter.unusedSimpArgs false
set_option linter.unusedVariables false
set_option maxRecDepth 100000
set_option maxHeartbeats 2000000
namespace Go.Proofs.Ytbfmjccbbkijlab
open Go.RowKit
theorem ceil_ge (a b : Int) (hb : 0 < b) : a ≤ (a + b - 1) / b * b := by
  have h1 := Int.emod_add_mul_ediv (a + b - 1) b
  have h2 := Int.emod_lt_of_pos (a + b - 1) hb
  rw [Int.mul_comm]
  omega
theorem capZ_pos (num den flows weight total : Int) (hf : factorB num den = true) (h1 : 0 ≤ flows) (h3 : 1 ≤ weight) (h4 : weight ≤ total) : 1 ≤ capZ num den flows weight total ∧ num * (flows + 1) * weight ≤ capZ num den flows weight total * (den * total) := by
  have hf' := of_decide_eq_true hf
  have b1 : 1 ≤ num * (flows + 1) := Int.mul_le_mul (a := 1) (b := 1) (by omega) (by omega) (by omega) (by omega)
  have b2 : 1 ≤ num * (flows + 1) * weight := Int.mul_le_mul (a := 1) (b := 1) (by omega) (by omega) (by omega) (by omega)
  have b3 : 1 ≤ den * total := Int.mul_le_mul (a := 1) (b := 1) (by omega) (by omega) (by omega) (by omega)
  refine ⟨?_, ceil_ge _ _ (by omega)⟩
  unfold capZ
  exact (Int.le_ediv_iff_mul_le (by omega)).2 (by omega)
theorem capZ_hi (num den flows weight total : Int) (hf : factorB num den = true) (h1 : 0 ≤ flows) (h2 : flows ≤ 40) (h3 : 1 ≤ weight) (h4 : weight ≤ total) (h5 : total ≤ 96) : capZ num den flows weight total ≤ 100000 := by
  have hf' := of_decide_eq_true hf
  have b1 : 0 ≤ num * (flows + 1) ∧ num * (flows + 1) ≤ 20 * 41 := ⟨Int.mul_nonneg (by omega) (by omega), Int.mul_le_mul (by omega) (by omega) (by omega) (by omega)⟩
  have b2 : 0 ≤ num * (flows + 1) * weight ∧ num * (flows + 1) * weight ≤ 20 * 41 * 96 := ⟨Int.mul_nonneg b1.1 (by omega), Int.mul_le_mul b1.2 (by omega) (by omega) (by omega)⟩
  have b3 : 1 ≤ den * total := Int.mul_le_mul (a := 1) (b := 1) (by omega) (by omega) (by omega) (by omega)
  have b4 : den * total ≤ 20 * 96 := Int.mul_le_mul (by omega) (by omega) (by omega) (by omega)
  unfold capZ
  exact Int.le_trans (Int.ediv_le_self _ (by omega)) (by omega)
theorem caps_sum (num den flows T : Int) (hf : factorB num den = true) (h1 : 0 ≤ flows) : ∀ (l : List Load), (∀ x ∈ l, 0 ≤ x.weight ∧ x.weight ≤ T) → num * (flows + 1) * sumW l ≤ (l.map (capOf num den flows T)).sum * (den * T)
  | [], _ => by simp [sumW]
  | x :: t, h => by
    have ih := caps_sum num den flows T hf h1 t fun y hy => h y (List.mem_cons_of_mem _ hy)
    have hx := h x (by simp)
    simp only [sumW, List.map_cons, List.sum_cons] at ih ⊢
    rw [Int.mul_add, Int.add_mul]
    have : num * (flows + 1) * x.weight ≤ capOf num den flows T x * (den * T) := by
      unfold capOf
      split
      · exact (capZ_pos num den flows x.weight T hf h1 (by omega) hx.2).2
      · have : x.weight = 0 := by omega
        rw [this]; simp
    omega
theorem caps_zero (num den flows T : Int) : ∀ (l : List Load), (∀ x ∈ l, 0 ≤ x.weight) → sumW l = 0 → (l.map (capOf num den flows T)).sum = 0
  | [], _, _ => rfl
  | x :: t, h, h0 => by
    have hx := h x (by simp)
    have hs : 0 ≤ sumW t := by
      clear h0
      induction t with
      | nil => simp [sumW]
      | cons y t ih =>
        have h1 := h y (by simp)
        have h2 := ih (fun z hz => h z (by rcases List.mem_cons.1 hz with rfl | hz; exact List.mem_cons_self ..; exact List.mem_cons_of_mem _ (List.mem_cons_of_mem _ hz)))
        simp only [sumW, List.map_cons, List.sum_cons] at h2 ⊢
        omega
    simp only [sumW, List.map_cons, List.sum_cons] at h0 hs
    have ih := caps_zero num den flows T t (fun y hy => h y (List.mem_cons_of_mem _ hy)) (by unfold sumW; omega)
    have : ¬ 0 < x.weight := by omega
    simp [capOf, this] at ih ⊢
    exact ih
theorem sum_take_succ (l : List Int) (i : Nat) (h : i < l.length) : (l.take (i + 1)).sum = (l.take i).sum + l[i] := by
  rw [List.take_succ_eq_append_getElem h, List.sum_append]; simp
theorem sum_bd (M : Int) : ∀ {l : List Int}, (∀ x ∈ l, 0 ≤ x ∧ x ≤ M) → 0 ≤ l.sum ∧ l.sum ≤ M * l.length
  | [], _ => by simp
  | x :: t, h => by
    have h1 := h x (by simp)
    have h2 := sum_bd M (l := t) fun y hy => h y (List.mem_cons_of_mem _ hy)
    simp only [List.sum_cons, List.length_cons]
    have : M * ((t.length + 1 : Nat) : Int) = M * t.length + M := by push_cast; rw [Int.mul_add]; omega
    omega
theorem samei_code : cfun Try.prog [] 20 = some ⟨(.seq (.region 0 [⟨(some 4), (.mov (.k (.bool false))), none⟩]) (.seq (.seq (.region 1 [⟨(some 6), (.mov (.t 0)), none⟩, ⟨(some 7), (.len (.t 6)), none⟩, ⟨(some 8), (.mov (.t 1)), none⟩, ⟨(some 9), (.len (.t 8)), none⟩, ⟨(some 10), (.bin .neq (.t 7) (.t 9)), none⟩]) (.cond 10 (.seq (.region 2 [⟨(some 4), (.mov (.k (.bool false))), none⟩]) .ret) .skip)) (.seq (.seq (.region 3 [⟨(some 5), (.mov (.k (.int .i64 0))), none⟩]) (.block 0 (.loop (.seq (.seq (.region 4 [⟨(some 11), (.mov (.t 5)), none⟩, ⟨(some 12), (.mov (.t 0)), none⟩, ⟨(some 13), (.len (.t 12)), none⟩, ⟨(some 14), (.bin .lss (.t 11) (.t 13)), none⟩]) (.cond 14 .skip (.exit 0))) (.seq (.block 1 (.seq (.draw 6 (.one true ⟨(some 17), (.mov (.t 0)), none⟩ (.one true ⟨(some 18), (.mov (.t 5)), none⟩ (.one true ⟨(some 19), (.iads 1 (.t 17) (.t 18)), none⟩ (.one true ⟨(some 20), (.load false 1 (.t 19)), none⟩ (.one true ⟨(some 21), (.mov (.t 1)), none⟩ (.one true ⟨(some 22), (.mov (.t 5)), none⟩ (.one true ⟨(some 23), (.iads 1 (.t 21) (.t 22)), none⟩ (.one true ⟨(some 24), (.load false 1 (.t 23)), none⟩ (.one true ⟨(some 25), (.bin .neq (.t 20) (.t 24)), none⟩ .done)))))))))) (.cond 25 (.seq (.region 7 [⟨(some 4), (.mov (.k (.bool false))), none⟩]) .ret) .skip))) (.region 5 [⟨(some 15), (.mov (.t 5)), none⟩, ⟨(some 16), (.bin .add (.t 15) (.k (.int .i64 1))), none⟩, ⟨(some 5), (.mov (.t 16)), none⟩])))))) (.seq (.region 8 [⟨(some 4), (.mov (.k (.bool true))), none⟩]) .ret)))), [(.t 4)], 26⟩ := by kernel_rfl
theorem samei_pf (l : List Int) (hl : (l.length : Int) < 4611686018427387904) : PF Try.prog 20 [.rows 1 (l.map fun c => [I c]), .rows 1 (l.map fun c => [I c])] (.bool true) := by
  refine PF.of follows_ok samei_code (by simp) (by simp [argOk]) (by simp [noV, noC]) fun B hBN hB0 => acode_sound [0, 1, 4, 5, 10, 14, 25] [] _ _ _ ?_
  simp [AK_at, acode_seq, acode_region, acode_draw, acode_cond, ↓CB_t, ↓CB_f, CB_u, acode_block, acode_loop, acode_exit, acode_scope, acode_ret, acode_skip, seqQ_n, seqQ_e, seqQ_r, blockQ_n, blockQ_e, blockQ_r, TK_at, OK_at, SK_at, aops_nil, aops_cons, asch_done, asch_one, asch_two, asch_top, astep, aop_eq, isLoud, aloud, aloud1, isWrite, qv, evS, strip, gof, eget, hget, putO, eput, herase, oks, opnds, gS, afin, afin0, binD, arith, D.cells, takeD, fillD, keep, trim, envOf, Fin, aresl, aresv, resD, argOk, pickV, isP, deq, deqs, boundD, slD, lenD, isT, chunks, mn_min, mx_max, splice_one, splice_more, Rbr_at, Rfr_at, frR, frV, frC, flatC, brwR, brwV, brwC, omap, leR, leV, leC, leL, leVL]
  refine W.loopS (fun i : Nat => ⟨[(5, I i), (4, .bool false), (1, D.rows 1 (l.map fun c => [I c])), (0, D.rows 1 (l.map fun c => [I c]))], [], 0⟩)
    (fun n i => n = l.length - i ∧ i ≤ l.length) ?_ ?_
  · exact ⟨_, 0, (Gh.ren [] (by simp [hB0]) (by simp [hB0]) (by simp [eget, rnS, rnR, rnV, rnC, LtS, LtR, LtV, LtC, lget]) (by simp [hget, rnO, rnC, LtO, LtC, lget]) (.inr rfl)), rfl, by simp⟩
  · rintro n i ⟨hn, hi⟩
    refine acode_sound [0, 1, 4, 5, 10, 14, 25] [] _ _ _ ?_
    by_cases hlt : i < l.length
    · have hi1 : InR ((i : Int) + 1) := inr (by omega) (by omega)
      simp [AK_at, acode_seq, acode_region, acode_draw, acode_cond, ↓CB_t, ↓CB_f, CB_u, acode_block, acode_loop, acode_exit, acode_scope, acode_ret, acode_skip, seqQ_n, seqQ_e, seqQ_r, blockQ_n, blockQ_e, blockQ_r, TK_at, OK_at, SK_at, aops_nil, aops_cons, asch_done, asch_one, asch_two, asch_top, astep, aop_eq, isLoud, aloud, aloud1, isWrite, qv, evS, strip, gof, eget, hget, putO, eput, herase, oks, opnds, gS, afin, afin0, binD, arith, D.cells, takeD, fillD, keep, trim, envOf, Fin, aresl, aresv, resD, argOk, pickV, isP, deq, deqs, boundD, slD, lenD, isT, chunks, mn_min, mx_max, splice_one, splice_more, Rbr_at, Rfr_at, frR, frV, frC, flatC, brwR, brwV, brwC, omap, leR, leV, leC, leL, leVL, hlt, hi1]
      exact ⟨_, i + 1, (Gh.ren [] (by simp [hB0]) (by simp [hB0]) (by simp [eget, rnS, rnR, rnV, rnC, LtS, LtR, LtV, LtC, lget]) (by simp [hget, rnO, rnC, LtO, LtC, lget]) (.inr rfl)), by omega, rfl, by omega⟩
    · simp [AK_at, acode_seq, acode_region, acode_draw, acode_cond, ↓CB_t, ↓CB_f, CB_u, acode_block, acode_loop, acode_exit, acode_scope, acode_ret, acode_skip, seqQ_n, seqQ_e, seqQ_r, blockQ_n, blockQ_e, blockQ_r, TK_at, OK_at, SK_at, aops_nil, aops_cons, asch_done, asch_one, asch_two, asch_top, astep, aop_eq, isLoud, aloud, aloud1, isWrite, qv, evS, strip, gof, eget, hget, putO, eput, herase, oks, opnds, gS, afin, afin0, binD, arith, D.cells, takeD, fillD, keep, trim, envOf, Fin, aresl, aresv, resD, argOk, pickV, isP, deq, deqs, boundD, slD, lenD, isT, chunks, mn_min, mx_max, splice_one, splice_more, Rbr_at, Rfr_at, frR, frV, frC, flatC, brwR, brwV, brwC, omap, leR, leV, leC, leL, leVL, hlt]
theorem capsenough_code : cfun Try.prog [] 6 = some ⟨(.seq (.region 0 [⟨(some 8), (.mov (.k (.bool false))), none⟩]) (.seq (.region 1 [⟨(some 20), (.mov (.t 0)), none⟩, ⟨(some 21), (.call 18 [(.t 20)]), none⟩, ⟨(some 19), (.mov (.t 21)), none⟩, ⟨(some 22), (.ext (.t 19) 0), none⟩, ⟨(some 23), (.ext (.t 19) 1), none⟩, ⟨(some 24), (.ext (.t 19) 2), none⟩, ⟨(some 9), (.mov (.t 22)), none⟩, ⟨(some 10), (.mov (.t 23)), none⟩, ⟨(some 11), (.mov (.t 24)), none⟩]) (.seq (.region 2 [⟨(some 25), (.mov (.t 2)), none⟩, ⟨(some 26), (.call 15 [(.t 25), (.k (.int .i64 20))]), none⟩, ⟨(some 27), (.bin .add (.k (.int .i64 1)) (.t 26)), none⟩, ⟨(some 12), (.mov (.t 27)), none⟩]) (.seq (.region 3 [⟨(some 28), (.mov (.t 12)), none⟩, ⟨(some 29), (.mov (.t 1)), none⟩, ⟨(some 30), (.mov (.t 12)), none⟩, ⟨(some 31), (.bin .sub (.k (.int .i64 20)) (.t 30)), none⟩, ⟨(some 32), (.bin .add (.t 31) (.k (.int .i64 1))), none⟩, ⟨(some 33), (.call 15 [(.t 29), (.t 32)]), none⟩, ⟨(some 34), (.bin .add (.t 28) (.t 33)), none⟩, ⟨(some 13), (.mov (.t 34)), none⟩]) (.seq (.region 4 [⟨(some 35), (.mov (.t 10)), none⟩, ⟨(some 36), (.mov (.t 3)), none⟩, ⟨(some 37), (.call 15 [(.t 36), (.k (.int .i64 5))]), none⟩, ⟨(some 38), (.bin .add (.t 35) (.t 37)), none⟩, ⟨(some 39), (.mn (.t 38) (.k (.int .i64 40))), none⟩, ⟨(some 14), (.mov (.t 39)), none⟩]) (.seq (.region 5 [⟨(some 41), (.mov (.t 9)), none⟩, ⟨(some 42), (.mov (.t 13)), none⟩, ⟨(some 43), (.mov (.t 12)), none⟩, ⟨(some 44), (.mov (.t 14)), none⟩, ⟨(some 45), (.call 19 [(.t 41), (.t 42), (.t 43), (.t 44)]), none⟩, ⟨(some 40), (.mov (.t 45)), none⟩, ⟨(some 46), (.ext (.t 40) 0), none⟩, ⟨(some 47), (.ext (.t 40) 1), none⟩, ⟨(some 15), (.mov (.t 46)), none⟩, ⟨(some 16), (.mov (.t 47)), none⟩]) (.seq (.seq (.region 6 [⟨(some 48), (.mov (.t 16)), none⟩, ⟨(some 49), (.bin .neq (.t 48) (.k (.int .i64 0))), none⟩, ⟨(some 50), (.mov (.t 49)), none⟩, ⟨(some 51), (.mov (.t 15)), (some (50, false))⟩, ⟨(some 52), (.len (.t 51)), (some (50, false))⟩, ⟨(some 53), (.mov (.t 9)), (some (50, false))⟩, ⟨(some 54), (.len (.t 53)), (some (50, false))⟩, ⟨(some 55), (.bin .neq (.t 52) (.t 54)), (some (50, false))⟩, ⟨(some 56), (.pick (.t 50) (.k (.bool true)) (.t 55)), none⟩]) (.cond 56 (.seq (.region 7 [⟨(some 8), (.mov (.k (.bool false))), none⟩]) .ret) .skip)) (.seq (.region 8 [⟨(some 17), (.mov (.k (.int .i64 0))), none⟩]) (.seq (.seq (.region 9 [⟨(some 18), (.mov (.k (.int .i64 0))), none⟩]) (.block 0 (.loop (.seq (.seq (.region 10 [⟨(some 57), (.mov (.t 18)), none⟩, ⟨(some 58), (.mov (.t 15)), none⟩, ⟨(some 59), (.len (.t 58)), none⟩, ⟨(some 60), (.bin .lss (.t 57) (.t 59)), none⟩]) (.cond 60 .skip (.exit 0))) (.seq (.block 1 (.seq (.seq (.region 12 [⟨(some 63), (.mov (.t 9)), none⟩, ⟨(some 64), (.mov (.t 18)), none⟩, ⟨(some 65), (.iads 3 (.t 63) (.t 64)), none⟩, ⟨(some 66), (.fad 1 (.t 65)), none⟩, ⟨(some 67), (.load false 1 (.t 66)), none⟩, ⟨(some 68), (.bin .eql (.t 67) (.k (.int .i64 0))), none⟩, ⟨(some 69), (.mov (.t 68)), none⟩, ⟨(some 70), (.mov (.t 15)), (some (69, true))⟩, ⟨(some 71), (.mov (.t 18)), (some (69, true))⟩, ⟨(some 72), (.iads 1 (.t 70) (.t 71)), (some (69, true))⟩, ⟨(some 73), (.load false 1 (.t 72)), (some (69, true))⟩, ⟨(some 74), (.bin .neq (.t 73) (.k (.int .i64 0))), (some (69, true))⟩, ⟨(some 75), (.pick (.t 69) (.t 74) (.k (.bool false))), none⟩, ⟨(some 76), (.mov (.t 75)), none⟩, ⟨(some 77), (.mov (.t 9)), (some (76, false))⟩, ⟨(some 78), (.mov (.t 18)), (some (76, false))⟩, ⟨(some 79), (.iads 3 (.t 77) (.t 78)), (some (76, false))⟩, ⟨(some 80), (.fad 1 (.t 79)), (some (76, false))⟩, ⟨(some 81), (.load false 1 (.t 80)), (some (76, false))⟩, ⟨(some 82), (.bin .gtr (.t 81) (.k (.int .i64 0))), (some (76, false))⟩, ⟨(some 83), (.mov (.t 82)), (some (76, false))⟩, ⟨(some 84), (.mov (.t 15)), (some (83, true))⟩, ⟨(some 85), (.mov (.t 18)), (some (83, true))⟩, ⟨(some 86), (.iads 1 (.t 84) (.t 85)), (some (83, true))⟩, ⟨(some 87), (.load false 1 (.t 86)), (some (83, true))⟩, ⟨(some 88), (.bin .lss (.t 87) (.k (.int .i64 1))), (some (83, true))⟩, ⟨(some 89), (.pick (.t 83) (.t 88) (.k (.bool false))), (some (76, false))⟩, ⟨(some 90), (.pick (.t 76) (.k (.bool true)) (.t 89)), none⟩]) (.cond 90 (.seq (.region 13 [⟨(some 8), (.mov (.k (.bool false))), none⟩]) .ret) .skip)) (.region 14 [⟨(some 91), (.mov (.t 17)), none⟩, ⟨(some 92), (.mov (.t 15)), none⟩, ⟨(some 93), (.mov (.t 18)), none⟩, ⟨(some 94), (.iads 1 (.t 92) (.t 93)), none⟩, ⟨(some 95), (.load false 1 (.t 94)), none⟩, ⟨(some 96), (.bin .add (.t 91) (.t 95)), none⟩, ⟨(some 17), (.mov (.t 96)), none⟩]))) (.region 11 [⟨(some 61), (.mov (.t 18)), none⟩, ⟨(some 62), (.bin .add (.t 61) (.k (.int .i64 1))), none⟩, ⟨(some 18), (.mov (.t 62)), none⟩])))))) (.seq (.region 15 [⟨(some 97), (.mov (.t 11)), none⟩, ⟨(some 98), (.bin .eql (.t 97) (.k (.int .i64 0))), none⟩, ⟨(some 99), (.mov (.t 98)), none⟩, ⟨(some 100), (.mov (.t 17)), (some (99, true))⟩, ⟨(some 101), (.bin .eql (.t 100) (.k (.int .i64 0))), (some (99, true))⟩, ⟨(some 102), (.pick (.t 99) (.t 101) (.k (.bool false))), none⟩, ⟨(some 103), (.mov (.t 102)), none⟩, ⟨(some 104), (.mov (.t 17)), (some (103, false))⟩, ⟨(some 105), (.mov (.t 14)), (some (103, false))⟩, ⟨(some 106), (.bin .add (.t 105) (.k (.int .i64 1))), (some (103, false))⟩, ⟨(some 107), (.bin .geq (.t 104) (.t 106)), (some (103, false))⟩, ⟨(some 108), (.pick (.t 103) (.k (.bool true)) (.t 107)), none⟩, ⟨(some 8), (.mov (.t 108)), none⟩]) .ret)))))))))), [(.t 8)], 109⟩ := by kernel_rfl
theorem capsenough_pf (l : List (List Int)) (num den more : Int) (hl : l.length ≤ Go.maxLen) (hr : ∀ r ∈ l, r.length = 2 ∧ ∀ z ∈ r, InR z) (h1 : InR num) (h2 : InR den) (h3 : InR more) :
    PF Try.prog 6 [.rows 2 (l.map fun r => r.map I), I num, I den, I more] (.bool true) := by
  have r1 := pickedZ_range den 20 (by omega)
  obtain ⟨d, hd⟩ : ∃ d, d = 1 + pickedZ den 20 := ⟨_, rfl⟩
  have r2 := pickedZ_range num (20 - d + 1) (by omega)
  obtain ⟨m, hm⟩ : ∃ m, m = d + pickedZ num (20 - d + 1) := ⟨_, rfl⟩
  have r3 := pickedZ_range more 5 (by omega)
  obtain ⟨L, hL⟩ : ∃ L, L = partsL l := ⟨_, rfl⟩
  have hmay := partsL_may l
  have hmem : ∀ x ∈ L, 0 ≤ x.weight ∧ x.weight ≤ 8 ∧ 0 ≤ x.flows ∧ x.flows ≤ 3 := fun x hx => partsL_mem (hL ▸ hx)
  rw [← hL] at hmay
  have hw : ∀ x ∈ L, 0 ≤ x.weight ∧ x.weight ≤ 8 := fun x hx => by have := hmem x hx; omega
  have bw := sumW_bd hw
  have bf := sumF_bd (l := L) fun x hx => by have := hmem x hx; omega
  obtain ⟨f, hf⟩ : ∃ f, f = min (min (sumF L) 40 + pickedZ more 5) 40 := ⟨_, rfl⟩
  have hf0 : 0 ≤ f ∧ f ≤ 40 := by omega
  have hfac : factorB m d = true := decide_eq_true (by omega)
  have i1 : InR (1 + pickedZ den 20) := inr (by omega) (by omega)
  have i2 : InR (20 - d) := inr (by omega) (by omega)
  have i3 : InR (20 - d + 1) := inr (by omega) (by omega)
  have i4 : InR (d + pickedZ num (20 - d + 1)) := inr (by omega) (by omega)
  have i5 : InR (min (sumF L) 40 + pickedZ more 5) := inr (by omega) (by omega)
  have i6 : InR (f + 1) := inr (by omega) (by omega)
  obtain ⟨C, hC⟩ : ∃ C, C = capsOf L m d f := ⟨_, rfl⟩
  have hres : capsRes L m d f = [.rows 1 (C.map fun c => [I c]), I 0] := by simp [capsRes, hfac, hf0, hC]
  have hcl : C.length = L.length := by rw [hC]; simp [capsOf]
  have hcx : ∀ (i : Nat) (h : i < L.length) (h' : i < C.length), C[i] = capOf m d f (sumW L) L[i] := fun i h h' => by simp [hC, capsOf]
  have hcb : ∀ c ∈ C, 0 ≤ c ∧ c ≤ 100000 := fun c hc => by
    rw [hC] at hc
    obtain ⟨x, hx, rfl⟩ := List.mem_map.1 hc
    have h4 := hw x hx
    have h5 := sumW_mem hw x hx
    unfold capOf
    split
    · have := (capZ_pos m d f x.weight (sumW L) hfac hf0.1 (by omega) h5).1
      have := capZ_hi m d f x.weight (sumW L) hfac hf0.1 hf0.2 (by omega) h5 (by omega)
      omega
    · omega
  have hsum : (sumW L = 0 → C.sum = 0) ∧ (sumW L ≠ 0 → f + 1 ≤ C.sum) := by
    constructor
    · intro h0; rw [hC]; exact caps_zero _ _ _ _ L (fun x hx => (hw x hx).1) h0
    · intro h0
      have h4 := caps_sum m d f (sumW L) hfac hf0.1 L fun x hx => ⟨(hw x hx).1, sumW_mem hw x hx⟩
      have h5 : d * (f + 1) * sumW L ≤ m * (f + 1) * sumW L := Int.mul_le_mul_of_nonneg_right (Int.mul_le_mul_of_nonneg_right (by omega) (by omega)) (by omega)
      have h6 : d * (f + 1) * sumW L = (f + 1) * (d * sumW L) := by rw [Int.mul_comm d, Int.mul_assoc]
      have h7 : 0 < d * sumW L := Int.mul_pos (by omega) (by omega)
      have h8 : (f + 1) * (d * sumW L) ≤ C.sum * (d * sumW L) := by rw [hC]; unfold capsOf; omega
      exact Int.le_of_mul_le_mul_right h8 h7
  refine PF.of follows_ok capsenough_code (by simp) (by simp [argOk]) (by simp [noV, noC]) fun B hBN hB0 => acode_sound [0, 1, 2, 3, 8, 9, 10, 11, 12, 13, 14, 15, 16, 17, 18, 56, 60, 90] [] _ _ _ ?_
  simp [AK_at, acode_seq, acode_region, acode_draw, acode_cond, ↓CB_t, ↓CB_f, CB_u, acode_block, acode_loop, acode_exit, acode_scope, acode_ret, acode_skip, seqQ_n, seqQ_e, seqQ_r, blockQ_n, blockQ_e, blockQ_r, TK_at, OK_at, SK_at, aops_nil, aops_cons, asch_done, asch_one, asch_two, asch_top, astep, aop_eq, isLoud, aloud, aloud1, isWrite, qv, evS, strip, gof, eget, hget, putO, eput, herase, oks, opnds, gS, afin, afin0, binD, arith, D.cells, takeD, fillD, keep, trim, envOf, Fin, aresl, aresv, resD, argOk, pickV, isP, deq, deqs, boundD, slD, lenD, isT, chunks, mn_min, mx_max, splice_one, splice_more, Rbr_at, Rfr_at, frR, frV, frC, flatC, brwR, brwV, brwC, omap, leR, leV, leC, leL, leVL]
  repeat' (first
    | simp [AK_at, acode_seq, acode_region, acode_draw, acode_cond, ↓CB_t, ↓CB_f, CB_u, acode_block, acode_loop, acode_exit, acode_scope, acode_ret, acode_skip, seqQ_n, seqQ_e, seqQ_r, blockQ_n, blockQ_e, blockQ_r, TK_at, OK_at, SK_at, aops_nil, aops_cons, asch_done, asch_one, asch_two, asch_top, astep, aop_eq, isLoud, aloud, aloud1, isWrite, qv, evS, strip, gof, eget, hget, putO, eput, herase, oks, opnds, gS, afin, afin0, binD, arith, D.cells, takeD, fillD, keep, trim, envOf, Fin, aresl, aresv, resD, argOk, pickV, isP, deq, deqs, boundD, slD, lenD, isT, chunks, mn_min, mx_max, splice_one, splice_more, Rbr_at, Rfr_at, frR, frV, frC, flatC, brwR, brwV, brwC, omap, leR, leV, leC, leL, leVL, i1, ← hL]
    | (refine WCall.pf (parts_pf l hl hr) ?_ ?_ ?_ ?_; (focus (simp [oks, opnds, gS, gof, eget]; done)); (focus (simp [omap, brwV, brwC, evS, eget, strip, hget, leVL, leV, leC, leL, i1, ← hL]; done)); (focus (simp [noV, noC, flatR, flatV, flatC, evS, eget, strip, i1, ← hL]; done)))
    | (refine ⟨WCall.pf (parts_pf l hl hr) ?_ ?_ ?_ ?_, ?_⟩; (focus (simp [oks, opnds, gS, gof, eget]; done)); (focus (simp [omap, brwV, brwC, evS, eget, strip, hget, leVL, leV, leC, leL, i1, ← hL]; done)); (focus (simp [noV, noC, flatR, flatV, flatC, evS, eget, strip, i1, ← hL]; done)))
    | (refine WCall.pf (picked_pf den 20 h2 (by omega)) ?_ ?_ ?_ ?_; (focus (simp [oks, opnds, gS, gof, eget]; done)); (focus (simp [omap, brwV, brwC, evS, eget, strip, hget, leVL, leV, leC, leL, i1, ← hL]; done)); (focus (simp [noV, noC, flatR, flatV, flatC, evS, eget, strip, i1, ← hL]; done)))
    | (refine ⟨WCall.pf (picked_pf den 20 h2 (by omega)) ?_ ?_ ?_ ?_, ?_⟩; (focus (simp [oks, opnds, gS, gof, eget]; done)); (focus (simp [omap, brwV, brwC, evS, eget, strip, hget, leVL, leV, leC, leL, i1, ← hL]; done)); (focus (simp [noV, noC, flatR, flatV, flatC, evS, eget, strip, i1, ← hL]; done)))
    | fail)
  simp only [← hd]
  have im : InR m := inr (by omega) (by omega)
  repeat' (first
    | simp [AK_at, acode_seq, acode_region, acode_draw, acode_cond, ↓CB_t, ↓CB_f, CB_u, acode_block, acode_loop, acode_exit, acode_scope, acode_ret, acode_skip, seqQ_n, seqQ_e, seqQ_r, blockQ_n, blockQ_e, blockQ_r, TK_at, OK_at, SK_at, aops_nil, aops_cons, asch_done, asch_one, asch_two, asch_top, astep, aop_eq, isLoud, aloud, aloud1, isWrite, qv, evS, strip, gof, eget, hget, putO, eput, herase, oks, opnds, gS, afin, afin0, binD, arith, D.cells, takeD, fillD, keep, trim, envOf, Fin, aresl, aresv, resD, argOk, pickV, isP, deq, deqs, boundD, slD, lenD, isT, chunks, mn_min, mx_max, splice_one, splice_more, Rbr_at, Rfr_at, frR, frV, frC, flatC, brwR, brwV, brwC, omap, leR, leV, leC, leL, leVL, i2, i3, im, i5, ← hm, ← hf, hres, hcl]
    | (refine WCall.pf (picked_pf num (20 - d + 1) h1 (by omega)) ?_ ?_ ?_ ?_; (focus (simp [oks, opnds, gS, gof, eget]; done)); (focus (simp [omap, brwV, brwC, evS, eget, strip, hget, leVL, leV, leC, leL, i2, i3, im, i5, ← hm, ← hf, hres, hcl]; done)); (focus (simp [noV, noC, flatR, flatV, flatC, evS, eget, strip, i2, i3, im, i5, ← hm, ← hf, hres, hcl]; done)))
    | (refine ⟨WCall.pf (picked_pf num (20 - d + 1) h1 (by omega)) ?_ ?_ ?_ ?_, ?_⟩; (focus (simp [oks, opnds, gS, gof, eget]; done)); (focus (simp [omap, brwV, brwC, evS, eget, strip, hget, leVL, leV, leC, leL, i2, i3, im, i5, ← hm, ← hf, hres, hcl]; done)); (focus (simp [noV, noC, flatR, flatV, flatC, evS, eget, strip, i2, i3, im, i5, ← hm, ← hf, hres, hcl]; done)))
    | (refine WCall.pf (picked_pf more 5 h3 (by omega)) ?_ ?_ ?_ ?_; (focus (simp [oks, opnds, gS, gof, eget]; done)); (focus (simp [omap, brwV, brwC, evS, eget, strip, hget, leVL, leV, leC, leL, i2, i3, im, i5, ← hm, ← hf, hres, hcl]; done)); (focus (simp [noV, noC, flatR, flatV, flatC, evS, eget, strip, i2, i3, im, i5, ← hm, ← hf, hres, hcl]; done)))
    | (refine ⟨WCall.pf (picked_pf more 5 h3 (by omega)) ?_ ?_ ?_ ?_, ?_⟩; (focus (simp [oks, opnds, gS, gof, eget]; done)); (focus (simp [omap, brwV, brwC, evS, eget, strip, hget, leVL, leV, leC, leL, i2, i3, im, i5, ← hm, ← hf, hres, hcl]; done)); (focus (simp [noV, noC, flatR, flatV, flatC, evS, eget, strip, i2, i3, im, i5, ← hm, ← hf, hres, hcl]; done)))
    | (refine WCall.pf (caps_pf L m d f hmay.1 hmay.2) ?_ ?_ ?_ ?_; (focus (simp [oks, opnds, gS, gof, eget]; done)); (focus (simp [omap, brwV, brwC, evS, eget, strip, hget, leVL, leV, leC, leL, i2, i3, im, i5, ← hm, ← hf, hres, hcl]; done)); (focus (simp [noV, noC, flatR, flatV, flatC, evS, eget, strip, i2, i3, im, i5, ← hm, ← hf, hres, hcl]; done)))
    | (refine ⟨WCall.pf (caps_pf L m d f hmay.1 hmay.2) ?_ ?_ ?_ ?_, ?_⟩; (focus (simp [oks, opnds, gS, gof, eget]; done)); (focus (simp [omap, brwV, brwC, evS, eget, strip, hget, leVL, leV, leC, leL, i2, i3, im, i5, ← hm, ← hf, hres, hcl]; done)); (focus (simp [noV, noC, flatR, flatV, flatC, evS, eget, strip, i2, i3, im, i5, ← hm, ← hf, hres, hcl]; done)))
    | fail)
  refine W.loopS (fun i : Nat => ⟨[(18, I i), (17, I (C.take i).sum), (15, D.rows 1 (C.map fun c => [I c])), (14, I f), (11, I (sumW L)), (9, D.rows 3 (L.map Load.D)), (8, .bool false)], [], 0⟩)
    (fun n i => n = C.length - i ∧ i ≤ C.length) ?_ ?_
  · exact ⟨_, 0, (Gh.ren [] (by simp [hB0]) (by simp [hB0]) (by simp [eget, rnS, rnR, rnV, rnC, LtS, LtR, LtV, LtC, lget]) (by simp [hget, rnO, rnC, LtO, LtC, lget]) (.inr rfl)), rfl, by simp⟩
  · rintro n i ⟨hn, hi⟩
    refine acode_sound [0, 1, 2, 3, 8, 9, 10, 11, 12, 13, 14, 15, 16, 17, 18, 56, 60, 90] [] _ _ _ ?_
    by_cases hlt : i < C.length
    · have hlt2 : i < L.length := by omega
      obtain ⟨x, hx⟩ : ∃ x, x = L[i] := ⟨_, rfl⟩
      have hxm : x ∈ L := hx ▸ List.getElem_mem hlt2
      have hci := hcx i hlt2 hlt
      rw [← hx] at hci
      obtain ⟨c, hc⟩ : ∃ c, c = C[i] := ⟨_, rfl⟩
      have hts := sum_take_succ C i hlt
      rw [← hc] at hci hts
      have hwx := hw x hxm
      have h5 := sumW_mem hw x hxm
      have hcb1 := hcb c (hc ▸ List.getElem_mem hlt)
      have hst := sum_bd 100000 (l := C.take i) fun y hy => hcb y (List.mem_of_mem_take hy)
      have hll : (C.take i).length ≤ 12 := by simp; omega
      have j1 : InR ((i : Int) + 1) := inr (by omega) (by omega)
      have j2 : InR ((C.take i).sum + c) := inr (by omega) (by omega)
      by_cases hw0 : x.weight = 0
      · have hc0 : c = 0 := by rw [hci]; simp [capOf, hw0]
        subst hc0
        have j3 : InR (C.take i).sum := inr (by omega) (by omega)
        rw [Int.add_zero] at hts
        simp [AK_at, acode_seq, acode_region, acode_draw, acode_cond, ↓CB_t, ↓CB_f, CB_u, acode_block, acode_loop, acode_exit, acode_scope, acode_ret, acode_skip, seqQ_n, seqQ_e, seqQ_r, blockQ_n, blockQ_e, blockQ_r, TK_at, OK_at, SK_at, aops_nil, aops_cons, asch_done, asch_one, asch_two, asch_top, astep, aop_eq, isLoud, aloud, aloud1, isWrite, qv, evS, strip, gof, eget, hget, putO, eput, herase, oks, opnds, gS, afin, afin0, binD, arith, D.cells, takeD, fillD, keep, trim, envOf, Fin, aresl, aresv, resD, argOk, pickV, isP, deq, deqs, boundD, slD, lenD, isT, chunks, mn_min, mx_max, splice_one, splice_more, Rbr_at, Rfr_at, frR, frV, frC, flatC, brwR, brwV, brwC, omap, leR, leV, leC, leL, leVL, hlt, hlt2, ← hx, ← hc, Load.D, hw0, j1, j3]
        exact ⟨_, i + 1, (Gh.ren [] (by simp [hB0]) (by simp [hB0]) (by simp [eget, rnS, rnR, rnV, rnC, LtS, LtR, LtV, LtC, lget, hts]) (by simp [hget, rnO, rnC, LtO, LtC, lget, hts]) (.inr rfl)), by omega, rfl, by omega⟩
      · have hw1 : 0 < x.weight := by omega
        have hc1 : 1 ≤ c := by rw [hci]; simp only [capOf, hw1, if_true]; exact (capZ_pos m d f x.weight (sumW L) hfac hf0.1 (by omega) h5).1
        have hc2 : ¬ c < 1 := by omega
        simp [AK_at, acode_seq, acode_region, acode_draw, acode_cond, ↓CB_t, ↓CB_f, CB_u, acode_block, acode_loop, acode_exit, acode_scope, acode_ret, acode_skip, seqQ_n, seqQ_e, seqQ_r, blockQ_n, blockQ_e, blockQ_r, TK_at, OK_at, SK_at, aops_nil, aops_cons, asch_done, asch_one, asch_two, asch_top, astep, aop_eq, isLoud, aloud, aloud1, isWrite, qv, evS, strip, gof, eget, hget, putO, eput, herase, oks, opnds, gS, afin, afin0, binD, arith, D.cells, takeD, fillD, keep, trim, envOf, Fin, aresl, aresv, resD, argOk, pickV, isP, deq, deqs, boundD, slD, lenD, isT, chunks, mn_min, mx_max, splice_one, splice_more, Rbr_at, Rfr_at, frR, frV, frC, flatC, brwR, brwV, brwC, omap, leR, leV, leC, leL, leVL, hlt, hlt2, ← hx, ← hc, Load.D, hw0, hw1, hc2, j1, j2]
        exact ⟨_, i + 1, (Gh.ren [] (by simp [hB0]) (by simp [hB0]) (by simp [eget, rnS, rnR, rnV, rnC, LtS, LtR, LtV, LtC, lget, hts]) (by simp [hget, rnO, rnC, LtO, LtC, lget, hts]) (.inr rfl)), by omega, rfl, by omega⟩
    · have hie : i = C.length := by omega
      subst hie
      by_cases h0 : sumW L = 0
      · simp [AK_at, acode_seq, acode_region, acode_draw, acode_cond, ↓CB_t, ↓CB_f, CB_u, acode_block, acode_loop, acode_exit, acode_scope, acode_ret, acode_skip, seqQ_n, seqQ_e, seqQ_r, blockQ_n, blockQ_e, blockQ_r, TK_at, OK_at, SK_at, aops_nil, aops_cons, asch_done, asch_one, asch_two, asch_top, astep, aop_eq, isLoud, aloud, aloud1, isWrite, qv, evS, strip, gof, eget, hget, putO, eput, herase, oks, opnds, gS, afin, afin0, binD, arith, D.cells, takeD, fillD, keep, trim, envOf, Fin, aresl, aresv, resD, argOk, pickV, isP, deq, deqs, boundD, slD, lenD, isT, chunks, mn_min, mx_max, splice_one, splice_more, Rbr_at, Rfr_at, frR, frV, frC, flatC, brwR, brwV, brwC, omap, leR, leV, leC, leL, leVL, h0, hsum.1 h0]
      · have := hsum.2 h0
        simp [AK_at, acode_seq, acode_region, acode_draw, acode_cond, ↓CB_t, ↓CB_f, CB_u, acode_block, acode_loop, acode_exit, acode_scope, acode_ret, acode_skip, seqQ_n, seqQ_e, seqQ_r, blockQ_n, blockQ_e, blockQ_r, TK_at, OK_at, SK_at, aops_nil, aops_cons, asch_done, asch_one, asch_two, asch_top, astep, aop_eq, isLoud, aloud, aloud1, isWrite, qv, evS, strip, gof, eget, hget, putO, eput, herase, oks, opnds, gS, afin, afin0, binD, arith, D.cells, takeD, fillD, keep, trim, envOf, Fin, aresl, aresv, resD, argOk, pickV, isP, deq, deqs, boundD, slD, lenD, isT, chunks, mn_min, mx_max, splice_one, splice_more, Rbr_at, Rfr_at, frR, frV, frC, flatC, brwR, brwV, brwC, omap, leR, leV, leC, leL, leVL, h0, this, i6]
theorem caplone_code : cfun Try.prog [] 8 = some ⟨(.seq (.region 0 [⟨(some 8), (.mov (.k (.bool false))), none⟩]) (.seq (.region 1 [⟨(some 17), (.mov (.t 1)), none⟩, ⟨(some 18), (.call 15 [(.t 17), (.k (.int .i64 20))]), none⟩, ⟨(some 19), (.bin .add (.k (.int .i64 1)) (.t 18)), none⟩, ⟨(some 9), (.mov (.t 19)), none⟩]) (.seq (.region 2 [⟨(some 20), (.mov (.t 9)), none⟩, ⟨(some 21), (.mov (.t 0)), none⟩, ⟨(some 22), (.mov (.t 9)), none⟩, ⟨(some 23), (.bin .sub (.k (.int .i64 20)) (.t 22)), none⟩, ⟨(some 24), (.bin .add (.t 23) (.k (.int .i64 1))), none⟩, ⟨(some 25), (.call 15 [(.t 21), (.t 24)]), none⟩, ⟨(some 26), (.bin .add (.t 20) (.t 25)), none⟩, ⟨(some 10), (.mov (.t 26)), none⟩]) (.seq (.region 3 [⟨(some 27), (.mov (.t 2)), none⟩, ⟨(some 28), (.call 15 [(.t 27), (.k (.int .i64 41))]), none⟩, ⟨(some 11), (.mov (.t 28)), none⟩]) (.seq (.region 4 [⟨(some 29), (.mov (.t 3)), none⟩, ⟨(some 30), (.call 15 [(.t 29), (.k (.int .i64 8))]), none⟩, ⟨(some 31), (.bin .add (.k (.int .i64 1)) (.t 30)), none⟩, ⟨(some 12), (.mov (.t 31)), none⟩]) (.seq (.region 5 [⟨(some 33), (.mov (.t 10)), none⟩, ⟨(some 34), (.mov (.t 9)), none⟩, ⟨(some 35), (.mov (.t 11)), none⟩, ⟨(some 36), (.mov (.t 12)), none⟩, ⟨(some 37), (.mov (.t 12)), none⟩, ⟨(some 38), (.call 21 [(.t 33), (.t 34), (.t 35), (.t 36), (.t 37)]), none⟩, ⟨(some 32), (.mov (.t 38)), none⟩, ⟨(some 39), (.ext (.t 32) 0), none⟩, ⟨(some 40), (.ext (.t 32) 1), none⟩, ⟨(some 13), (.mov (.t 39)), none⟩, ⟨(some 14), (.mov (.t 40)), none⟩]) (.seq (.region 6 [⟨(some 42), (.mov (.t 12)), none⟩, ⟨(some 43), (.build [(.int .i64 0), (.int .i64 0), (.int .i64 0)] [(0, (1, (.k (.int .i64 3)))), (1, (1, (.t 42)))]), none⟩, ⟨(some 44), (.bslice 3 1 [(.int .i64 0), (.int .i64 0), (.int .i64 0)] [(0, (.t 43))]), none⟩, ⟨(some 45), (.mov (.t 10)), none⟩, ⟨(some 46), (.mov (.t 9)), none⟩, ⟨(some 47), (.mov (.t 11)), none⟩, ⟨(some 48), (.call 19 [(.t 44), (.t 45), (.t 46), (.t 47)]), none⟩, ⟨(some 41), (.mov (.t 48)), none⟩, ⟨(some 49), (.ext (.t 41) 0), none⟩, ⟨(some 50), (.ext (.t 41) 1), none⟩, ⟨(some 15), (.mov (.t 49)), none⟩, ⟨(some 16), (.mov (.t 50)), none⟩]) (.seq (.region 7 [⟨(some 51), (.mov (.t 14)), none⟩, ⟨(some 52), (.bin .eql (.t 51) (.k (.int .i64 0))), none⟩, ⟨(some 53), (.mov (.t 52)), none⟩, ⟨(some 54), (.mov (.t 16)), (some (53, true))⟩, ⟨(some 55), (.bin .eql (.t 54) (.k (.int .i64 0))), (some (53, true))⟩, ⟨(some 56), (.pick (.t 53) (.t 55) (.k (.bool false))), none⟩, ⟨(some 57), (.mov (.t 56)), none⟩, ⟨(some 58), (.mov (.t 13)), (some (57, true))⟩, ⟨(some 59), (.mov (.t 11)), (some (57, true))⟩, ⟨(some 60), (.bin .add (.t 59) (.k (.int .i64 1))), (some (57, true))⟩, ⟨(some 61), (.bin .geq (.t 58) (.t 60)), (some (57, true))⟩, ⟨(some 62), (.pick (.t 57) (.t 61) (.k (.bool false))), none⟩, ⟨(some 63), (.mov (.t 62)), none⟩, ⟨(some 64), (.mov (.t 15)), (some (63, true))⟩, ⟨(some 65), (.len (.t 64)), (some (63, true))⟩, ⟨(some 66), (.bin .eql (.t 65) (.k (.int .i64 1))), (some (63, true))⟩, ⟨(some 67), (.pick (.t 63) (.t 66) (.k (.bool false))), none⟩, ⟨(some 68), (.mov (.t 67)), none⟩, ⟨(some 69), (.mov (.t 15)), (some (68, true))⟩, ⟨(some 70), (.iads 1 (.t 69) (.k (.int .i64 0))), (some (68, true))⟩, ⟨(some 71), (.load false 1 (.t 70)), (some (68, true))⟩, ⟨(some 72), (.mov (.t 13)), (some (68, true))⟩, ⟨(some 73), (.bin .eql (.t 71) (.t 72)), (some (68, true))⟩, ⟨(some 74), (.pick (.t 68) (.t 73) (.k (.bool false))), none⟩, ⟨(some 8), (.mov (.t 74)), none⟩]) .ret)))))))), [(.t 8)], 75⟩ := by kernel_rfl
theorem caplone_pf (num den flows weight : Int) (h1 : InR num) (h2 : InR den) (h3 : InR flows) (h4 : InR weight) : PF Try.prog 8 [I num, I den, I flows, I weight] (.bool true) := by
  have r1 := pickedZ_range den 20 (by omega)
  obtain ⟨d, hd⟩ : ∃ d, d = 1 + pickedZ den 20 := ⟨_, rfl⟩
  have r2 := pickedZ_range num (20 - d + 1) (by omega)
  obtain ⟨m, hm⟩ : ∃ m, m = d + pickedZ num (20 - d + 1) := ⟨_, rfl⟩
  have r3 := pickedZ_range flows 41 (by omega)
  obtain ⟨f, hf⟩ : ∃ f, f = pickedZ flows 41 := ⟨_, rfl⟩
  have r4 := pickedZ_range weight 8 (by omega)
  obtain ⟨w, hw⟩ : ∃ w, w = 1 + pickedZ weight 8 := ⟨_, rfl⟩
  have hfac : factorB m d = true := decide_eq_true (by omega)
  have i1 : InR (1 + pickedZ den 20) := inr (by omega) (by omega)
  have i2 : InR (20 - d) := inr (by omega) (by omega)
  have i3 : InR (20 - d + 1) := inr (by omega) (by omega)
  have im : InR m := inr (by omega) (by omega)
  have iw : InR w := inr (by omega) (by omega)
  have i6 : InR (f + 1) := inr (by omega) (by omega)
  have hw0 : 0 < w := by omega
  have hf1 : 0 ≤ f := by omega
  have hf2 : f ≤ 40 := by omega
  have hres : capsRes [⟨3, w, 0⟩] m d f = [.rows 1 [[I (capZ m d f w w)]], I 0] := by simp [capsRes, hfac, hf1, hf2, capsOf, capOf, sumW, hw0]
  have hmay : mayL (-1) [⟨3, w, 0⟩] := by simp [mayL]; omega
  obtain ⟨c, hc⟩ : ∃ c, c = capZ m d f w w := ⟨_, rfl⟩
  have hge : f + 1 ≤ c := by
    have h5 := (capZ_pos m d f w w hfac hf1 (by omega) (Int.le_refl _)).2
    have h6 : d * (f + 1) * w ≤ m * (f + 1) * w := Int.mul_le_mul_of_nonneg_right (Int.mul_le_mul_of_nonneg_right (by omega) (by omega)) (by omega)
    have h7 : d * (f + 1) * w = (f + 1) * (d * w) := by rw [Int.mul_comm d, Int.mul_assoc]
    have h8 : 0 < d * w := Int.mul_pos (by omega) (by omega)
    rw [← hc] at h5
    exact Int.le_of_mul_le_mul_right (by omega : (f + 1) * (d * w) ≤ c * (d * w)) h8
  rw [← hc] at hres
  refine PF.of follows_ok caplone_code (by simp) (by simp [argOk]) (by simp [noV, noC]) fun B hBN hB0 => acode_sound [0, 1, 2, 3, 8, 9, 10, 11, 12, 13, 14, 15, 16] [] _ _ _ ?_
  simp [AK_at, acode_seq, acode_region, acode_draw, acode_cond, ↓CB_t, ↓CB_f, CB_u, acode_block, acode_loop, acode_exit, acode_scope, acode_ret, acode_skip, seqQ_n, seqQ_e, seqQ_r, blockQ_n, blockQ_e, blockQ_r, TK_at, OK_at, SK_at, aops_nil, aops_cons, asch_done, asch_one, asch_two, asch_top, astep, aop_eq, isLoud, aloud, aloud1, isWrite, qv, evS, strip, gof, eget, hget, putO, eput, herase, oks, opnds, gS, afin, afin0, binD, arith, D.cells, takeD, fillD, keep, trim, envOf, Fin, aresl, aresv, resD, argOk, pickV, isP, deq, deqs, boundD, slD, lenD, isT, chunks, mn_min, mx_max, splice_one, splice_more, Rbr_at, Rfr_at, frR, frV, frC, flatC, brwR, brwV, brwC, omap, leR, leV, leC, leL, leVL]
  repeat' (first
    | simp [AK_at, acode_seq, acode_region, acode_draw, acode_cond, ↓CB_t, ↓CB_f, CB_u, acode_block, acode_loop, acode_exit, acode_scope, acode_ret, acode_skip, seqQ_n, seqQ_e, seqQ_r, blockQ_n, blockQ_e, blockQ_r, TK_at, OK_at, SK_at, aops_nil, aops_cons, asch_done, asch_one, asch_two, asch_top, astep, aop_eq, isLoud, aloud, aloud1, isWrite, qv, evS, strip, gof, eget, hget, putO, eput, herase, oks, opnds, gS, afin, afin0, binD, arith, D.cells, takeD, fillD, keep, trim, envOf, Fin, aresl, aresv, resD, argOk, pickV, isP, deq, deqs, boundD, slD, lenD, isT, chunks, mn_min, mx_max, splice_one, splice_more, Rbr_at, Rfr_at, frR, frV, frC, flatC, brwR, brwV, brwC, omap, leR, leV, leC, leL, leVL, i1]
    | (refine WCall.pf (picked_pf den 20 h2 (by omega)) ?_ ?_ ?_ ?_; (focus (simp [oks, opnds, gS, gof, eget]; done)); (focus (simp [omap, brwV, brwC, evS, eget, strip, hget, leVL, leV, leC, leL, i1]; done)); (focus (simp [noV, noC, flatR, flatV, flatC, evS, eget, strip, i1]; done)))
    | (refine ⟨WCall.pf (picked_pf den 20 h2 (by omega)) ?_ ?_ ?_ ?_, ?_⟩; (focus (simp [oks, opnds, gS, gof, eget]; done)); (focus (simp [omap, brwV, brwC, evS, eget, strip, hget, leVL, leV, leC, leL, i1]; done)); (focus (simp [noV, noC, flatR, flatV, flatC, evS, eget, strip, i1]; done)))
    | fail)
  simp only [← hd]
  repeat' (first
    | simp [AK_at, acode_seq, acode_region, acode_draw, acode_cond, ↓CB_t, ↓CB_f, CB_u, acode_block, acode_loop, acode_exit, acode_scope, acode_ret, acode_skip, seqQ_n, seqQ_e, seqQ_r, blockQ_n, blockQ_e, blockQ_r, TK_at, OK_at, SK_at, aops_nil, aops_cons, asch_done, asch_one, asch_two, asch_top, astep, aop_eq, isLoud, aloud, aloud1, isWrite, qv, evS, strip, gof, eget, hget, putO, eput, herase, oks, opnds, gS, afin, afin0, binD, arith, D.cells, takeD, fillD, keep, trim, envOf, Fin, aresl, aresv, resD, argOk, pickV, isP, deq, deqs, boundD, slD, lenD, isT, chunks, mn_min, mx_max, splice_one, splice_more, Rbr_at, Rfr_at, frR, frV, frC, flatC, brwR, brwV, brwC, omap, leR, leV, leC, leL, leVL, i2, i3, im, iw, ← hm, ← hf, ← hw, ← hc, hres, Load.D, i6, hge]
    | (refine WCall.pf (picked_pf num (20 - d + 1) h1 (by omega)) ?_ ?_ ?_ ?_; (focus (simp [oks, opnds, gS, gof, eget]; done)); (focus (simp [omap, brwV, brwC, evS, eget, strip, hget, leVL, leV, leC, leL, i2, i3, im, iw, ← hm, ← hf, ← hw, ← hc, hres, Load.D, i6, hge]; done)); (focus (simp [noV, noC, flatR, flatV, flatC, evS, eget, strip, i2, i3, im, iw, ← hm, ← hf, ← hw, ← hc, hres, Load.D, i6, hge]; done)))
    | (refine ⟨WCall.pf (picked_pf num (20 - d + 1) h1 (by omega)) ?_ ?_ ?_ ?_, ?_⟩; (focus (simp [oks, opnds, gS, gof, eget]; done)); (focus (simp [omap, brwV, brwC, evS, eget, strip, hget, leVL, leV, leC, leL, i2, i3, im, iw, ← hm, ← hf, ← hw, ← hc, hres, Load.D, i6, hge]; done)); (focus (simp [noV, noC, flatR, flatV, flatC, evS, eget, strip, i2, i3, im, iw, ← hm, ← hf, ← hw, ← hc, hres, Load.D, i6, hge]; done)))
    | (refine WCall.pf (picked_pf flows 41 h3 (by omega)) ?_ ?_ ?_ ?_; (focus (simp [oks, opnds, gS, gof, eget]; done)); (focus (simp [omap, brwV, brwC, evS, eget, strip, hget, leVL, leV, leC, leL, i2, i3, im, iw, ← hm, ← hf, ← hw, ← hc, hres, Load.D, i6, hge]; done)); (focus (simp [noV, noC, flatR, flatV, flatC, evS, eget, strip, i2, i3, im, iw, ← hm, ← hf, ← hw, ← hc, hres, Load.D, i6, hge]; done)))
    | (refine ⟨WCall.pf (picked_pf flows 41 h3 (by omega)) ?_ ?_ ?_ ?_, ?_⟩; (focus (simp [oks, opnds, gS, gof, eget]; done)); (focus (simp [omap, brwV, brwC, evS, eget, strip, hget, leVL, leV, leC, leL, i2, i3, im, iw, ← hm, ← hf, ← hw, ← hc, hres, Load.D, i6, hge]; done)); (focus (simp [noV, noC, flatR, flatV, flatC, evS, eget, strip, i2, i3, im, iw, ← hm, ← hf, ← hw, ← hc, hres, Load.D, i6, hge]; done)))
    | (refine WCall.pf (picked_pf weight 8 h4 (by omega)) ?_ ?_ ?_ ?_; (focus (simp [oks, opnds, gS, gof, eget]; done)); (focus (simp [omap, brwV, brwC, evS, eget, strip, hget, leVL, leV, leC, leL, i2, i3, im, iw, ← hm, ← hf, ← hw, ← hc, hres, Load.D, i6, hge]; done)); (focus (simp [noV, noC, flatR, flatV, flatC, evS, eget, strip, i2, i3, im, iw, ← hm, ← hf, ← hw, ← hc, hres, Load.D, i6, hge]; done)))
    | (refine ⟨WCall.pf (picked_pf weight 8 h4 (by omega)) ?_ ?_ ?_ ?_, ?_⟩; (focus (simp [oks, opnds, gS, gof, eget]; done)); (focus (simp [omap, brwV, brwC, evS, eget, strip, hget, leVL, leV, leC, leL, i2, i3, im, iw, ← hm, ← hf, ← hw, ← hc, hres, Load.D, i6, hge]; done)); (focus (simp [noV, noC, flatR, flatV, flatC, evS, eget, strip, i2, i3, im, iw, ← hm, ← hf, ← hw, ← hc, hres, Load.D, i6, hge]; done)))
    | (refine WCall.pf (cap_pf m d f w w hfac hf1 hf2 (by omega) (Int.le_refl _) (by omega)) ?_ ?_ ?_ ?_; (focus (simp [oks, opnds, gS, gof, eget]; done)); (focus (simp [omap, brwV, brwC, evS, eget, strip, hget, leVL, leV, leC, leL, i2, i3, im, iw, ← hm, ← hf, ← hw, ← hc, hres, Load.D, i6, hge]; done)); (focus (simp [noV, noC, flatR, flatV, flatC, evS, eget, strip, i2, i3, im, iw, ← hm, ← hf, ← hw, ← hc, hres, Load.D, i6, hge]; done)))
    | (refine ⟨WCall.pf (cap_pf m d f w w hfac hf1 hf2 (by omega) (Int.le_refl _) (by omega)) ?_ ?_ ?_ ?_, ?_⟩; (focus (simp [oks, opnds, gS, gof, eget]; done)); (focus (simp [omap, brwV, brwC, evS, eget, strip, hget, leVL, leV, leC, leL, i2, i3, im, iw, ← hm, ← hf, ← hw, ← hc, hres, Load.D, i6, hge]; done)); (focus (simp [noV, noC, flatR, flatV, flatC, evS, eget, strip, i2, i3, im, iw, ← hm, ← hf, ← hw, ← hc, hres, Load.D, i6, hge]; done)))
    | (refine WCall.pfn (caps_pfn [⟨3, w, 0⟩] m d f (by simp) hmay) ?_ ?_ ?_; (focus (simp [oks, opnds, gS, gof, eget]; done)); (focus (simp [omap, brwV, brwC, evS, eget, strip, hget, leVL, leV, leC, leL, i2, i3, im, iw, ← hm, ← hf, ← hw, ← hc, hres, Load.D, i6, hge]; done)))
    | (refine ⟨WCall.pfn (caps_pfn [⟨3, w, 0⟩] m d f (by simp) hmay) ?_ ?_ ?_, ?_⟩; (focus (simp [oks, opnds, gS, gof, eget]; done)); (focus (simp [omap, brwV, brwC, evS, eget, strip, hget, leVL, leV, leC, leL, i2, i3, im, iw, ← hm, ← hf, ← hw, ← hc, hres, Load.D, i6, hge]; done)))
    | fail)
theorem take_map_succ {α β : Type} (g : α → β) (l : List α) (i : Nat) (h : i < l.length) : (l.map g).take (i + 1) = (l.map g).take i ++ [g l[i]] := by
  rw [List.take_succ_eq_append_getElem (by simpa using h)]; simp
def halfL (x : Load) : Load := ⟨x.backend, x.weight / 2, x.flows⟩
def twiceL (x : Load) : Load := ⟨x.backend, 2 * (x.weight / 2), x.flows⟩
theorem mayL_map (g : Load → Load) (hg : ∀ x, (g x).backend = x.backend ∧ (g x).flows = x.flows ∧ (0 ≤ x.weight → x.weight ≤ 8 → 0 ≤ (g x).weight ∧ (g x).weight ≤ 8)) : ∀ (l : List Load) (p : Int), mayL p l → mayL p (l.map g)
  | [], _, _ => trivial
  | x :: t, p, h => by
    obtain ⟨⟨a1, a2, a3, a4, a5, a6⟩, h2⟩ := h
    obtain ⟨g1, g2, g3⟩ := hg x
    have g3 := g3 a3 a4
    exact ⟨⟨by omega, by omega, by omega, by omega, by omega, by omega⟩, by rw [g1]; exact mayL_map g hg t _ h2⟩
theorem div4 (a b : Int) (hb : 0 < b) : (4 * a + 4 * b - 1) / (4 * b) = (a + b - 1) / b := by
  have h1 := Int.emod_add_mul_ediv (a + b - 1) b
  have h2 := Int.emod_lt_of_pos (a + b - 1) hb
  have h3 := Int.emod_nonneg (a + b - 1) (by omega : b ≠ 0)
  have h4 : 4 * b * ((a + b - 1) / b) = 4 * (b * ((a + b - 1) / b)) := Int.mul_assoc _ _ _
  refine (Int.ediv_emod_unique (a := 4 * a + 4 * b - 1) (b := 4 * b) (q := (a + b - 1) / b) (r := 4 * ((a + b - 1) % b) + 3) (by omega)).2 ⟨by omega, by omega, by omega⟩ |>.1
theorem capZ_twice (n d f w T : Int) (h : 0 < d * T) : capZ (2 * n) (2 * d) f (2 * w) (2 * T) = capZ n d f w T := by
  unfold capZ
  rw [← div4 (n * (f + 1) * w) (d * T) h]
  have e1 : 2 * n * (f + 1) * (2 * w) = 4 * (n * (f + 1) * w) := by
    rw [Int.mul_assoc 2 n, Int.mul_assoc 2 (n * (f + 1)), Int.mul_left_comm (n * (f + 1)) 2 w, ← Int.mul_assoc 2 2]; rfl
  have e2 : 2 * d * (2 * T) = 4 * (d * T) := by
    rw [Int.mul_assoc 2 d, Int.mul_left_comm d 2 T, ← Int.mul_assoc 2 2]; rfl
  rw [e1, e2]
theorem sumW_twice : ∀ (l : List Load), sumW (l.map twiceL) = 2 * sumW (l.map halfL)
  | [] => by simp [sumW]
  | x :: t => by
    have := sumW_twice t
    simp only [sumW, List.map_cons, List.sum_cons] at this ⊢
    have e1 : (twiceL x).weight = 2 * (halfL x).weight := rfl
    omega
theorem caps_twice (l : List Load) (n d f : Int) (hd : 1 ≤ d) (hw : ∀ x ∈ l, 0 ≤ x.weight ∧ x.weight ≤ 8) : capsOf (l.map twiceL) (2 * n) (2 * d) f = capsOf (l.map halfL) n d f := by
  unfold capsOf
  rw [sumW_twice, List.map_map, List.map_map]
  refine List.map_congr_left fun x hx => ?_
  have hx' := hw x hx
  simp only [Function.comp, capOf]
  have e1 : (twiceL x).weight = 2 * (halfL x).weight := rfl
  have e2 : (halfL x).weight = x.weight / 2 := rfl
  by_cases h0 : 0 < (halfL x).weight
  · rw [if_pos (by omega), if_pos h0, e1]
    have hm := sumW_mem (l := l.map halfL) (fun y hy => by obtain ⟨z, hz, rfl⟩ := List.mem_map.1 hy; have := hw z hz; have e3 : (halfL z).weight = z.weight / 2 := rfl; omega) (halfL x) (List.mem_map.2 ⟨x, hx, rfl⟩)
    exact capZ_twice _ _ _ _ _ (Int.mul_pos (by omega) (by omega))
  · rw [if_neg (by omega), if_neg h0]
theorem capsscale_code : cfun Try.prog [] 7 = some ⟨(.seq (.region 0 [⟨(some 8), (.mov (.k (.bool false))), none⟩]) (.seq (.region 1 [⟨(some 24), (.mov (.t 0)), none⟩, ⟨(some 25), (.call 18 [(.t 24)]), none⟩, ⟨(some 23), (.mov (.t 25)), none⟩, ⟨(some 26), (.ext (.t 23) 0), none⟩, ⟨(some 27), (.ext (.t 23) 1), none⟩, ⟨(some 28), (.ext (.t 23) 2), none⟩, ⟨(some 9), (.mov (.t 26)), none⟩, ⟨(some 10), (.mov (.t 27)), none⟩, ⟨(some 11), (.mov (.t 28)), none⟩]) (.seq (.region 2 [⟨(some 29), (.mov (.t 2)), none⟩, ⟨(some 30), (.call 15 [(.t 29), (.k (.int .i64 10))]), none⟩, ⟨(some 31), (.bin .add (.k (.int .i64 1)) (.t 30)), none⟩, ⟨(some 12), (.mov (.t 31)), none⟩]) (.seq (.region 3 [⟨(some 32), (.mov (.t 12)), none⟩, ⟨(some 33), (.mov (.t 1)), none⟩, ⟨(some 34), (.mov (.t 12)), none⟩, ⟨(some 35), (.bin .sub (.k (.int .i64 10)) (.t 34)), none⟩, ⟨(some 36), (.bin .add (.t 35) (.k (.int .i64 1))), none⟩, ⟨(some 37), (.call 15 [(.t 33), (.t 36)]), none⟩, ⟨(some 38), (.bin .add (.t 32) (.t 37)), none⟩, ⟨(some 13), (.mov (.t 38)), none⟩]) (.seq (.region 4 [⟨(some 39), (.mov (.t 3)), none⟩, ⟨(some 40), (.call 15 [(.t 39), (.k (.int .i64 41))]), none⟩, ⟨(some 14), (.mov (.t 40)), none⟩]) (.seq (.region 5 [⟨(some 15), (.mov (.k .nil0)), none⟩]) (.seq (.region 6 [⟨(some 16), (.mov (.k .nil0)), none⟩]) (.seq (.seq (.region 7 [⟨(some 17), (.mov (.k (.int .i64 0))), none⟩]) (.block 0 (.loop (.seq (.seq (.region 8 [⟨(some 41), (.mov (.t 17)), none⟩, ⟨(some 42), (.mov (.t 9)), none⟩, ⟨(some 43), (.len (.t 42)), none⟩, ⟨(some 44), (.bin .lss (.t 41) (.t 43)), none⟩]) (.cond 44 .skip (.exit 0))) (.seq (.block 1 (.seq (.region 10 [⟨(some 47), (.mov (.t 9)), none⟩, ⟨(some 48), (.mov (.t 17)), none⟩, ⟨(some 49), (.iads 3 (.t 47) (.t 48)), none⟩, ⟨(some 50), (.load true 3 (.t 49)), none⟩, ⟨(some 18), (.alloc [(.int .i64 0), (.int .i64 0), (.int .i64 0)]), none⟩, ⟨none, (.store 3 (.t 18) (.t 50)), none⟩]) (.seq (.region 11 [⟨(some 51), (.fad 1 (.t 18)), none⟩, ⟨(some 52), (.load false 1 (.t 51)), none⟩, ⟨(some 53), (.bin .quo (.t 52) (.k (.int .i64 2))), none⟩, ⟨(some 54), (.fad 1 (.t 18)), none⟩, ⟨none, (.store 1 (.t 54) (.t 53)), none⟩]) (.seq (.region 12 [⟨(some 55), (.mov (.t 16)), none⟩, ⟨(some 56), (.load true 3 (.t 18)), none⟩, ⟨(some 57), (.bslice 3 1 [(.int .i64 0), (.int .i64 0), (.int .i64 0)] [(0, (.t 56))]), none⟩, ⟨(some 58), (.app 3 24 [(.int .i64 0), (.int .i64 0), (.int .i64 0)] (.t 55) (.t 57)), none⟩, ⟨(some 16), (.mov (.t 58)), none⟩]) (.seq (.region 13 [⟨(some 59), (.fad 1 (.t 18)), none⟩, ⟨(some 60), (.load false 1 (.t 59)), none⟩, ⟨(some 61), (.bin .mul (.k (.int .i64 2)) (.t 60)), none⟩, ⟨(some 62), (.fad 1 (.t 18)), none⟩, ⟨none, (.store 1 (.t 62) (.t 61)), none⟩]) (.region 14 [⟨(some 63), (.mov (.t 15)), none⟩, ⟨(some 64), (.load true 3 (.t 18)), none⟩, ⟨(some 65), (.bslice 3 1 [(.int .i64 0), (.int .i64 0), (.int .i64 0)] [(0, (.t 64))]), none⟩, ⟨(some 66), (.app 3 24 [(.int .i64 0), (.int .i64 0), (.int .i64 0)] (.t 63) (.t 65)), none⟩, ⟨(some 15), (.mov (.t 66)), none⟩])))))) (.region 9 [⟨(some 45), (.mov (.t 17)), none⟩, ⟨(some 46), (.bin .add (.t 45) (.k (.int .i64 1))), none⟩, ⟨(some 17), (.mov (.t 46)), none⟩])))))) (.seq (.region 15 [⟨(some 68), (.mov (.t 16)), none⟩, ⟨(some 69), (.mov (.t 13)), none⟩, ⟨(some 70), (.mov (.t 12)), none⟩, ⟨(some 71), (.mov (.t 14)), none⟩, ⟨(some 72), (.call 19 [(.t 68), (.t 69), (.t 70), (.t 71)]), none⟩, ⟨(some 67), (.mov (.t 72)), none⟩, ⟨(some 73), (.ext (.t 67) 0), none⟩, ⟨(some 74), (.ext (.t 67) 1), none⟩, ⟨(some 19), (.mov (.t 73)), none⟩, ⟨(some 20), (.mov (.t 74)), none⟩]) (.seq (.region 16 [⟨(some 76), (.mov (.t 15)), none⟩, ⟨(some 77), (.mov (.t 13)), none⟩, ⟨(some 78), (.bin .mul (.k (.int .i64 2)) (.t 77)), none⟩, ⟨(some 79), (.mov (.t 12)), none⟩, ⟨(some 80), (.bin .mul (.k (.int .i64 2)) (.t 79)), none⟩, ⟨(some 81), (.mov (.t 14)), none⟩, ⟨(some 82), (.call 19 [(.t 76), (.t 78), (.t 80), (.t 81)]), none⟩, ⟨(some 75), (.mov (.t 82)), none⟩, ⟨(some 83), (.ext (.t 75) 0), none⟩, ⟨(some 84), (.ext (.t 75) 1), none⟩, ⟨(some 21), (.mov (.t 83)), none⟩, ⟨(some 22), (.mov (.t 84)), none⟩]) (.seq (.region 17 [⟨(some 85), (.mov (.t 20)), none⟩, ⟨(some 86), (.bin .eql (.t 85) (.k (.int .i64 0))), none⟩, ⟨(some 87), (.mov (.t 86)), none⟩, ⟨(some 88), (.mov (.t 22)), (some (87, true))⟩, ⟨(some 89), (.bin .eql (.t 88) (.k (.int .i64 0))), (some (87, true))⟩, ⟨(some 90), (.pick (.t 87) (.t 89) (.k (.bool false))), none⟩, ⟨(some 91), (.mov (.t 90)), none⟩, ⟨(some 92), (.mov (.t 19)), (some (91, true))⟩, ⟨(some 93), (.len (.t 92)), (some (91, true))⟩, ⟨(some 94), (.mov (.t 9)), (some (91, true))⟩, ⟨(some 95), (.len (.t 94)), (some (91, true))⟩, ⟨(some 96), (.bin .eql (.t 93) (.t 95)), (some (91, true))⟩, ⟨(some 97), (.pick (.t 91) (.t 96) (.k (.bool false))), none⟩, ⟨(some 98), (.mov (.t 97)), none⟩, ⟨(some 99), (.mov (.t 19)), (some (98, true))⟩, ⟨(some 100), (.mov (.t 21)), (some (98, true))⟩, ⟨(some 101), (.call 20 [(.t 99), (.t 100)]), (some (98, true))⟩, ⟨(some 102), (.pick (.t 98) (.t 101) (.k (.bool false))), none⟩, ⟨(some 8), (.mov (.t 102)), none⟩]) .ret))))))))))), [(.t 8)], 103⟩ := by kernel_rfl
theorem capsscale_pf (l : List (List Int)) (num den flows : Int) (hl : l.length ≤ Go.maxLen) (hr : ∀ r ∈ l, r.length = 2 ∧ ∀ z ∈ r, InR z) (h1 : InR num) (h2 : InR den) (h3 : InR flows) :
    PF Try.prog 7 [.rows 2 (l.map fun r => r.map I), I num, I den, I flows] (.bool true) := by
  have r1 := pickedZ_range den 10 (by omega)
  obtain ⟨d, hd⟩ : ∃ d, d = 1 + pickedZ den 10 := ⟨_, rfl⟩
  have r2 := pickedZ_range num (10 - d + 1) (by omega)
  obtain ⟨m, hm⟩ : ∃ m, m = d + pickedZ num (10 - d + 1) := ⟨_, rfl⟩
  have r3 := pickedZ_range flows 41 (by omega)
  obtain ⟨f, hf⟩ : ∃ f, f = pickedZ flows 41 := ⟨_, rfl⟩
  obtain ⟨L, hL⟩ : ∃ L, L = partsL l := ⟨_, rfl⟩
  have hmay := partsL_may l
  have hmem : ∀ x ∈ L, 0 ≤ x.weight ∧ x.weight ≤ 8 ∧ 0 ≤ x.flows ∧ x.flows ≤ 3 := fun x hx => partsL_mem (hL ▸ hx)
  rw [← hL] at hmay
  have hw : ∀ x ∈ L, 0 ≤ x.weight ∧ x.weight ≤ 8 := fun x hx => by have := hmem x hx; omega
  have hfac : factorB m d = true := decide_eq_true (by omega)
  have hfac2 : factorB (2 * m) (2 * d) = true := decide_eq_true (by omega)
  have hf1 : 0 ≤ f := by omega
  have hf2 : f ≤ 40 := by omega
  have i1 : InR (1 + pickedZ den 10) := inr (by omega) (by omega)
  have i2 : InR (10 - d) := inr (by omega) (by omega)
  have i3 : InR (10 - d + 1) := inr (by omega) (by omega)
  have im : InR m := inr (by omega) (by omega)
  have i4 : InR (2 * m) := inr (by omega) (by omega)
  have i5 : InR (2 * d) := inr (by omega) (by omega)
  obtain ⟨C, hC⟩ : ∃ C, C = capsOf (L.map halfL) m d f := ⟨_, rfl⟩
  have hres : capsRes (L.map halfL) m d f = [.rows 1 (C.map fun c => [I c]), I 0] := by simp [capsRes, hfac, hf1, hf2, hC]
  have hres2 : capsRes (L.map twiceL) (2 * m) (2 * d) f = [.rows 1 (C.map fun c => [I c]), I 0] := by simp only [capsRes, hfac2, hf1, hf2, and_self, if_true, caps_twice L m d f (by omega) hw, hC]
  have hcl : C.length = L.length := by rw [hC]; simp [capsOf]
  have hmh : mayL (-1) (L.map halfL) := mayL_map halfL (fun x => ⟨rfl, rfl, fun _ _ => by have e : (halfL x).weight = x.weight / 2 := rfl; omega⟩) L _ hmay.2
  have hmt : mayL (-1) (L.map twiceL) := mayL_map twiceL (fun x => ⟨rfl, rfl, fun _ _ => by have e : (twiceL x).weight = 2 * (x.weight / 2) := rfl; omega⟩) L _ hmay.2
  refine PF.of follows_ok capsscale_code (by simp) (by simp [argOk]) (by simp [noV, noC]) fun B hBN hB0 => acode_sound [0, 1, 2, 3, 8, 9, 12, 13, 14, 15, 16, 17, 18, 19, 20, 21, 22, 44] [] _ _ _ ?_
  simp [AK_at, acode_seq, acode_region, acode_draw, acode_cond, ↓CB_t, ↓CB_f, CB_u, acode_block, acode_loop, acode_exit, acode_scope, acode_ret, acode_skip, seqQ_n, seqQ_e, seqQ_r, blockQ_n, blockQ_e, blockQ_r, TK_at, OK_at, SK_at, aops_nil, aops_cons, asch_done, asch_one, asch_two, asch_top, astep, aop_eq, isLoud, aloud, aloud1, isWrite, qv, evS, strip, gof, eget, hget, putO, eput, herase, oks, opnds, gS, afin, afin0, binD, arith, D.cells, takeD, fillD, keep, trim, envOf, Fin, aresl, aresv, resD, argOk, pickV, isP, deq, deqs, boundD, slD, lenD, isT, chunks, mn_min, mx_max, splice_one, splice_more, Rbr_at, Rfr_at, frR, frV, frC, flatC, brwR, brwV, brwC, omap, leR, leV, leC, leL, leVL]
  repeat' (first
    | simp [AK_at, acode_seq, acode_region, acode_draw, acode_cond, ↓CB_t, ↓CB_f, CB_u, acode_block, acode_loop, acode_exit, acode_scope, acode_ret, acode_skip, seqQ_n, seqQ_e, seqQ_r, blockQ_n, blockQ_e, blockQ_r, TK_at, OK_at, SK_at, aops_nil, aops_cons, asch_done, asch_one, asch_two, asch_top, astep, aop_eq, isLoud, aloud, aloud1, isWrite, qv, evS, strip, gof, eget, hget, putO, eput, herase, oks, opnds, gS, afin, afin0, binD, arith, D.cells, takeD, fillD, keep, trim, envOf, Fin, aresl, aresv, resD, argOk, pickV, isP, deq, deqs, boundD, slD, lenD, isT, chunks, mn_min, mx_max, splice_one, splice_more, Rbr_at, Rfr_at, frR, frV, frC, flatC, brwR, brwV, brwC, omap, leR, leV, leC, leL, leVL, i1, ← hL]
    | (refine WCall.pf (parts_pf l hl hr) ?_ ?_ ?_ ?_; (focus (simp [oks, opnds, gS, gof, eget]; done)); (focus (simp [omap, brwV, brwC, evS, eget, strip, hget, leVL, leV, leC, leL, i1, ← hL]; done)); (focus (simp [noV, noC, flatR, flatV, flatC, evS, eget, strip, i1, ← hL]; done)))
    | (refine ⟨WCall.pf (parts_pf l hl hr) ?_ ?_ ?_ ?_, ?_⟩; (focus (simp [oks, opnds, gS, gof, eget]; done)); (focus (simp [omap, brwV, brwC, evS, eget, strip, hget, leVL, leV, leC, leL, i1, ← hL]; done)); (focus (simp [noV, noC, flatR, flatV, flatC, evS, eget, strip, i1, ← hL]; done)))
    | (refine WCall.pf (picked_pf den 10 h2 (by omega)) ?_ ?_ ?_ ?_; (focus (simp [oks, opnds, gS, gof, eget]; done)); (focus (simp [omap, brwV, brwC, evS, eget, strip, hget, leVL, leV, leC, leL, i1, ← hL]; done)); (focus (simp [noV, noC, flatR, flatV, flatC, evS, eget, strip, i1, ← hL]; done)))
    | (refine ⟨WCall.pf (picked_pf den 10 h2 (by omega)) ?_ ?_ ?_ ?_, ?_⟩; (focus (simp [oks, opnds, gS, gof, eget]; done)); (focus (simp [omap, brwV, brwC, evS, eget, strip, hget, leVL, leV, leC, leL, i1, ← hL]; done)); (focus (simp [noV, noC, flatR, flatV, flatC, evS, eget, strip, i1, ← hL]; done)))
    | fail)
  simp only [← hd]
  repeat' (first
    | simp [AK_at, acode_seq, acode_region, acode_draw, acode_cond, ↓CB_t, ↓CB_f, CB_u, acode_block, acode_loop, acode_exit, acode_scope, acode_ret, acode_skip, seqQ_n, seqQ_e, seqQ_r, blockQ_n, blockQ_e, blockQ_r, TK_at, OK_at, SK_at, aops_nil, aops_cons, asch_done, asch_one, asch_two, asch_top, astep, aop_eq, isLoud, aloud, aloud1, isWrite, qv, evS, strip, gof, eget, hget, putO, eput, herase, oks, opnds, gS, afin, afin0, binD, arith, D.cells, takeD, fillD, keep, trim, envOf, Fin, aresl, aresv, resD, argOk, pickV, isP, deq, deqs, boundD, slD, lenD, isT, chunks, mn_min, mx_max, splice_one, splice_more, Rbr_at, Rfr_at, frR, frV, frC, flatC, brwR, brwV, brwC, omap, leR, leV, leC, leL, leVL, i2, i3, im, ← hm, ← hf]
    | (refine WCall.pf (picked_pf num (10 - d + 1) h1 (by omega)) ?_ ?_ ?_ ?_; (focus (simp [oks, opnds, gS, gof, eget]; done)); (focus (simp [omap, brwV, brwC, evS, eget, strip, hget, leVL, leV, leC, leL, i2, i3, im, ← hm, ← hf]; done)); (focus (simp [noV, noC, flatR, flatV, flatC, evS, eget, strip, i2, i3, im, ← hm, ← hf]; done)))
    | (refine ⟨WCall.pf (picked_pf num (10 - d + 1) h1 (by omega)) ?_ ?_ ?_ ?_, ?_⟩; (focus (simp [oks, opnds, gS, gof, eget]; done)); (focus (simp [omap, brwV, brwC, evS, eget, strip, hget, leVL, leV, leC, leL, i2, i3, im, ← hm, ← hf]; done)); (focus (simp [noV, noC, flatR, flatV, flatC, evS, eget, strip, i2, i3, im, ← hm, ← hf]; done)))
    | (refine WCall.pf (picked_pf flows 41 h3 (by omega)) ?_ ?_ ?_ ?_; (focus (simp [oks, opnds, gS, gof, eget]; done)); (focus (simp [omap, brwV, brwC, evS, eget, strip, hget, leVL, leV, leC, leL, i2, i3, im, ← hm, ← hf]; done)); (focus (simp [noV, noC, flatR, flatV, flatC, evS, eget, strip, i2, i3, im, ← hm, ← hf]; done)))
    | (refine ⟨WCall.pf (picked_pf flows 41 h3 (by omega)) ?_ ?_ ?_ ?_, ?_⟩; (focus (simp [oks, opnds, gS, gof, eget]; done)); (focus (simp [omap, brwV, brwC, evS, eget, strip, hget, leVL, leV, leC, leL, i2, i3, im, ← hm, ← hf]; done)); (focus (simp [noV, noC, flatR, flatV, flatC, evS, eget, strip, i2, i3, im, ← hm, ← hf]; done)))
    | fail)
  refine W.loopS (fun i : Nat => ⟨[(17, I i), (16, .own 0), (15, .own 1), (14, I f), (13, I m), (12, I d), (9, D.rows 3 (L.map Load.D)), (8, .bool false)], [(1, .row 3 ((L.take i).map fun x => (twiceL x).D)), (0, .row 3 ((L.take i).map fun x => (halfL x).D))], 2⟩)
    (fun n i => n = L.length - i ∧ i ≤ L.length) ?_ ?_
  · refine ⟨_, 0, (Gh.adopt 16 3 (by omega) (by simp [eget])).trans ((Gh.adopt 15 3 (by omega) (by simp [eget, eput])).trans ?_), rfl, by simp⟩
    simp [eput]
    exact (Gh.ren [] (by simp [hB0]) (by simp [hB0]) (by simp [eget, rnS, rnR, rnV, rnC, LtS, LtR, LtV, LtC, lget]) (by simp [hget, rnO, rnC, LtO, LtC, lget]) (.inr rfl))
  · rintro n i ⟨hn, hi⟩
    refine acode_sound [0, 1, 2, 3, 8, 9, 12, 13, 14, 15, 16, 17, 18, 19, 20, 21, 22, 44] [] _ _ _ ?_
    by_cases hlt : i < L.length
    · obtain ⟨x, hx⟩ : ∃ x, x = L[i] := ⟨_, rfl⟩
      have hxm : x ∈ L := hx ▸ List.getElem_mem hlt
      have hwx := hw x hxm
      have hsn : ∀ (g : Load → List D), (L.map g).take (i + 1) = (L.map g).take i ++ [g x] := fun g => by rw [hx]; exact take_map_succ g L i hlt
      have j1 : InR ((i : Int) + 1) := inr (by omega) (by omega)
      have j2 : InR (x.weight / 2) := inr (by omega) (by omega)
      have j3 : InR (2 * (x.weight / 2)) := inr (by omega) (by omega)
      have j4 : (min i L.length + 1) * 24 ≤ 140737488355328 := by omega
      have j5 : (i + 1) * 24 ≤ 140737488355328 := by omega
      have j6 : min i L.length = i := by omega
      simp [AK_at, acode_seq, acode_region, acode_draw, acode_cond, ↓CB_t, ↓CB_f, CB_u, acode_block, acode_loop, acode_exit, acode_scope, acode_ret, acode_skip, seqQ_n, seqQ_e, seqQ_r, blockQ_n, blockQ_e, blockQ_r, TK_at, OK_at, SK_at, aops_nil, aops_cons, asch_done, asch_one, asch_two, asch_top, astep, aop_eq, isLoud, aloud, aloud1, isWrite, qv, evS, strip, gof, eget, hget, putO, eput, herase, oks, opnds, gS, afin, afin0, binD, arith, D.cells, takeD, fillD, keep, trim, envOf, Fin, aresl, aresv, resD, argOk, pickV, isP, deq, deqs, boundD, slD, lenD, isT, chunks, mn_min, mx_max, splice_one, splice_more, Rbr_at, Rfr_at, frR, frV, frC, flatC, brwR, brwV, brwC, omap, leR, leV, leC, leL, leVL, hlt, ← hx, Load.D, hwx.1, j1, j2, j3, j4, j5, j6]
      exact ⟨_, i + 1, (Gh.ren [4,6] (by simp [hB0]) (by simp [hB0]) (by simp [eget, rnS, rnR, rnV, rnC, LtS, LtR, LtV, LtC, lget, hsn, halfL, twiceL, Load.D]) (by simp [hget, rnO, rnC, LtO, LtC, lget, hsn, halfL, twiceL, Load.D]) (.inl (by simp [lget]))), by omega, rfl, by omega⟩
    · have hie : i = L.length := by omega
      subst hie
      simp [AK_at, acode_seq, acode_region, acode_draw, acode_cond, ↓CB_t, ↓CB_f, CB_u, acode_block, acode_loop, acode_exit, acode_scope, acode_ret, acode_skip, seqQ_n, seqQ_e, seqQ_r, blockQ_n, blockQ_e, blockQ_r, TK_at, OK_at, SK_at, aops_nil, aops_cons, asch_done, asch_one, asch_two, asch_top, astep, aop_eq, isLoud, aloud, aloud1, isWrite, qv, evS, strip, gof, eget, hget, putO, eput, herase, oks, opnds, gS, afin, afin0, binD, arith, D.cells, takeD, fillD, keep, trim, envOf, Fin, aresl, aresv, resD, argOk, pickV, isP, deq, deqs, boundD, slD, lenD, isT, chunks, mn_min, mx_max, splice_one, splice_more, Rbr_at, Rfr_at, frR, frV, frC, flatC, brwR, brwV, brwC, omap, leR, leV, leC, leL, leVL]
      repeat' (first
        | simp [AK_at, acode_seq, acode_region, acode_draw, acode_cond, ↓CB_t, ↓CB_f, CB_u, acode_block, acode_loop, acode_exit, acode_scope, acode_ret, acode_skip, seqQ_n, seqQ_e, seqQ_r, blockQ_n, blockQ_e, blockQ_r, TK_at, OK_at, SK_at, aops_nil, aops_cons, asch_done, asch_one, asch_two, asch_top, astep, aop_eq, isLoud, aloud, aloud1, isWrite, qv, evS, strip, gof, eget, hget, putO, eput, herase, oks, opnds, gS, afin, afin0, binD, arith, D.cells, takeD, fillD, keep, trim, envOf, Fin, aresl, aresv, resD, argOk, pickV, isP, deq, deqs, boundD, slD, lenD, isT, chunks, mn_min, mx_max, splice_one, splice_more, Rbr_at, Rfr_at, frR, frV, frC, flatC, brwR, brwV, brwC, omap, leR, leV, leC, leL, leVL, hres, hres2, i4, i5, hcl]
        | (refine WCall.pfn (caps_pfn (L.map halfL) m d f (by simpa using hmay.1) hmh) ?_ ?_ ?_; (focus (simp [oks, opnds, gS, gof, eget]; done)); (focus (simp [omap, brwV, brwC, evS, eget, strip, hget, leVL, leV, leC, leL, hres, hres2, i4, i5, hcl]; done)))
        | (refine ⟨WCall.pfn (caps_pfn (L.map halfL) m d f (by simpa using hmay.1) hmh) ?_ ?_ ?_, ?_⟩; (focus (simp [oks, opnds, gS, gof, eget]; done)); (focus (simp [omap, brwV, brwC, evS, eget, strip, hget, leVL, leV, leC, leL, hres, hres2, i4, i5, hcl]; done)))
        | (refine WCall.pfn (caps_pfn (L.map twiceL) (2 * m) (2 * d) f (by simpa using hmay.1) hmt) ?_ ?_ ?_; (focus (simp [oks, opnds, gS, gof, eget]; done)); (focus (simp [omap, brwV, brwC, evS, eget, strip, hget, leVL, leV, leC, leL, hres, hres2, i4, i5, hcl]; done)))
        | (refine ⟨WCall.pfn (caps_pfn (L.map twiceL) (2 * m) (2 * d) f (by simpa using hmay.1) hmt) ?_ ?_ ?_, ?_⟩; (focus (simp [oks, opnds, gS, gof, eget]; done)); (focus (simp [omap, brwV, brwC, evS, eget, strip, hget, leVL, leV, leC, leL, hres, hres2, i4, i5, hcl]; done)))
        | (refine WCall.pf (samei_pf C (by omega)) ?_ ?_ ?_ ?_; (focus (simp [oks, opnds, gS, gof, eget]; done)); (focus (simp [omap, brwV, brwC, evS, eget, strip, hget, leVL, leV, leC, leL, hres, hres2, i4, i5, hcl]; done)); (focus (simp [noV, noC, flatR, flatV, flatC, evS, eget, strip, hres, hres2, i4, i5, hcl]; done)))
        | (refine ⟨WCall.pf (samei_pf C (by omega)) ?_ ?_ ?_ ?_, ?_⟩; (focus (simp [oks, opnds, gS, gof, eget]; done)); (focus (simp [omap, brwV, brwC, evS, eget, strip, hget, leVL, leV, leC, leL, hres, hres2, i4, i5, hcl]; done)); (focus (simp [noV, noC, flatR, flatV, flatC, evS, eget, strip, hres, hres2, i4, i5, hcl]; done)))
        | fail)
end Go.Proofs.Ytbfmjccbbkijlab
