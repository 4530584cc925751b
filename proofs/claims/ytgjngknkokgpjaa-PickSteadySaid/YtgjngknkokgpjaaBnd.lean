/- This text proves what the functions of package bound compute, of loads that may be. It has no condition of its own. -/
import Derived.Test.YtgjngknkokgpjaaBas
set_option linter.unusedSimpArgs false
set_option linter.unusedVariables false
set_option maxRecDepth 100000
set_option maxHeartbeats 2000000
namespace Go.Proofs.Ytgjngknkokgpjaa
open Go.RowKit
structure Load where
  backend : Int
  weight : Int
  flows : Int
def Load.D (l : Load) : List D := [I l.backend, I l.weight, I l.flows]
def mayL : Int → List Load → Prop
  | _, [] => True
  | p, x :: t => (p < x.backend ∧ x.backend < 12 ∧ 0 ≤ x.weight ∧ x.weight ≤ 8 ∧ 0 ≤ x.flows ∧ x.flows ≤ 40) ∧ mayL x.backend t
theorem inr {z : Int} (h1 : -9223372036854775808 ≤ z) (h2 : z ≤ 9223372036854775807) : InR z := ⟨h1, h2⟩
def factorB (num den : Int) : Bool := decide (1 ≤ den ∧ den ≤ num ∧ num ≤ 20)
theorem factor_code : cfun Try.prog [] 50 = some ⟨(.seq (.region 0 [⟨(some 4), (.mov (.k (.bool false))), none⟩]) (.seq (.region 1 [⟨(some 5), (.mov (.t 1)), none⟩, ⟨(some 6), (.bin .geq (.t 5) (.k (.int .i64 1))), none⟩, ⟨(some 7), (.mov (.t 6)), none⟩, ⟨(some 8), (.mov (.t 0)), (some (7, true))⟩, ⟨(some 9), (.mov (.t 1)), (some (7, true))⟩, ⟨(some 10), (.bin .geq (.t 8) (.t 9)), (some (7, true))⟩, ⟨(some 11), (.pick (.t 7) (.t 10) (.k (.bool false))), none⟩, ⟨(some 12), (.mov (.t 11)), none⟩, ⟨(some 13), (.mov (.t 0)), (some (12, true))⟩, ⟨(some 14), (.bin .leq (.t 13) (.k (.int .i64 20))), (some (12, true))⟩, ⟨(some 15), (.pick (.t 12) (.t 14) (.k (.bool false))), none⟩, ⟨(some 4), (.mov (.t 15)), none⟩]) .ret)), [(.t 4)], 16⟩ := by kernel_rfl
theorem factor_pf (num den : Int) : PF Try.prog 50 [I num, I den] (.bool (factorB num den)) := by
  refine PF.of follows_ok factor_code (by simp) (by simp [argOk]) (by simp [noV, noC]) fun B hBN hB0 => acode_sound [0, 1, 4] [] _ _ _ ?_
  simp [AK_at, acode_seq, acode_region, acode_draw, acode_cond, ↓CB_t, ↓CB_f, CB_u, acode_block, acode_loop, acode_exit, acode_scope, acode_ret, acode_skip, seqQ_n, seqQ_e, seqQ_r, blockQ_n, blockQ_e, blockQ_r, TK_at, OK_at, SK_at, aops_nil, aops_cons, asch_done, asch_one, asch_two, asch_top, astep, aop_eq, isLoud, aloud, aloud1, isWrite, qv, evS, strip, gof, eget, hget, putO, eput, herase, oks, opnds, gS, afin, afin0, binD, arith, D.cells, takeD, fillD, keep, trim, envOf, Fin, aresl, aresv, resD, argOk, pickV, isP, deq, deqs, boundD, slD, lenD, isT, chunks, mn_min, mx_max, D.cells, splice_one, splice_more, Rbr_at, Rfr_at, frR, frV, frC, flatC, brwR, brwV, brwC, omap, leR, leV, leC, leL, leVL, factorB]
  by_cases h1 : 1 ≤ den <;> by_cases h2 : den ≤ num <;> by_cases h3 : num ≤ 20 <;> simp [h1, h2, h3]
def capZ (num den flows weight total : Int) : Int := (num * (flows + 1) * weight + den * total - 1) / (den * total)
theorem cap_code : cfun Try.prog [] 29 = some ⟨(.seq (.region 0 [⟨(some 10), (.mov (.k (.int .i64 0))), none⟩, ⟨(some 11), (.mov (.k (.int .i64 0))), none⟩]) (.seq (.seq (.region 1 [⟨(some 14), (.mov (.t 0)), none⟩, ⟨(some 15), (.mov (.t 1)), none⟩, ⟨(some 16), (.call 50 [(.t 14), (.t 15)]), none⟩, ⟨(some 17), (.not (.t 16)), none⟩, ⟨(some 18), (.mov (.t 17)), none⟩, ⟨(some 19), (.mov (.t 2)), (some (18, false))⟩, ⟨(some 20), (.bin .lss (.t 19) (.k (.int .i64 0))), (some (18, false))⟩, ⟨(some 21), (.pick (.t 18) (.k (.bool true)) (.t 20)), none⟩, ⟨(some 22), (.mov (.t 21)), none⟩, ⟨(some 23), (.mov (.t 2)), (some (22, false))⟩, ⟨(some 24), (.bin .gtr (.t 23) (.k (.int .i64 40))), (some (22, false))⟩, ⟨(some 25), (.pick (.t 22) (.k (.bool true)) (.t 24)), none⟩, ⟨(some 26), (.mov (.t 25)), none⟩, ⟨(some 27), (.mov (.t 3)), (some (26, false))⟩, ⟨(some 28), (.bin .lss (.t 27) (.k (.int .i64 1))), (some (26, false))⟩, ⟨(some 29), (.pick (.t 26) (.k (.bool true)) (.t 28)), none⟩, ⟨(some 30), (.mov (.t 29)), none⟩, ⟨(some 31), (.mov (.t 4)), (some (30, false))⟩, ⟨(some 32), (.mov (.t 3)), (some (30, false))⟩, ⟨(some 33), (.bin .lss (.t 31) (.t 32)), (some (30, false))⟩, ⟨(some 34), (.pick (.t 30) (.k (.bool true)) (.t 33)), none⟩, ⟨(some 35), (.mov (.t 34)), none⟩, ⟨(some 36), (.mov (.t 4)), (some (35, false))⟩, ⟨(some 37), (.bin .gtr (.t 36) (.k (.int .i64 96))), (some (35, false))⟩, ⟨(some 38), (.pick (.t 35) (.k (.bool true)) (.t 37)), none⟩]) (.cond 38 (.seq (.region 2 [⟨(some 10), (.mov (.k (.int .i64 0))), none⟩, ⟨(some 11), (.mov (.k (.int .i64 2))), none⟩]) .ret) .skip)) (.seq (.region 3 [⟨(some 39), (.mov (.t 0)), none⟩, ⟨(some 40), (.mov (.t 2)), none⟩, ⟨(some 41), (.bin .add (.t 40) (.k (.int .i64 1))), none⟩, ⟨(some 42), (.bin .mul (.t 39) (.t 41)), none⟩, ⟨(some 43), (.mov (.t 3)), none⟩, ⟨(some 44), (.bin .mul (.t 42) (.t 43)), none⟩, ⟨(some 45), (.mov (.t 1)), none⟩, ⟨(some 46), (.mov (.t 4)), none⟩, ⟨(some 47), (.bin .mul (.t 45) (.t 46)), none⟩, ⟨(some 12), (.mov (.t 44)), none⟩, ⟨(some 13), (.mov (.t 47)), none⟩]) (.seq (.region 4 [⟨(some 48), (.mov (.t 12)), none⟩, ⟨(some 49), (.mov (.t 13)), none⟩, ⟨(some 50), (.bin .add (.t 48) (.t 49)), none⟩, ⟨(some 51), (.bin .sub (.t 50) (.k (.int .i64 1))), none⟩, ⟨(some 52), (.mov (.t 13)), none⟩, ⟨(some 53), (.bin .quo (.t 51) (.t 52)), none⟩, ⟨(some 10), (.mov (.t 53)), none⟩, ⟨(some 11), (.mov (.k (.int .i64 0))), none⟩]) .ret)))), [(.t 10), (.t 11)], 54⟩ := by kernel_rfl
theorem cap_pf (num den flows weight total : Int) (hf : factorB num den = true) (h1 : 0 ≤ flows) (h2 : flows ≤ 40) (h3 : 1 ≤ weight) (h4 : weight ≤ total) (h5 : total ≤ 96) :
    PF Try.prog 29 [I num, I den, I flows, I weight, I total] (.tup [I (capZ num den flows weight total), I 0]) := by
  have hf' := of_decide_eq_true hf
  refine PF.of follows_ok cap_code (by simp) (by simp [argOk]) (by simp [noV, noC]) fun B hBN hB0 => acode_sound [0, 1, 2, 3, 4, 10, 11, 12, 13, 38] [] _ _ _ ?_
  have g1 : ¬ flows < 0 := by omega
  have g2 : ¬ 40 < flows := by omega
  have g3 : ¬ weight < 1 := by omega
  have g4 : ¬ total < weight := by omega
  have g5 : ¬ 96 < total := by omega
  simp [AK_at, acode_seq, acode_region, acode_draw, acode_cond, ↓CB_t, ↓CB_f, CB_u, acode_block, acode_loop, acode_exit, acode_scope, acode_ret, acode_skip, seqQ_n, seqQ_e, seqQ_r, blockQ_n, blockQ_e, blockQ_r, TK_at, OK_at, SK_at, aops_nil, aops_cons, asch_done, asch_one, asch_two, asch_top, astep, aop_eq, isLoud, aloud, aloud1, isWrite, qv, evS, strip, gof, eget, hget, putO, eput, herase, oks, opnds, gS, afin, afin0, binD, arith, D.cells, takeD, fillD, keep, trim, envOf, Fin, aresl, aresv, resD, argOk, pickV, isP, deq, deqs, boundD, slD, lenD, isT, chunks, mn_min, mx_max, D.cells, splice_one, splice_more, Rbr_at, Rfr_at, frR, frV, frC, flatC, brwR, brwV, brwC, omap, leR, leV, leC, leL, leVL]
  refine WCall.pf (factor_pf num den) (by simp [oks, opnds, gS, gof, eget]) (by simp [omap, brwV, brwC, evS, eget, strip, hget, leVL, leV, leC, leL]) (by simp [noV, noC, flatR, flatV, flatC, evS, eget, strip]) ?_
  have b1 : 0 ≤ num * (flows + 1) ∧ num * (flows + 1) ≤ 20 * 41 := ⟨Int.mul_nonneg (by omega) (by omega), Int.mul_le_mul (by omega) (by omega) (by omega) (by omega)⟩
  have b2 : 0 ≤ num * (flows + 1) * weight ∧ num * (flows + 1) * weight ≤ 20 * 41 * 96 := ⟨Int.mul_nonneg b1.1 (by omega), Int.mul_le_mul b1.2 (by omega) (by omega) (by omega)⟩
  have b3 : 1 ≤ den * total := Int.mul_le_mul (a := 1) (b := 1) (by omega) (by omega) (by omega) (by omega)
  have b4 : den * total ≤ 20 * 96 := Int.mul_le_mul (by omega) (by omega) (by omega) (by omega)
  have b5 : 0 ≤ capZ num den flows weight total ∧ capZ num den flows weight total ≤ 20 * 41 * 96 + 20 * 96 := by
    unfold capZ
    refine ⟨Int.ediv_nonneg (by omega) (by omega), Int.le_trans (Int.ediv_le_self _ (by omega)) (by omega)⟩
  have i1 : InR (flows + 1) := inr (by omega) (by omega)
  have i2 : InR (num * (flows + 1)) := inr (by omega) (by omega)
  have i3 : InR (num * (flows + 1) * weight) := inr (by omega) (by omega)
  have i4 : InR (den * total) := inr (by omega) (by omega)
  have i5 : InR (num * (flows + 1) * weight + den * total) := inr (by omega) (by omega)
  have i6 : InR (num * (flows + 1) * weight + den * total - 1) := inr (by omega) (by omega)
  have i7 : InR (capZ num den flows weight total) := inr (by omega) (by omega)
  have i8 : 0 ≤ num * (flows + 1) * weight + den * total - 1 := by omega
  have i9 : 1 ≤ num * (flows + 1) * weight + den * total := by omega
  have i10 : 0 < den * total := by omega
  unfold capZ at i7
  simp [AK_at, acode_seq, acode_region, acode_draw, acode_cond, ↓CB_t, ↓CB_f, CB_u, acode_block, acode_loop, acode_exit, acode_scope, acode_ret, acode_skip, seqQ_n, seqQ_e, seqQ_r, blockQ_n, blockQ_e, blockQ_r, TK_at, OK_at, SK_at, aops_nil, aops_cons, asch_done, asch_one, asch_two, asch_top, astep, aop_eq, isLoud, aloud, aloud1, isWrite, qv, evS, strip, gof, eget, hget, putO, eput, herase, oks, opnds, gS, afin, afin0, binD, arith, D.cells, takeD, fillD, keep, trim, envOf, Fin, aresl, aresv, resD, argOk, pickV, isP, deq, deqs, boundD, slD, lenD, isT, chunks, mn_min, mx_max, D.cells, splice_one, splice_more, Rbr_at, Rfr_at, frR, frV, frC, flatC, brwR, brwV, brwC, omap, leR, leV, leC, leL, leVL, hf, g1, g2, g3, g4, g5, i1, i2, i3, i4, i5, i6, i7, i8, i9, i10, capZ]
theorem may_code : cfun Try.prog [] 55 = some ⟨(.seq (.region 0 [⟨(some 2), (.mov (.k (.bool false))), none⟩]) (.seq (.seq (.region 1 [⟨(some 6), (.mov (.t 0)), none⟩, ⟨(some 7), (.len (.t 6)), none⟩, ⟨(some 8), (.bin .gtr (.t 7) (.k (.int .i64 12))), none⟩]) (.cond 8 (.seq (.region 2 [⟨(some 2), (.mov (.k (.bool false))), none⟩]) .ret) .skip)) (.seq (.region 3 [⟨(some 3), (.mov (.k (.int .i64 (-1)))), none⟩]) (.seq (.seq (.region 4 [⟨(some 9), (.mov (.t 0)), none⟩, ⟨(some 10), (.len (.t 9)), none⟩, ⟨(some 11), (.mov (.k (.int .i64 0))), none⟩]) (.block 0 (.loop (.seq (.region 5 [⟨(some 12), (.bin .lss (.t 11) (.t 10)), none⟩]) (.seq (.cond 12 .skip (.exit 0)) (.seq (.block 1 (.seq (.region 6 [⟨(some 13), (.iads 3 (.t 9) (.t 11)), none⟩, ⟨(some 14), (.load true 3 (.t 13)), none⟩, ⟨(some 5), (.alloc [(.int .i64 0), (.int .i64 0), (.int .i64 0)]), none⟩, ⟨none, (.store 3 (.t 5) (.t 14)), none⟩]) (.seq (.seq (.region 7 [⟨(some 15), (.fad 0 (.t 5)), none⟩, ⟨(some 16), (.load false 1 (.t 15)), none⟩, ⟨(some 17), (.mov (.t 3)), none⟩, ⟨(some 18), (.bin .leq (.t 16) (.t 17)), none⟩, ⟨(some 19), (.mov (.t 18)), none⟩, ⟨(some 20), (.fad 0 (.t 5)), (some (19, false))⟩, ⟨(some 21), (.load false 1 (.t 20)), (some (19, false))⟩, ⟨(some 22), (.bin .geq (.t 21) (.k (.int .i64 12))), (some (19, false))⟩, ⟨(some 23), (.pick (.t 19) (.k (.bool true)) (.t 22)), none⟩, ⟨(some 24), (.mov (.t 23)), none⟩, ⟨(some 25), (.fad 1 (.t 5)), (some (24, false))⟩, ⟨(some 26), (.load false 1 (.t 25)), (some (24, false))⟩, ⟨(some 27), (.bin .lss (.t 26) (.k (.int .i64 0))), (some (24, false))⟩, ⟨(some 28), (.pick (.t 24) (.k (.bool true)) (.t 27)), none⟩, ⟨(some 29), (.mov (.t 28)), none⟩, ⟨(some 30), (.fad 1 (.t 5)), (some (29, false))⟩, ⟨(some 31), (.load false 1 (.t 30)), (some (29, false))⟩, ⟨(some 32), (.bin .gtr (.t 31) (.k (.int .i64 8))), (some (29, false))⟩, ⟨(some 33), (.pick (.t 29) (.k (.bool true)) (.t 32)), none⟩, ⟨(some 34), (.mov (.t 33)), none⟩, ⟨(some 35), (.fad 2 (.t 5)), (some (34, false))⟩, ⟨(some 36), (.load false 1 (.t 35)), (some (34, false))⟩, ⟨(some 37), (.bin .lss (.t 36) (.k (.int .i64 0))), (some (34, false))⟩, ⟨(some 38), (.pick (.t 34) (.k (.bool true)) (.t 37)), none⟩, ⟨(some 39), (.mov (.t 38)), none⟩, ⟨(some 40), (.fad 2 (.t 5)), (some (39, false))⟩, ⟨(some 41), (.load false 1 (.t 40)), (some (39, false))⟩, ⟨(some 42), (.bin .gtr (.t 41) (.k (.int .i64 40))), (some (39, false))⟩, ⟨(some 43), (.pick (.t 39) (.k (.bool true)) (.t 42)), none⟩]) (.cond 43 (.seq (.region 8 [⟨(some 2), (.mov (.k (.bool false))), none⟩]) .ret) .skip)) (.region 9 [⟨(some 44), (.fad 0 (.t 5)), none⟩, ⟨(some 45), (.load false 1 (.t 44)), none⟩, ⟨(some 3), (.mov (.t 45)), none⟩])))) (.region 10 [⟨(some 46), (.bin .add (.t 11) (.k (.int .i64 1))), none⟩, ⟨(some 11), (.mov (.t 46)), none⟩]))))))) (.seq (.region 11 [⟨(some 2), (.mov (.k (.bool true))), none⟩]) .ret))))), [(.t 2)], 47⟩ := by kernel_rfl
theorem may_pf (l : List Load) (h12 : l.length ≤ 12) (hl : mayL (-1) l) : PF Try.prog 55 [.rows 3 (l.map Load.D)] (.bool true) := by
  refine PF.of follows_ok may_code (by simp) (by simp [argOk]) (by simp [noV, noC]) fun B hBN hB0 => acode_sound [0, 2, 3, 5, 8, 9, 10, 11, 12, 43] [] _ _ _ ?_
  have g1 : ¬ (12 : Int) < l.length := by omega
  simp [AK_at, acode_seq, acode_region, acode_draw, acode_cond, ↓CB_t, ↓CB_f, CB_u, acode_block, acode_loop, acode_exit, acode_scope, acode_ret, acode_skip, seqQ_n, seqQ_e, seqQ_r, blockQ_n, blockQ_e, blockQ_r, TK_at, OK_at, SK_at, aops_nil, aops_cons, asch_done, asch_one, asch_two, asch_top, astep, aop_eq, isLoud, aloud, aloud1, isWrite, qv, evS, strip, gof, eget, hget, putO, eput, herase, oks, opnds, gS, afin, afin0, binD, arith, D.cells, takeD, fillD, keep, trim, envOf, Fin, aresl, aresv, resD, argOk, pickV, isP, deq, deqs, boundD, slD, lenD, isT, chunks, mn_min, mx_max, D.cells, splice_one, splice_more, g1]
  refine W.loopS (fun y : Nat × Int => ⟨[(11, I y.1), (10, I l.length), (9, D.rows 3 (l.map Load.D)), (3, I y.2), (2, .bool false), (0, D.rows 3 (l.map Load.D))], [], 0⟩)
    (fun n y => n = l.length - y.1 ∧ y.1 ≤ l.length ∧ mayL y.2 (l.drop y.1)) ?_ ?_
  · exact ⟨_, (0, -1), (Gh.ren [] (by simp [hB0]) (by simp [hB0]) (by simp [eget, rnS, rnR, rnV, rnC, LtS, LtR, LtV, LtC, lget]) (by simp [hget, rnO, rnC, LtO, LtC, lget]) (.inr rfl)), rfl, by simp, by simpa using hl⟩
  · rintro n ⟨i, p⟩ ⟨hn, hi, hm⟩
    simp only at hn hi hm
    refine acode_sound [0, 2, 3, 5, 8, 9, 10, 11, 12, 43] [] _ _ _ ?_
    by_cases hlt : i < l.length
    · obtain ⟨x, hx⟩ : ∃ x, x = l[i] := ⟨_, rfl⟩
      rw [List.drop_eq_getElem_cons hlt, ← hx] at hm
      obtain ⟨⟨a1, a2, a3, a4, a5, a6⟩, hm'⟩ := hm
      have c1 : ¬ x.backend ≤ p := by omega
      have c2 : ¬ 12 ≤ x.backend := by omega
      have c3 : ¬ x.weight < 0 := by omega
      have c4 : ¬ 8 < x.weight := by omega
      have c5 : ¬ x.flows < 0 := by omega
      have c6 : ¬ 40 < x.flows := by omega
      have hi1 : InR ((i : Int) + 1) := inr (by omega) (by omega)
      simp [AK_at, acode_seq, acode_region, acode_draw, acode_cond, ↓CB_t, ↓CB_f, CB_u, acode_block, acode_loop, acode_exit, acode_scope, acode_ret, acode_skip, seqQ_n, seqQ_e, seqQ_r, blockQ_n, blockQ_e, blockQ_r, TK_at, OK_at, SK_at, aops_nil, aops_cons, asch_done, asch_one, asch_two, asch_top, astep, aop_eq, isLoud, aloud, aloud1, isWrite, qv, evS, strip, gof, eget, hget, putO, eput, herase, oks, opnds, gS, afin, afin0, binD, arith, D.cells, takeD, fillD, keep, trim, envOf, Fin, aresl, aresv, resD, argOk, pickV, isP, deq, deqs, boundD, slD, lenD, isT, chunks, mn_min, mx_max, D.cells, splice_one, splice_more, hlt, ← hx, Load.D, c1, c2, c3, c4, c5, c6, hi1]
      exact ⟨_, (i + 1, x.backend), (Gh.ren [] (by simp [hB0]) (by simp [hB0]) (by simp [eget, rnS, rnR, rnV, rnC, LtS, LtR, LtV, LtC, lget, Load.D]) (by simp [hget, rnO, rnC, LtO, LtC, lget, Load.D]) (.inr rfl)), by omega, rfl, by simp only; omega, hm'⟩
    · simp [AK_at, acode_seq, acode_region, acode_draw, acode_cond, ↓CB_t, ↓CB_f, CB_u, acode_block, acode_loop, acode_exit, acode_scope, acode_ret, acode_skip, seqQ_n, seqQ_e, seqQ_r, blockQ_n, blockQ_e, blockQ_r, TK_at, OK_at, SK_at, aops_nil, aops_cons, asch_done, asch_one, asch_two, asch_top, astep, aop_eq, isLoud, aloud, aloud1, isWrite, qv, evS, strip, gof, eget, hget, putO, eput, herase, oks, opnds, gS, afin, afin0, binD, arith, D.cells, takeD, fillD, keep, trim, envOf, Fin, aresl, aresv, resD, argOk, pickV, isP, deq, deqs, boundD, slD, lenD, isT, chunks, mn_min, mx_max, D.cells, splice_one, splice_more, Rbr_at, Rfr_at, frR, frV, frC, flatC, brwR, brwV, brwC, omap, leR, leV, leC, leL, leVL, hlt]
def capOf (num den flows total : Int) (x : Load) : Int := if 0 < x.weight then capZ num den flows x.weight total else 0
def sumW (l : List Load) : Int := (l.map Load.weight).sum
def capsOf (l : List Load) (num den flows : Int) : List Int := l.map (capOf num den flows (sumW l))
theorem mayL_mem : ∀ {p : Int} {l : List Load}, mayL p l → ∀ x ∈ l, p < x.backend ∧ x.backend < 12 ∧ 0 ≤ x.weight ∧ x.weight ≤ 8 ∧ 0 ≤ x.flows ∧ x.flows ≤ 40
  | _, [], _, x, hx => by cases hx
  | p, y :: t, h, x, hx => by
    rcases List.mem_cons.1 hx with rfl | hx
    · exact h.1
    · have := mayL_mem h.2 x hx
      have := h.1
      omega
theorem sumW_bd : ∀ {l : List Load}, (∀ x ∈ l, 0 ≤ x.weight ∧ x.weight ≤ 8) → 0 ≤ sumW l ∧ sumW l ≤ 8 * l.length
  | [], _ => by simp [sumW]
  | x :: t, h => by
    have h1 := h x (by simp)
    have h2 := sumW_bd (l := t) fun y hy => h y (List.mem_cons_of_mem _ hy)
    simp only [sumW, List.map_cons, List.sum_cons, List.length_cons] at h2 ⊢
    omega
theorem sumW_mem : ∀ {l : List Load}, (∀ x ∈ l, 0 ≤ x.weight ∧ x.weight ≤ 8) → ∀ x ∈ l, x.weight ≤ sumW l
  | [], _, x, hx => by cases hx
  | y :: t, h, x, hx => by
    have h1 := h y (by simp)
    have h2 := sumW_bd (l := t) fun y hy => h y (List.mem_cons_of_mem _ hy)
    simp only [sumW, List.map_cons, List.sum_cons] at h2 ⊢
    rcases List.mem_cons.1 hx with rfl | hx
    · omega
    · have := sumW_mem (l := t) (fun y hy => h y (List.mem_cons_of_mem _ hy)) x hx
      simp only [sumW] at this
      omega
theorem sumW_take (l : List Load) (i : Nat) (h : i < l.length) : sumW (l.take (i + 1)) = sumW (l.take i) + l[i].weight := by
  unfold sumW
  rw [List.take_succ_eq_append_getElem h, List.map_append, List.sum_append]
  simp
theorem set_fill {α β : Type} (f : α → β) (l : List α) (z : β) (i : Nat) (h : i < l.length) : ((l.map f).take i ++ List.replicate (l.length - i) z).set i (f l[i]) = (l.map f).take (i + 1) ++ List.replicate (l.length - (i + 1)) z := by
  have hl : ((l.map f).take i).length = i := by simp; omega
  rw [List.set_append_right _ _ (by omega), hl, Nat.sub_self, show l.length - i = (l.length - (i + 1)) + 1 by omega, List.replicate_succ, List.set_cons_zero, List.take_succ_eq_append_getElem (by simpa using h)]
  simp
theorem keep_fill {α β : Type} (f : α → β) (l : List α) (z : β) (i : Nat) (h : i < l.length) (hz : f l[i] = z) : (l.map f).take i ++ List.replicate (l.length - i) z = (l.map f).take (i + 1) ++ List.replicate (l.length - (i + 1)) z := by
  rw [show l.length - i = (l.length - (i + 1)) + 1 by omega, List.replicate_succ, List.take_succ_eq_append_getElem (by simpa using h)]
  simp [hz]
def capsRes (l : List Load) (num den flows : Int) : List D := if factorB num den = true ∧ 0 ≤ flows ∧ flows ≤ 40 then [.rows 1 ((capsOf l num den flows).map fun c => [I c]), I 0] else [.rows 1 [], I 2]
theorem caps_code : cfun Try.prog [] 43 = some ⟨(.seq (.region 0 [⟨(some 8), (.mov (.k .nil0)), none⟩, ⟨(some 9), (.mov (.k (.int .i64 0))), none⟩]) (.seq (.seq (.region 1 [⟨(some 16), (.mov (.t 0)), none⟩, ⟨(some 17), (.call 55 [(.t 16)]), none⟩, ⟨(some 18), (.not (.t 17)), none⟩]) (.cond 18 (.seq (.region 2 [⟨(some 8), (.mov (.k .nil0)), none⟩, ⟨(some 9), (.mov (.k (.int .i64 6))), none⟩]) .ret) .skip)) (.seq (.seq (.region 3 [⟨(some 19), (.mov (.t 1)), none⟩, ⟨(some 20), (.mov (.t 2)), none⟩, ⟨(some 21), (.call 50 [(.t 19), (.t 20)]), none⟩, ⟨(some 22), (.not (.t 21)), none⟩, ⟨(some 23), (.mov (.t 22)), none⟩, ⟨(some 24), (.mov (.t 3)), (some (23, false))⟩, ⟨(some 25), (.bin .lss (.t 24) (.k (.int .i64 0))), (some (23, false))⟩, ⟨(some 26), (.pick (.t 23) (.k (.bool true)) (.t 25)), none⟩, ⟨(some 27), (.mov (.t 26)), none⟩, ⟨(some 28), (.mov (.t 3)), (some (27, false))⟩, ⟨(some 29), (.bin .gtr (.t 28) (.k (.int .i64 40))), (some (27, false))⟩, ⟨(some 30), (.pick (.t 27) (.k (.bool true)) (.t 29)), none⟩]) (.cond 30 (.seq (.region 4 [⟨(some 8), (.mov (.k .nil0)), none⟩, ⟨(some 9), (.mov (.k (.int .i64 2))), none⟩]) .ret) .skip)) (.seq (.region 5 [⟨(some 10), (.mov (.k (.int .i64 0))), none⟩]) (.seq (.seq (.region 6 [⟨(some 31), (.mov (.t 0)), none⟩, ⟨(some 32), (.len (.t 31)), none⟩, ⟨(some 33), (.mov (.k (.int .i64 0))), none⟩]) (.block 0 (.loop (.seq (.region 7 [⟨(some 34), (.bin .lss (.t 33) (.t 32)), none⟩]) (.seq (.cond 34 .skip (.exit 0)) (.seq (.block 1 (.seq (.region 8 [⟨(some 35), (.iads 3 (.t 31) (.t 33)), none⟩, ⟨(some 36), (.load true 3 (.t 35)), none⟩, ⟨(some 12), (.alloc [(.int .i64 0), (.int .i64 0), (.int .i64 0)]), none⟩, ⟨none, (.store 3 (.t 12) (.t 36)), none⟩]) (.region 9 [⟨(some 37), (.mov (.t 10)), none⟩, ⟨(some 38), (.fad 1 (.t 12)), none⟩, ⟨(some 39), (.load false 1 (.t 38)), none⟩, ⟨(some 40), (.bin .add (.t 37) (.t 39)), none⟩, ⟨(some 10), (.mov (.t 40)), none⟩]))) (.region 10 [⟨(some 41), (.bin .add (.t 33) (.k (.int .i64 1))), none⟩, ⟨(some 33), (.mov (.t 41)), none⟩]))))))) (.seq (.region 11 [⟨(some 42), (.mov (.t 0)), none⟩, ⟨(some 43), (.len (.t 42)), none⟩, ⟨(some 44), (.mks 1 8 [(.int .i64 0)] (.t 43) (.t 43)), none⟩, ⟨(some 13), (.mov (.t 44)), none⟩]) (.seq (.seq (.region 12 [⟨(some 45), (.mov (.t 0)), none⟩, ⟨(some 46), (.len (.t 45)), none⟩, ⟨(some 47), (.mov (.k (.int .i64 0))), none⟩]) (.block 2 (.loop (.seq (.region 13 [⟨(some 48), (.bin .lss (.t 47) (.t 46)), none⟩]) (.seq (.cond 48 .skip (.exit 2)) (.seq (.block 3 (.seq (.region 14 [⟨(some 49), (.mov (.t 47)), none⟩, ⟨(some 50), (.iads 3 (.t 45) (.t 47)), none⟩, ⟨(some 51), (.load true 3 (.t 50)), none⟩, ⟨(some 15), (.alloc [(.int .i64 0), (.int .i64 0), (.int .i64 0)]), none⟩, ⟨(some 14), (.mov (.t 49)), none⟩, ⟨none, (.store 3 (.t 15) (.t 51)), none⟩]) (.seq (.region 15 [⟨(some 52), (.fad 1 (.t 15)), none⟩, ⟨(some 53), (.load false 1 (.t 52)), none⟩, ⟨(some 54), (.bin .gtr (.t 53) (.k (.int .i64 0))), none⟩]) (.cond 54 (.region 16 [⟨(some 56), (.mov (.t 13)), none⟩, ⟨(some 57), (.mov (.t 14)), none⟩, ⟨(some 58), (.mov (.t 1)), none⟩, ⟨(some 59), (.mov (.t 2)), none⟩, ⟨(some 60), (.mov (.t 3)), none⟩, ⟨(some 61), (.fad 1 (.t 15)), none⟩, ⟨(some 62), (.load false 1 (.t 61)), none⟩, ⟨(some 63), (.mov (.t 10)), none⟩, ⟨(some 64), (.call 29 [(.t 58), (.t 59), (.t 60), (.t 62), (.t 63)]), none⟩, ⟨(some 55), (.mov (.t 64)), none⟩, ⟨(some 65), (.ext (.t 55) 0), none⟩, ⟨(some 66), (.ext (.t 55) 1), none⟩, ⟨(some 67), (.iads 1 (.t 56) (.t 57)), none⟩, ⟨none, (.store 1 (.t 67) (.t 65)), none⟩]) .skip)))) (.region 17 [⟨(some 68), (.bin .add (.t 47) (.k (.int .i64 1))), none⟩, ⟨(some 47), (.mov (.t 68)), none⟩]))))))) (.seq (.region 18 [⟨(some 69), (.mov (.t 13)), none⟩, ⟨(some 8), (.mov (.t 69)), none⟩, ⟨(some 9), (.mov (.k (.int .i64 0))), none⟩]) .ret)))))))), [(.t 8), (.t 9)], 70⟩ := by kernel_rfl
theorem caps_pfn (l : List Load) (num den flows : Int) (h12 : l.length ≤ 12) (hl : mayL (-1) l) : PFn Try.prog 43 [.rows 3 (l.map Load.D), I num, I den, I flows] (.tup (capsRes l num den flows)) := by
  have hmem := mayL_mem hl
  have hw : ∀ x ∈ l, 0 ≤ x.weight ∧ x.weight ≤ 8 := fun x hx => by have := hmem x hx; omega
  refine PFn.of follows_ok caps_code (by simp) (by simp [argOk]) (by simp [noV, noC]) fun B hBN hB0 => acode_sound [0, 1, 2, 3, 8, 9, 10, 12, 13, 14, 15, 18, 30, 31, 32, 33, 34, 45, 46, 47, 48, 54] [] _ _ _ ?_
  simp [AK_at, acode_seq, acode_region, acode_draw, acode_cond, ↓CB_t, ↓CB_f, CB_u, acode_block, acode_loop, acode_exit, acode_scope, acode_ret, acode_skip, seqQ_n, seqQ_e, seqQ_r, blockQ_n, blockQ_e, blockQ_r, TK_at, OK_at, SK_at, aops_nil, aops_cons, asch_done, asch_one, asch_two, asch_top, astep, aop_eq, isLoud, aloud, aloud1, isWrite, qv, evS, strip, gof, eget, hget, putO, eput, herase, oks, opnds, gS, afin, afin0, binD, arith, D.cells, takeD, fillD, keep, trim, envOf, Fin, aresl, aresv, resD, argOk, pickV, isP, deq, deqs, boundD, slD, lenD, isT, chunks, mn_min, mx_max, D.cells, splice_one, splice_more, Rbr_at, Rfr_at, frR, frV, frC, flatC, brwR, brwV, brwC, omap, leR, leV, leC, leL, leVL]
  refine WCall.pf (may_pf l h12 hl) (by simp [oks, opnds, gS, gof, eget]) (by simp [omap, brwV, brwC, evS, eget, strip, hget, leVL, leV, leC, leL]) (by simp [noV, noC, flatR, flatV, flatC, evS, eget, strip]) ?_
  simp [AK_at, acode_seq, acode_region, acode_draw, acode_cond, ↓CB_t, ↓CB_f, CB_u, acode_block, acode_loop, acode_exit, acode_scope, acode_ret, acode_skip, seqQ_n, seqQ_e, seqQ_r, blockQ_n, blockQ_e, blockQ_r, TK_at, OK_at, SK_at, aops_nil, aops_cons, asch_done, asch_one, asch_two, asch_top, astep, aop_eq, isLoud, aloud, aloud1, isWrite, qv, evS, strip, gof, eget, hget, putO, eput, herase, oks, opnds, gS, afin, afin0, binD, arith, D.cells, takeD, fillD, keep, trim, envOf, Fin, aresl, aresv, resD, argOk, pickV, isP, deq, deqs, boundD, slD, lenD, isT, chunks, mn_min, mx_max, D.cells, splice_one, splice_more, Rbr_at, Rfr_at, frR, frV, frC, flatC, brwR, brwV, brwC, omap, leR, leV, leC, leL, leVL]
  refine WCall.pf (factor_pf num den) (by simp [oks, opnds, gS, gof, eget]) (by simp [omap, brwV, brwC, evS, eget, strip, hget, leVL, leV, leC, leL]) (by simp [noV, noC, flatR, flatV, flatC, evS, eget, strip]) ?_
  by_cases hf : factorB num den = true ∧ 0 ≤ flows ∧ flows ≤ 40
  case neg =>
    by_cases h1 : factorB num den = true
    · by_cases h2 : flows < 0
      · have h4 : ¬ (0 ≤ flows ∧ flows ≤ 40) := by omega
        simp [AK_at, acode_seq, acode_region, acode_draw, acode_cond, ↓CB_t, ↓CB_f, CB_u, acode_block, acode_loop, acode_exit, acode_scope, acode_ret, acode_skip, seqQ_n, seqQ_e, seqQ_r, blockQ_n, blockQ_e, blockQ_r, TK_at, OK_at, SK_at, aops_nil, aops_cons, asch_done, asch_one, asch_two, asch_top, astep, aop_eq, isLoud, aloud, aloud1, isWrite, qv, evS, strip, gof, eget, hget, putO, eput, herase, oks, opnds, gS, afin, afin0, binD, arith, D.cells, takeD, fillD, keep, trim, envOf, Fin, aresl, aresv, resD, argOk, pickV, isP, deq, deqs, boundD, slD, lenD, isT, chunks, mn_min, mx_max, D.cells, splice_one, splice_more, Rbr_at, Rfr_at, frR, frV, frC, flatC, brwR, brwV, brwC, omap, leR, leV, leC, leL, leVL, h1, h2, capsRes, h4]
      · have h3 : 40 < flows := by have := hf; simp only [h1, true_and] at this; omega
        have h4 : ¬ (0 ≤ flows ∧ flows ≤ 40) := by omega
        simp [AK_at, acode_seq, acode_region, acode_draw, acode_cond, ↓CB_t, ↓CB_f, CB_u, acode_block, acode_loop, acode_exit, acode_scope, acode_ret, acode_skip, seqQ_n, seqQ_e, seqQ_r, blockQ_n, blockQ_e, blockQ_r, TK_at, OK_at, SK_at, aops_nil, aops_cons, asch_done, asch_one, asch_two, asch_top, astep, aop_eq, isLoud, aloud, aloud1, isWrite, qv, evS, strip, gof, eget, hget, putO, eput, herase, oks, opnds, gS, afin, afin0, binD, arith, D.cells, takeD, fillD, keep, trim, envOf, Fin, aresl, aresv, resD, argOk, pickV, isP, deq, deqs, boundD, slD, lenD, isT, chunks, mn_min, mx_max, D.cells, splice_one, splice_more, Rbr_at, Rfr_at, frR, frV, frC, flatC, brwR, brwV, brwC, omap, leR, leV, leC, leL, leVL, h1, h2, h3, capsRes, h4]
    · simp [AK_at, acode_seq, acode_region, acode_draw, acode_cond, ↓CB_t, ↓CB_f, CB_u, acode_block, acode_loop, acode_exit, acode_scope, acode_ret, acode_skip, seqQ_n, seqQ_e, seqQ_r, blockQ_n, blockQ_e, blockQ_r, TK_at, OK_at, SK_at, aops_nil, aops_cons, asch_done, asch_one, asch_two, asch_top, astep, aop_eq, isLoud, aloud, aloud1, isWrite, qv, evS, strip, gof, eget, hget, putO, eput, herase, oks, opnds, gS, afin, afin0, binD, arith, D.cells, takeD, fillD, keep, trim, envOf, Fin, aresl, aresv, resD, argOk, pickV, isP, deq, deqs, boundD, slD, lenD, isT, chunks, mn_min, mx_max, D.cells, splice_one, splice_more, Rbr_at, Rfr_at, frR, frV, frC, flatC, brwR, brwV, brwC, omap, leR, leV, leC, leL, leVL, h1, capsRes, hf]
  obtain ⟨hf1, hf2, hf3⟩ := hf
  have g1 : ¬ flows < 0 := by omega
  have g2 : ¬ 40 < flows := by omega
  simp [AK_at, acode_seq, acode_region, acode_draw, acode_cond, ↓CB_t, ↓CB_f, CB_u, acode_block, acode_loop, acode_exit, acode_scope, acode_ret, acode_skip, seqQ_n, seqQ_e, seqQ_r, blockQ_n, blockQ_e, blockQ_r, TK_at, OK_at, SK_at, aops_nil, aops_cons, asch_done, asch_one, asch_two, asch_top, astep, aop_eq, isLoud, aloud, aloud1, isWrite, qv, evS, strip, gof, eget, hget, putO, eput, herase, oks, opnds, gS, afin, afin0, binD, arith, D.cells, takeD, fillD, keep, trim, envOf, Fin, aresl, aresv, resD, argOk, pickV, isP, deq, deqs, boundD, slD, lenD, isT, chunks, mn_min, mx_max, D.cells, splice_one, splice_more, Rbr_at, Rfr_at, frR, frV, frC, flatC, brwR, brwV, brwC, omap, leR, leV, leC, leL, leVL, hf1, g1, g2]
  refine W.loopS (fun i : Nat => ⟨[(33, I i), (32, I l.length), (31, D.rows 3 (l.map Load.D)), (10, I (sumW (l.take i))), (9, I 0), (8, .nil0), (3, I flows), (2, I den), (1, I num), (0, D.rows 3 (l.map Load.D))], [], 0⟩)
    (fun n i => n = l.length - i ∧ i ≤ l.length) ?_ ?_
  · exact ⟨_, 0, (Gh.ren [] (by simp [hB0]) (by simp [hB0]) (by simp [eget, rnS, rnR, rnV, rnC, LtS, LtR, LtV, LtC, lget, sumW]) (by simp [hget, rnO, rnC, LtO, LtC, lget, sumW]) (.inr rfl)), rfl, by simp⟩
  · rintro n i ⟨hn, hi⟩
    refine acode_sound [0, 1, 2, 3, 8, 9, 10, 12, 13, 14, 15, 18, 30, 31, 32, 33, 34, 45, 46, 47, 48, 54] [] _ _ _ ?_
    by_cases hlt : i < l.length
    · obtain ⟨x, hx⟩ : ∃ x, x = l[i] := ⟨_, rfl⟩
      have hxm : x ∈ l := hx ▸ List.getElem_mem hlt
      have hb := hw x hxm
      have hs := sumW_take l i hlt
      have hsb := sumW_bd (l := l.take i) fun y hy => hw y (List.mem_of_mem_take hy)
      have hll : (l.take i).length ≤ 12 := by simp; omega
      have hi1 : InR ((i : Int) + 1) := inr (by omega) (by omega)
      have hi2 : InR (sumW (l.take i) + x.weight) := inr (by omega) (by omega)
      simp [AK_at, acode_seq, acode_region, acode_draw, acode_cond, ↓CB_t, ↓CB_f, CB_u, acode_block, acode_loop, acode_exit, acode_scope, acode_ret, acode_skip, seqQ_n, seqQ_e, seqQ_r, blockQ_n, blockQ_e, blockQ_r, TK_at, OK_at, SK_at, aops_nil, aops_cons, asch_done, asch_one, asch_two, asch_top, astep, aop_eq, isLoud, aloud, aloud1, isWrite, qv, evS, strip, gof, eget, hget, putO, eput, herase, oks, opnds, gS, afin, afin0, binD, arith, D.cells, takeD, fillD, keep, trim, envOf, Fin, aresl, aresv, resD, argOk, pickV, isP, deq, deqs, boundD, slD, lenD, isT, chunks, mn_min, mx_max, D.cells, splice_one, splice_more, hlt, ← hx, Load.D, hi1, hi2]
      exact ⟨_, i + 1, (Gh.ren [] (by simp [hB0]) (by simp [hB0]) (by simp [eget, rnS, rnR, rnV, rnC, LtS, LtR, LtV, LtC, lget, Load.D, hs, ← hx]) (by simp [hget, rnO, rnC, LtO, LtC, lget, Load.D, hs, ← hx]) (.inr rfl)), by omega, rfl, by omega⟩
    · have hie : i = l.length := by omega
      subst hie
      simp [AK_at, acode_seq, acode_region, acode_draw, acode_cond, ↓CB_t, ↓CB_f, CB_u, acode_block, acode_loop, acode_exit, acode_scope, acode_ret, acode_skip, seqQ_n, seqQ_e, seqQ_r, blockQ_n, blockQ_e, blockQ_r, TK_at, OK_at, SK_at, aops_nil, aops_cons, asch_done, asch_one, asch_two, asch_top, astep, aop_eq, isLoud, aloud, aloud1, isWrite, qv, evS, strip, gof, eget, hget, putO, eput, herase, oks, opnds, gS, afin, afin0, binD, arith, D.cells, takeD, fillD, keep, trim, envOf, Fin, aresl, aresv, resD, argOk, pickV, isP, deq, deqs, boundD, slD, lenD, isT, chunks, mn_min, mx_max, D.cells, splice_one, splice_more, Rbr_at, Rfr_at, frR, frV, frC, flatC, brwR, brwV, brwC, omap, leR, leV, leC, leL, leVL]
      have hk : (8 : Int) * l.length ≤ 281474976710656 := by omega
      refine ⟨⟨by omega, by omega⟩, ?_⟩
      refine W.loopS (fun y : Nat × List Int => ⟨[(47, I y.1), (46, I l.length), (45, D.rows 3 (l.map Load.D)), (13, .own 0), (10, I (sumW l)), (9, I 0), (8, .nil0), (3, I flows), (2, I den), (1, I num), (0, D.rows 3 (l.map Load.D))], [(0, .row 1 (y.2.map fun c => [I c]))], 1⟩)
        (fun n y => n = l.length - y.1 ∧ y.1 ≤ l.length ∧ y.2 = (l.map (capOf num den flows (sumW l))).take y.1 ++ List.replicate (l.length - y.1) 0) ?_ ?_
      · exact ⟨_, (0, List.replicate l.length 0), (Gh.ren [] (by simp [hB0]) (by simp [hB0]) (by simp [eget, rnS, rnR, rnV, rnC, LtS, LtR, LtV, LtC, lget]) (by simp [hget, rnO, rnC, LtO, LtC, lget]) (.inr rfl)), rfl, by simp, by simp⟩
      · rintro n ⟨i, cs⟩ ⟨hn, hi, hcs⟩
        simp only at hn hi hcs
        refine acode_sound [0, 1, 2, 3, 8, 9, 10, 12, 13, 14, 15, 18, 30, 31, 32, 33, 34, 45, 46, 47, 48, 54] [] _ _ _ ?_
        by_cases hlt : i < l.length
        · obtain ⟨x, hx⟩ : ∃ x, x = l[i] := ⟨_, rfl⟩
          have hxm : x ∈ l := hx ▸ List.getElem_mem hlt
          have hb := hw x hxm
          have hsm := sumW_mem hw x hxm
          have hsb := sumW_bd hw
          have hcl : cs.length = l.length := by rw [hcs]; simp; omega
          have hlt2 : i < cs.length := by omega
          have hi1 : InR ((i : Int) + 1) := inr (by omega) (by omega)
          by_cases hw0 : 0 < x.weight
          · simp [AK_at, acode_seq, acode_region, acode_draw, acode_cond, ↓CB_t, ↓CB_f, CB_u, acode_block, acode_loop, acode_exit, acode_scope, acode_ret, acode_skip, seqQ_n, seqQ_e, seqQ_r, blockQ_n, blockQ_e, blockQ_r, TK_at, OK_at, SK_at, aops_nil, aops_cons, asch_done, asch_one, asch_two, asch_top, astep, aop_eq, isLoud, aloud, aloud1, isWrite, qv, evS, strip, gof, eget, hget, putO, eput, herase, oks, opnds, gS, afin, afin0, binD, arith, D.cells, takeD, fillD, keep, trim, envOf, Fin, aresl, aresv, resD, argOk, pickV, isP, deq, deqs, boundD, slD, lenD, isT, chunks, mn_min, mx_max, D.cells, splice_one, splice_more, Rbr_at, Rfr_at, frR, frV, frC, flatC, brwR, brwV, brwC, omap, leR, leV, leC, leL, leVL, hlt, ← hx, Load.D, hw0]
            refine WCall.pf (cap_pf num den flows x.weight (sumW l) hf1 hf2 hf3 (by omega) hsm (by omega)) (by simp [oks, opnds, gS, gof, eget]) (by simp [omap, brwV, brwC, evS, eget, strip, hget, leVL, leV, leC, leL, Load.D]) (by simp [noV, noC, flatR, flatV, flatC, evS, eget, strip, Load.D]) ?_
            simp [AK_at, acode_seq, acode_region, acode_draw, acode_cond, ↓CB_t, ↓CB_f, CB_u, acode_block, acode_loop, acode_exit, acode_scope, acode_ret, acode_skip, seqQ_n, seqQ_e, seqQ_r, blockQ_n, blockQ_e, blockQ_r, TK_at, OK_at, SK_at, aops_nil, aops_cons, asch_done, asch_one, asch_two, asch_top, astep, aop_eq, isLoud, aloud, aloud1, isWrite, qv, evS, strip, gof, eget, hget, putO, eput, herase, oks, opnds, gS, afin, afin0, binD, arith, D.cells, takeD, fillD, keep, trim, envOf, Fin, aresl, aresv, resD, argOk, pickV, isP, deq, deqs, boundD, slD, lenD, isT, chunks, mn_min, mx_max, D.cells, splice_one, splice_more, Rbr_at, Rfr_at, frR, frV, frC, flatC, brwR, brwV, brwC, omap, leR, leV, leC, leL, leVL, hlt, hlt2, hi1]
            refine ⟨_, (i + 1, cs.set i (capZ num den flows x.weight (sumW l))), (Gh.ren [] (by simp [hB0]) (by simp [hB0]) (by simp [eget, rnS, rnR, rnV, rnC, LtS, LtR, LtV, LtC, lget, Load.D, List.map_set]) (by simp [hget, rnO, rnC, LtO, LtC, lget, Load.D, List.map_set]) (.inr rfl)), by omega, rfl, by omega, ?_⟩
            have := set_fill (capOf num den flows (sumW l)) l 0 i hlt
            rw [← hx] at this
            simp only [hcs, ← this]
            simp [capOf, hw0]
          · simp [AK_at, acode_seq, acode_region, acode_draw, acode_cond, ↓CB_t, ↓CB_f, CB_u, acode_block, acode_loop, acode_exit, acode_scope, acode_ret, acode_skip, seqQ_n, seqQ_e, seqQ_r, blockQ_n, blockQ_e, blockQ_r, TK_at, OK_at, SK_at, aops_nil, aops_cons, asch_done, asch_one, asch_two, asch_top, astep, aop_eq, isLoud, aloud, aloud1, isWrite, qv, evS, strip, gof, eget, hget, putO, eput, herase, oks, opnds, gS, afin, afin0, binD, arith, D.cells, takeD, fillD, keep, trim, envOf, Fin, aresl, aresv, resD, argOk, pickV, isP, deq, deqs, boundD, slD, lenD, isT, chunks, mn_min, mx_max, D.cells, splice_one, splice_more, Rbr_at, Rfr_at, frR, frV, frC, flatC, brwR, brwV, brwC, omap, leR, leV, leC, leL, leVL, hlt, ← hx, Load.D, hw0, hi1]
            refine ⟨_, (i + 1, cs), (Gh.ren [] (by simp [hB0]) (by simp [hB0]) (by simp [eget, rnS, rnR, rnV, rnC, LtS, LtR, LtV, LtC, lget, Load.D]) (by simp [hget, rnO, rnC, LtO, LtC, lget, Load.D]) (.inr rfl)), by omega, rfl, by omega, ?_⟩
            have := keep_fill (capOf num den flows (sumW l)) l 0 i hlt (by rw [← hx]; simp [capOf, hw0])
            simp only [hcs, this]
        · have hie : i = l.length := by omega
          subst hie
          rw [List.take_of_length_le (by simp)] at hcs
          simp [AK_at, acode_seq, acode_region, acode_draw, acode_cond, ↓CB_t, ↓CB_f, CB_u, acode_block, acode_loop, acode_exit, acode_scope, acode_ret, acode_skip, seqQ_n, seqQ_e, seqQ_r, blockQ_n, blockQ_e, blockQ_r, TK_at, OK_at, SK_at, aops_nil, aops_cons, asch_done, asch_one, asch_two, asch_top, astep, aop_eq, isLoud, aloud, aloud1, isWrite, qv, evS, strip, gof, eget, hget, putO, eput, herase, oks, opnds, gS, afin, afin0, binD, arith, D.cells, takeD, fillD, keep, trim, envOf, Fin, aresl, aresv, resD, argOk, pickV, isP, deq, deqs, boundD, slD, lenD, isT, chunks, mn_min, mx_max, D.cells, splice_one, splice_more, Rbr_at, Rfr_at, frR, frV, frC, flatC, brwR, brwV, brwC, omap, leR, leV, leC, leL, leVL, hlt, capsRes, hf1, hf2, hf3, hcs, capsOf]
theorem caps_pf (l : List Load) (num den flows : Int) (h12 : l.length ≤ 12) (hl : mayL (-1) l) : PF Try.prog 43 [.rows 3 (l.map Load.D), I num, I den, I flows] (.tup (capsRes l num den flows)) := (caps_pfn l num den flows h12 hl).pf
end Go.Proofs.Ytgjngknkokgpjaa
