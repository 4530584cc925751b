/- This text holds, one behind the other, the texts that say what the program computes, step by step, and the rules that they need. They have no condition of their own. -/
import Derived.Test.YtajimebannjofaaMf
set_option linter.unusedSimpArgs false
set_option linter.unusedVariables false
set_option maxRecDepth 100000
set_option maxHeartbeats 4000000
namespace Go.Proofs.Ytajimebannjofaa
open Go.RowKit
def isD (b : Nat) (t : Int × Int) : Bool := decide (t.2 = (b : Int))
def cntT (G : List (Int × Int)) : List Int := (List.range 20).map fun b => ((G.countP (isD b) : Nat) : Int)
theorem cntT_len (G : List (Int × Int)) : (cntT G).length = 20 := by simp [cntT]
theorem cntT_get (G : List (Int × Int)) (b : Nat) (h : b < 20) : (cntT G)[b]? = some ((G.countP (isD b) : Nat) : Int) := by simp [cntT, List.getElem?_range, h]
theorem cntT_snoc (G : List (Int × Int)) (o : Int × Int) (b : Nat) (hb : o.2 = b) (h : b < 20) : cntT (G ++ [o]) = (cntT G).set b (((G.countP (isD b) : Nat) : Int) + 1) := by
  apply List.ext_getElem?
  intro j
  unfold cntT
  rw [List.getElem?_set, List.getElem?_map, List.getElem?_map]
  by_cases hj : j < 20
  · rw [List.getElem?_range hj]
    by_cases e : b = j
    · subst e
      simp [hj, isD, hb]
    · have : ¬ o.2 = (j : Int) := by omega
      simp [e, isD, this]
  · rw [List.getElem?_eq_none (by simp; omega)]
    simp; omega
theorem cntT_perm {G G' : List (Int × Int)} (h : G.Perm G') : cntT G = cntT G' := by
  unfold cntT
  exact List.map_congr_left fun b _ => by rw [h.countP_eq]
theorem cnt_one {tm : List (Int × Int)} (hid : (tm.map (·.2)).Nodup) (b : Nat) : tm.countP (isD b) = if 0 < tm.countP (isD b) then 1 else 0 := by
  by_cases h : 0 < tm.countP (isD b)
  · rw [if_pos h]
    obtain ⟨t, ht, h2⟩ := List.countP_pos_iff.1 h
    have h2 : t.2 = (b : Int) := by simpa [isD] using h2
    have : tm.countP (isD b) = (tm.map (·.2)).count (b : Int) := by
      rw [List.count, List.countP_map]
      refine List.countP_congr fun x _ => ?_
      simp [isD]
    rw [this]
    have h4 : (tm.map (·.2)).count (b : Int) ≤ 1 := List.nodup_iff_count.1 hid _
    omega
  · rw [if_neg h]; omega
theorem lrT_get (v : Int) (T : List (Int × Int)) (i : Nat) (h25 : i < 25) (h : i < (lrT v T).length) : (lrT v T)[i] = [.rows 2 ((T.filter fun t => decide (plN v t = i)).map tmE)] := by
  unfold lrT lsR byP
  simp
theorem byP_flat (v : Int) (T : List (Int × Int)) : ((byP T (plN v)).flatten).Perm T := by
  have hp : ((byP T (plN v)).flatten).Perm (T.filter fun t => decide (plN v t ∈ List.range 25)) := byP_perm T (plN v) (List.range 25) List.nodup_range
  rwa [List.filter_eq_self.2 fun t _ => by simpa using plN_lt v t] at hp
theorem whold_code : cfun Try.prog [] 6 = some ⟨(.seq (.region 0 [⟨(some 6), (.mov (.k (.bool false))), none⟩]) (.seq (.region 1 [⟨(some 20), (.mov (.t 0)), none⟩, ⟨(some 21), (.mov (.t 1)), none⟩, ⟨(some 22), (.call 10 [(.t 20), (.t 21)]), none⟩, ⟨(some 19), (.mov (.t 22)), none⟩, ⟨(some 23), (.ext (.t 19) 0), none⟩, ⟨(some 24), (.ext (.t 19) 1), none⟩, ⟨(some 25), (.ext (.t 19) 2), none⟩, ⟨(some 7), (.alloc [(.int .i64 0), .nil0]), none⟩, ⟨(some 8), (.alloc [(.int .i64 0), (.int .i64 0), (.int .i64 0), (.int .i64 0), (.int .i64 0), (.int .i64 0), (.int .i64 0), (.int .i64 0), (.int .i64 0), (.int .i64 0), (.int .i64 0), (.int .i64 0), (.int .i64 0), (.int .i64 0), (.int .i64 0), (.int .i64 0), (.int .i64 0), (.int .i64 0), (.int .i64 0), (.int .i64 0)]), none⟩, ⟨none, (.store 2 (.t 7) (.t 23)), none⟩, ⟨none, (.store 20 (.t 8) (.t 24)), none⟩, ⟨(some 9), (.mov (.t 25)), none⟩]) (.seq (.seq (.region 2 [⟨(some 10), (.mov (.k (.int .i64 0))), none⟩]) (.block 0 (.loop (.seq (.seq (.region 3 [⟨(some 26), (.mov (.t 10)), none⟩, ⟨(some 27), (.mov (.t 2)), none⟩, ⟨(some 28), (.call 11 [(.t 27), (.k (.int .i64 300))]), none⟩, ⟨(some 29), (.bin .lss (.t 26) (.t 28)), none⟩, ⟨(some 30), (.mov (.t 29)), none⟩, ⟨(some 31), (.mov (.t 9)), (some (30, true))⟩, ⟨(some 32), (.pick (.t 30) (.t 31) (.k (.bool false))), none⟩]) (.cond 32 .skip (.exit 0))) (.seq (.block 1 (.seq (.region 5 [⟨(some 36), (.load true 2 (.t 7)), none⟩, ⟨(some 37), (.call 15 [(.t 36)]), none⟩, ⟨(some 35), (.mov (.t 37)), none⟩, ⟨(some 38), (.ext (.t 35) 0), none⟩, ⟨(some 39), (.ext (.t 35) 1), none⟩, ⟨(some 40), (.ext (.t 35) 2), none⟩, ⟨(some 11), (.alloc [(.int .i64 0), .nil0]), none⟩, ⟨none, (.store 2 (.t 11) (.t 38)), none⟩, ⟨(some 12), (.mov (.t 39)), none⟩, ⟨(some 13), (.mov (.t 40)), none⟩]) (.seq (.seq (.region 6 [⟨(some 41), (.mov (.t 13)), none⟩, ⟨(some 42), (.bin .neq (.t 41) (.k (.int .i64 0))), none⟩]) (.cond 42 (.seq (.region 7 [⟨(some 6), (.mov (.k (.bool false))), none⟩]) .ret) .skip)) (.region 8 [⟨(some 43), (.load true 2 (.t 11)), none⟩, ⟨none, (.store 2 (.t 7) (.t 43)), none⟩])))) (.region 4 [⟨(some 33), (.mov (.t 10)), none⟩, ⟨(some 34), (.bin .add (.t 33) (.k (.int .i64 1))), none⟩, ⟨(some 10), (.mov (.t 34)), none⟩])))))) (.seq (.region 9 [⟨(some 14), (.alloc [(.int .i64 0), (.int .i64 0), (.int .i64 0), (.int .i64 0), (.int .i64 0), (.int .i64 0), (.int .i64 0), (.int .i64 0), (.int .i64 0), (.int .i64 0), (.int .i64 0), (.int .i64 0), (.int .i64 0), (.int .i64 0), (.int .i64 0), (.int .i64 0), (.int .i64 0), (.int .i64 0), (.int .i64 0), (.int .i64 0)]), none⟩]) (.seq (.seq (.region 10 [⟨(some 15), (.mov (.k (.int .i64 0))), none⟩]) (.block 2 (.loop (.seq (.seq (.region 11 [⟨(some 44), (.mov (.t 15)), none⟩, ⟨(some 45), (.fad 1 (.t 7)), none⟩, ⟨(some 46), (.load false 1 (.t 45)), none⟩, ⟨(some 47), (.len (.t 46)), none⟩, ⟨(some 48), (.bin .lss (.t 44) (.t 47)), none⟩]) (.cond 48 .skip (.exit 2))) (.seq (.block 3 (.seq (.region 13 [⟨(some 16), (.mov (.k (.int .i64 0))), none⟩]) (.block 4 (.loop (.seq (.seq (.region 14 [⟨(some 51), (.mov (.t 16)), none⟩, ⟨(some 52), (.fad 1 (.t 7)), none⟩, ⟨(some 53), (.load false 1 (.t 52)), none⟩, ⟨(some 54), (.mov (.t 15)), none⟩, ⟨(some 55), (.iads 1 (.t 53) (.t 54)), none⟩, ⟨(some 56), (.load false 1 (.t 55)), none⟩, ⟨(some 57), (.len (.t 56)), none⟩, ⟨(some 58), (.bin .lss (.t 51) (.t 57)), none⟩]) (.cond 58 .skip (.exit 4))) (.seq (.block 5 (.seq (.region 16 [⟨(some 61), (.fad 1 (.t 7)), none⟩, ⟨(some 62), (.load false 1 (.t 61)), none⟩, ⟨(some 63), (.mov (.t 15)), none⟩, ⟨(some 64), (.iads 1 (.t 62) (.t 63)), none⟩, ⟨(some 65), (.load false 1 (.t 64)), none⟩, ⟨(some 66), (.mov (.t 16)), none⟩, ⟨(some 67), (.iads 2 (.t 65) (.t 66)), none⟩, ⟨(some 68), (.load true 2 (.t 67)), none⟩, ⟨(some 17), (.alloc [(.int .i64 0), (.int .i64 0)]), none⟩, ⟨none, (.store 2 (.t 17) (.t 68)), none⟩]) (.seq (.seq (.draw 17 (.one true ⟨(some 69), (.fad 1 (.t 17)), none⟩ (.one true ⟨(some 70), (.load false 1 (.t 69)), none⟩ (.one true ⟨(some 71), (.bin .lss (.t 70) (.k (.int .i64 0))), none⟩ (.one true ⟨(some 72), (.mov (.t 71)), none⟩ (.one true ⟨(some 73), (.fad 1 (.t 17)), (some (72, false))⟩ (.one true ⟨(some 74), (.load false 1 (.t 73)), (some (72, false))⟩ (.one true ⟨(some 75), (.bin .geq (.t 74) (.k (.int .i64 20))), (some (72, false))⟩ (.one true ⟨(some 76), (.pick (.t 72) (.k (.bool true)) (.t 75)), none⟩ (.one true ⟨(some 77), (.mov (.t 76)), none⟩ (.one true ⟨(some 78), (.fad 0 (.t 17)), (some (77, false))⟩ (.one true ⟨(some 79), (.load false 1 (.t 78)), (some (77, false))⟩ (.one true ⟨(some 80), (.fad 1 (.t 17)), (some (77, false))⟩ (.one true ⟨(some 81), (.load false 1 (.t 80)), (some (77, false))⟩ (.one true ⟨(some 82), (.iada 20 1 (.t 8) (.t 81)), (some (77, false))⟩ (.one true ⟨(some 83), (.load false 1 (.t 82)), (some (77, false))⟩ (.one true ⟨(some 84), (.bin .neq (.t 79) (.t 83)), (some (77, false))⟩ (.one true ⟨(some 85), (.pick (.t 77) (.k (.bool true)) (.t 84)), none⟩ .done)))))))))))))))))) (.cond 85 (.seq (.region 18 [⟨(some 6), (.mov (.k (.bool false))), none⟩]) .ret) .skip)) (.region 19 [⟨(some 86), (.fad 1 (.t 17)), none⟩, ⟨(some 87), (.load false 1 (.t 86)), none⟩, ⟨(some 88), (.iada 20 1 (.t 14) (.t 87)), none⟩, ⟨(some 89), (.load false 1 (.t 88)), none⟩, ⟨(some 90), (.bin .add (.t 89) (.k (.int .i64 1))), none⟩, ⟨(some 91), (.iada 20 1 (.t 14) (.t 87)), none⟩, ⟨none, (.store 1 (.t 91) (.t 90)), none⟩])))) (.region 15 [⟨(some 59), (.mov (.t 16)), none⟩, ⟨(some 60), (.bin .add (.t 59) (.k (.int .i64 1))), none⟩, ⟨(some 16), (.mov (.t 60)), none⟩]))))))) (.region 12 [⟨(some 49), (.mov (.t 15)), none⟩, ⟨(some 50), (.bin .add (.t 49) (.k (.int .i64 1))), none⟩, ⟨(some 15), (.mov (.t 50)), none⟩])))))) (.seq (.seq (.region 20 [⟨(some 18), (.mov (.k (.int .i64 0))), none⟩]) (.block 6 (.loop (.seq (.seq (.region 21 [⟨(some 92), (.mov (.t 18)), none⟩, ⟨(some 93), (.bin .lss (.t 92) (.k (.int .i64 20))), none⟩]) (.cond 93 .skip (.exit 6))) (.seq (.block 7 (.seq (.draw 23 (.one true ⟨(some 96), (.mov (.t 18)), none⟩ (.one true ⟨(some 97), (.iada 20 1 (.t 8) (.t 96)), none⟩ (.one true ⟨(some 98), (.load false 1 (.t 97)), none⟩ (.one true ⟨(some 99), (.fad 0 (.t 7)), none⟩ (.one true ⟨(some 100), (.load false 1 (.t 99)), none⟩ (.one true ⟨(some 101), (.bin .gtr (.t 98) (.t 100)), none⟩ (.one true ⟨(some 102), (.mov (.t 101)), none⟩ (.one true ⟨(some 103), (.mov (.t 18)), (some (102, true))⟩ (.one true ⟨(some 104), (.iada 20 1 (.t 14) (.t 103)), (some (102, true))⟩ (.one true ⟨(some 105), (.load false 1 (.t 104)), (some (102, true))⟩ (.one true ⟨(some 106), (.bin .neq (.t 105) (.k (.int .i64 1))), (some (102, true))⟩ (.one true ⟨(some 107), (.pick (.t 102) (.t 106) (.k (.bool false))), none⟩ (.one true ⟨(some 108), (.mov (.t 107)), none⟩ (.one true ⟨(some 109), (.mov (.t 18)), (some (108, false))⟩ (.one true ⟨(some 110), (.iada 20 1 (.t 8) (.t 109)), (some (108, false))⟩ (.one true ⟨(some 111), (.load false 1 (.t 110)), (some (108, false))⟩ (.one true ⟨(some 112), (.fad 0 (.t 7)), (some (108, false))⟩ (.one true ⟨(some 113), (.load false 1 (.t 112)), (some (108, false))⟩ (.one true ⟨(some 114), (.bin .leq (.t 111) (.t 113)), (some (108, false))⟩ (.one true ⟨(some 115), (.mov (.t 114)), (some (108, false))⟩ (.one true ⟨(some 116), (.mov (.t 18)), (some (115, true))⟩ (.one true ⟨(some 117), (.iada 20 1 (.t 14) (.t 116)), (some (115, true))⟩ (.one true ⟨(some 118), (.load false 1 (.t 117)), (some (115, true))⟩ (.one true ⟨(some 119), (.bin .neq (.t 118) (.k (.int .i64 0))), (some (115, true))⟩ (.one true ⟨(some 120), (.pick (.t 115) (.t 119) (.k (.bool false))), (some (108, false))⟩ (.one true ⟨(some 121), (.pick (.t 108) (.k (.bool true)) (.t 120)), none⟩ .done))))))))))))))))))))))))))) (.cond 121 (.seq (.region 24 [⟨(some 6), (.mov (.k (.bool false))), none⟩]) .ret) .skip))) (.region 22 [⟨(some 94), (.mov (.t 18)), none⟩, ⟨(some 95), (.bin .add (.t 94) (.k (.int .i64 1))), none⟩, ⟨(some 18), (.mov (.t 95)), none⟩])))))) (.seq (.region 25 [⟨(some 122), (.mov (.t 9)), none⟩, ⟨(some 6), (.mov (.t 122)), none⟩]) .ret))))))), [(.t 6)], 123⟩ := by kernel_rfl
theorem whold_pf (now : Int) (l : List (List Int)) (ticks : Int) (i1 : InR now) (hl : l.length ≤ Go.maxLen) (hr : ∀ r ∈ l, r.length = 2 ∧ ∀ z ∈ r, InR z) (i2 : InR ticks) :
    PF Try.prog 6 [I now, .rows 2 (l.map fun r => r.map I), I ticks] (.bool true) := by
  have harm := warmed_pf now l hl hr i1
  have q0 := pickedZ_range now 3000 (by omega)
  generalize pickedZ now 3000 = n at harm q0
  have hok := arL_ok n l q0.1 (by omega) 40 (by omega)
  generalize arL n l 40 = tm at harm hok
  have p1 := picked_pf ticks 300 i2 (by omega)
  have q1 := pickedZ_range ticks 300 (by omega)
  obtain ⟨P, hP⟩ : ∃ P : Nat, pickedZ ticks 300 = P := ⟨(pickedZ ticks 300).toNat, by omega⟩
  rw [hP] at p1 q1
  have hal := atL_len tm
  have hs0 := spl20 _ hal
  have htw : ((atL tm).map I).take 20 = (atL tm).map I := List.take_of_length_le (by simp [hal])
  have hw := hok.wh
  rw [whM_def] at harm
  refine PF.of follows_ok whold_code (by simp) (by simp [argOk]) (by simp [noV, noC]) fun B hBN hB0 => acode_sound [0, 1, 2, 6, 7, 8, 9, 10, 11, 13, 14, 15, 16, 17, 18, 32, 42, 48, 58, 85, 93, 121] [] _ _ _ ?_
  repeat' (first
    | simp [AK_at, acode_seq, acode_region, acode_draw, acode_cond, ↓CB_t, ↓CB_f, CB_u, acode_block, acode_loop, acode_exit, acode_scope, acode_ret, acode_skip, seqQ_n, seqQ_e, seqQ_r, blockQ_n, blockQ_e, blockQ_r, TK_at, OK_at, SK_at, aops_nil, aops_cons, asch_done, asch_one, asch_two, asch_top, astep, aop_eq, isLoud, aloud, aloud1, isWrite, qv, evS, strip, gof, eget, hget, putO, eput, herase, oks, opnds, gS, afin, afin0, binD, arith, D.cells, takeD, fillD, keep, trim, envOf, Fin, aresl, aresv, resD, argOk, pickV, isP, deq, deqs, boundD, slD, lenD, isT, isSl, ptrIds, chunks, mn_min, mx_max, D.cells, splice_one, splice_more, Rbr_at, Rfr_at, frR, frV, frC, flatC, brwR, brwV, brwC, omap, leR, leV, leC, leL, leVL, hal, hs0, htw]
    | (refine WCall.pf (harm) ?_ ?_ ?_ ?_; (focus (simp [oks, opnds, gS, gof, eget]; done)); (focus (simp [omap, brwV, brwC, evS, eget, strip, hget, leVL, leV, leC, leL, hal, hs0, htw]; done)); (focus (simp [noV, noC, flatR, flatV, flatC, evS, eget, strip, hal, hs0, htw]; done)))
    | (refine ⟨WCall.pf (harm) ?_ ?_ ?_ ?_, ?_⟩; (focus (simp [oks, opnds, gS, gof, eget]; done)); (focus (simp [omap, brwV, brwC, evS, eget, strip, hget, leVL, leV, leC, leL, hal, hs0, htw]; done)); (focus (simp [noV, noC, flatR, flatV, flatC, evS, eget, strip, hal, hs0, htw]; done)))
    | (with_reducible refine And.intro (And.intro ?_ ?_) ?_)
    | fail)
  refine W.loopS (fun k : Nat => ⟨[(10, I k), (9, .bool true), (8, .ptr 1 0), (7, .ptr 0 0), (2, I ticks)], [(1, .cells ((atL tm).map I)), (0, .cells [I (n + k), .rows 1 (lrT (n + k) (tmA tm (n + k)))])], 2⟩)
    (fun m k => m = P - k ∧ k ≤ P) ?_ ?_
  · exact ⟨_, 0, (Gh.ren [0, 1] (by simp [hB0]) (by simp [hB0] <;> decide) (by simp [eget, rnS, rnR, rnV, rnC, LtS, LtR, LtV, LtC, lget, tmA_all hw, rnIw]) (by simp [hget, rnO, rnC, LtO, LtC, lget, tmA_all hw, rnIw]) (.inl (by simp [lget, tmA_all hw, rnIw]))), rfl, by omega⟩
  rintro m k ⟨hm, hk⟩
  refine acode_sound [0, 1, 2, 6, 7, 8, 9, 10, 11, 13, 14, 15, 16, 17, 18, 32, 42, 48, 58, 85, 93, 121] [] _ _ _ ?_
  obtain ⟨v, hv⟩ : ∃ v, n + (k : Int) = v := ⟨_, rfl⟩
  have hwk := tmA_ok hw k (by omega)
  simp only [hv] at hwk ⊢
  by_cases hlt : k < P
  · have hadv := wadv_pf v _ hwk (by omega)
    rw [tmA_succ, tmA_off] at hadv
    change PF _ _ [whM v (tmA tm v)] (.tup [whM (v + 1) (tmA tm (v + 1)), _, _]) at hadv
    rw [whM_def, whM_def] at hadv
    have ik : InR ((k : Int) + 1) := inW (by omega) (by omega)
    repeat' (first
      | simp [AK_at, acode_seq, acode_region, acode_draw, acode_cond, ↓CB_t, ↓CB_f, CB_u, acode_block, acode_loop, acode_exit, acode_scope, acode_ret, acode_skip, seqQ_n, seqQ_e, seqQ_r, blockQ_n, blockQ_e, blockQ_r, TK_at, OK_at, SK_at, aops_nil, aops_cons, asch_done, asch_one, asch_two, asch_top, astep, aop_eq, isLoud, aloud, aloud1, isWrite, qv, evS, strip, gof, eget, hget, putO, eput, herase, oks, opnds, gS, afin, afin0, binD, arith, D.cells, takeD, fillD, keep, trim, envOf, Fin, aresl, aresv, resD, argOk, pickV, isP, deq, deqs, boundD, slD, lenD, isT, isSl, ptrIds, chunks, mn_min, mx_max, D.cells, splice_one, splice_more, Rbr_at, Rfr_at, frR, frV, frC, flatC, brwR, brwV, brwC, omap, leR, leV, leC, leL, leVL, hlt, ik]
      | (refine WCall.pf (p1) ?_ ?_ ?_ ?_; (focus (simp [oks, opnds, gS, gof, eget]; done)); (focus (simp [omap, brwV, brwC, evS, eget, strip, hget, leVL, leV, leC, leL, hlt, ik]; done)); (focus (simp [noV, noC, flatR, flatV, flatC, evS, eget, strip, hlt, ik]; done)))
      | (refine ⟨WCall.pf (p1) ?_ ?_ ?_ ?_, ?_⟩; (focus (simp [oks, opnds, gS, gof, eget]; done)); (focus (simp [omap, brwV, brwC, evS, eget, strip, hget, leVL, leV, leC, leL, hlt, ik]; done)); (focus (simp [noV, noC, flatR, flatV, flatC, evS, eget, strip, hlt, ik]; done)))
      | (refine WCall.pf (hadv) ?_ ?_ ?_ ?_; (focus (simp [oks, opnds, gS, gof, eget]; done)); (focus (simp [omap, brwV, brwC, evS, eget, strip, hget, leVL, leV, leC, leL, hlt, ik]; done)); (focus (simp [noV, noC, flatR, flatV, flatC, evS, eget, strip, hlt, ik]; done)))
      | (refine ⟨WCall.pf (hadv) ?_ ?_ ?_ ?_, ?_⟩; (focus (simp [oks, opnds, gS, gof, eget]; done)); (focus (simp [omap, brwV, brwC, evS, eget, strip, hget, leVL, leV, leC, leL, hlt, ik]; done)); (focus (simp [noV, noC, flatR, flatV, flatC, evS, eget, strip, hlt, ik]; done)))
      | (with_reducible refine And.intro (And.intro ?_ ?_) ?_)
      | fail)
    have e : n + ((k + 1 : Nat) : Int) = v + 1 := by omega
    have e2 : n + ((k : Int) + 1) = v + 1 := by omega
    exact ⟨_, k + 1, (Gh.ren [0, 1] (by simp [hB0]) (by simp [hB0] <;> decide) (by simp [eget, rnS, rnR, rnV, rnC, LtS, LtR, LtV, LtC, lget, rnIw, e, e2]) (by simp [hget, rnO, rnC, LtO, LtC, lget, rnIw, e, e2]) (.inl (by simp [lget, rnIw, e, e2]))), by omega, rfl, by omega⟩
  · obtain rfl : k = P := by omega
    have hX := lrT_len v (tmA tm v)
    repeat' (first
      | simp [AK_at, acode_seq, acode_region, acode_draw, acode_cond, ↓CB_t, ↓CB_f, CB_u, acode_block, acode_loop, acode_exit, acode_scope, acode_ret, acode_skip, seqQ_n, seqQ_e, seqQ_r, blockQ_n, blockQ_e, blockQ_r, TK_at, OK_at, SK_at, aops_nil, aops_cons, asch_done, asch_one, asch_two, asch_top, astep, aop_eq, isLoud, aloud, aloud1, isWrite, qv, evS, strip, gof, eget, hget, putO, eput, herase, oks, opnds, gS, afin, afin0, binD, arith, D.cells, takeD, fillD, keep, trim, envOf, Fin, aresl, aresv, resD, argOk, pickV, isP, deq, deqs, boundD, slD, lenD, isT, isSl, ptrIds, chunks, mn_min, mx_max, D.cells, splice_one, splice_more, Rbr_at, Rfr_at, frR, frV, frC, flatC, brwR, brwV, brwC, omap, leR, leV, leC, leL, leVL, hX]
      | (refine WCall.pf (p1) ?_ ?_ ?_ ?_; (focus (simp [oks, opnds, gS, gof, eget]; done)); (focus (simp [omap, brwV, brwC, evS, eget, strip, hget, leVL, leV, leC, leL, hX]; done)); (focus (simp [noV, noC, flatR, flatV, flatC, evS, eget, strip, hX]; done)))
      | (refine ⟨WCall.pf (p1) ?_ ?_ ?_ ?_, ?_⟩; (focus (simp [oks, opnds, gS, gof, eget]; done)); (focus (simp [omap, brwV, brwC, evS, eget, strip, hget, leVL, leV, leC, leL, hX]; done)); (focus (simp [noV, noC, flatR, flatV, flatC, evS, eget, strip, hX]; done)))
      | (with_reducible refine And.intro (And.intro ?_ ?_) ?_)
      | fail)
    obtain ⟨T, hT⟩ : ∃ T, T = tmA tm v := ⟨_, rfl⟩
    rw [← hT] at hwk hX
    simp only [← hT]
    have hTm : ∀ t ∈ T, t ∈ tm := fun t ht => by rw [hT] at ht; exact (List.mem_filter.1 ht).1
    have hTf := hwk.few
    obtain ⟨L, hL⟩ : ∃ L, L = byP T (plN v) := ⟨_, rfl⟩
    have hLl : L.length = 25 := hL ▸ byP_len _ _
    have hLf : L.flatten.Perm T := hL ▸ byP_flat v T
    refine W.loopS (fun i : Nat => ⟨[(15, I i), (14, .ptr 2 0), (9, .bool true), (8, .ptr 1 0), (7, .ptr 0 0)], [(2, .cells ((cntT (L.take i).flatten).map I)), (1, .cells ((atL tm).map I)), (0, .cells [I v, .rows 1 (lrT v T)])], 3⟩)
      (fun m i => m = 25 - i ∧ i ≤ 25) ?_ ?_
    · exact ⟨_, 0, (Gh.ren [0, 1, 2] (by simp [hB0]) (by simp [hB0] <;> decide) (by simp [eget, rnS, rnR, rnV, rnC, LtS, LtR, LtV, LtC, lget, rnIw, cntT, List.range_succ]) (by simp [hget, rnO, rnC, LtO, LtC, lget, rnIw, cntT, List.range_succ]) (.inl (by simp [lget, rnIw, cntT, List.range_succ]))), rfl, by omega⟩
    rintro m2 i ⟨hm2, hi⟩
    refine acode_sound [0, 1, 2, 6, 7, 8, 9, 10, 11, 13, 14, 15, 16, 17, 18, 32, 42, 48, 58, 85, 93, 121] [] _ _ _ ?_
    by_cases hi25 : i < 25
    · obtain ⟨q, hq⟩ : ∃ q, q = T.filter fun t => decide (plN v t = i) := ⟨_, rfl⟩
      have hat := lrT_get v T i hi25
      rw [← hq] at hat
      have hLi : L[i]'(by omega) = q := by
        have := byP_get T (plN v) i hi25
        rw [← hL, List.getD_eq_getElem?_getD, List.getElem?_eq_getElem (by omega)] at this
        rw [hq]; exact this
      obtain ⟨C, hC⟩ : ∃ C, C = (L.take i).flatten := ⟨_, rfl⟩
      have hC1 : (L.take (i + 1)).flatten = C ++ q := by
        rw [List.take_succ_eq_append_getElem (by omega), List.flatten_append, ← hC, hLi]; simp
      have hpre : (C ++ q).Sublist L.flatten := by
        rw [← hC1]
        conv => rhs; rw [← List.take_append_drop (i + 1) L]
        rw [List.flatten_append]
        exact List.sublist_append_left _ _
      have hCl : (C ++ q).length ≤ 200 := Nat.le_trans hpre.length_le (by rw [hLf.length_eq]; exact hTf)
      rw [List.length_append] at hCl
      have hiz : (i : Int) < 25 := by omega
      have ii : InR ((i : Int) + 1) := inW (by omega) (by omega)
      simp only [← hC]
      simp [AK_at, acode_seq, acode_region, acode_draw, acode_cond, ↓CB_t, ↓CB_f, CB_u, acode_block, acode_loop, acode_exit, acode_scope, acode_ret, acode_skip, seqQ_n, seqQ_e, seqQ_r, blockQ_n, blockQ_e, blockQ_r, TK_at, OK_at, SK_at, aops_nil, aops_cons, asch_done, asch_one, asch_two, asch_top, astep, aop_eq, isLoud, aloud, aloud1, isWrite, qv, evS, strip, gof, eget, hget, putO, eput, herase, oks, opnds, gS, afin, afin0, binD, arith, D.cells, takeD, fillD, keep, trim, envOf, Fin, aresl, aresv, resD, argOk, pickV, isP, deq, deqs, boundD, slD, lenD, isT, isSl, ptrIds, chunks, mn_min, mx_max, D.cells, splice_one, splice_more, Rbr_at, Rfr_at, frR, frV, frC, flatC, brwR, brwV, brwC, omap, leR, leV, leC, leL, leVL, hX, hi25, hiz, hat]
      refine W.loopS (fun j : Nat => ⟨[(16, I j), (15, I i), (14, .ptr 2 0), (9, .bool true), (8, .ptr 1 0), (7, .ptr 0 0)], [(2, .cells ((cntT (C ++ q.take j)).map I)), (1, .cells ((atL tm).map I)), (0, .cells [I v, .rows 1 (lrT v T)])], 3⟩)
        (fun m j => m = q.length - j ∧ j ≤ q.length) ?_ ?_
      · exact ⟨_, 0, (Gh.ren [0, 1, 2] (by simp [hB0]) (by simp [hB0] <;> decide) (by simp [eget, rnS, rnR, rnV, rnC, LtS, LtR, LtV, LtC, lget, rnIw]) (by simp [hget, rnO, rnC, LtO, LtC, lget, rnIw]) (.inl (by simp [lget, rnIw]))), rfl, by omega⟩
      rintro m3 j ⟨hm3, hj⟩
      refine acode_sound [0, 1, 2, 6, 7, 8, 9, 10, 11, 13, 14, 15, 16, 17, 18, 32, 42, 48, 58, 85, 93, 121] [] _ _ _ ?_
      by_cases hjl : j < q.length
      · obtain ⟨o, ho⟩ : ∃ o, o = q[j] := ⟨_, rfl⟩
        have hoq : o ∈ q := ho ▸ List.getElem_mem hjl
        have hoT : o ∈ T := by rw [hq] at hoq; exact (List.mem_filter.1 hoq).1
        have hom := hTm o hoT
        have hof := hw.fit o hom
        have ho20 := hok.id o hom
        obtain ⟨b, hb⟩ : ∃ b : Nat, o.2 = b := ⟨o.2.toNat, by omega⟩
        have hb20 : b < 20 := by omega
        have hb1 : (b : Int) < 20 := by omega
        have hb2 : b ≤ 19 := by omega
        have hb3 : 0 < 20 - b := by omega
        have hb4 : ¬ (b : Int) < 0 := by omega
        have hb5 : ¬ (20 : Int) ≤ b := by omega
        have hav := atL_get tm b hb20
        have hao := atM_mem hw.ids hom hb
        rw [hao] at hav
        have havb : ∀ h : b < (atL tm).length, (atL tm)[b] = o.1 := fun h => by
          rw [List.getElem?_eq_getElem h] at hav; exact Option.some.inj hav
        have hG1 : C ++ q.take (j + 1) = (C ++ q.take j) ++ [o] := by
          rw [List.take_succ_eq_append_getElem hjl, ← ho, List.append_assoc]
        obtain ⟨G, hG⟩ : ∃ G, G = C ++ q.take j := ⟨_, rfl⟩
        rw [← hG] at hG1
        have hsn := cntT_snoc G o b hb hb20
        rw [← hG1] at hsn
        have hcl := cntT_len G
        have hcg := cntT_get G b hb20
        have hGl : G.length ≤ 200 := by rw [hG]; simp; omega
        have hcc : G.countP (isD b) ≤ 200 := Nat.le_trans List.countP_le_length hGl
        obtain ⟨c, hc⟩ : ∃ c, c = G.countP (isD b) := ⟨_, rfl⟩
        rw [← hc] at hsn hcg hcc
        have hcgb : ∀ h : b < (cntT G).length, (cntT G)[b] = (c : Int) := fun h => by
          rw [List.getElem?_eq_getElem h] at hcg; exact Option.some.inj hcg
        have ic : InR ((c : Int) + 1) := inW (by omega) (by omega)
        have ij : InR ((j : Int) + 1) := inW (by omega) (by omega)
        have hspl := spliceIw (cntT G) b ((c : Int) + 1) (by omega)
        rw [← hsn] at hspl
        simp only [← hG]
        repeat' (first
          | simp [AK_at, acode_seq, acode_region, acode_draw, acode_cond, ↓CB_t, ↓CB_f, CB_u, acode_block, acode_loop, acode_exit, acode_scope, acode_ret, acode_skip, seqQ_n, seqQ_e, seqQ_r, blockQ_n, blockQ_e, blockQ_r, TK_at, OK_at, SK_at, aops_nil, aops_cons, asch_done, asch_one, asch_two, asch_top, astep, aop_eq, isLoud, aloud, aloud1, isWrite, qv, evS, strip, gof, eget, hget, putO, eput, herase, oks, opnds, gS, afin, afin0, binD, arith, D.cells, takeD, fillD, keep, trim, envOf, Fin, aresl, aresv, resD, argOk, pickV, isP, deq, deqs, boundD, slD, lenD, isT, isSl, ptrIds, chunks, mn_min, mx_max, D.cells, splice_one, splice_more, Rbr_at, Rfr_at, frR, frV, frC, flatC, brwR, brwV, brwC, omap, leR, leV, leC, leL, leVL, hX, hi25, hiz, hat, hjl, ← ho, tmE, hb, hal, hav, havb, hb1, hb2, hb3, hb4, hb5, hcl, hcg, hcgb, ic, ij, hspl]
          | (refine WCall.pf (p1) ?_ ?_ ?_ ?_; (focus (simp [oks, opnds, gS, gof, eget]; done)); (focus (simp [omap, brwV, brwC, evS, eget, strip, hget, leVL, leV, leC, leL, hX, hi25, hiz, hat, hjl, ← ho, tmE, hb, hal, hav, havb, hb1, hb2, hb3, hb4, hb5, hcl, hcg, hcgb, ic, ij, hspl]; done)); (focus (simp [noV, noC, flatR, flatV, flatC, evS, eget, strip, hX, hi25, hiz, hat, hjl, ← ho, tmE, hb, hal, hav, havb, hb1, hb2, hb3, hb4, hb5, hcl, hcg, hcgb, ic, ij, hspl]; done)))
          | (refine ⟨WCall.pf (p1) ?_ ?_ ?_ ?_, ?_⟩; (focus (simp [oks, opnds, gS, gof, eget]; done)); (focus (simp [omap, brwV, brwC, evS, eget, strip, hget, leVL, leV, leC, leL, hX, hi25, hiz, hat, hjl, ← ho, tmE, hb, hal, hav, havb, hb1, hb2, hb3, hb4, hb5, hcl, hcg, hcgb, ic, ij, hspl]; done)); (focus (simp [noV, noC, flatR, flatV, flatC, evS, eget, strip, hX, hi25, hiz, hat, hjl, ← ho, tmE, hb, hal, hav, havb, hb1, hb2, hb3, hb4, hb5, hcl, hcg, hcgb, ic, ij, hspl]; done)))
          | (with_reducible refine And.intro (And.intro ?_ ?_) ?_)
          | fail)
        all_goals exact ⟨_, j + 1, (Gh.ren [0, 1, 2] (by simp [hB0]) (by simp [hB0] <;> decide) (by simp [eget, rnS, rnR, rnV, rnC, LtS, LtR, LtV, LtC, lget, rnIw]) (by simp [hget, rnO, rnC, LtO, LtC, lget, rnIw]) (.inl (by simp [lget, rnIw]))), by omega, rfl, by omega⟩
      · obtain rfl : j = q.length := by omega
        rw [List.take_length, ← hC1]
        repeat' (first
          | simp [AK_at, acode_seq, acode_region, acode_draw, acode_cond, ↓CB_t, ↓CB_f, CB_u, acode_block, acode_loop, acode_exit, acode_scope, acode_ret, acode_skip, seqQ_n, seqQ_e, seqQ_r, blockQ_n, blockQ_e, blockQ_r, TK_at, OK_at, SK_at, aops_nil, aops_cons, asch_done, asch_one, asch_two, asch_top, astep, aop_eq, isLoud, aloud, aloud1, isWrite, qv, evS, strip, gof, eget, hget, putO, eput, herase, oks, opnds, gS, afin, afin0, binD, arith, D.cells, takeD, fillD, keep, trim, envOf, Fin, aresl, aresv, resD, argOk, pickV, isP, deq, deqs, boundD, slD, lenD, isT, isSl, ptrIds, chunks, mn_min, mx_max, D.cells, splice_one, splice_more, Rbr_at, Rfr_at, frR, frV, frC, flatC, brwR, brwV, brwC, omap, leR, leV, leC, leL, leVL, hX, hi25, hiz, hat, ii]
          | (refine WCall.pf (p1) ?_ ?_ ?_ ?_; (focus (simp [oks, opnds, gS, gof, eget]; done)); (focus (simp [omap, brwV, brwC, evS, eget, strip, hget, leVL, leV, leC, leL, hX, hi25, hiz, hat, ii]; done)); (focus (simp [noV, noC, flatR, flatV, flatC, evS, eget, strip, hX, hi25, hiz, hat, ii]; done)))
          | (refine ⟨WCall.pf (p1) ?_ ?_ ?_ ?_, ?_⟩; (focus (simp [oks, opnds, gS, gof, eget]; done)); (focus (simp [omap, brwV, brwC, evS, eget, strip, hget, leVL, leV, leC, leL, hX, hi25, hiz, hat, ii]; done)); (focus (simp [noV, noC, flatR, flatV, flatC, evS, eget, strip, hX, hi25, hiz, hat, ii]; done)))
          | (with_reducible refine And.intro (And.intro ?_ ?_) ?_)
          | fail)
        all_goals exact ⟨_, i + 1, (Gh.ren [0, 1, 2] (by simp [hB0]) (by simp [hB0] <;> decide) (by simp [eget, rnS, rnR, rnV, rnC, LtS, LtR, LtV, LtC, lget, rnIw]) (by simp [hget, rnO, rnC, LtO, LtC, lget, rnIw]) (.inl (by simp [lget, rnIw]))), by omega, rfl, by omega⟩
    · obtain rfl : i = 25 := by omega
      rw [show L.take 25 = L from List.take_of_length_le (by omega), cntT_perm hLf]
      repeat' (first
        | simp [AK_at, acode_seq, acode_region, acode_draw, acode_cond, ↓CB_t, ↓CB_f, CB_u, acode_block, acode_loop, acode_exit, acode_scope, acode_ret, acode_skip, seqQ_n, seqQ_e, seqQ_r, blockQ_n, blockQ_e, blockQ_r, TK_at, OK_at, SK_at, aops_nil, aops_cons, asch_done, asch_one, asch_two, asch_top, astep, aop_eq, isLoud, aloud, aloud1, isWrite, qv, evS, strip, gof, eget, hget, putO, eput, herase, oks, opnds, gS, afin, afin0, binD, arith, D.cells, takeD, fillD, keep, trim, envOf, Fin, aresl, aresv, resD, argOk, pickV, isP, deq, deqs, boundD, slD, lenD, isT, isSl, ptrIds, chunks, mn_min, mx_max, D.cells, splice_one, splice_more, Rbr_at, Rfr_at, frR, frV, frC, flatC, brwR, brwV, brwC, omap, leR, leV, leC, leL, leVL, hX]
        | (refine WCall.pf (p1) ?_ ?_ ?_ ?_; (focus (simp [oks, opnds, gS, gof, eget]; done)); (focus (simp [omap, brwV, brwC, evS, eget, strip, hget, leVL, leV, leC, leL, hX]; done)); (focus (simp [noV, noC, flatR, flatV, flatC, evS, eget, strip, hX]; done)))
        | (refine ⟨WCall.pf (p1) ?_ ?_ ?_ ?_, ?_⟩; (focus (simp [oks, opnds, gS, gof, eget]; done)); (focus (simp [omap, brwV, brwC, evS, eget, strip, hget, leVL, leV, leC, leL, hX]; done)); (focus (simp [noV, noC, flatR, flatV, flatC, evS, eget, strip, hX]; done)))
        | (with_reducible refine And.intro (And.intro ?_ ?_) ?_)
        | fail)
      refine W.loopS (fun b : Nat => ⟨[(18, I b), (14, .ptr 2 0), (9, .bool true), (8, .ptr 1 0), (7, .ptr 0 0)], [(2, .cells ((cntT T).map I)), (1, .cells ((atL tm).map I)), (0, .cells [I v, .rows 1 (lrT v T)])], 3⟩)
        (fun m b => m = 20 - b ∧ b ≤ 20) ?_ ?_
      · exact ⟨_, 0, (Gh.ren [0, 1, 2] (by simp [hB0]) (by simp [hB0] <;> decide) (by simp [eget, rnS, rnR, rnV, rnC, LtS, LtR, LtV, LtC, lget, rnIw]) (by simp [hget, rnO, rnC, LtO, LtC, lget, rnIw]) (.inl (by simp [lget, rnIw]))), rfl, by omega⟩
      rintro m3 b ⟨hm3, hb⟩
      refine acode_sound [0, 1, 2, 6, 7, 8, 9, 10, 11, 13, 14, 15, 16, 17, 18, 32, 42, 48, 58, 85, 93, 121] [] _ _ _ ?_
      by_cases hb20 : b < 20
      · have hb1 : (b : Int) < 20 := by omega
        have hb2 : b ≤ 19 := by omega
        have hb3 : 0 < 20 - b := by omega
        have hav := atL_get tm b hb20
        have havb : ∀ h : b < (atL tm).length, (atL tm)[b] = atM tm b := fun h => by
          rw [List.getElem?_eq_getElem h] at hav; exact Option.some.inj hav
        have hcl := cntT_len T
        have hone := cnt_one hwk.ids b
        have hcg := cntT_get T b hb20
        have ib : InR ((b : Int) + 1) := inW (by omega) (by omega)
        by_cases hp : v < atM tm b
        · have hpos : 0 < T.countP (isD b) := by
            obtain ⟨t, ht, h2⟩ := atM_pos (tm := tm) (id := b) (by omega)
            have h3 := atM_mem hw.ids ht h2
            exact List.countP_pos_iff.2 ⟨t, by rw [hT]; exact List.mem_filter.2 ⟨ht, by simp; omega⟩, by simp [isD, h2]⟩
          rw [if_pos hpos] at hone
          rw [hone] at hcg
          have hcgb : ∀ h : b < (cntT T).length, (cntT T)[b] = 1 := fun h => by
            rw [List.getElem?_eq_getElem h] at hcg; exact Option.some.inj hcg
          have hp2 : ¬ atM tm b ≤ v := by omega
          repeat' (first
            | simp [AK_at, acode_seq, acode_region, acode_draw, acode_cond, ↓CB_t, ↓CB_f, CB_u, acode_block, acode_loop, acode_exit, acode_scope, acode_ret, acode_skip, seqQ_n, seqQ_e, seqQ_r, blockQ_n, blockQ_e, blockQ_r, TK_at, OK_at, SK_at, aops_nil, aops_cons, asch_done, asch_one, asch_two, asch_top, astep, aop_eq, isLoud, aloud, aloud1, isWrite, qv, evS, strip, gof, eget, hget, putO, eput, herase, oks, opnds, gS, afin, afin0, binD, arith, D.cells, takeD, fillD, keep, trim, envOf, Fin, aresl, aresv, resD, argOk, pickV, isP, deq, deqs, boundD, slD, lenD, isT, isSl, ptrIds, chunks, mn_min, mx_max, D.cells, splice_one, splice_more, Rbr_at, Rfr_at, frR, frV, frC, flatC, brwR, brwV, brwC, omap, leR, leV, leC, leL, leVL, hal, hav, havb, hb1, hb2, hb3, hcl, hcg, hcgb, hp, hp2, ib]
            | (refine WCall.pf (p1) ?_ ?_ ?_ ?_; (focus (simp [oks, opnds, gS, gof, eget]; done)); (focus (simp [omap, brwV, brwC, evS, eget, strip, hget, leVL, leV, leC, leL, hal, hav, havb, hb1, hb2, hb3, hcl, hcg, hcgb, hp, hp2, ib]; done)); (focus (simp [noV, noC, flatR, flatV, flatC, evS, eget, strip, hal, hav, havb, hb1, hb2, hb3, hcl, hcg, hcgb, hp, hp2, ib]; done)))
            | (refine ⟨WCall.pf (p1) ?_ ?_ ?_ ?_, ?_⟩; (focus (simp [oks, opnds, gS, gof, eget]; done)); (focus (simp [omap, brwV, brwC, evS, eget, strip, hget, leVL, leV, leC, leL, hal, hav, havb, hb1, hb2, hb3, hcl, hcg, hcgb, hp, hp2, ib]; done)); (focus (simp [noV, noC, flatR, flatV, flatC, evS, eget, strip, hal, hav, havb, hb1, hb2, hb3, hcl, hcg, hcgb, hp, hp2, ib]; done)))
            | (with_reducible refine And.intro (And.intro ?_ ?_) ?_)
            | fail)
          all_goals exact ⟨_, b + 1, (Gh.ren [0, 1, 2] (by simp [hB0]) (by simp [hB0] <;> decide) (by simp [eget, rnS, rnR, rnV, rnC, LtS, LtR, LtV, LtC, lget, rnIw]) (by simp [hget, rnO, rnC, LtO, LtC, lget, rnIw]) (.inl (by simp [lget, rnIw]))), by omega, rfl, by omega⟩
        · have hzero : ¬ 0 < T.countP (isD b) := fun h => by
            obtain ⟨t, ht, h2⟩ := List.countP_pos_iff.1 h
            have h2 : t.2 = (b : Int) := by simpa [isD] using h2
            have h3 := atM_mem hw.ids (hTm t ht) h2
            rw [hT] at ht
            have h4 : v < t.1 := by simpa using (List.mem_filter.1 ht).2
            omega
          rw [if_neg hzero] at hone
          rw [hone] at hcg
          have hcgb : ∀ h : b < (cntT T).length, (cntT T)[b] = 0 := fun h => by
            rw [List.getElem?_eq_getElem h] at hcg; exact Option.some.inj hcg
          have hp2 : atM tm b ≤ v := by omega
          repeat' (first
            | simp [AK_at, acode_seq, acode_region, acode_draw, acode_cond, ↓CB_t, ↓CB_f, CB_u, acode_block, acode_loop, acode_exit, acode_scope, acode_ret, acode_skip, seqQ_n, seqQ_e, seqQ_r, blockQ_n, blockQ_e, blockQ_r, TK_at, OK_at, SK_at, aops_nil, aops_cons, asch_done, asch_one, asch_two, asch_top, astep, aop_eq, isLoud, aloud, aloud1, isWrite, qv, evS, strip, gof, eget, hget, putO, eput, herase, oks, opnds, gS, afin, afin0, binD, arith, D.cells, takeD, fillD, keep, trim, envOf, Fin, aresl, aresv, resD, argOk, pickV, isP, deq, deqs, boundD, slD, lenD, isT, isSl, ptrIds, chunks, mn_min, mx_max, D.cells, splice_one, splice_more, Rbr_at, Rfr_at, frR, frV, frC, flatC, brwR, brwV, brwC, omap, leR, leV, leC, leL, leVL, hal, hav, havb, hb1, hb2, hb3, hcl, hcg, hcgb, hp, hp2, ib]
            | (refine WCall.pf (p1) ?_ ?_ ?_ ?_; (focus (simp [oks, opnds, gS, gof, eget]; done)); (focus (simp [omap, brwV, brwC, evS, eget, strip, hget, leVL, leV, leC, leL, hal, hav, havb, hb1, hb2, hb3, hcl, hcg, hcgb, hp, hp2, ib]; done)); (focus (simp [noV, noC, flatR, flatV, flatC, evS, eget, strip, hal, hav, havb, hb1, hb2, hb3, hcl, hcg, hcgb, hp, hp2, ib]; done)))
            | (refine ⟨WCall.pf (p1) ?_ ?_ ?_ ?_, ?_⟩; (focus (simp [oks, opnds, gS, gof, eget]; done)); (focus (simp [omap, brwV, brwC, evS, eget, strip, hget, leVL, leV, leC, leL, hal, hav, havb, hb1, hb2, hb3, hcl, hcg, hcgb, hp, hp2, ib]; done)); (focus (simp [noV, noC, flatR, flatV, flatC, evS, eget, strip, hal, hav, havb, hb1, hb2, hb3, hcl, hcg, hcgb, hp, hp2, ib]; done)))
            | (with_reducible refine And.intro (And.intro ?_ ?_) ?_)
            | fail)
          all_goals exact ⟨_, b + 1, (Gh.ren [0, 1, 2] (by simp [hB0]) (by simp [hB0] <;> decide) (by simp [eget, rnS, rnR, rnV, rnC, LtS, LtR, LtV, LtC, lget, rnIw]) (by simp [hget, rnO, rnC, LtO, LtC, lget, rnIw]) (.inl (by simp [lget, rnIw]))), by omega, rfl, by omega⟩
      · obtain rfl : b = 20 := by omega
        repeat' (first
          | simp [AK_at, acode_seq, acode_region, acode_draw, acode_cond, ↓CB_t, ↓CB_f, CB_u, acode_block, acode_loop, acode_exit, acode_scope, acode_ret, acode_skip, seqQ_n, seqQ_e, seqQ_r, blockQ_n, blockQ_e, blockQ_r, TK_at, OK_at, SK_at, aops_nil, aops_cons, asch_done, asch_one, asch_two, asch_top, astep, aop_eq, isLoud, aloud, aloud1, isWrite, qv, evS, strip, gof, eget, hget, putO, eput, herase, oks, opnds, gS, afin, afin0, binD, arith, D.cells, takeD, fillD, keep, trim, envOf, Fin, aresl, aresv, resD, argOk, pickV, isP, deq, deqs, boundD, slD, lenD, isT, isSl, ptrIds, chunks, mn_min, mx_max, D.cells, splice_one, splice_more, Rbr_at, Rfr_at, frR, frV, frC, flatC, brwR, brwV, brwC, omap, leR, leV, leC, leL, leVL, ]
          | (refine WCall.pf (p1) ?_ ?_ ?_ ?_; (focus (simp [oks, opnds, gS, gof, eget]; done)); (focus (simp [omap, brwV, brwC, evS, eget, strip, hget, leVL, leV, leC, leL, ]; done)); (focus (simp [noV, noC, flatR, flatV, flatC, evS, eget, strip, ]; done)))
          | (refine ⟨WCall.pf (p1) ?_ ?_ ?_ ?_, ?_⟩; (focus (simp [oks, opnds, gS, gof, eget]; done)); (focus (simp [omap, brwV, brwC, evS, eget, strip, hget, leVL, leV, leC, leL, ]; done)); (focus (simp [noV, noC, flatR, flatV, flatC, evS, eget, strip, ]; done)))
          | (with_reducible refine And.intro (And.intro ?_ ?_) ?_)
          | fail)
end Go.Proofs.Ytajimebannjofaa

