/- This text holds, one behind the other, the texts that say what the program computes, step by step, and the rules that they need. They have no condition of their own. -/
import Derived.Test.YtajimebannjofaaMf
import Derived.Test.YtajimebannjofaaMe
set_option linter.unusedSimpArgs false
set_option linter.unusedVariables false
set_option maxRecDepth 100000
set_option maxHeartbeats 4000000
namespace Go.Proofs.Ytajimebannjofaa
open Go.RowKit
def isD (b : Nat) (t : Int × Int) : Bool := decide (t.2 = (b : Int))
def cntT (G : List (Int × Int)) : List Int := (List.range 20).map fun b => ((G.countP (isD b) : Nat) : Int)
theorem cntT_len (G : List (Int × Int)) : (cntT G).length = 20 := by simp [cntT]
theorem cntT_get (G : List (Int × Int)) (b : Nat) (h : b < 20) : (cntT G)[b]? = some ((G.countP (isD b) : Nat) : Int) := by simp [cntT, List.getElem?_range, h]
theorem cntT_snoc (G : List (Int × Int)) (o : Int × Int) (b : Nat) (hb : o.2 = b) (h : b < 20) : cntT (G ++ [o]) = (cntT G).set b (((G.countP (isD b) : Nat) : Int) + 1) := by
  apply List.ext_getElem?
  intro j
  unfold cntT
  rw [List.getElem?_set, List.getElem?_map, List.getElem?_map]
  by_cases hj : j < 20
  · rw [List.getElem?_range hj]
    by_cases e : b = j
    · subst e
      simp [hj, isD, hb]
    · have : ¬ o.2 = (j : Int) := by omega
      simp [e, isD, this]
  · rw [List.getElem?_eq_none (by simp; omega)]
    simp; omega
theorem cntT_perm {G G' : List (Int × Int)} (h : G.Perm G') : cntT G = cntT G' := by
  unfold cntT
  exact List.map_congr_left fun b _ => by rw [h.countP_eq]
theorem cnt_one {tm : List (Int × Int)} (hid : (tm.map (·.2)).Nodup) (b : Nat) : tm.countP (isD b) = if 0 < tm.countP (isD b) then 1 else 0 := by
  by_cases h : 0 < tm.countP (isD b)
  · rw [if_pos h]
    obtain ⟨t, ht, h2⟩ := List.countP_pos_iff.1 h
    have h2 : t.2 = (b : Int) := by simpa [isD] using h2
    have : tm.countP (isD b) = (tm.map (·.2)).count (b : Int) := by
      rw [List.count, List.countP_map]
      refine List.countP_congr fun x _ => ?_
      simp [isD]
    rw [this]
    have h4 : (tm.map (·.2)).count (b : Int) ≤ 1 := List.nodup_iff_count.1 hid _
    omega
  · rw [if_neg h]; omega
theorem lrT_get (v : Int) (T : List (Int × Int)) (i : Nat) (h25 : i < 25) (h : i < (lrT v T).length) : (lrT v T)[i] = [.rows 2 ((T.filter fun t => decide (plN v t = i)).map tmE)] := by
  unfold lrT lsR byP
  simp
theorem byP_flat (v : Int) (T : List (Int × Int)) : ((byP T (plN v)).flatten).Perm T := by
  have hp : ((byP T (plN v)).flatten).Perm (T.filter fun t => decide (plN v t ∈ List.range 25)) := byP_perm T (plN v) (List.range 25) List.nodup_range
  rwa [List.filter_eq_self.2 fun t _ => by simpa using plN_lt v t] at hp
theorem whold_code : cfun Try.prog [] 6 = some ⟨(.seq (.region 0 [⟨(some 6), (.mov (.k (.bool false))), none⟩]) (.seq (.region 1 [⟨(some 20), (.mov (.t 0)), none⟩, ⟨(some 21), (.mov (.t 1)), none⟩, ⟨(some 22), (.call 10 [(.t 20), (.t 21)]), none⟩, ⟨(some 19), (.mov (.t 22)), none⟩, ⟨(some 23), (.ext (.t 19) 0), none⟩, ⟨(some 24), (.ext (.t 19) 1), none⟩, ⟨(some 25), (.ext (.t 19) 2), none⟩, ⟨(some 7), (.alloc [(.int .i64 0), .nil0]), none⟩, ⟨(some 8), (.alloc [(.int .i64 0), (.int .i64 0), (.int .i64 0), (.int .i64 0), (.int .i64 0), (.int .i64 0), (.int .i64 0), (.int .i64 0), (.int .i64 0), (.int .i64 0), (.int .i64 0), (.int .i64 0), (.int .i64 0), (.int .i64 0), (.int .i64 0), (.int .i64 0), (.int .i64 0), (.int .i64 0), (.int .i64 0), (.int .i64 0)]), none⟩, ⟨none, (.store 2 (.t 7) (.t 23)), none⟩, ⟨none, (.store 20 (.t 8) (.t 24)), none⟩, ⟨(some 9), (.mov (.t 25)), none⟩]) (.seq (.seq (.region 2 [⟨(some 10), (.mov (.k (.int .i64 0))), none⟩]) (.block 0 (.loop (.seq (.seq (.region 3 [⟨(some 26), (.mov (.t 10)), none⟩, ⟨(some 27), (.mov (.t 2)), none⟩, ⟨(some 28), (.call 11 [(.t 27), (.k (.int .i64 300))]), none⟩, ⟨(some 29), (.bin .lss (.t 26) (.t 28)), none⟩, ⟨(some 30), (.mov (.t 29)), none⟩, ⟨(some 31), (.mov (.t 9)), (some (30, true))⟩, ⟨(some 32), (.pick (.t 30) (.t 31) (.k (.bool false))), none⟩]) (.cond 32 .skip (.exit 0))) (.seq (.block 1 (.seq (.region 5 [⟨(some 36), (.load true 2 (.t 7)), none⟩, ⟨(some 37), (.call 15 [(.t 36)]), none⟩, ⟨(some 35), (.mov (.t 37)), none⟩, ⟨(some 38), (.ext (.t 35) 0), none⟩, ⟨(some 39), (.ext (.t 35) 1), none⟩, ⟨(some 40), (.ext (.t 35) 2), none⟩, ⟨(some 11), (.alloc [(.int .i64 0), .nil0]), none⟩, ⟨none, (.store 2 (.t 11) (.t 38)), none⟩, ⟨(some 12), (.mov (.t 39)), none⟩, ⟨(some 13), (.mov (.t 40)), none⟩]) (.seq (.seq (.region 6 [⟨(some 41), (.mov (.t 13)), none⟩, ⟨(some 42), (.bin .neq (.t 41) (.k (.int .i64 0))), none⟩]) (.cond 42 (.seq (.region 7 [⟨(some 6), (.mov (.k (.bool false))), none⟩]) .ret) .skip)) (.region 8 [⟨(some 43), (.load true 2 (.t 11)), none⟩, ⟨none, (.store 2 (.t 7) (.t 43)), none⟩])))) (.region 4 [⟨(some 33), (.mov (.t 10)), none⟩, ⟨(some 34), (.bin .add (.t 33) (.k (.int .i64 1))), none⟩, ⟨(some 10), (.mov (.t 34)), none⟩])))))) (.seq (.region 9 [⟨(some 14), (.alloc [(.int .i64 0), (.int .i64 0), (.int .i64 0), (.int .i64 0), (.int .i64 0), (.int .i64 0), (.int .i64 0), (.int .i64 0), (.int .i64 0), (.int .i64 0), (.int .i64 0), (.int .i64 0), (.int .i64 0), (.int .i64 0), (.int .i64 0), (.int .i64 0), (.int .i64 0), (.int .i64 0), (.int .i64 0), (.int .i64 0)]), none⟩]) (.seq (.seq (.region 10 [⟨(some 15), (.mov (.k (.int .i64 0))), none⟩]) (.block 2 (.loop (.seq (.seq (.region 11 [⟨(some 44), (.mov (.t 15)), none⟩, ⟨(some 45), (.fad 1 (.t 7)), none⟩, ⟨(some 46), (.load false 1 (.t 45)), none⟩, ⟨(some 47), (.len (.t 46)), none⟩, ⟨(some 48), (.bin .lss (.t 44) (.t 47)), none⟩]) (.cond 48 .skip (.exit 2))) (.seq (.block 3 (.seq (.region 13 [⟨(some 16), (.mov (.k (.int .i64 0))), none⟩]) (.block 4 (.loop (.seq (.seq (.region 14 [⟨(some 51), (.mov (.t 16)), none⟩, ⟨(some 52), (.fad 1 (.t 7)), none⟩, ⟨(some 53), (.load false 1 (.t 52)), none⟩, ⟨(some 54), (.mov (.t 15)), none⟩, ⟨(some 55), (.iads 1 (.t 53) (.t 54)), none⟩, ⟨(some 56), (.load false 1 (.t 55)), none⟩, ⟨(some 57), (.len (.t 56)), none⟩, ⟨(some 58), (.bin .lss (.t 51) (.t 57)), none⟩]) (.cond 58 .skip (.exit 4))) (.seq (.block 5 (.seq (.region 16 [⟨(some 61), (.fad 1 (.t 7)), none⟩, ⟨(some 62), (.load false 1 (.t 61)), none⟩, ⟨(some 63), (.mov (.t 15)), none⟩, ⟨(some 64), (.iads 1 (.t 62) (.t 63)), none⟩, ⟨(some 65), (.load false 1 (.t 64)), none⟩, ⟨(some 66), (.mov (.t 16)), none⟩, ⟨(some 67), (.iads 2 (.t 65) (.t 66)), none⟩, ⟨(some 68), (.load true 2 (.t 67)), none⟩, ⟨(some 17), (.alloc [(.int .i64 0), (.int .i64 0)]), none⟩, ⟨none, (.store 2 (.t 17) (.t 68)), none⟩]) (.seq (.seq (.draw 17 (.one true ⟨(some 69), (.fad 1 (.t 17)), none⟩ (.one true ⟨(some 70), (.load false 1 (.t 69)), none⟩ (.one true ⟨(some 71), (.bin .lss (.t 70) (.k (.int .i64 0))), none⟩ (.one true ⟨(some 72), (.mov (.t 71)), none⟩ (.one true ⟨(some 73), (.fad 1 (.t 17)), (some (72, false))⟩ (.one true ⟨(some 74), (.load false 1 (.t 73)), (some (72, false))⟩ (.one true ⟨(some 75), (.bin .geq (.t 74) (.k (.int .i64 20))), (some (72, false))⟩ (.one true ⟨(some 76), (.pick (.t 72) (.k (.bool true)) (.t 75)), none⟩ (.one true ⟨(some 77), (.mov (.t 76)), none⟩ (.one true ⟨(some 78), (.fad 0 (.t 17)), (some (77, false))⟩ (.one true ⟨(some 79), (.load false 1 (.t 78)), (some (77, false))⟩ (.one true ⟨(some 80), (.fad 1 (.t 17)), (some (77, false))⟩ (.one true ⟨(some 81), (.load false 1 (.t 80)), (some (77, false))⟩ (.one true ⟨(some 82), (.iada 20 1 (.t 8) (.t 81)), (some (77, false))⟩ (.one true ⟨(some 83), (.load false 1 (.t 82)), (some (77, false))⟩ (.one true ⟨(some 84), (.bin .neq (.t 79) (.t 83)), (some (77, false))⟩ (.one true ⟨(some 85), (.pick (.t 77) (.k (.bool true)) (.t 84)), none⟩ .done)))))))))))))))))) (.cond 85 (.seq (.region 18 [⟨(some 6), (.mov (.k (.bool false))), none⟩]) .ret) .skip)) (.region 19 [⟨(some 86), (.fad 1 (.t 17)), none⟩, ⟨(some 87), (.load false 1 (.t 86)), none⟩, ⟨(some 88), (.iada 20 1 (.t 14) (.t 87)), none⟩, ⟨(some 89), (.load false 1 (.t 88)), none⟩, ⟨(some 90), (.bin .add (.t 89) (.k (.int .i64 1))), none⟩, ⟨(some 91), (.iada 20 1 (.t 14) (.t 87)), none⟩, ⟨none, (.store 1 (.t 91) (.t 90)), none⟩])))) (.region 15 [⟨(some 59), (.mov (.t 16)), none⟩, ⟨(some 60), (.bin .add (.t 59) (.k (.int .i64 1))), none⟩, ⟨(some 16), (.mov (.t 60)), none⟩]))))))) (.region 12 [⟨(some 49), (.mov (.t 15)), none⟩, ⟨(some 50), (.bin .add (.t 49) (.k (.int .i64 1))), none⟩, ⟨(some 15), (.mov (.t 50)), none⟩])))))) (.seq (.seq (.region 20 [⟨(some 18), (.mov (.k (.int .i64 0))), none⟩]) (.block 6 (.loop (.seq (.seq (.region 21 [⟨(some 92), (.mov (.t 18)), none⟩, ⟨(some 93), (.bin .lss (.t 92) (.k (.int .i64 20))), none⟩]) (.cond 93 .skip (.exit 6))) (.seq (.block 7 (.seq (.draw 23 (.one true ⟨(some 96), (.mov (.t 18)), none⟩ (.one true ⟨(some 97), (.iada 20 1 (.t 8) (.t 96)), none⟩ (.one true ⟨(some 98), (.load false 1 (.t 97)), none⟩ (.one true ⟨(some 99), (.fad 0 (.t 7)), none⟩ (.one true ⟨(some 100), (.load false 1 (.t 99)), none⟩ (.one true ⟨(some 101), (.bin .gtr (.t 98) (.t 100)), none⟩ (.one true ⟨(some 102), (.mov (.t 101)), none⟩ (.one true ⟨(some 103), (.mov (.t 18)), (some (102, true))⟩ (.one true ⟨(some 104), (.iada 20 1 (.t 14) (.t 103)), (some (102, true))⟩ (.one true ⟨(some 105), (.load false 1 (.t 104)), (some (102, true))⟩ (.one true ⟨(some 106), (.bin .neq (.t 105) (.k (.int .i64 1))), (some (102, true))⟩ (.one true ⟨(some 107), (.pick (.t 102) (.t 106) (.k (.bool false))), none⟩ (.one true ⟨(some 108), (.mov (.t 107)), none⟩ (.one true ⟨(some 109), (.mov (.t 18)), (some (108, false))⟩ (.one true ⟨(some 110), (.iada 20 1 (.t 8) (.t 109)), (some (108, false))⟩ (.one true ⟨(some 111), (.load false 1 (.t 110)), (some (108, false))⟩ (.one true ⟨(some 112), (.fad 0 (.t 7)), (some (108, false))⟩ (.one true ⟨(some 113), (.load false 1 (.t 112)), (some (108, false))⟩ (.one true ⟨(some 114), (.bin .leq (.t 111) (.t 113)), (some (108, false))⟩ (.one true ⟨(some 115), (.mov (.t 114)), (some (108, false))⟩ (.one true ⟨(some 116), (.mov (.t 18)), (some (115, true))⟩ (.one true ⟨(some 117), (.iada 20 1 (.t 14) (.t 116)), (some (115, true))⟩ (.one true ⟨(some 118), (.load false 1 (.t 117)), (some (115, true))⟩ (.one true ⟨(some 119), (.bin .neq (.t 118) (.k (.int .i64 0))), (some (115, true))⟩ (.one true ⟨(some 120), (.pick (.t 115) (.t 119) (.k (.bool false))), (some (108, false))⟩ (.one true ⟨(some 121), (.pick (.t 108) (.k (.bool true)) (.t 120)), none⟩ .done))))))))))))))))))))))))))) (.cond 121 (.seq (.region 24 [⟨(some 6), (.mov (.k (.bool false))), none⟩]) .ret) .skip))) (.region 22 [⟨(some 94), (.mov (.t 18)), none⟩, ⟨(some 95), (.bin .add (.t 94) (.k (.int .i64 1))), none⟩, ⟨(some 18), (.mov (.t 95)), none⟩])))))) (.seq (.region 25 [⟨(some 122), (.mov (.t 9)), none⟩, ⟨(some 6), (.mov (.t 122)), none⟩]) .ret))))))), [(.t 6)], 123⟩ := by kernel_rfl
theorem whold_pf (now : Int) (l : List (List Int)) (ticks : Int) (i1 : InR now) (hl : l.length ≤ Go.maxLen) (hr : ∀ r ∈ l, r.length = 2 ∧ ∀ z ∈ r, InR z) (i2 : InR ticks) :
    PF Try.prog 6 [I now, .rows 2 (l.map fun r => r.map I), I ticks] (.bool true) := by
  have harm := warmed_pf now l hl hr i1
  have q0 := pickedZ_range now 3000 (by omega)
  generalize pickedZ now 3000 = n at harm q0
  have hok := arL_ok n l q0.1 (by omega) 40 (by omega)
  generalize arL n l 40 = tm at harm hok
  have p1 := picked_pf ticks 300 i2 (by omega)
  have q1 := pickedZ_range ticks 300 (by omega)
  obtain ⟨P, hP⟩ : ∃ P : Nat, pickedZ ticks 300 = P := ⟨(pickedZ ticks 300).toNat, by omega⟩
  rw [hP] at p1 q1
  have hal := atL_len tm
  have hs0 := spl20 _ hal
  have htw : ((atL tm).map I).take 20 = (atL tm).map I := List.take_of_length_le (by simp [hal])
  have hw := hok.wh
  rw [whM_def] at harm
  refine PF.of follows_ok whold_code (by simp) (by simp [argOk]) (by simp [noV, noC]) fun B hBN hB0 => acode_sound [0, 1, 2, 6, 7, 8, 9, 10, 11, 13, 14, 15, 16, 17, 18, 32, 42, 48, 58, 85, 93, 121] [] _ _ _ ?_
  repeat' (first
    | simp [AK_at, acode_seq, acode_region, acode_draw, acode_cond, ↓CB_t, ↓CB_f, CB_u, acode_block, acode_loop, acode_exit, acode_scope, acode_ret, acode_skip, seqQ_n, seqQ_e, seqQ_r, blockQ_n, blockQ_e, blockQ_r, TK_at, OK_at, SK_at, aops_nil, aops_cons, asch_done, asch_one, asch_two, asch_top, astep, aop_eq, isLoud, aloud, aloud1, isWrite, qv, evS, strip, gof, eget, hget, putO, eput, herase, oks, opnds, gS, afin, afin0, binD, arith, D.cells, takeD, fillD, keep, trim, envOf, Fin, aresl, aresv, resD, argOk, pickV, isP, deq, deqs, boundD, slD, lenD, isT, isSl, ptrIds, chunks, mn_min, mx_max, D.cells, splice_one, splice_more, Rbr_at, Rfr_at, frR, frV, frC, flatC, brwR, brwV, brwC, omap, leR, leV, leC, leL, leVL, hal, hs0, htw]
    | (refine WCall.pf (harm) ?_ ?_ ?_ ?_; (focus (simp [oks, opnds, gS, gof, eget]; done)); (focus (simp [omap, brwV, brwC, evS, eget, strip, hget, leVL, leV, leC, leL, hal, hs0, htw]; done)); (focus (simp [noV, noC, flatR, flatV, flatC, evS, eget, strip, hal, hs0, htw]; done)))
    | (refine ⟨WCall.pf (harm) ?_ ?_ ?_ ?_, ?_⟩; (focus (simp [oks, opnds, gS, gof, eget]; done)); (focus (simp [omap, brwV, brwC, evS, eget, strip, hget, leVL, leV, leC, leL, hal, hs0, htw]; done)); (focus (simp [noV, noC, flatR, flatV, flatC, evS, eget, strip, hal, hs0, htw]; done)))
    | (with_reducible refine And.intro (And.intro ?_ ?_) ?_)
    | fail)
  refine W.loopS (fun k : Nat => ⟨[(10, I k), (9, .bool true), (8, .ptr 1 0), (7, .ptr 0 0), (2, I ticks)], [(1, .cells ((atL tm).map I)), (0, .cells [I (n + k), .rows 1 (lrT (n + k) (tmA tm (n + k)))])], 2⟩)
    (fun m k => m = P - k ∧ k ≤ P) ?_ ?_
  · exact ⟨_, 0, (Gh.ren [0, 1] (by simp [hB0]) (by simp [hB0] <;> decide) (by simp [eget, rnS, rnR, rnV, rnC, LtS, LtR, LtV, LtC, lget, tmA_all hw, rnIw]) (by simp [hget, rnO, rnC, LtO, LtC, lget, tmA_all hw, rnIw]) (.inl (by simp [lget, tmA_all hw, rnIw]))), rfl, by omega⟩
  rintro m k ⟨hm, hk⟩
  refine acode_sound [0, 1, 2, 6, 7, 8, 9, 10, 11, 13, 14, 15, 16, 17, 18, 32, 42, 48, 58, 85, 93, 121] [] _ _ _ ?_
  obtain ⟨v, hv⟩ : ∃ v, n + (k : Int) = v := ⟨_, rfl⟩
  have hwk := tmA_ok hw k (by omega)
  simp only [hv] at hwk ⊢
  by_cases hlt : k < P
  · have hadv := wadv_pf v _ hwk (by omega)
    rw [tmA_succ, tmA_off] at hadv
    change PF _ _ [whM v (tmA tm v)] (.tup [whM (v + 1) (tmA tm (v + 1)), _, _]) at hadv
    rw [whM_def, whM_def] at hadv
    have ik : InR ((k : Int) + 1) := inW (by omega) (by omega)
    repeat' (first
      | simp [AK_at, acode_seq, acode_region, acode_draw, acode_cond, ↓CB_t, ↓CB_f, CB_u, acode_block, acode_loop, acode_exit, acode_scope, acode_ret, acode_skip, seqQ_n, seqQ_e, seqQ_r, blockQ_n, blockQ_e, blockQ_r, TK_at, OK_at, SK_at, aops_nil, aops_cons, asch_done, asch_one, asch_two, asch_top, astep, aop_eq, isLoud, aloud, aloud1, isWrite, qv, evS, strip, gof, eget, hget, putO, eput, herase, oks, opnds, gS, afin, afin0, binD, arith, D.cells, takeD, fillD, keep, trim, envOf, Fin, aresl, aresv, resD, argOk, pickV, isP, deq, deqs, boundD, slD, lenD, isT, isSl, ptrIds, chunks, mn_min, mx_max, D.cells, splice_one, splice_more, Rbr_at, Rfr_at, frR, frV, frC, flatC, brwR, brwV, brwC, omap, leR, leV, leC, leL, leVL, hlt, ik]
      | (refine WCall.pf (p1) ?_ ?_ ?_ ?_; (focus (simp [oks, opnds, gS, gof, eget]; done)); (focus (simp [omap, brwV, brwC, evS, eget, strip, hget, leVL, leV, leC, leL, hlt, ik]; done)); (focus (simp [noV, noC, flatR, flatV, flatC, evS, eget, strip, hlt, ik]; done)))
      | (refine ⟨WCall.pf (p1) ?_ ?_ ?_ ?_, ?_⟩; (focus (simp [oks, opnds, gS, gof, eget]; done)); (focus (simp [omap, brwV, brwC, evS, eget, strip, hget, leVL, leV, leC, leL, hlt, ik]; done)); (focus (simp [noV, noC, flatR, flatV, flatC, evS, eget, strip, hlt, ik]; done)))
      | (refine WCall.pf (hadv) ?_ ?_ ?_ ?_; (focus (simp [oks, opnds, gS, gof, eget]; done)); (focus (simp [omap, brwV, brwC, evS, eget, strip, hget, leVL, leV, leC, leL, hlt, ik]; done)); (focus (simp [noV, noC, flatR, flatV, flatC, evS, eget, strip, hlt, ik]; done)))
      | (refine ⟨WCall.pf (hadv) ?_ ?_ ?_ ?_, ?_⟩; (focus (simp [oks, opnds, gS, gof, eget]; done)); (focus (simp [omap, brwV, brwC, evS, eget, strip, hget, leVL, leV, leC, leL, hlt, ik]; done)); (focus (simp [noV, noC, flatR, flatV, flatC, evS, eget, strip, hlt, ik]; done)))
      | (with_reducible refine And.intro (And.intro ?_ ?_) ?_)
      | fail)
    have e : n + ((k + 1 : Nat) : Int) = v + 1 := by omega
    have e2 : n + ((k : Int) + 1) = v + 1 := by omega
    exact ⟨_, k + 1, (Gh.ren [0, 1] (by simp [hB0]) (by simp [hB0] <;> decide) (by simp [eget, rnS, rnR, rnV, rnC, LtS, LtR, LtV, LtC, lget, rnIw, e, e2]) (by simp [hget, rnO, rnC, LtO, LtC, lget, rnIw, e, e2]) (.inl (by simp [lget, rnIw, e, e2]))), by omega, rfl, by omega⟩
  · obtain rfl : k = P := by omega
    have hX := lrT_len v (tmA tm v)
    repeat' (first
      | simp [AK_at, acode_seq, acode_region, acode_draw, acode_cond, ↓CB_t, ↓CB_f, CB_u, acode_block, acode_loop, acode_exit, acode_scope, acode_ret, acode_skip, seqQ_n, seqQ_e, seqQ_r, blockQ_n, blockQ_e, blockQ_r, TK_at, OK_at, SK_at, aops_nil, aops_cons, asch_done, asch_one, asch_two, asch_top, astep, aop_eq, isLoud, aloud, aloud1, isWrite, qv, evS, strip, gof, eget, hget, putO, eput, herase, oks, opnds, gS, afin, afin0, binD, arith, D.cells, takeD, fillD, keep, trim, envOf, Fin, aresl, aresv, resD, argOk, pickV, isP, deq, deqs, boundD, slD, lenD, isT, isSl, ptrIds, chunks, mn_min, mx_max, D.cells, splice_one, splice_more, Rbr_at, Rfr_at, frR, frV, frC, flatC, brwR, brwV, brwC, omap, leR, leV, leC, leL, leVL, hX]
      | (refine WCall.pf (p1) ?_ ?_ ?_ ?_; (focus (simp [oks, opnds, gS, gof, eget]; done)); (focus (simp [omap, brwV, brwC, evS, eget, strip, hget, leVL, leV, leC, leL, hX]; done)); (focus (simp [noV, noC, flatR, flatV, flatC, evS, eget, strip, hX]; done)))
      | (refine ⟨WCall.pf (p1) ?_ ?_ ?_ ?_, ?_⟩; (focus (simp [oks, opnds, gS, gof, eget]; done)); (focus (simp [omap, brwV, brwC, evS, eget, strip, hget, leVL, leV, leC, leL, hX]; done)); (focus (simp [noV, noC, flatR, flatV, flatC, evS, eget, strip, hX]; done)))
      | (with_reducible refine And.intro (And.intro ?_ ?_) ?_)
      | fail)
    obtain ⟨T, hT⟩ : ∃ T, T = tmA tm v := ⟨_, rfl⟩
    rw [← hT] at hwk hX
    simp only [← hT]
    have hTm : ∀ t ∈ T, t ∈ tm := fun t ht => by rw [hT] at ht; exact (List.mem_filter.1 ht).1
    have hTf := hwk.few
    obtain ⟨L, hL⟩ : ∃ L, L = byP T (plN v) := ⟨_, rfl⟩
    have hLl : L.length = 25 := hL ▸ byP_len _ _
    have hLf : L.flatten.Perm T := hL ▸ byP_flat v T
    refine W.loopS (fun i : Nat => ⟨[(15, I i), (14, .ptr 2 0), (9, .bool true), (8, .ptr 1 0), (7, .ptr 0 0)], [(2, .cells ((cntT (L.take i).flatten).map I)), (1, .cells ((atL tm).map I)), (0, .cells [I v, .rows 1 (lrT v T)])], 3⟩)
      (fun m i => m = 25 - i ∧ i ≤ 25) ?_ ?_
    · exact ⟨_, 0, (Gh.ren [0, 1, 2] (by simp [hB0]) (by simp [hB0] <;> decide) (by simp [eget, rnS, rnR, rnV, rnC, LtS, LtR, LtV, LtC, lget, rnIw, cntT, List.range_succ]) (by simp [hget, rnO, rnC, LtO, LtC, lget, rnIw, cntT, List.range_succ]) (.inl (by simp [lget, rnIw, cntT, List.range_succ]))), rfl, by omega⟩
    rintro m2 i ⟨hm2, hi⟩
    refine acode_sound [0, 1, 2, 6, 7, 8, 9, 10, 11, 13, 14, 15, 16, 17, 18, 32, 42, 48, 58, 85, 93, 121] [] _ _ _ ?_
    by_cases hi25 : i < 25
    · obtain ⟨q, hq⟩ : ∃ q, q = T.filter fun t => decide (plN v t = i) := ⟨_, rfl⟩
      have hat := lrT_get v T i hi25
      rw [← hq] at hat
      have hLi : L[i]'(by omega) = q := by
        have := byP_get T (plN v) i hi25
        rw [← hL, List.getD_eq_getElem?_getD, List.getElem?_eq_getElem (by omega)] at this
        rw [hq]; exact this
      obtain ⟨C, hC⟩ : ∃ C, C = (L.take i).flatten := ⟨_, rfl⟩
      have hC1 : (L.take (i + 1)).flatten = C ++ q := by
        rw [List.take_succ_eq_append_getElem (by omega), List.flatten_append, ← hC, hLi]; simp
      have hpre : (C ++ q).Sublist L.flatten := by
        rw [← hC1]
        conv => rhs; rw [← List.take_append_drop (i + 1) L]
        rw [List.flatten_append]
        exact List.sublist_append_left _ _
      have hCl : (C ++ q).length ≤ 200 := Nat.le_trans hpre.length_le (by rw [hLf.length_eq]; exact hTf)
      rw [List.length_append] at hCl
      have hiz : (i : Int) < 25 := by omega
      have ii : InR ((i : Int) + 1) := inW (by omega) (by omega)
      simp only [← hC]
      simp [AK_at, acode_seq, acode_region, acode_draw, acode_cond, ↓CB_t, ↓CB_f, CB_u, acode_block, acode_loop, acode_exit, acode_scope, acode_ret, acode_skip, seqQ_n, seqQ_e, seqQ_r, blockQ_n, blockQ_e, blockQ_r, TK_at, OK_at, SK_at, aops_nil, aops_cons, asch_done, asch_one, asch_two, asch_top, astep, aop_eq, isLoud, aloud, aloud1, isWrite, qv, evS, strip, gof, eget, hget, putO, eput, herase, oks, opnds, gS, afin, afin0, binD, arith, D.cells, takeD, fillD, keep, trim, envOf, Fin, aresl, aresv, resD, argOk, pickV, isP, deq, deqs, boundD, slD, lenD, isT, isSl, ptrIds, chunks, mn_min, mx_max, D.cells, splice_one, splice_more, Rbr_at, Rfr_at, frR, frV, frC, flatC, brwR, brwV, brwC, omap, leR, leV, leC, leL, leVL, hX, hi25, hiz, hat]
      refine W.loopS (fun j : Nat => ⟨[(16, I j), (15, I i), (14, .ptr 2 0), (9, .bool true), (8, .ptr 1 0), (7, .ptr 0 0)], [(2, .cells ((cntT (C ++ q.take j)).map I)), (1, .cells ((atL tm).map I)), (0, .cells [I v, .rows 1 (lrT v T)])], 3⟩)
        (fun m j => m = q.length - j ∧ j ≤ q.length) ?_ ?_
      · exact ⟨_, 0, (Gh.ren [0, 1, 2] (by simp [hB0]) (by simp [hB0] <;> decide) (by simp [eget, rnS, rnR, rnV, rnC, LtS, LtR, LtV, LtC, lget, rnIw]) (by simp [hget, rnO, rnC, LtO, LtC, lget, rnIw]) (.inl (by simp [lget, rnIw]))), rfl, by omega⟩
      rintro m3 j ⟨hm3, hj⟩
      refine acode_sound [0, 1, 2, 6, 7, 8, 9, 10, 11, 13, 14, 15, 16, 17, 18, 32, 42, 48, 58, 85, 93, 121] [] _ _ _ ?_
      by_cases hjl : j < q.length
      · obtain ⟨o, ho⟩ : ∃ o, o = q[j] := ⟨_, rfl⟩
        have hoq : o ∈ q := ho ▸ List.getElem_mem hjl
        have hoT : o ∈ T := by rw [hq] at hoq; exact (List.mem_filter.1 hoq).1
        have hom := hTm o hoT
        have hof := hw.fit o hom
        have ho20 := hok.id o hom
        obtain ⟨b, hb⟩ : ∃ b : Nat, o.2 = b := ⟨o.2.toNat, by omega⟩
        have hb20 : b < 20 := by omega
        have hb1 : (b : Int) < 20 := by omega
        have hb2 : b ≤ 19 := by omega
        have hb3 : 0 < 20 - b := by omega
        have hb4 : ¬ (b : Int) < 0 := by omega
        have hb5 : ¬ (20 : Int) ≤ b := by omega
        have hav := atL_get tm b hb20
        have hao := atM_mem hw.ids hom hb
        rw [hao] at hav
        have havb : ∀ h : b < (atL tm).length, (atL tm)[b] = o.1 := fun h => by
          rw [List.getElem?_eq_getElem h] at hav; exact Option.some.inj hav
        have hG1 : C ++ q.take (j + 1) = (C ++ q.take j) ++ [o] := by
          rw [List.take_succ_eq_append_getElem hjl, ← ho, List.append_assoc]
        obtain ⟨G, hG⟩ : ∃ G, G = C ++ q.take j := ⟨_, rfl⟩
        rw [← hG] at hG1
        have hsn := cntT_snoc G o b hb hb20
        rw [← hG1] at hsn
        have hcl := cntT_len G
        have hcg := cntT_get G b hb20
        have hGl : G.length ≤ 200 := by rw [hG]; simp; omega
        have hcc : G.countP (isD b) ≤ 200 := Nat.le_trans List.countP_le_length hGl
        obtain ⟨c, hc⟩ : ∃ c, c = G.countP (isD b) := ⟨_, rfl⟩
        rw [← hc] at hsn hcg hcc
        have hcgb : ∀ h : b < (cntT G).length, (cntT G)[b] = (c : Int) := fun h => by
          rw [List.getElem?_eq_getElem h] at hcg; exact Option.some.inj hcg
        have ic : InR ((c : Int) + 1) := inW (by omega) (by omega)
        have ij : InR ((j : Int) + 1) := inW (by omega) (by omega)
        have hspl := spliceIw (cntT G) b ((c : Int) + 1) (by omega)
        rw [← hsn] at hspl
        simp only [← hG]
        repeat' (first
          | simp [AK_at, acode_seq, acode_region, acode_draw, acode_cond, ↓CB_t, ↓CB_f, CB_u, acode_block, acode_loop, acode_exit, acode_scope, acode_ret, acode_skip, seqQ_n, seqQ_e, seqQ_r, blockQ_n, blockQ_e, blockQ_r, TK_at, OK_at, SK_at, aops_nil, aops_cons, asch_done, asch_one, asch_two, asch_top, astep, aop_eq, isLoud, aloud, aloud1, isWrite, qv, evS, strip, gof, eget, hget, putO, eput, herase, oks, opnds, gS, afin, afin0, binD, arith, D.cells, takeD, fillD, keep, trim, envOf, Fin, aresl, aresv, resD, argOk, pickV, isP, deq, deqs, boundD, slD, lenD, isT, isSl, ptrIds, chunks, mn_min, mx_max, D.cells, splice_one, splice_more, Rbr_at, Rfr_at, frR, frV, frC, flatC, brwR, brwV, brwC, omap, leR, leV, leC, leL, leVL, hX, hi25, hiz, hat, hjl, ← ho, tmE, hb, hal, hav, havb, hb1, hb2, hb3, hb4, hb5, hcl, hcg, hcgb, ic, ij, hspl]
          | (refine WCall.pf (p1) ?_ ?_ ?_ ?_; (focus (simp [oks, opnds, gS, gof, eget]; done)); (focus (simp [omap, brwV, brwC, evS, eget, strip, hget, leVL, leV, leC, leL, hX, hi25, hiz, hat, hjl, ← ho, tmE, hb, hal, hav, havb, hb1, hb2, hb3, hb4, hb5, hcl, hcg, hcgb, ic, ij, hspl]; done)); (focus (simp [noV, noC, flatR, flatV, flatC, evS, eget, strip, hX, hi25, hiz, hat, hjl, ← ho, tmE, hb, hal, hav, havb, hb1, hb2, hb3, hb4, hb5, hcl, hcg, hcgb, ic, ij, hspl]; done)))
          | (refine ⟨WCall.pf (p1) ?_ ?_ ?_ ?_, ?_⟩; (focus (simp [oks, opnds, gS, gof, eget]; done)); (focus (simp [omap, brwV, brwC, evS, eget, strip, hget, leVL, leV, leC, leL, hX, hi25, hiz, hat, hjl, ← ho, tmE, hb, hal, hav, havb, hb1, hb2, hb3, hb4, hb5, hcl, hcg, hcgb, ic, ij, hspl]; done)); (focus (simp [noV, noC, flatR, flatV, flatC, evS, eget, strip, hX, hi25, hiz, hat, hjl, ← ho, tmE, hb, hal, hav, havb, hb1, hb2, hb3, hb4, hb5, hcl, hcg, hcgb, ic, ij, hspl]; done)))
          | (with_reducible refine And.intro (And.intro ?_ ?_) ?_)
          | fail)
        all_goals exact ⟨_, j + 1, (Gh.ren [0, 1, 2] (by simp [hB0]) (by simp [hB0] <;> decide) (by simp [eget, rnS, rnR, rnV, rnC, LtS, LtR, LtV, LtC, lget, rnIw]) (by simp [hget, rnO, rnC, LtO, LtC, lget, rnIw]) (.inl (by simp [lget, rnIw]))), by omega, rfl, by omega⟩
      · obtain rfl : j = q.length := by omega
        rw [List.take_length, ← hC1]
        repeat' (first
          | simp [AK_at, acode_seq, acode_region, acode_draw, acode_cond, ↓CB_t, ↓CB_f, CB_u, acode_block, acode_loop, acode_exit, acode_scope, acode_ret, acode_skip, seqQ_n, seqQ_e, seqQ_r, blockQ_n, blockQ_e, blockQ_r, TK_at, OK_at, SK_at, aops_nil, aops_cons, asch_done, asch_one, asch_two, asch_top, astep, aop_eq, isLoud, aloud, aloud1, isWrite, qv, evS, strip, gof, eget, hget, putO, eput, herase, oks, opnds, gS, afin, afin0, binD, arith, D.cells, takeD, fillD, keep, trim, envOf, Fin, aresl, aresv, resD, argOk, pickV, isP, deq, deqs, boundD, slD, lenD, isT, isSl, ptrIds, chunks, mn_min, mx_max, D.cells, splice_one, splice_more, Rbr_at, Rfr_at, frR, frV, frC, flatC, brwR, brwV, brwC, omap, leR, leV, leC, leL, leVL, hX, hi25, hiz, hat, ii]
          | (refine WCall.pf (p1) ?_ ?_ ?_ ?_; (focus (simp [oks, opnds, gS, gof, eget]; done)); (focus (simp [omap, brwV, brwC, evS, eget, strip, hget, leVL, leV, leC, leL, hX, hi25, hiz, hat, ii]; done)); (focus (simp [noV, noC, flatR, flatV, flatC, evS, eget, strip, hX, hi25, hiz, hat, ii]; done)))
          | (refine ⟨WCall.pf (p1) ?_ ?_ ?_ ?_, ?_⟩; (focus (simp [oks, opnds, gS, gof, eget]; done)); (focus (simp [omap, brwV, brwC, evS, eget, strip, hget, leVL, leV, leC, leL, hX, hi25, hiz, hat, ii]; done)); (focus (simp [noV, noC, flatR, flatV, flatC, evS, eget, strip, hX, hi25, hiz, hat, ii]; done)))
          | (with_reducible refine And.intro (And.intro ?_ ?_) ?_)
          | fail)
        all_goals exact ⟨_, i + 1, (Gh.ren [0, 1, 2] (by simp [hB0]) (by simp [hB0] <;> decide) (by simp [eget, rnS, rnR, rnV, rnC, LtS, LtR, LtV, LtC, lget, rnIw]) (by simp [hget, rnO, rnC, LtO, LtC, lget, rnIw]) (.inl (by simp [lget, rnIw]))), by omega, rfl, by omega⟩
    · obtain rfl : i = 25 := by omega
      rw [show L.take 25 = L from List.take_of_length_le (by omega), cntT_perm hLf]
      repeat' (first
        | simp [AK_at, acode_seq, acode_region, acode_draw, acode_cond, ↓CB_t, ↓CB_f, CB_u, acode_block, acode_loop, acode_exit, acode_scope, acode_ret, acode_skip, seqQ_n, seqQ_e, seqQ_r, blockQ_n, blockQ_e, blockQ_r, TK_at, OK_at, SK_at, aops_nil, aops_cons, asch_done, asch_one, asch_two, asch_top, astep, aop_eq, isLoud, aloud, aloud1, isWrite, qv, evS, strip, gof, eget, hget, putO, eput, herase, oks, opnds, gS, afin, afin0, binD, arith, D.cells, takeD, fillD, keep, trim, envOf, Fin, aresl, aresv, resD, argOk, pickV, isP, deq, deqs, boundD, slD, lenD, isT, isSl, ptrIds, chunks, mn_min, mx_max, D.cells, splice_one, splice_more, Rbr_at, Rfr_at, frR, frV, frC, flatC, brwR, brwV, brwC, omap, leR, leV, leC, leL, leVL, hX]
        | (refine WCall.pf (p1) ?_ ?_ ?_ ?_; (focus (simp [oks, opnds, gS, gof, eget]; done)); (focus (simp [omap, brwV, brwC, evS, eget, strip, hget, leVL, leV, leC, leL, hX]; done)); (focus (simp [noV, noC, flatR, flatV, flatC, evS, eget, strip, hX]; done)))
        | (refine ⟨WCall.pf (p1) ?_ ?_ ?_ ?_, ?_⟩; (focus (simp [oks, opnds, gS, gof, eget]; done)); (focus (simp [omap, brwV, brwC, evS, eget, strip, hget, leVL, leV, leC, leL, hX]; done)); (focus (simp [noV, noC, flatR, flatV, flatC, evS, eget, strip, hX]; done)))
        | (with_reducible refine And.intro (And.intro ?_ ?_) ?_)
        | fail)
      refine W.loopS (fun b : Nat => ⟨[(18, I b), (14, .ptr 2 0), (9, .bool true), (8, .ptr 1 0), (7, .ptr 0 0)], [(2, .cells ((cntT T).map I)), (1, .cells ((atL tm).map I)), (0, .cells [I v, .rows 1 (lrT v T)])], 3⟩)
        (fun m b => m = 20 - b ∧ b ≤ 20) ?_ ?_
      · exact ⟨_, 0, (Gh.ren [0, 1, 2] (by simp [hB0]) (by simp [hB0] <;> decide) (by simp [eget, rnS, rnR, rnV, rnC, LtS, LtR, LtV, LtC, lget, rnIw]) (by simp [hget, rnO, rnC, LtO, LtC, lget, rnIw]) (.inl (by simp [lget, rnIw]))), rfl, by omega⟩
      rintro m3 b ⟨hm3, hb⟩
      refine acode_sound [0, 1, 2, 6, 7, 8, 9, 10, 11, 13, 14, 15, 16, 17, 18, 32, 42, 48, 58, 85, 93, 121] [] _ _ _ ?_
      by_cases hb20 : b < 20
      · have hb1 : (b : Int) < 20 := by omega
        have hb2 : b ≤ 19 := by omega
        have hb3 : 0 < 20 - b := by omega
        have hav := atL_get tm b hb20
        have havb : ∀ h : b < (atL tm).length, (atL tm)[b] = atM tm b := fun h => by
          rw [List.getElem?_eq_getElem h] at hav; exact Option.some.inj hav
        have hcl := cntT_len T
        have hone := cnt_one hwk.ids b
        have hcg := cntT_get T b hb20
        have ib : InR ((b : Int) + 1) := inW (by omega) (by omega)
        by_cases hp : v < atM tm b
        · have hpos : 0 < T.countP (isD b) := by
            obtain ⟨t, ht, h2⟩ := atM_pos (tm := tm) (id := b) (by omega)
            have h3 := atM_mem hw.ids ht h2
            exact List.countP_pos_iff.2 ⟨t, by rw [hT]; exact List.mem_filter.2 ⟨ht, by simp; omega⟩, by simp [isD, h2]⟩
          rw [if_pos hpos] at hone
          rw [hone] at hcg
          have hcgb : ∀ h : b < (cntT T).length, (cntT T)[b] = 1 := fun h => by
            rw [List.getElem?_eq_getElem h] at hcg; exact Option.some.inj hcg
          have hp2 : ¬ atM tm b ≤ v := by omega
          repeat' (first
            | simp [AK_at, acode_seq, acode_region, acode_draw, acode_cond, ↓CB_t, ↓CB_f, CB_u, acode_block, acode_loop, acode_exit, acode_scope, acode_ret, acode_skip, seqQ_n, seqQ_e, seqQ_r, blockQ_n, blockQ_e, blockQ_r, TK_at, OK_at, SK_at, aops_nil, aops_cons, asch_done, asch_one, asch_two, asch_top, astep, aop_eq, isLoud, aloud, aloud1, isWrite, qv, evS, strip, gof, eget, hget, putO, eput, herase, oks, opnds, gS, afin, afin0, binD, arith, D.cells, takeD, fillD, keep, trim, envOf, Fin, aresl, aresv, resD, argOk, pickV, isP, deq, deqs, boundD, slD, lenD, isT, isSl, ptrIds, chunks, mn_min, mx_max, D.cells, splice_one, splice_more, Rbr_at, Rfr_at, frR, frV, frC, flatC, brwR, brwV, brwC, omap, leR, leV, leC, leL, leVL, hal, hav, havb, hb1, hb2, hb3, hcl, hcg, hcgb, hp, hp2, ib]
            | (refine WCall.pf (p1) ?_ ?_ ?_ ?_; (focus (simp [oks, opnds, gS, gof, eget]; done)); (focus (simp [omap, brwV, brwC, evS, eget, strip, hget, leVL, leV, leC, leL, hal, hav, havb, hb1, hb2, hb3, hcl, hcg, hcgb, hp, hp2, ib]; done)); (focus (simp [noV, noC, flatR, flatV, flatC, evS, eget, strip, hal, hav, havb, hb1, hb2, hb3, hcl, hcg, hcgb, hp, hp2, ib]; done)))
            | (refine ⟨WCall.pf (p1) ?_ ?_ ?_ ?_, ?_⟩; (focus (simp [oks, opnds, gS, gof, eget]; done)); (focus (simp [omap, brwV, brwC, evS, eget, strip, hget, leVL, leV, leC, leL, hal, hav, havb, hb1, hb2, hb3, hcl, hcg, hcgb, hp, hp2, ib]; done)); (focus (simp [noV, noC, flatR, flatV, flatC, evS, eget, strip, hal, hav, havb, hb1, hb2, hb3, hcl, hcg, hcgb, hp, hp2, ib]; done)))
            | (with_reducible refine And.intro (And.intro ?_ ?_) ?_)
            | fail)
          all_goals exact ⟨_, b + 1, (Gh.ren [0, 1, 2] (by simp [hB0]) (by simp [hB0] <;> decide) (by simp [eget, rnS, rnR, rnV, rnC, LtS, LtR, LtV, LtC, lget, rnIw]) (by simp [hget, rnO, rnC, LtO, LtC, lget, rnIw]) (.inl (by simp [lget, rnIw]))), by omega, rfl, by omega⟩
        · have hzero : ¬ 0 < T.countP (isD b) := fun h => by
            obtain ⟨t, ht, h2⟩ := List.countP_pos_iff.1 h
            have h2 : t.2 = (b : Int) := by simpa [isD] using h2
            have h3 := atM_mem hw.ids (hTm t ht) h2
            rw [hT] at ht
            have h4 : v < t.1 := by simpa using (List.mem_filter.1 ht).2
            omega
          rw [if_neg hzero] at hone
          rw [hone] at hcg
          have hcgb : ∀ h : b < (cntT T).length, (cntT T)[b] = 0 := fun h => by
            rw [List.getElem?_eq_getElem h] at hcg; exact Option.some.inj hcg
          have hp2 : atM tm b ≤ v := by omega
          repeat' (first
            | simp [AK_at, acode_seq, acode_region, acode_draw, acode_cond, ↓CB_t, ↓CB_f, CB_u, acode_block, acode_loop, acode_exit, acode_scope, acode_ret, acode_skip, seqQ_n, seqQ_e, seqQ_r, blockQ_n, blockQ_e, blockQ_r, TK_at, OK_at, SK_at, aops_nil, aops_cons, asch_done, asch_one, asch_two, asch_top, astep, aop_eq, isLoud, aloud, aloud1, isWrite, qv, evS, strip, gof, eget, hget, putO, eput, herase, oks, opnds, gS, afin, afin0, binD, arith, D.cells, takeD, fillD, keep, trim, envOf, Fin, aresl, aresv, resD, argOk, pickV, isP, deq, deqs, boundD, slD, lenD, isT, isSl, ptrIds, chunks, mn_min, mx_max, D.cells, splice_one, splice_more, Rbr_at, Rfr_at, frR, frV, frC, flatC, brwR, brwV, brwC, omap, leR, leV, leC, leL, leVL, hal, hav, havb, hb1, hb2, hb3, hcl, hcg, hcgb, hp, hp2, ib]
            | (refine WCall.pf (p1) ?_ ?_ ?_ ?_; (focus (simp [oks, opnds, gS, gof, eget]; done)); (focus (simp [omap, brwV, brwC, evS, eget, strip, hget, leVL, leV, leC, leL, hal, hav, havb, hb1, hb2, hb3, hcl, hcg, hcgb, hp, hp2, ib]; done)); (focus (simp [noV, noC, flatR, flatV, flatC, evS, eget, strip, hal, hav, havb, hb1, hb2, hb3, hcl, hcg, hcgb, hp, hp2, ib]; done)))
            | (refine ⟨WCall.pf (p1) ?_ ?_ ?_ ?_, ?_⟩; (focus (simp [oks, opnds, gS, gof, eget]; done)); (focus (simp [omap, brwV, brwC, evS, eget, strip, hget, leVL, leV, leC, leL, hal, hav, havb, hb1, hb2, hb3, hcl, hcg, hcgb, hp, hp2, ib]; done)); (focus (simp [noV, noC, flatR, flatV, flatC, evS, eget, strip, hal, hav, havb, hb1, hb2, hb3, hcl, hcg, hcgb, hp, hp2, ib]; done)))
            | (with_reducible refine And.intro (And.intro ?_ ?_) ?_)
            | fail)
          all_goals exact ⟨_, b + 1, (Gh.ren [0, 1, 2] (by simp [hB0]) (by simp [hB0] <;> decide) (by simp [eget, rnS, rnR, rnV, rnC, LtS, LtR, LtV, LtC, lget, rnIw]) (by simp [hget, rnO, rnC, LtO, LtC, lget, rnIw]) (.inl (by simp [lget, rnIw]))), by omega, rfl, by omega⟩
      · obtain rfl : b = 20 := by omega
        repeat' (first
          | simp [AK_at, acode_seq, acode_region, acode_draw, acode_cond, ↓CB_t, ↓CB_f, CB_u, acode_block, acode_loop, acode_exit, acode_scope, acode_ret, acode_skip, seqQ_n, seqQ_e, seqQ_r, blockQ_n, blockQ_e, blockQ_r, TK_at, OK_at, SK_at, aops_nil, aops_cons, asch_done, asch_one, asch_two, asch_top, astep, aop_eq, isLoud, aloud, aloud1, isWrite, qv, evS, strip, gof, eget, hget, putO, eput, herase, oks, opnds, gS, afin, afin0, binD, arith, D.cells, takeD, fillD, keep, trim, envOf, Fin, aresl, aresv, resD, argOk, pickV, isP, deq, deqs, boundD, slD, lenD, isT, isSl, ptrIds, chunks, mn_min, mx_max, D.cells, splice_one, splice_more, Rbr_at, Rfr_at, frR, frV, frC, flatC, brwR, brwV, brwC, omap, leR, leV, leC, leL, leVL, ]
          | (refine WCall.pf (p1) ?_ ?_ ?_ ?_; (focus (simp [oks, opnds, gS, gof, eget]; done)); (focus (simp [omap, brwV, brwC, evS, eget, strip, hget, leVL, leV, leC, leL, ]; done)); (focus (simp [noV, noC, flatR, flatV, flatC, evS, eget, strip, ]; done)))
          | (refine ⟨WCall.pf (p1) ?_ ?_ ?_ ?_, ?_⟩; (focus (simp [oks, opnds, gS, gof, eget]; done)); (focus (simp [omap, brwV, brwC, evS, eget, strip, hget, leVL, leV, leC, leL, ]; done)); (focus (simp [noV, noC, flatR, flatV, flatC, evS, eget, strip, ]; done)))
          | (with_reducible refine And.intro (And.intro ?_ ?_) ?_)
          | fail)
end Go.Proofs.Ytajimebannjofaa

set_option linter.unusedSimpArgs false
set_option linter.unusedVariables false
set_option maxRecDepth 100000
set_option maxHeartbeats 4000000
namespace Go.Proofs.Ytajimebannjofaa
open Go.RowKit
theorem srtT_eq : ∀ (a b : List (Int × Int)), SrtT a → SrtT b → (∀ z, z ∈ a ↔ z ∈ b) → a = b
  | [], [], _, _, _ => rfl
  | [], y :: b, _, _, h => by have := (h y).2 List.mem_cons_self; cases this
  | x :: a, [], _, _, h => by have := (h x).1 List.mem_cons_self; cases this
  | x :: a, y :: b, ha, hb, h => by
    obtain ⟨a1, a2⟩ := List.pairwise_cons.1 ha
    obtain ⟨b1, b2⟩ := List.pairwise_cons.1 hb
    have e : x = y := by
      rcases List.mem_cons.1 ((h x).1 List.mem_cons_self) with h1 | h1
      · exact h1
      · rcases List.mem_cons.1 ((h y).2 List.mem_cons_self) with h2 | h2
        · exact h2.symm
        · have := a1 y h2; have := b1 x h1; omega
    subst e
    congr 1
    refine srtT_eq a b a2 b2 fun z => ?_
    constructor
    · intro hz
      rcases List.mem_cons.1 ((h z).1 (List.mem_cons_of_mem _ hz)) with h1 | h1
      · subst h1; have := a1 z hz; omega
      · exact h1
    · intro hz
      rcases List.mem_cons.1 ((h z).2 (List.mem_cons_of_mem _ hz)) with h1 | h1
      · subst h1; have := b1 z hz; omega
      · exact h1
theorem advNone {v : Int} {tm : List (Int × Int)} (h : ∀ t ∈ tm, t.1 ≠ v + 1) : tm.filter (fun t => decide (t.1 ≠ v + 1)) = tm ∧ tm.filter (fun t => decide (t.1 = v + 1)) = [] :=
  ⟨List.filter_eq_self.2 fun t ht => by simpa using h t ht, List.filter_eq_nil_iff.2 fun t ht => by simpa using h t ht⟩
theorem wturn_code : cfun Try.prog [] 5 = some ⟨(.seq (.region 0 [⟨(some 5), (.box (.t 1)), none⟩, ⟨(some 6), (.box (.t 2)), none⟩, ⟨(some 8), (.mov (.k (.bool false))), none⟩]) (.seq (.region 1 [⟨(some 29), (.mov (.t 0)), none⟩, ⟨(some 30), (.call 11 [(.t 29), (.k (.int .i64 3000))]), none⟩, ⟨(some 9), (.mov (.t 30)), none⟩]) (.seq (.region 2 [⟨(some 32), (.mov (.t 9)), none⟩, ⟨(some 33), (.call 17 [(.t 32)]), none⟩, ⟨(some 31), (.mov (.t 33)), none⟩, ⟨(some 34), (.ext (.t 31) 0), none⟩, ⟨(some 35), (.ext (.t 31) 1), none⟩, ⟨(some 10), (.alloc [(.int .i64 0), .nil0]), none⟩, ⟨none, (.store 2 (.t 10) (.t 34)), none⟩, ⟨(some 11), (.mov (.t 35)), none⟩]) (.seq (.region 3 [⟨(some 36), (.mov (.t 9)), none⟩, ⟨(some 37), (.bin .add (.t 36) (.k (.int .i64 1))), none⟩, ⟨(some 38), (.fad 1 (.t 5)), none⟩, ⟨(some 39), (.load false 1 (.t 38)), none⟩, ⟨(some 40), (.call 11 [(.t 39), (.k (.int .i64 500))]), none⟩, ⟨(some 41), (.bin .add (.t 37) (.t 40)), none⟩, ⟨(some 12), (.mov (.t 41)), none⟩]) (.seq (.region 4 [⟨(some 42), (.mov (.t 9)), none⟩, ⟨(some 43), (.bin .add (.t 42) (.k (.int .i64 1))), none⟩, ⟨(some 44), (.fad 1 (.t 6)), none⟩, ⟨(some 45), (.load false 1 (.t 44)), none⟩, ⟨(some 46), (.call 11 [(.t 45), (.k (.int .i64 500))]), none⟩, ⟨(some 47), (.bin .add (.t 43) (.t 46)), none⟩, ⟨(some 13), (.mov (.t 47)), none⟩]) (.seq (.region 5 [⟨(some 48), (.fad 0 (.t 5)), none⟩, ⟨(some 49), (.load false 1 (.t 48)), none⟩, ⟨(some 50), (.call 11 [(.t 49), (.k (.int .i64 100))]), none⟩, ⟨(some 14), (.mov (.t 50)), none⟩]) (.seq (.region 6 [⟨(some 51), (.fad 0 (.t 6)), none⟩, ⟨(some 52), (.load false 1 (.t 51)), none⟩, ⟨(some 53), (.call 11 [(.t 52), (.k (.int .i64 100))]), none⟩, ⟨(some 54), (.bin .add (.k (.int .i64 100)) (.t 53)), none⟩, ⟨(some 15), (.mov (.t 54)), none⟩]) (.seq (.region 7 [⟨(some 56), (.load true 2 (.t 10)), none⟩, ⟨(some 57), (.mov (.t 14)), none⟩, ⟨(some 58), (.mov (.t 12)), none⟩, ⟨(some 59), (.call 13 [(.t 56), (.t 57), (.t 58)]), none⟩, ⟨(some 55), (.mov (.t 59)), none⟩, ⟨(some 60), (.ext (.t 55) 0), none⟩, ⟨(some 61), (.ext (.t 55) 1), none⟩, ⟨(some 16), (.alloc [(.int .i64 0), .nil0]), none⟩, ⟨none, (.store 2 (.t 16) (.t 60)), none⟩, ⟨(some 17), (.mov (.t 61)), none⟩]) (.seq (.region 8 [⟨(some 63), (.load true 2 (.t 16)), none⟩, ⟨(some 64), (.mov (.t 15)), none⟩, ⟨(some 65), (.mov (.t 13)), none⟩, ⟨(some 66), (.call 13 [(.t 63), (.t 64), (.t 65)]), none⟩, ⟨(some 62), (.mov (.t 66)), none⟩, ⟨(some 67), (.ext (.t 62) 0), none⟩, ⟨(some 68), (.ext (.t 62) 1), none⟩, ⟨none, (.store 2 (.t 16) (.t 67)), none⟩, ⟨(some 18), (.mov (.t 68)), none⟩]) (.seq (.region 9 [⟨(some 70), (.load true 2 (.t 10)), none⟩, ⟨(some 71), (.mov (.t 15)), none⟩, ⟨(some 72), (.mov (.t 13)), none⟩, ⟨(some 73), (.call 13 [(.t 70), (.t 71), (.t 72)]), none⟩, ⟨(some 69), (.mov (.t 73)), none⟩, ⟨(some 74), (.ext (.t 69) 0), none⟩, ⟨(some 75), (.ext (.t 69) 1), none⟩, ⟨(some 19), (.alloc [(.int .i64 0), .nil0]), none⟩, ⟨none, (.store 2 (.t 19) (.t 74)), none⟩, ⟨(some 20), (.mov (.t 75)), none⟩]) (.seq (.seq (.region 10 [⟨(some 21), (.mov (.k (.int .i64 0))), none⟩]) (.block 0 (.loop (.seq (.seq (.region 11 [⟨(some 76), (.mov (.t 21)), none⟩, ⟨(some 77), (.mov (.t 3)), none⟩, ⟨(some 78), (.mov (.t 12)), none⟩, ⟨(some 79), (.mov (.t 13)), none⟩, ⟨(some 80), (.mn (.t 78) (.t 79)), none⟩, ⟨(some 81), (.mov (.t 9)), none⟩, ⟨(some 82), (.bin .sub (.t 80) (.t 81)), none⟩, ⟨(some 83), (.call 11 [(.t 77), (.t 82)]), none⟩, ⟨(some 84), (.bin .lss (.t 76) (.t 83)), none⟩, ⟨(some 85), (.mov (.t 84)), none⟩, ⟨(some 86), (.mov (.t 11)), (some (85, true))⟩, ⟨(some 87), (.bin .eql (.t 86) (.k (.int .i64 0))), (some (85, true))⟩, ⟨(some 88), (.pick (.t 85) (.t 87) (.k (.bool false))), none⟩, ⟨(some 89), (.mov (.t 88)), none⟩, ⟨(some 90), (.mov (.t 18)), (some (89, true))⟩, ⟨(some 91), (.bin .eql (.t 90) (.k (.int .i64 0))), (some (89, true))⟩, ⟨(some 92), (.pick (.t 89) (.t 91) (.k (.bool false))), none⟩]) (.cond 92 .skip (.exit 0))) (.seq (.block 1 (.seq (.region 13 [⟨(some 96), (.load true 2 (.t 16)), none⟩, ⟨(some 97), (.call 15 [(.t 96)]), none⟩, ⟨(some 95), (.mov (.t 97)), none⟩, ⟨(some 98), (.ext (.t 95) 0), none⟩, ⟨(some 99), (.ext (.t 95) 1), none⟩, ⟨(some 100), (.ext (.t 95) 2), none⟩, ⟨(some 22), (.alloc [(.int .i64 0), .nil0]), none⟩, ⟨none, (.store 2 (.t 22) (.t 98)), none⟩, ⟨(some 23), (.mov (.t 99)), none⟩, ⟨(some 24), (.mov (.t 100)), none⟩]) (.seq (.region 14 [⟨(some 102), (.load true 2 (.t 19)), none⟩, ⟨(some 103), (.call 15 [(.t 102)]), none⟩, ⟨(some 101), (.mov (.t 103)), none⟩, ⟨(some 104), (.ext (.t 101) 0), none⟩, ⟨(some 105), (.ext (.t 101) 1), none⟩, ⟨(some 106), (.ext (.t 101) 2), none⟩, ⟨(some 25), (.alloc [(.int .i64 0), .nil0]), none⟩, ⟨none, (.store 2 (.t 25) (.t 104)), none⟩, ⟨(some 26), (.mov (.t 105)), none⟩, ⟨(some 27), (.mov (.t 106)), none⟩]) (.seq (.seq (.region 15 [⟨(some 107), (.mov (.t 24)), none⟩, ⟨(some 108), (.bin .neq (.t 107) (.k (.int .i64 0))), none⟩, ⟨(some 109), (.mov (.t 108)), none⟩, ⟨(some 110), (.mov (.t 27)), (some (109, false))⟩, ⟨(some 111), (.bin .neq (.t 110) (.k (.int .i64 0))), (some (109, false))⟩, ⟨(some 112), (.pick (.t 109) (.k (.bool true)) (.t 111)), none⟩]) (.cond 112 (.seq (.region 16 [⟨(some 8), (.mov (.k (.bool false))), none⟩]) .ret) .skip)) (.seq (.region 17 [⟨(some 113), (.load true 2 (.t 22)), none⟩, ⟨none, (.store 2 (.t 16) (.t 113)), none⟩]) (.region 18 [⟨(some 114), (.load true 2 (.t 25)), none⟩, ⟨none, (.store 2 (.t 19) (.t 114)), none⟩])))))) (.region 12 [⟨(some 93), (.mov (.t 21)), none⟩, ⟨(some 94), (.bin .add (.t 93) (.k (.int .i64 1))), none⟩, ⟨(some 21), (.mov (.t 94)), none⟩])))))) (.seq (.region 19 [⟨(some 116), (.load true 2 (.t 19)), none⟩, ⟨(some 117), (.mov (.t 14)), none⟩, ⟨(some 118), (.mov (.t 12)), none⟩, ⟨(some 119), (.call 13 [(.t 116), (.t 117), (.t 118)]), none⟩, ⟨(some 115), (.mov (.t 119)), none⟩, ⟨(some 120), (.ext (.t 115) 0), none⟩, ⟨(some 121), (.ext (.t 115) 1), none⟩, ⟨none, (.store 2 (.t 19) (.t 120)), none⟩, ⟨(some 28), (.mov (.t 121)), none⟩]) (.seq (.region 20 [⟨(some 122), (.mov (.t 11)), none⟩, ⟨(some 123), (.bin .eql (.t 122) (.k (.int .i64 0))), none⟩, ⟨(some 124), (.mov (.t 123)), none⟩, ⟨(some 125), (.mov (.t 17)), (some (124, true))⟩, ⟨(some 126), (.bin .eql (.t 125) (.k (.int .i64 0))), (some (124, true))⟩, ⟨(some 127), (.pick (.t 124) (.t 126) (.k (.bool false))), none⟩, ⟨(some 128), (.mov (.t 127)), none⟩, ⟨(some 129), (.mov (.t 18)), (some (128, true))⟩, ⟨(some 130), (.bin .eql (.t 129) (.k (.int .i64 0))), (some (128, true))⟩, ⟨(some 131), (.pick (.t 128) (.t 130) (.k (.bool false))), none⟩, ⟨(some 132), (.mov (.t 131)), none⟩, ⟨(some 133), (.mov (.t 20)), (some (132, true))⟩, ⟨(some 134), (.bin .eql (.t 133) (.k (.int .i64 0))), (some (132, true))⟩, ⟨(some 135), (.pick (.t 132) (.t 134) (.k (.bool false))), none⟩, ⟨(some 136), (.mov (.t 135)), none⟩, ⟨(some 137), (.mov (.t 28)), (some (136, true))⟩, ⟨(some 138), (.bin .eql (.t 137) (.k (.int .i64 0))), (some (136, true))⟩, ⟨(some 139), (.pick (.t 136) (.t 138) (.k (.bool false))), none⟩, ⟨(some 140), (.mov (.t 139)), none⟩, ⟨(some 141), (.load true 2 (.t 16)), (some (140, true))⟩, ⟨(some 142), (.load true 2 (.t 19)), (some (140, true))⟩, ⟨(some 143), (.call 14 [(.t 141), (.t 142)]), (some (140, true))⟩, ⟨(some 144), (.pick (.t 140) (.t 143) (.k (.bool false))), none⟩, ⟨(some 145), (.mov (.t 144)), none⟩, ⟨(some 146), (.fad 1 (.t 16)), (some (145, true))⟩, ⟨(some 147), (.load false 1 (.t 146)), (some (145, true))⟩, ⟨(some 148), (.len (.t 147)), (some (145, true))⟩, ⟨(some 149), (.bin .eql (.t 148) (.k (.int .i64 25))), (some (145, true))⟩, ⟨(some 150), (.pick (.t 145) (.t 149) (.k (.bool false))), none⟩, ⟨(some 8), (.mov (.t 150)), none⟩]) .ret))))))))))))), [(.t 8)], 151⟩ := by kernel_rfl
theorem wturn_pf (now : Int) (a b : List Int) (ticks : Int) (i1 : InR now) (ha : a.length = 2 ∧ ∀ z ∈ a, InR z) (hb : b.length = 2 ∧ ∀ z ∈ b, InR z) (i2 : InR ticks) :
    PF Try.prog 5 [I now, .agg (a.map I), .agg (b.map I), I ticks] (.bool true) := by
  obtain ⟨a1, a2, rfl⟩ : ∃ x y, a = [x, y] := by
    match a, ha.1 with
    | [x, y], _ => exact ⟨x, y, rfl⟩
  obtain ⟨b1, b2, rfl⟩ : ∃ x y, b = [x, y] := by
    match b, hb.1 with
    | [x, y], _ => exact ⟨x, y, rfl⟩
  have ia1 : InR a1 := ha.2 _ (by simp)
  have ia2 : InR a2 := ha.2 _ (by simp)
  have ib1 : InR b1 := hb.2 _ (by simp)
  have ib2 : InR b2 := hb.2 _ (by simp)
  have p0 := picked_pf now 3000 i1 (by omega)
  have q0 := pickedZ_range now 3000 (by omega)
  generalize pickedZ now 3000 = n at p0 q0
  have pa1 := picked_pf a1 100 ia1 (by omega)
  have qa1 := pickedZ_range a1 100 (by omega)
  generalize pickedZ a1 100 = i at pa1 qa1
  have pa2 := picked_pf a2 500 ia2 (by omega)
  have qa2 := pickedZ_range a2 500 (by omega)
  generalize pickedZ a2 500 = a5 at pa2 qa2
  have pb1 := picked_pf b1 100 ib1 (by omega)
  have qb1 := pickedZ_range b1 100 (by omega)
  generalize pickedZ b1 100 = b6 at pb1 qb1
  have pb2 := picked_pf b2 500 ib2 (by omega)
  have qb2 := pickedZ_range b2 500 (by omega)
  generalize pickedZ b2 500 = b5 at pb2 qb2
  have in1 : InR (n + 1) := inW (by omega) (by omega)
  obtain ⟨x, hx⟩ : ∃ x, n + 1 + a5 = x := ⟨_, rfl⟩
  obtain ⟨y, hy⟩ : ∃ y, n + 1 + b5 = y := ⟨_, rfl⟩
  obtain ⟨j, hj⟩ : ∃ j, 100 + b6 = j := ⟨_, rfl⟩
  have ix : InR x := inW (by omega) (by omega)
  have iy : InR y := inW (by omega) (by omega)
  have ij : InR j := inW (by omega) (by omega)
  have w0 : WhOk n [] := (arL_ok n [] q0.1 (by omega) 0 (by omega)).wh
  have hnew := wnewM n q0.1 (by omega)
  have hm1 := warmM n [] w0 (x, i) ⟨by show n < x; omega, by show x ≤ _; omega, by show x ≤ _; omega, by show 0 ≤ i; omega, by show i < 200; omega⟩ (by simp)
  have w1 := w0.ins (x, i) ⟨by show n < x; omega, by show x ≤ _; omega, by show x ≤ _; omega, by show 0 ≤ i; omega, by show i < 200; omega⟩ (by simp) (by simp)
  have hx1 : ∀ t ∈ insT (x, i) [], t = (x, i) := fun t ht => by simpa using insT_mem.1 ht
  have hx2 : ∀ t ∈ insT (x, i) [], t.2 ≠ j := fun t ht => by rw [hx1 t ht]; show i ≠ j; omega
  have hl1 : (insT (x, i) []).length = 1 := (insT_perm _ _).length_eq
  have hm2 := warmM n (insT (x, i) []) w1 (y, j) ⟨by show n < y; omega, by show y ≤ _; omega, by show y ≤ _; omega, by show 0 ≤ j; omega, by show j < 200; omega⟩ hx2
  have w2 := w1.ins (y, j) ⟨by show n < y; omega, by show y ≤ _; omega, by show y ≤ _; omega, by show 0 ≤ j; omega, by show j < 200; omega⟩ hx2 (by omega)
  have hm3 := warmM n [] w0 (y, j) ⟨by show n < y; omega, by show y ≤ _; omega, by show y ≤ _; omega, by show 0 ≤ j; omega, by show j < 200; omega⟩ (by simp)
  have w3 := w0.ins (y, j) ⟨by show n < y; omega, by show y ≤ _; omega, by show y ≤ _; omega, by show 0 ≤ j; omega, by show j < 200; omega⟩ (by simp) (by simp)
  have hy1 : ∀ t ∈ insT (y, j) [], t = (y, j) := fun t ht => by simpa using insT_mem.1 ht
  have hy2 : ∀ t ∈ insT (y, j) [], t.2 ≠ i := fun t ht => by rw [hy1 t ht]; show j ≠ i; omega
  have hl3 : (insT (y, j) []).length = 1 := (insT_perm _ _).length_eq
  obtain ⟨A, hA⟩ : ∃ A, A = insT (x, i) [] := ⟨_, rfl⟩
  obtain ⟨W2, hW2⟩ : ∃ W2, W2 = insT (y, j) [] := ⟨_, rfl⟩
  rw [← hW2] at hm3 w3 hy1 hy2 hl3
  rw [← hA] at hm1 hm2 w1 w2 hx1 hx2 hl1
  obtain ⟨W1, hW1⟩ : ∃ W1, W1 = insT (y, j) A := ⟨_, rfl⟩
  rw [← hW1] at hm2 w2
  have h1m : ∀ t ∈ W1, t.1 = x ∨ t.1 = y := fun t ht => by
    rw [hW1] at ht
    rcases insT_mem.1 ht with rfl | ht
    · exact .inr rfl
    · rw [hx1 t ht]; exact .inl rfl
  have h2m : ∀ t ∈ W2, t.1 = x ∨ t.1 = y := fun t ht => by rw [hy1 t ht]; exact .inr rfl
  have hfin : insT (x, i) W2 = W1 := by
    have wf := w3.ins (x, i) ⟨by show n < x; omega, by show x ≤ _; omega, by show x ≤ _; omega, by show 0 ≤ i; omega, by show i < 200; omega⟩ hy2 (by omega)
    refine srtT_eq _ _ wf.srt w2.srt fun z => ?_
    rw [hW1, hW2, hA]
    simp only [insT_mem]
    constructor <;> (intro h; rcases h with h | h | h <;> simp [h] at *)
  obtain ⟨m0, hm0⟩ : ∃ m0, min x y = m0 := ⟨_, rfl⟩
  have im : InR (m0 - n) := inW (by omega) (by omega)
  have pt := picked_pf ticks (m0 - n) i2 (by omega)
  have qt := pickedZ_range ticks (m0 - n) (by omega)
  obtain ⟨P, hP⟩ : ∃ P : Nat, pickedZ ticks (m0 - n) = P := ⟨(pickedZ ticks (m0 - n)).toNat, by omega⟩
  rw [hP] at pt qt
  rw [whM_def] at hnew
  rw [whM_def, whM_def] at hm1 hm2 hm3
  refine PF.of follows_ok wturn_code (by simp) (by simp [argOk]) (by simp [noV, noC]) fun B hBN hB0 => acode_sound [0, 1, 2, 3, 5, 6, 8, 9, 10, 11, 12, 13, 14, 15, 16, 17, 18, 19, 20, 21, 22, 24, 25, 27, 28, 92, 112] [] _ _ _ ?_
  repeat' (first
    | simp [AK_at, acode_seq, acode_region, acode_draw, acode_cond, ↓CB_t, ↓CB_f, CB_u, acode_block, acode_loop, acode_exit, acode_scope, acode_ret, acode_skip, seqQ_n, seqQ_e, seqQ_r, blockQ_n, blockQ_e, blockQ_r, TK_at, OK_at, SK_at, aops_nil, aops_cons, asch_done, asch_one, asch_two, asch_top, astep, aop_eq, isLoud, aloud, aloud1, isWrite, qv, evS, strip, gof, eget, hget, putO, eput, herase, oks, opnds, gS, afin, afin0, binD, arith, D.cells, takeD, fillD, keep, trim, envOf, Fin, aresl, aresv, resD, argOk, pickV, isP, deq, deqs, boundD, slD, lenD, isT, isSl, ptrIds, chunks, mn_min, mx_max, D.cells, splice_one, splice_more, Rbr_at, Rfr_at, frR, frV, frC, flatC, brwR, brwV, brwC, omap, leR, leV, leC, leL, leVL, in1, hx, hy, hj, ix, iy, ij]
    | (refine WCall.pf (p0) ?_ ?_ ?_ ?_; (focus (simp [oks, opnds, gS, gof, eget]; done)); (focus (simp [omap, brwV, brwC, evS, eget, strip, hget, leVL, leV, leC, leL, in1, hx, hy, hj, ix, iy, ij]; done)); (focus (simp [noV, noC, flatR, flatV, flatC, evS, eget, strip, in1, hx, hy, hj, ix, iy, ij]; done)))
    | (refine ⟨WCall.pf (p0) ?_ ?_ ?_ ?_, ?_⟩; (focus (simp [oks, opnds, gS, gof, eget]; done)); (focus (simp [omap, brwV, brwC, evS, eget, strip, hget, leVL, leV, leC, leL, in1, hx, hy, hj, ix, iy, ij]; done)); (focus (simp [noV, noC, flatR, flatV, flatC, evS, eget, strip, in1, hx, hy, hj, ix, iy, ij]; done)))
    | (refine WCall.pf (pa1) ?_ ?_ ?_ ?_; (focus (simp [oks, opnds, gS, gof, eget]; done)); (focus (simp [omap, brwV, brwC, evS, eget, strip, hget, leVL, leV, leC, leL, in1, hx, hy, hj, ix, iy, ij]; done)); (focus (simp [noV, noC, flatR, flatV, flatC, evS, eget, strip, in1, hx, hy, hj, ix, iy, ij]; done)))
    | (refine ⟨WCall.pf (pa1) ?_ ?_ ?_ ?_, ?_⟩; (focus (simp [oks, opnds, gS, gof, eget]; done)); (focus (simp [omap, brwV, brwC, evS, eget, strip, hget, leVL, leV, leC, leL, in1, hx, hy, hj, ix, iy, ij]; done)); (focus (simp [noV, noC, flatR, flatV, flatC, evS, eget, strip, in1, hx, hy, hj, ix, iy, ij]; done)))
    | (refine WCall.pf (pa2) ?_ ?_ ?_ ?_; (focus (simp [oks, opnds, gS, gof, eget]; done)); (focus (simp [omap, brwV, brwC, evS, eget, strip, hget, leVL, leV, leC, leL, in1, hx, hy, hj, ix, iy, ij]; done)); (focus (simp [noV, noC, flatR, flatV, flatC, evS, eget, strip, in1, hx, hy, hj, ix, iy, ij]; done)))
    | (refine ⟨WCall.pf (pa2) ?_ ?_ ?_ ?_, ?_⟩; (focus (simp [oks, opnds, gS, gof, eget]; done)); (focus (simp [omap, brwV, brwC, evS, eget, strip, hget, leVL, leV, leC, leL, in1, hx, hy, hj, ix, iy, ij]; done)); (focus (simp [noV, noC, flatR, flatV, flatC, evS, eget, strip, in1, hx, hy, hj, ix, iy, ij]; done)))
    | (refine WCall.pf (pb1) ?_ ?_ ?_ ?_; (focus (simp [oks, opnds, gS, gof, eget]; done)); (focus (simp [omap, brwV, brwC, evS, eget, strip, hget, leVL, leV, leC, leL, in1, hx, hy, hj, ix, iy, ij]; done)); (focus (simp [noV, noC, flatR, flatV, flatC, evS, eget, strip, in1, hx, hy, hj, ix, iy, ij]; done)))
    | (refine ⟨WCall.pf (pb1) ?_ ?_ ?_ ?_, ?_⟩; (focus (simp [oks, opnds, gS, gof, eget]; done)); (focus (simp [omap, brwV, brwC, evS, eget, strip, hget, leVL, leV, leC, leL, in1, hx, hy, hj, ix, iy, ij]; done)); (focus (simp [noV, noC, flatR, flatV, flatC, evS, eget, strip, in1, hx, hy, hj, ix, iy, ij]; done)))
    | (refine WCall.pf (pb2) ?_ ?_ ?_ ?_; (focus (simp [oks, opnds, gS, gof, eget]; done)); (focus (simp [omap, brwV, brwC, evS, eget, strip, hget, leVL, leV, leC, leL, in1, hx, hy, hj, ix, iy, ij]; done)); (focus (simp [noV, noC, flatR, flatV, flatC, evS, eget, strip, in1, hx, hy, hj, ix, iy, ij]; done)))
    | (refine ⟨WCall.pf (pb2) ?_ ?_ ?_ ?_, ?_⟩; (focus (simp [oks, opnds, gS, gof, eget]; done)); (focus (simp [omap, brwV, brwC, evS, eget, strip, hget, leVL, leV, leC, leL, in1, hx, hy, hj, ix, iy, ij]; done)); (focus (simp [noV, noC, flatR, flatV, flatC, evS, eget, strip, in1, hx, hy, hj, ix, iy, ij]; done)))
    | (refine WCall.pf (hnew) ?_ ?_ ?_ ?_; (focus (simp [oks, opnds, gS, gof, eget]; done)); (focus (simp [omap, brwV, brwC, evS, eget, strip, hget, leVL, leV, leC, leL, in1, hx, hy, hj, ix, iy, ij]; done)); (focus (simp [noV, noC, flatR, flatV, flatC, evS, eget, strip, in1, hx, hy, hj, ix, iy, ij]; done)))
    | (refine ⟨WCall.pf (hnew) ?_ ?_ ?_ ?_, ?_⟩; (focus (simp [oks, opnds, gS, gof, eget]; done)); (focus (simp [omap, brwV, brwC, evS, eget, strip, hget, leVL, leV, leC, leL, in1, hx, hy, hj, ix, iy, ij]; done)); (focus (simp [noV, noC, flatR, flatV, flatC, evS, eget, strip, in1, hx, hy, hj, ix, iy, ij]; done)))
    | (refine WCall.pf (hm1) ?_ ?_ ?_ ?_; (focus (simp [oks, opnds, gS, gof, eget]; done)); (focus (simp [omap, brwV, brwC, evS, eget, strip, hget, leVL, leV, leC, leL, in1, hx, hy, hj, ix, iy, ij]; done)); (focus (simp [noV, noC, flatR, flatV, flatC, evS, eget, strip, in1, hx, hy, hj, ix, iy, ij]; done)))
    | (refine ⟨WCall.pf (hm1) ?_ ?_ ?_ ?_, ?_⟩; (focus (simp [oks, opnds, gS, gof, eget]; done)); (focus (simp [omap, brwV, brwC, evS, eget, strip, hget, leVL, leV, leC, leL, in1, hx, hy, hj, ix, iy, ij]; done)); (focus (simp [noV, noC, flatR, flatV, flatC, evS, eget, strip, in1, hx, hy, hj, ix, iy, ij]; done)))
    | (refine WCall.pf (hm2) ?_ ?_ ?_ ?_; (focus (simp [oks, opnds, gS, gof, eget]; done)); (focus (simp [omap, brwV, brwC, evS, eget, strip, hget, leVL, leV, leC, leL, in1, hx, hy, hj, ix, iy, ij]; done)); (focus (simp [noV, noC, flatR, flatV, flatC, evS, eget, strip, in1, hx, hy, hj, ix, iy, ij]; done)))
    | (refine ⟨WCall.pf (hm2) ?_ ?_ ?_ ?_, ?_⟩; (focus (simp [oks, opnds, gS, gof, eget]; done)); (focus (simp [omap, brwV, brwC, evS, eget, strip, hget, leVL, leV, leC, leL, in1, hx, hy, hj, ix, iy, ij]; done)); (focus (simp [noV, noC, flatR, flatV, flatC, evS, eget, strip, in1, hx, hy, hj, ix, iy, ij]; done)))
    | (refine WCall.pf (hm3) ?_ ?_ ?_ ?_; (focus (simp [oks, opnds, gS, gof, eget]; done)); (focus (simp [omap, brwV, brwC, evS, eget, strip, hget, leVL, leV, leC, leL, in1, hx, hy, hj, ix, iy, ij]; done)); (focus (simp [noV, noC, flatR, flatV, flatC, evS, eget, strip, in1, hx, hy, hj, ix, iy, ij]; done)))
    | (refine ⟨WCall.pf (hm3) ?_ ?_ ?_ ?_, ?_⟩; (focus (simp [oks, opnds, gS, gof, eget]; done)); (focus (simp [omap, brwV, brwC, evS, eget, strip, hget, leVL, leV, leC, leL, in1, hx, hy, hj, ix, iy, ij]; done)); (focus (simp [noV, noC, flatR, flatV, flatC, evS, eget, strip, in1, hx, hy, hj, ix, iy, ij]; done)))
    | (with_reducible refine And.intro (And.intro ?_ ?_) ?_)
    | fail)
  refine W.loopS (fun t : Nat => ⟨[(21, I t), (20, I 0), (19, .ptr 1 0), (18, I 0), (17, I 0), (16, .ptr 0 0), (14, I i), (13, I y), (12, I x), (11, I 0), (9, I n), (8, .bool false), (3, I ticks)], [(1, .cells [I (n + t), .rows 1 (lrT (n + t) W2)]), (0, .cells [I (n + t), .rows 1 (lrT (n + t) W1)])], 2⟩)
    (fun m t => m = P - t ∧ t ≤ P) ?_ ?_
  · exact ⟨_, 0, (Gh.ren [3, 4] (by simp [hB0]) (by simp [hB0] <;> decide) (by simp [eget, rnS, rnR, rnV, rnC, LtS, LtR, LtV, LtC, lget, rnIw]) (by simp [hget, rnO, rnC, LtO, LtC, lget, rnIw]) (.inl (by simp [lget, rnIw]))), rfl, by omega⟩
  rintro m t ⟨hm, ht⟩
  refine acode_sound [0, 1, 2, 3, 5, 6, 8, 9, 10, 11, 12, 13, 14, 15, 16, 17, 18, 19, 20, 21, 22, 24, 25, 27, 28, 92, 112] [] _ _ _ ?_
  have ho1 := tmA_ok w2 t (by omega)
  have ho2 := tmA_ok w3 t (by omega)
  have e1 : tmA W1 (n + t) = W1 := List.filter_eq_self.2 fun z hz => by have := h1m z hz; simp; omega
  have e2 : tmA W2 (n + t) = W2 := List.filter_eq_self.2 fun z hz => by have := h2m z hz; simp; omega
  rw [e1] at ho1
  rw [e2] at ho2
  obtain ⟨v, hv⟩ : ∃ v, n + (t : Int) = v := ⟨_, rfl⟩
  simp only [hv] at ho1 ho2 ⊢
  by_cases hlt : t < P
  · have c1 := advNone (v := v) (tm := W1) fun z hz => by have := h1m z hz; omega
    have c2 := advNone (v := v) (tm := W2) fun z hz => by have := h2m z hz; omega
    have ha1 := wadv_pf v _ ho1 (by omega)
    have ha2 := wadv_pf v _ ho2 (by omega)
    rw [c1.1, c1.2] at ha1
    rw [c2.1, c2.2] at ha2
    change PF _ _ [whM v W1] (.tup [whM (v + 1) W1, _, _]) at ha1
    change PF _ _ [whM v W2] (.tup [whM (v + 1) W2, _, _]) at ha2
    rw [whM_def, whM_def] at ha1 ha2
    have it : InR ((t : Int) + 1) := inW (by omega) (by omega)
    repeat' (first
      | simp [AK_at, acode_seq, acode_region, acode_draw, acode_cond, ↓CB_t, ↓CB_f, CB_u, acode_block, acode_loop, acode_exit, acode_scope, acode_ret, acode_skip, seqQ_n, seqQ_e, seqQ_r, blockQ_n, blockQ_e, blockQ_r, TK_at, OK_at, SK_at, aops_nil, aops_cons, asch_done, asch_one, asch_two, asch_top, astep, aop_eq, isLoud, aloud, aloud1, isWrite, qv, evS, strip, gof, eget, hget, putO, eput, herase, oks, opnds, gS, afin, afin0, binD, arith, D.cells, takeD, fillD, keep, trim, envOf, Fin, aresl, aresv, resD, argOk, pickV, isP, deq, deqs, boundD, slD, lenD, isT, isSl, ptrIds, chunks, mn_min, mx_max, D.cells, splice_one, splice_more, Rbr_at, Rfr_at, frR, frV, frC, flatC, brwR, brwV, brwC, omap, leR, leV, leC, leL, leVL, hlt, it, hm0, im]
      | (refine WCall.pf (pt) ?_ ?_ ?_ ?_; (focus (simp [oks, opnds, gS, gof, eget]; done)); (focus (simp [omap, brwV, brwC, evS, eget, strip, hget, leVL, leV, leC, leL, hlt, it, hm0, im]; done)); (focus (simp [noV, noC, flatR, flatV, flatC, evS, eget, strip, hlt, it, hm0, im]; done)))
      | (refine ⟨WCall.pf (pt) ?_ ?_ ?_ ?_, ?_⟩; (focus (simp [oks, opnds, gS, gof, eget]; done)); (focus (simp [omap, brwV, brwC, evS, eget, strip, hget, leVL, leV, leC, leL, hlt, it, hm0, im]; done)); (focus (simp [noV, noC, flatR, flatV, flatC, evS, eget, strip, hlt, it, hm0, im]; done)))
      | (refine WCall.pf (ha1) ?_ ?_ ?_ ?_; (focus (simp [oks, opnds, gS, gof, eget]; done)); (focus (simp [omap, brwV, brwC, evS, eget, strip, hget, leVL, leV, leC, leL, hlt, it, hm0, im]; done)); (focus (simp [noV, noC, flatR, flatV, flatC, evS, eget, strip, hlt, it, hm0, im]; done)))
      | (refine ⟨WCall.pf (ha1) ?_ ?_ ?_ ?_, ?_⟩; (focus (simp [oks, opnds, gS, gof, eget]; done)); (focus (simp [omap, brwV, brwC, evS, eget, strip, hget, leVL, leV, leC, leL, hlt, it, hm0, im]; done)); (focus (simp [noV, noC, flatR, flatV, flatC, evS, eget, strip, hlt, it, hm0, im]; done)))
      | (refine WCall.pf (ha2) ?_ ?_ ?_ ?_; (focus (simp [oks, opnds, gS, gof, eget]; done)); (focus (simp [omap, brwV, brwC, evS, eget, strip, hget, leVL, leV, leC, leL, hlt, it, hm0, im]; done)); (focus (simp [noV, noC, flatR, flatV, flatC, evS, eget, strip, hlt, it, hm0, im]; done)))
      | (refine ⟨WCall.pf (ha2) ?_ ?_ ?_ ?_, ?_⟩; (focus (simp [oks, opnds, gS, gof, eget]; done)); (focus (simp [omap, brwV, brwC, evS, eget, strip, hget, leVL, leV, leC, leL, hlt, it, hm0, im]; done)); (focus (simp [noV, noC, flatR, flatV, flatC, evS, eget, strip, hlt, it, hm0, im]; done)))
      | (with_reducible refine And.intro (And.intro ?_ ?_) ?_)
      | fail)
    have e : n + ((t + 1 : Nat) : Int) = v + 1 := by omega
    have e' : n + ((t : Int) + 1) = v + 1 := by omega
    exact ⟨_, t + 1, (Gh.ren [0, 1] (by simp [hB0]) (by simp [hB0] <;> decide) (by simp [eget, rnS, rnR, rnV, rnC, LtS, LtR, LtV, LtC, lget, rnIw, e, e']) (by simp [hget, rnO, rnC, LtO, LtC, lget, rnIw, e, e']) (.inl (by simp [lget, rnIw, e, e']))), by omega, rfl, by omega⟩
  · obtain rfl : t = P := by omega
    have hlr := lrT_len v W1
    have hm4 := warmM v W2 ho2 (x, i) ⟨by show v < x; omega, by show x ≤ _; omega, by show x ≤ _; omega, by show 0 ≤ i; omega, by show i < 200; omega⟩ hy2
    rw [hfin] at hm4
    have hsw := swhM v W1 (Nat.le_trans ho1.few (by omega))
    rw [whM_def, whM_def] at hm4
    rw [whM_def] at hsw
    repeat' (first
      | simp [AK_at, acode_seq, acode_region, acode_draw, acode_cond, ↓CB_t, ↓CB_f, CB_u, acode_block, acode_loop, acode_exit, acode_scope, acode_ret, acode_skip, seqQ_n, seqQ_e, seqQ_r, blockQ_n, blockQ_e, blockQ_r, TK_at, OK_at, SK_at, aops_nil, aops_cons, asch_done, asch_one, asch_two, asch_top, astep, aop_eq, isLoud, aloud, aloud1, isWrite, qv, evS, strip, gof, eget, hget, putO, eput, herase, oks, opnds, gS, afin, afin0, binD, arith, D.cells, takeD, fillD, keep, trim, envOf, Fin, aresl, aresv, resD, argOk, pickV, isP, deq, deqs, boundD, slD, lenD, isT, isSl, ptrIds, chunks, mn_min, mx_max, D.cells, splice_one, splice_more, Rbr_at, Rfr_at, frR, frV, frC, flatC, brwR, brwV, brwC, omap, leR, leV, leC, leL, leVL, hm0, im, hlr]
      | (refine WCall.pf (pt) ?_ ?_ ?_ ?_; (focus (simp [oks, opnds, gS, gof, eget]; done)); (focus (simp [omap, brwV, brwC, evS, eget, strip, hget, leVL, leV, leC, leL, hm0, im, hlr]; done)); (focus (simp [noV, noC, flatR, flatV, flatC, evS, eget, strip, hm0, im, hlr]; done)))
      | (refine ⟨WCall.pf (pt) ?_ ?_ ?_ ?_, ?_⟩; (focus (simp [oks, opnds, gS, gof, eget]; done)); (focus (simp [omap, brwV, brwC, evS, eget, strip, hget, leVL, leV, leC, leL, hm0, im, hlr]; done)); (focus (simp [noV, noC, flatR, flatV, flatC, evS, eget, strip, hm0, im, hlr]; done)))
      | (refine WCall.pf (hm4) ?_ ?_ ?_ ?_; (focus (simp [oks, opnds, gS, gof, eget]; done)); (focus (simp [omap, brwV, brwC, evS, eget, strip, hget, leVL, leV, leC, leL, hm0, im, hlr]; done)); (focus (simp [noV, noC, flatR, flatV, flatC, evS, eget, strip, hm0, im, hlr]; done)))
      | (refine ⟨WCall.pf (hm4) ?_ ?_ ?_ ?_, ?_⟩; (focus (simp [oks, opnds, gS, gof, eget]; done)); (focus (simp [omap, brwV, brwC, evS, eget, strip, hget, leVL, leV, leC, leL, hm0, im, hlr]; done)); (focus (simp [noV, noC, flatR, flatV, flatC, evS, eget, strip, hm0, im, hlr]; done)))
      | (refine WCall.pf (hsw) ?_ ?_ ?_ ?_; (focus (simp [oks, opnds, gS, gof, eget]; done)); (focus (simp [omap, brwV, brwC, evS, eget, strip, hget, leVL, leV, leC, leL, hm0, im, hlr]; done)); (focus (simp [noV, noC, flatR, flatV, flatC, evS, eget, strip, hm0, im, hlr]; done)))
      | (refine ⟨WCall.pf (hsw) ?_ ?_ ?_ ?_, ?_⟩; (focus (simp [oks, opnds, gS, gof, eget]; done)); (focus (simp [omap, brwV, brwC, evS, eget, strip, hget, leVL, leV, leC, leL, hm0, im, hlr]; done)); (focus (simp [noV, noC, flatR, flatV, flatC, evS, eget, strip, hm0, im, hlr]; done)))
      | (with_reducible refine And.intro (And.intro ?_ ?_) ?_)
      | fail)
end Go.Proofs.Ytajimebannjofaa

set_option linter.unusedSimpArgs false
set_option linter.unusedVariables false
set_option maxRecDepth 100000
namespace Go.Proofs.Ytajimebannjofaa
open Go.ChangeShapes Go.WideShapes Go.ChangeAt Go.RowKit
theorem open_struct {H : Type} {enc : TypeId × Value → H} {w : World} {base : Nat} {spare : Nat → Bool} {held : Bool} {t : TypeId} {n : Nat} {v : Value} {d : DataW H} {ps : List MemPlace}
    (h2 : 2 ≤ n) (he : Nums Try.prog t n) (h : DataW.Trod enc Try.prog w base spare held t v d ps) :
    ∃ r : List Int, VV s0 (allZ w) (.agg (r.map I)) v ∧ r.length = n ∧ ∀ z ∈ r, InR z := by
  obtain ⟨fuel, hf⟩ := h
  obtain ⟨r, hc, hl, hk⟩ := he hf
  refine ⟨r, ?_, hl, fun z hz => nums_wf (hk z hz)⟩
  have hlen : v.cells.toList.length = n := by rw [hc]; simpa [numsE] using hl
  cases v with
  | agg vs =>
    obtain ⟨vs⟩ := vs
    have e : vs = numsE r := by simpa [Value.cells] using hc
    subst e
    refine ⟨_, rfl, by simp [numsE], fun j x hx => ?_⟩
    obtain ⟨z, hz, rfl⟩ := (map_get _ _ _ _).1 hx
    have : (numsE r).toArray.getD j undef = .int .i64 z := by
      have : (numsE r)[j]? = some (.int .i64 z) := (map_get _ _ _ _).2 ⟨z, hz, rfl⟩
      simp [Array.getD_eq_getD_getElem?, this]
    rw [this]
    exact VT.int .i64 z
  | _ => simp [Value.cells] at hlen; omega
end Go.Proofs.Ytajimebannjofaa

