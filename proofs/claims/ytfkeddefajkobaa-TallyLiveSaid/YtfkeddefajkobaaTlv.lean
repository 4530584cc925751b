/- This text proves what tally's Live computes, and the law TallyLive over the small machine. It has no condition of its own. -/
import Derived.Test.YtfkeddefajkobaaBlw
set_option linter.unusedSimpArgs false
set_option linter.unusedVariables false
set_option maxRecDepth 100000
set_option maxHeartbeats 2000000
namespace Go.Proofs.Ytfkeddefajkobaa
open Go.RowKit
def liveN (l : List Outp) : Int := cnt l 1 - cnt l 6 - cnt l 7
def liveD (n : Int) : D := if n < 0 then .tup [I 0, I 6] else .tup [I n, I 0]
theorem tlive_code : cfun Try.prog [] 26 = some ⟨(.seq (.region 0 [⟨(some 2), (.mov (.k (.int .i64 0))), none⟩, ⟨(some 3), (.mov (.k (.int .i64 0))), none⟩]) (.seq (.region 1 [⟨(some 8), (.mov (.t 0)), none⟩, ⟨(some 9), (.call 54 [(.t 8)]), none⟩, ⟨(some 7), (.mov (.t 9)), none⟩, ⟨(some 10), (.ext (.t 7) 0), none⟩, ⟨(some 11), (.ext (.t 7) 1), none⟩, ⟨(some 4), (.alloc [(.int .i64 0), (.int .i64 0), (.int .i64 0), (.int .i64 0), (.int .i64 0), (.int .i64 0), (.int .i64 0), (.int .i64 0), (.int .i64 0), (.int .i64 0), (.int .i64 0), (.int .i64 0), (.int .i64 0), (.int .i64 0), (.int .i64 0), (.int .i64 0), (.int .i64 0)]), none⟩, ⟨none, (.store 17 (.t 4) (.t 10)), none⟩, ⟨(some 5), (.mov (.t 11)), none⟩]) (.seq (.seq (.region 2 [⟨(some 12), (.mov (.t 5)), none⟩, ⟨(some 13), (.bin .neq (.t 12) (.k (.int .i64 0))), none⟩]) (.cond 13 (.seq (.region 3 [⟨(some 14), (.mov (.t 5)), none⟩, ⟨(some 2), (.mov (.k (.int .i64 0))), none⟩, ⟨(some 3), (.mov (.t 14)), none⟩]) .ret) .skip)) (.seq (.region 4 [⟨(some 15), (.fad 0 (.t 4)), none⟩, ⟨(some 16), (.iada 11 1 (.t 15) (.k (.int .i64 1))), none⟩, ⟨(some 17), (.load false 1 (.t 16)), none⟩, ⟨(some 18), (.fad 0 (.t 4)), none⟩, ⟨(some 19), (.iada 11 1 (.t 18) (.k (.int .i64 6))), none⟩, ⟨(some 20), (.load false 1 (.t 19)), none⟩, ⟨(some 21), (.bin .sub (.t 17) (.t 20)), none⟩, ⟨(some 22), (.fad 0 (.t 4)), none⟩, ⟨(some 23), (.iada 11 1 (.t 22) (.k (.int .i64 7))), none⟩, ⟨(some 24), (.load false 1 (.t 23)), none⟩, ⟨(some 25), (.bin .sub (.t 21) (.t 24)), none⟩, ⟨(some 6), (.mov (.t 25)), none⟩]) (.seq (.seq (.region 5 [⟨(some 26), (.mov (.t 6)), none⟩, ⟨(some 27), (.bin .lss (.t 26) (.k (.int .i64 0))), none⟩]) (.cond 27 (.seq (.region 6 [⟨(some 2), (.mov (.k (.int .i64 0))), none⟩, ⟨(some 3), (.mov (.k (.int .i64 6))), none⟩]) .ret) .skip)) (.seq (.region 7 [⟨(some 28), (.mov (.t 6)), none⟩, ⟨(some 2), (.mov (.t 28)), none⟩, ⟨(some 3), (.mov (.k (.int .i64 0))), none⟩]) .ret)))))), [(.t 2), (.t 3)], 29⟩ := by kernel_rfl
theorem tlive_pf (A : List Outp) (hl : A.length ≤ 1000000) (fA : ∀ x ∈ A, OutFits x) : PF Try.prog 26 [.rows 7 (A.map Outp.D)] (liveD (liveN A)) := by
  have htof := tof_pf A hl fA
  have hgt := tallyL_get A fA
  obtain ⟨C, hC⟩ : ∃ C, C = tallyL A := ⟨_, rfl⟩
  have h17 : C.length = 17 := by rw [hC, tallyL_len]
  rw [← hC] at htof
  simp only [← hC] at hgt
  have hcb : ∀ j, 0 ≤ cnt A j ∧ cnt A j ≤ 2000000 := fun j => by have := cnt_bd A j; omega
  obtain ⟨c0, c1, c2, c3, c4, c5, c6, c7, c8, c9, c10, c11, c12, c13, c14, c15, c16, hCe⟩ : ∃ c0 c1 c2 c3 c4 c5 c6 c7 c8 c9 c10 c11 c12 c13 c14 c15 c16, C = [c0, c1, c2, c3, c4, c5, c6, c7, c8, c9, c10, c11, c12, c13, c14, c15, c16] := by
    match C, h17 with
    | [c0, c1, c2, c3, c4, c5, c6, c7, c8, c9, c10, c11, c12, c13, c14, c15, c16], _ => exact ⟨c0, c1, c2, c3, c4, c5, c6, c7, c8, c9, c10, c11, c12, c13, c14, c15, c16, rfl⟩
  rw [hCe] at htof
  have g1 : c1 = cnt A 1 := by have := hgt 1; rw [hCe] at this; simpa using this
  have g6 : c6 = cnt A 6 := by have := hgt 6; rw [hCe] at this; simpa using this
  have g7 : c7 = cnt A 7 := by have := hgt 7; rw [hCe] at this; simpa using this
  have hn : liveN A = c1 - c6 - c7 := by rw [g1, g6, g7]; rfl
  have b1 := hcb 1
  have b6 := hcb 6
  have b7 := hcb 7
  rw [← g1] at b1
  rw [← g6] at b6
  rw [← g7] at b7
  have i1 : InR (c1 - c6) := inT (by omega) (by omega)
  have i2 : InR (c1 - c6 - c7) := inT (by omega) (by omega)
  rw [hn]
  clear hn g1 g6 g7 hcb hgt hC hCe h17
  refine PF.of follows_ok tlive_code (by simp) (by simp [argOk]) (by simp [noV, noC]) fun B hBN hB0 => acode_sound [0, 2, 3, 4, 5, 6, 13, 27] [] _ _ _ ?_
  by_cases h : c1 - c6 - c7 < 0
  · simp only [liveD, if_pos h]
    repeat' (first
      | simp [AK_at, acode_seq, acode_region, acode_draw, acode_cond, ↓CB_t, ↓CB_f, CB_u, acode_block, acode_loop, acode_exit, acode_scope, acode_ret, acode_skip, seqQ_n, seqQ_e, seqQ_r, blockQ_n, blockQ_e, blockQ_r, TK_at, OK_at, SK_at, aops_nil, aops_cons, asch_done, asch_one, asch_two, asch_top, astep, aop_eq, isLoud, aloud, aloud1, isWrite, qv, evS, strip, gof, eget, hget, putO, eput, herase, oks, opnds, gS, afin, afin0, binD, arith, D.cells, takeD, fillD, keep, trim, envOf, Fin, aresl, aresv, resD, argOk, pickV, isP, deq, deqs, boundD, slD, lenD, isT, chunks, mn_min, mx_max, D.cells, splice_one, splice_more, Rbr_at, Rfr_at, frR, frV, frC, flatC, brwR, brwV, brwC, omap, leR, leV, leC, leL, leVL, i1, i2, h, splice]
      | (refine WCall.pf (htof) ?_ ?_ ?_ ?_; (focus (simp [oks, opnds, gS, gof, eget]; done)); (focus (simp [omap, brwV, brwC, evS, eget, strip, hget, leVL, leV, leC, leL, i1, i2, h, splice]; done)); (focus (simp [noV, noC, flatR, flatV, flatC, evS, eget, strip, i1, i2, h, splice]; done)))
      | (refine ⟨WCall.pf (htof) ?_ ?_ ?_ ?_, ?_⟩; (focus (simp [oks, opnds, gS, gof, eget]; done)); (focus (simp [omap, brwV, brwC, evS, eget, strip, hget, leVL, leV, leC, leL, i1, i2, h, splice]; done)); (focus (simp [noV, noC, flatR, flatV, flatC, evS, eget, strip, i1, i2, h, splice]; done)))
      | (with_reducible refine And.intro (And.intro ?_ ?_) ?_)
      | fail)
  · simp only [liveD, if_neg h]
    repeat' (first
      | simp [AK_at, acode_seq, acode_region, acode_draw, acode_cond, ↓CB_t, ↓CB_f, CB_u, acode_block, acode_loop, acode_exit, acode_scope, acode_ret, acode_skip, seqQ_n, seqQ_e, seqQ_r, blockQ_n, blockQ_e, blockQ_r, TK_at, OK_at, SK_at, aops_nil, aops_cons, asch_done, asch_one, asch_two, asch_top, astep, aop_eq, isLoud, aloud, aloud1, isWrite, qv, evS, strip, gof, eget, hget, putO, eput, herase, oks, opnds, gS, afin, afin0, binD, arith, D.cells, takeD, fillD, keep, trim, envOf, Fin, aresl, aresv, resD, argOk, pickV, isP, deq, deqs, boundD, slD, lenD, isT, chunks, mn_min, mx_max, D.cells, splice_one, splice_more, Rbr_at, Rfr_at, frR, frV, frC, flatC, brwR, brwV, brwC, omap, leR, leV, leC, leL, leVL, i1, i2, h, splice]
      | (refine WCall.pf (htof) ?_ ?_ ?_ ?_; (focus (simp [oks, opnds, gS, gof, eget]; done)); (focus (simp [omap, brwV, brwC, evS, eget, strip, hget, leVL, leV, leC, leL, i1, i2, h, splice]; done)); (focus (simp [noV, noC, flatR, flatV, flatC, evS, eget, strip, i1, i2, h, splice]; done)))
      | (refine ⟨WCall.pf (htof) ?_ ?_ ?_ ?_, ?_⟩; (focus (simp [oks, opnds, gS, gof, eget]; done)); (focus (simp [omap, brwV, brwC, evS, eget, strip, hget, leVL, leV, leC, leL, i1, i2, h, splice]; done)); (focus (simp [noV, noC, flatR, flatV, flatC, evS, eget, strip, i1, i2, h, splice]; done)))
      | (with_reducible refine And.intro (And.intro ?_ ?_) ?_)
      | fail)
def accO (i : Nat) : Outp := ⟨1, i, 0, (i : Int) % 12, 0, 0, 0⟩
def endO (c : Int) (i : Nat) : Outp := ⟨if (i : Int) < c then 7 else 6, i, 0, (i : Int) % 12, 0, 0, 0⟩
def accL (n : Nat) : List Outp := (List.range n).map accO
def endL (c : Int) (m : Nat) : List Outp := (List.range m).map (endO c)
theorem accL_succ (n : Nat) : accL (n + 1) = accL n ++ [accO n] := by simp [accL, List.range_succ]
theorem endL_succ (c : Int) (n : Nat) : endL c (n + 1) = endL c n ++ [endO c n] := by simp [endL, List.range_succ]
theorem outBy_acc (i : Nat) (h : i ≤ 20) : OutBy (accO i) :=
  ⟨⟨by simp [accO], by simp [accO], by simp [accO], by simp [accO]⟩, inT (by simp only [accO]; omega) (by simp only [accO]; omega), inT (by simp [accO]) (by simp [accO]), by simp only [accO]; omega⟩
theorem outBy_end (c : Int) (i : Nat) (h : i ≤ 20) : OutBy (endO c i) :=
  ⟨⟨by simp only [endO]; split <;> omega, by simp only [endO]; split <;> omega, by simp [endO], by simp [endO]⟩, inT (by simp only [endO]; omega) (by simp only [endO]; omega), inT (by simp [endO]) (by simp [endO]), by simp only [endO]; omega⟩
def entO (i : Nat) : Ent := ([(i : Int), 0], [(i : Int) % 12], i)
theorem byL_acc : ∀ n : Nat, byL (accL n) = ((List.range n).map entO, n)
  | 0 => rfl
  | n + 1 => by
    have ih := byL_acc n
    unfold byL at ih ⊢
    rw [accL_succ, List.foldl_append, ih]
    simp only [List.foldl_cons, List.foldl_nil, byStep]
    rw [if_pos (.inl rfl)]
    rw [mput_new]
    · simp [List.range_succ, entO, accO]
    · intro e he hk
      obtain ⟨i, hi, rfl⟩ := List.mem_map.1 he
      have := List.mem_range.1 hi
      simp only [entO, accO, List.cons.injEq, and_true] at hk
      omega
theorem byL_end (c : Int) (n : Nat) : ∀ m : Nat, byL (accL n ++ endL c m) = (((List.range n).filter fun i => decide (m ≤ i)).map entO, n)
  | 0 => by
    have : endL c 0 = [] := rfl
    rw [this, List.append_nil, byL_acc, List.filter_eq_self.2 (fun _ _ => by simp)]
  | m + 1 => by
    have ih := byL_end c n m
    have e : byL (accL n ++ endL c (m + 1)) = byStep (byL (accL n ++ endL c m)) (endO c m) := by
      rw [endL_succ, ← List.append_assoc]
      unfold byL
      rw [List.foldl_append]; rfl
    rw [e, ih]
    unfold byStep
    have h1 : ¬ ((endO c m).kind = 1 ∨ (endO c m).kind = 5) := by simp only [endO]; split <;> omega
    have h2 : (endO c m).kind = 6 ∨ (endO c m).kind = 7 := by simp only [endO]; split <;> omega
    rw [if_neg h1, if_pos h2]
    simp only [mdel, Prod.mk.injEq, and_true]
    rw [List.filter_map, List.filter_filter]
    congr 1
    refine List.filter_congr fun i _ => ?_
    simp only [Function.comp, entO, endO]
    rw [Bool.eq_iff_iff]
    simp
    omega
theorem filter_len (n : Nat) : ∀ m : Nat, m ≤ n → (((List.range n).filter fun i => decide (m ≤ i)).length : Nat) = n - m := by
  induction n with
  | zero => intro m hm; simp
  | succ n ih =>
    intro m hm
    rw [List.range_succ, List.filter_append, List.length_append]
    by_cases h : m ≤ n
    · rw [ih m h]; simp [h]; omega
    · have : m = n + 1 := by omega
      subst this
      simp
      exact fun a h => by omega
theorem cnt_acc (n : Nat) (j : Nat) : cnt (accL n) j = if j = 1 then n else 0 := by
  induction n with
  | zero => simp [accL, cnt]
  | succ n ih =>
    rw [accL_succ, cnt_app, ih]
    simp only [cnt, List.map_cons, List.map_nil, List.sum_cons, List.sum_nil, delta, accO]
    by_cases h : j = 1
    · subst h; simp
    · have : ¬ (1 : Int).toNat = j := fun h' => h h'.symm
      simp [h, this]; omega
theorem cnt_end (c : Int) (m : Nat) : cnt (endL c m) 1 = 0 ∧ cnt (endL c m) 6 + cnt (endL c m) 7 = m := by
  induction m with
  | zero => simp [endL, cnt]
  | succ n ih =>
    rw [endL_succ, cnt_app, cnt_app, cnt_app]
    simp only [cnt, List.map_cons, List.map_nil, List.sum_cons, List.sum_nil, delta, endO] at ih ⊢
    by_cases h : (n : Int) < c
    · simp [h] at ih ⊢; omega
    · simp [h] at ih ⊢; omega
theorem liveN_ae (c : Int) (n m : Nat) : liveN (accL n ++ endL c m) = n - m := by
  have h := cnt_end c m
  simp only [liveN, cnt_app, cnt_acc]
  simp
  omega
theorem out_len (c : Int) (n m : Nat) : (accL n ++ endL c m).length = n + m := by simp [accL, endL]
theorem tlvl_code : cfun Try.prog [] 4 = some ⟨(.seq (.region 0 [⟨(some 6), (.mov (.k (.bool false))), none⟩]) (.seq (.region 1 [⟨(some 21), (.mov (.t 0)), none⟩, ⟨(some 22), (.call 25 [(.t 21), (.k (.int .i64 20))]), none⟩, ⟨(some 7), (.mov (.t 22)), none⟩]) (.seq (.region 2 [⟨(some 23), (.mov (.t 1)), none⟩, ⟨(some 24), (.mov (.t 7)), none⟩, ⟨(some 25), (.bin .add (.t 24) (.k (.int .i64 1))), none⟩, ⟨(some 26), (.call 25 [(.t 23), (.t 25)]), none⟩, ⟨(some 8), (.mov (.t 26)), none⟩]) (.seq (.region 3 [⟨(some 9), (.mov (.k .nil0)), none⟩]) (.seq (.seq (.region 4 [⟨(some 10), (.mov (.k (.int .i64 0))), none⟩]) (.block 0 (.loop (.seq (.seq (.region 5 [⟨(some 27), (.mov (.t 10)), none⟩, ⟨(some 28), (.mov (.t 7)), none⟩, ⟨(some 29), (.bin .lss (.t 27) (.t 28)), none⟩]) (.cond 29 .skip (.exit 0))) (.seq (.block 1 (.region 7 [⟨(some 32), (.mov (.t 9)), none⟩, ⟨(some 33), (.mov (.t 10)), none⟩, ⟨(some 34), (.mov (.t 10)), none⟩, ⟨(some 35), (.bin .rem (.t 34) (.k (.int .i64 12))), none⟩, ⟨(some 36), (.build [(.int .i64 0), (.int .i64 0), (.int .i64 0), (.int .i64 0), (.int .i64 0), (.int .i64 0), (.int .i64 0)] [(0, (1, (.k (.int .i64 1)))), (1, (1, (.t 33))), (3, (1, (.t 35)))]), none⟩, ⟨(some 37), (.bslice 7 1 [(.int .i64 0), (.int .i64 0), (.int .i64 0), (.int .i64 0), (.int .i64 0), (.int .i64 0), (.int .i64 0)] [(0, (.t 36))]), none⟩, ⟨(some 38), (.app 7 56 [(.int .i64 0), (.int .i64 0), (.int .i64 0), (.int .i64 0), (.int .i64 0), (.int .i64 0), (.int .i64 0)] (.t 32) (.t 37)), none⟩, ⟨(some 9), (.mov (.t 38)), none⟩])) (.region 6 [⟨(some 30), (.mov (.t 10)), none⟩, ⟨(some 31), (.bin .add (.t 30) (.k (.int .i64 1))), none⟩, ⟨(some 10), (.mov (.t 31)), none⟩])))))) (.seq (.seq (.region 8 [⟨(some 11), (.mov (.k (.int .i64 0))), none⟩]) (.block 2 (.loop (.seq (.seq (.region 9 [⟨(some 39), (.mov (.t 11)), none⟩, ⟨(some 40), (.mov (.t 8)), none⟩, ⟨(some 41), (.bin .lss (.t 39) (.t 40)), none⟩]) (.cond 41 .skip (.exit 2))) (.seq (.block 3 (.seq (.region 11 [⟨(some 12), (.mov (.k (.int .i64 6))), none⟩]) (.seq (.seq (.region 12 [⟨(some 44), (.mov (.t 11)), none⟩, ⟨(some 45), (.mov (.t 2)), none⟩, ⟨(some 46), (.call 25 [(.t 45), (.k (.int .i64 20))]), none⟩, ⟨(some 47), (.bin .lss (.t 44) (.t 46)), none⟩]) (.cond 47 (.region 13 [⟨(some 12), (.mov (.k (.int .i64 7))), none⟩]) .skip)) (.region 14 [⟨(some 48), (.mov (.t 9)), none⟩, ⟨(some 49), (.mov (.t 12)), none⟩, ⟨(some 50), (.mov (.t 11)), none⟩, ⟨(some 51), (.mov (.t 11)), none⟩, ⟨(some 52), (.bin .rem (.t 51) (.k (.int .i64 12))), none⟩, ⟨(some 53), (.build [(.int .i64 0), (.int .i64 0), (.int .i64 0), (.int .i64 0), (.int .i64 0), (.int .i64 0), (.int .i64 0)] [(0, (1, (.t 49))), (1, (1, (.t 50))), (3, (1, (.t 52)))]), none⟩, ⟨(some 54), (.bslice 7 1 [(.int .i64 0), (.int .i64 0), (.int .i64 0), (.int .i64 0), (.int .i64 0), (.int .i64 0), (.int .i64 0)] [(0, (.t 53))]), none⟩, ⟨(some 55), (.app 7 56 [(.int .i64 0), (.int .i64 0), (.int .i64 0), (.int .i64 0), (.int .i64 0), (.int .i64 0), (.int .i64 0)] (.t 48) (.t 54)), none⟩, ⟨(some 9), (.mov (.t 55)), none⟩])))) (.region 10 [⟨(some 42), (.mov (.t 11)), none⟩, ⟨(some 43), (.bin .add (.t 42) (.k (.int .i64 1))), none⟩, ⟨(some 11), (.mov (.t 43)), none⟩])))))) (.seq (.region 15 [⟨(some 57), (.mov (.t 9)), none⟩, ⟨(some 58), (.call 26 [(.t 57)]), none⟩, ⟨(some 56), (.mov (.t 58)), none⟩, ⟨(some 59), (.ext (.t 56) 0), none⟩, ⟨(some 60), (.ext (.t 56) 1), none⟩, ⟨(some 13), (.mov (.t 59)), none⟩, ⟨(some 14), (.mov (.t 60)), none⟩]) (.seq (.region 16 [⟨(some 62), (.mov (.t 9)), none⟩, ⟨(some 63), (.call 24 [(.t 62)]), none⟩, ⟨(some 61), (.mov (.t 63)), none⟩, ⟨(some 64), (.ext (.t 61) 0), none⟩, ⟨(some 65), (.ext (.t 61) 1), none⟩, ⟨(some 15), (.mov (.t 64)), none⟩, ⟨(some 16), (.mov (.t 65)), none⟩]) (.seq (.region 17 [⟨(some 67), (.build [(.int .i64 0), (.int .i64 0), (.int .i64 0), (.int .i64 0), (.int .i64 0), (.int .i64 0), (.int .i64 0)] [(0, (1, (.k (.int .i64 7))))]), none⟩, ⟨(some 68), (.bslice 7 1 [(.int .i64 0), (.int .i64 0), (.int .i64 0), (.int .i64 0), (.int .i64 0), (.int .i64 0), (.int .i64 0)] [(0, (.t 67))]), none⟩, ⟨(some 69), (.call 26 [(.t 68)]), none⟩, ⟨(some 66), (.mov (.t 69)), none⟩, ⟨(some 70), (.ext (.t 66) 0), none⟩, ⟨(some 71), (.ext (.t 66) 1), none⟩, ⟨(some 17), (.mov (.t 70)), none⟩, ⟨(some 18), (.mov (.t 71)), none⟩]) (.seq (.region 18 [⟨(some 19), (.mov (.k (.int .i64 0))), none⟩]) (.seq (.seq (.region 19 [⟨(some 20), (.mov (.k (.int .i64 0))), none⟩]) (.block 4 (.loop (.seq (.seq (.region 20 [⟨(some 72), (.mov (.t 20)), none⟩, ⟨(some 73), (.mov (.t 15)), none⟩, ⟨(some 74), (.len (.t 73)), none⟩, ⟨(some 75), (.bin .lss (.t 72) (.t 74)), none⟩]) (.cond 75 .skip (.exit 4))) (.seq (.block 5 (.region 22 [⟨(some 78), (.mov (.t 19)), none⟩, ⟨(some 79), (.mov (.t 15)), none⟩, ⟨(some 80), (.mov (.t 20)), none⟩, ⟨(some 81), (.iads 1 (.t 79) (.t 80)), none⟩, ⟨(some 82), (.load false 1 (.t 81)), none⟩, ⟨(some 83), (.bin .add (.t 78) (.t 82)), none⟩, ⟨(some 19), (.mov (.t 83)), none⟩])) (.region 21 [⟨(some 76), (.mov (.t 20)), none⟩, ⟨(some 77), (.bin .add (.t 76) (.k (.int .i64 1))), none⟩, ⟨(some 20), (.mov (.t 77)), none⟩])))))) (.seq (.region 23 [⟨(some 84), (.mov (.t 14)), none⟩, ⟨(some 85), (.bin .eql (.t 84) (.k (.int .i64 0))), none⟩, ⟨(some 86), (.mov (.t 85)), none⟩, ⟨(some 87), (.mov (.t 16)), (some (86, true))⟩, ⟨(some 88), (.bin .eql (.t 87) (.k (.int .i64 0))), (some (86, true))⟩, ⟨(some 89), (.pick (.t 86) (.t 88) (.k (.bool false))), none⟩, ⟨(some 90), (.mov (.t 89)), none⟩, ⟨(some 91), (.mov (.t 18)), (some (90, true))⟩, ⟨(some 92), (.bin .eql (.t 91) (.k (.int .i64 6))), (some (90, true))⟩, ⟨(some 93), (.pick (.t 90) (.t 92) (.k (.bool false))), none⟩, ⟨(some 94), (.mov (.t 93)), none⟩, ⟨(some 95), (.mov (.t 13)), (some (94, true))⟩, ⟨(some 96), (.mov (.t 7)), (some (94, true))⟩, ⟨(some 97), (.mov (.t 8)), (some (94, true))⟩, ⟨(some 98), (.bin .sub (.t 96) (.t 97)), (some (94, true))⟩, ⟨(some 99), (.bin .eql (.t 95) (.t 98)), (some (94, true))⟩, ⟨(some 100), (.pick (.t 94) (.t 99) (.k (.bool false))), none⟩, ⟨(some 101), (.mov (.t 100)), none⟩, ⟨(some 102), (.mov (.t 19)), (some (101, true))⟩, ⟨(some 103), (.mov (.t 7)), (some (101, true))⟩, ⟨(some 104), (.mov (.t 8)), (some (101, true))⟩, ⟨(some 105), (.bin .sub (.t 103) (.t 104)), (some (101, true))⟩, ⟨(some 106), (.bin .eql (.t 102) (.t 105)), (some (101, true))⟩, ⟨(some 107), (.pick (.t 101) (.t 106) (.k (.bool false))), none⟩, ⟨(some 6), (.mov (.t 107)), none⟩]) .ret)))))))))))), [(.t 6)], 108⟩ := by kernel_rfl
theorem tlvl_pf (a b d : Int) (ha : InR a) (hb : InR b) (hd : InR d) : PF Try.prog 4 [I a, I b, I d] (.bool true) := by
  have hp1 := picked_pf a 20 ha (by omega)
  have hp1r := pickedZ_range a 20 (by omega)
  obtain ⟨n, hn⟩ : ∃ n : Nat, (n : Int) = pickedZ a 20 := ⟨(pickedZ a 20).toNat, by omega⟩
  rw [← hn] at hp1 hp1r
  have hp2 := picked_pf b ((n : Int) + 1) hb (by omega)
  have hp2r := pickedZ_range b ((n : Int) + 1) (by omega)
  obtain ⟨m, hm⟩ : ∃ m : Nat, (m : Int) = pickedZ b ((n : Int) + 1) := ⟨(pickedZ b ((n : Int) + 1)).toNat, by omega⟩
  rw [← hm] at hp2 hp2r
  have hp3 := picked_pf d 20 hd (by omega)
  obtain ⟨c, hc⟩ : ∃ c, c = pickedZ d 20 := ⟨_, rfl⟩
  rw [← hc] at hp3
  clear hn hm hc
  have hall : ∀ x ∈ accL n ++ endL c m, OutBy x := fun x hx => by
    rcases List.mem_append.1 hx with hx | hx
    · obtain ⟨i, hi, rfl⟩ := List.mem_map.1 hx
      have := List.mem_range.1 hi
      exact outBy_acc i (by omega)
    · obtain ⟨i, hi, rfl⟩ := List.mem_map.1 hx
      have := List.mem_range.1 hi
      exact outBy_end c i (by omega)
  have hlen := out_len c n m
  have hlv := tlive_pf (accL n ++ endL c m) (by omega) fun x hx => (hall x hx).fits
  rw [liveN_ae] at hlv
  have hlv : PF Try.prog 26 [.rows 7 ((accL n ++ endL c m).map Outp.D)] (.tup [I ((n : Int) - m), I 0]) := by
    have : ¬ ((n : Int) - m < 0) := by omega
    simpa only [liveD, if_neg this] using hlv
  have hby_pfn := tby_pfn (accL n ++ endL c m) (by omega) hall
  have hel := byL_end c n m
  have hsum : sumT (byOut (byL (accL n ++ endL c m)).1) 12 = (n : Int) - m := by
    rw [hel]
    have := byOut_sum (((List.range n).filter fun i => decide (m ≤ i)).map entO) fun e he => by
      obtain ⟨i, _, rfl⟩ := List.mem_map.1 he
      exact ⟨(i : Int) % 12, rfl, by omega, by omega⟩
    rw [this, List.length_map, filter_len n m (by omega)]
    omega
  have hlen60 : (byL (accL n ++ endL c m)).1.length ≤ 60 := by
    rw [hel, List.length_map, filter_len n m (by omega)]; omega
  have hbd := sumT_bd _ hlen60
  have hob := byOut_bd (byL (accL n ++ endL c m)).1
  have hol := byOut_len (byL (accL n ++ endL c m)).1
  generalize byOut (byL (accL n ++ endL c m)).1 = C at hby_pfn hsum hbd hol hob
  have hl1 := tlive_pf [⟨7, 0, 0, 0, 0, 0, 0⟩] (by simp) fun x hx => by
    obtain rfl := List.mem_singleton.1 hx
    exact ⟨by simp, by simp, by simp, by simp⟩
  have hl1 : PF Try.prog 26 [.rows 7 [[I 7, I 0, I 0, I 0, I 0, I 0, I 0]]] (.tup [I 0, I 6]) := hl1
  clear hel hall
  refine PF.of follows_ok tlvl_code (by simp) (by simp [argOk]) (by simp [noV, noC]) fun B hBN hB0 => acode_sound [0, 1, 2, 6, 7, 8, 9, 10, 11, 12, 13, 14, 15, 16, 18, 19, 20, 29, 41, 47, 75] [] _ _ _ ?_
  have i0 : InR ((n : Int) + 1) := inT (by omega) (by omega)
  repeat' (first
    | simp [AK_at, acode_seq, acode_region, acode_draw, acode_cond, ↓CB_t, ↓CB_f, CB_u, acode_block, acode_loop, acode_exit, acode_scope, acode_ret, acode_skip, seqQ_n, seqQ_e, seqQ_r, blockQ_n, blockQ_e, blockQ_r, TK_at, OK_at, SK_at, aops_nil, aops_cons, asch_done, asch_one, asch_two, asch_top, astep, aop_eq, isLoud, aloud, aloud1, isWrite, qv, evS, strip, gof, eget, hget, putO, eput, herase, oks, opnds, gS, afin, afin0, binD, arith, D.cells, takeD, fillD, keep, trim, envOf, Fin, aresl, aresv, resD, argOk, pickV, isP, deq, deqs, boundD, slD, lenD, isT, chunks, mn_min, mx_max, D.cells, splice_one, splice_more, Rbr_at, Rfr_at, frR, frV, frC, flatC, brwR, brwV, brwC, omap, leR, leV, leC, leL, leVL, i0]
    | (refine WCall.pf (hp1) ?_ ?_ ?_ ?_; (focus (simp [oks, opnds, gS, gof, eget]; done)); (focus (simp [omap, brwV, brwC, evS, eget, strip, hget, leVL, leV, leC, leL, i0]; done)); (focus (simp [noV, noC, flatR, flatV, flatC, evS, eget, strip, i0]; done)))
    | (refine ⟨WCall.pf (hp1) ?_ ?_ ?_ ?_, ?_⟩; (focus (simp [oks, opnds, gS, gof, eget]; done)); (focus (simp [omap, brwV, brwC, evS, eget, strip, hget, leVL, leV, leC, leL, i0]; done)); (focus (simp [noV, noC, flatR, flatV, flatC, evS, eget, strip, i0]; done)))
    | (refine WCall.pf (hp2) ?_ ?_ ?_ ?_; (focus (simp [oks, opnds, gS, gof, eget]; done)); (focus (simp [omap, brwV, brwC, evS, eget, strip, hget, leVL, leV, leC, leL, i0]; done)); (focus (simp [noV, noC, flatR, flatV, flatC, evS, eget, strip, i0]; done)))
    | (refine ⟨WCall.pf (hp2) ?_ ?_ ?_ ?_, ?_⟩; (focus (simp [oks, opnds, gS, gof, eget]; done)); (focus (simp [omap, brwV, brwC, evS, eget, strip, hget, leVL, leV, leC, leL, i0]; done)); (focus (simp [noV, noC, flatR, flatV, flatC, evS, eget, strip, i0]; done)))
    | (with_reducible refine And.intro (And.intro ?_ ?_) ?_)
    | fail)
  refine W.loopS (fun i : Nat => ⟨[(10, I i), (9, .own 0), (8, I m), (7, I n), (2, I d), (6, .bool false)], [(0, .row 7 ((accL i).map Outp.D))], 1⟩)
    (fun k i => k = n - i ∧ i ≤ n) ?_ ?_
  · refine ⟨_, 0, (Gh.adopt 9 7 (by omega) (by simp [eget])).trans ?_, rfl, by omega⟩
    simp [eput]
    exact (Gh.ren [] (by simp [hB0]) (by simp [hB0] <;> decide) (by simp [eget, rnS, rnR, rnV, rnC, LtS, LtR, LtV, LtC, lget, accL]) (by simp [hget, rnO, rnC, LtO, LtC, lget, accL]) (.inr rfl))
  · rintro k i ⟨hk, hi⟩
    refine acode_sound [0, 1, 2, 6, 7, 8, 9, 10, 11, 12, 13, 14, 15, 16, 18, 19, 20, 29, 41, 47, 75] [] _ _ _ ?_
    by_cases hlt : i < n
    · have ii : InR ((i : Int) + 1) := inT (by omega) (by omega)
      have hal : (accL i).length = i := by simp [accL]
      have hcap : (i + 1) * 56 ≤ 140737488355328 := by omega
      simp [AK_at, acode_seq, acode_region, acode_draw, acode_cond, ↓CB_t, ↓CB_f, CB_u, acode_block, acode_loop, acode_exit, acode_scope, acode_ret, acode_skip, seqQ_n, seqQ_e, seqQ_r, blockQ_n, blockQ_e, blockQ_r, TK_at, OK_at, SK_at, aops_nil, aops_cons, asch_done, asch_one, asch_two, asch_top, astep, aop_eq, isLoud, aloud, aloud1, isWrite, qv, evS, strip, gof, eget, hget, putO, eput, herase, oks, opnds, gS, afin, afin0, binD, arith, D.cells, takeD, fillD, keep, trim, envOf, Fin, aresl, aresv, resD, argOk, pickV, isP, deq, deqs, boundD, slD, lenD, isT, chunks, mn_min, mx_max, D.cells, splice_one, splice_more, Rbr_at, Rfr_at, frR, frV, frC, flatC, brwR, brwV, brwC, omap, leR, leV, leC, leL, leVL, hlt, hal, hcap, ii]
      exact ⟨_, i + 1, (Gh.ren [2] (by simp [hB0]) (by simp [hB0] <;> decide) (by simp [eget, rnS, rnR, rnV, rnC, LtS, LtR, LtV, LtC, lget, accL_succ, accO, Outp.D]) (by simp [hget, rnO, rnC, LtO, LtC, lget, accL_succ, accO, Outp.D]) (.inl (by simp [lget, accL_succ, accO, Outp.D]))), by omega, rfl, by omega⟩
    · obtain rfl : i = n := by omega
      simp [AK_at, acode_seq, acode_region, acode_draw, acode_cond, ↓CB_t, ↓CB_f, CB_u, acode_block, acode_loop, acode_exit, acode_scope, acode_ret, acode_skip, seqQ_n, seqQ_e, seqQ_r, blockQ_n, blockQ_e, blockQ_r, TK_at, OK_at, SK_at, aops_nil, aops_cons, asch_done, asch_one, asch_two, asch_top, astep, aop_eq, isLoud, aloud, aloud1, isWrite, qv, evS, strip, gof, eget, hget, putO, eput, herase, oks, opnds, gS, afin, afin0, binD, arith, D.cells, takeD, fillD, keep, trim, envOf, Fin, aresl, aresv, resD, argOk, pickV, isP, deq, deqs, boundD, slD, lenD, isT, chunks, mn_min, mx_max, D.cells, splice_one, splice_more, Rbr_at, Rfr_at, frR, frV, frC, flatC, brwR, brwV, brwC, omap, leR, leV, leC, leL, leVL]
      refine W.loopS (fun j : Nat => ⟨[(11, I j), (9, .own 0), (8, I m), (7, I i), (2, I d), (6, .bool false)], [(0, .row 7 ((accL i ++ endL c j).map Outp.D))], 1⟩)
        (fun k j => k = m - j ∧ j ≤ m) ?_ ?_
      · exact ⟨_, 0, (Gh.ren [] (by simp [hB0]) (by simp [hB0] <;> decide) (by simp [eget, rnS, rnR, rnV, rnC, LtS, LtR, LtV, LtC, lget, endL]) (by simp [hget, rnO, rnC, LtO, LtC, lget, endL]) (.inr rfl)), rfl, by omega⟩
      rintro k j ⟨hk, hj⟩
      refine acode_sound [0, 1, 2, 6, 7, 8, 9, 10, 11, 12, 13, 14, 15, 16, 18, 19, 20, 29, 41, 47, 75] [] _ _ _ ?_
      by_cases hlt : j < m
      · have ij : InR ((j : Int) + 1) := inT (by omega) (by omega)
        have hal := out_len c i j
        have hcap : (i + j + 1) * 56 ≤ 140737488355328 := by omega
        have hE := endL_succ c j
        by_cases hjc : (j : Int) < c
        · have e1 : (endO c j).D = [I 7, I j, I 0, I ((j : Int) % 12), I 0, I 0, I 0] := by simp [endO, Outp.D, hjc]
          simp only [List.length_append] at hal
          repeat' (first
            | simp [AK_at, acode_seq, acode_region, acode_draw, acode_cond, ↓CB_t, ↓CB_f, CB_u, acode_block, acode_loop, acode_exit, acode_scope, acode_ret, acode_skip, seqQ_n, seqQ_e, seqQ_r, blockQ_n, blockQ_e, blockQ_r, TK_at, OK_at, SK_at, aops_nil, aops_cons, asch_done, asch_one, asch_two, asch_top, astep, aop_eq, isLoud, aloud, aloud1, isWrite, qv, evS, strip, gof, eget, hget, putO, eput, herase, oks, opnds, gS, afin, afin0, binD, arith, D.cells, takeD, fillD, keep, trim, envOf, Fin, aresl, aresv, resD, argOk, pickV, isP, deq, deqs, boundD, slD, lenD, isT, chunks, mn_min, mx_max, D.cells, splice_one, splice_more, Rbr_at, Rfr_at, frR, frV, frC, flatC, brwR, brwV, brwC, omap, leR, leV, leC, leL, leVL, hlt, hal, hcap, ij, hjc]
            | (refine WCall.pf (hp3) ?_ ?_ ?_ ?_; (focus (simp [oks, opnds, gS, gof, eget]; done)); (focus (simp [omap, brwV, brwC, evS, eget, strip, hget, leVL, leV, leC, leL, hlt, hal, hcap, ij, hjc]; done)); (focus (simp [noV, noC, flatR, flatV, flatC, evS, eget, strip, hlt, hal, hcap, ij, hjc]; done)))
            | (refine ⟨WCall.pf (hp3) ?_ ?_ ?_ ?_, ?_⟩; (focus (simp [oks, opnds, gS, gof, eget]; done)); (focus (simp [omap, brwV, brwC, evS, eget, strip, hget, leVL, leV, leC, leL, hlt, hal, hcap, ij, hjc]; done)); (focus (simp [noV, noC, flatR, flatV, flatC, evS, eget, strip, hlt, hal, hcap, ij, hjc]; done)))
            | (with_reducible refine And.intro (And.intro ?_ ?_) ?_)
            | fail)
          exact ⟨_, j + 1, (Gh.ren [2] (by simp [hB0]) (by simp [hB0] <;> decide) (by simp [eget, rnS, rnR, rnV, rnC, LtS, LtR, LtV, LtC, lget, hE, e1]) (by simp [hget, rnO, rnC, LtO, LtC, lget, hE, e1]) (.inl (by simp [lget, hE, e1]))), by omega, rfl, by omega⟩
        · have e1 : (endO c j).D = [I 6, I j, I 0, I ((j : Int) % 12), I 0, I 0, I 0] := by simp [endO, Outp.D, hjc]
          simp only [List.length_append] at hal
          repeat' (first
            | simp [AK_at, acode_seq, acode_region, acode_draw, acode_cond, ↓CB_t, ↓CB_f, CB_u, acode_block, acode_loop, acode_exit, acode_scope, acode_ret, acode_skip, seqQ_n, seqQ_e, seqQ_r, blockQ_n, blockQ_e, blockQ_r, TK_at, OK_at, SK_at, aops_nil, aops_cons, asch_done, asch_one, asch_two, asch_top, astep, aop_eq, isLoud, aloud, aloud1, isWrite, qv, evS, strip, gof, eget, hget, putO, eput, herase, oks, opnds, gS, afin, afin0, binD, arith, D.cells, takeD, fillD, keep, trim, envOf, Fin, aresl, aresv, resD, argOk, pickV, isP, deq, deqs, boundD, slD, lenD, isT, chunks, mn_min, mx_max, D.cells, splice_one, splice_more, Rbr_at, Rfr_at, frR, frV, frC, flatC, brwR, brwV, brwC, omap, leR, leV, leC, leL, leVL, hlt, hal, hcap, ij, hjc]
            | (refine WCall.pf (hp3) ?_ ?_ ?_ ?_; (focus (simp [oks, opnds, gS, gof, eget]; done)); (focus (simp [omap, brwV, brwC, evS, eget, strip, hget, leVL, leV, leC, leL, hlt, hal, hcap, ij, hjc]; done)); (focus (simp [noV, noC, flatR, flatV, flatC, evS, eget, strip, hlt, hal, hcap, ij, hjc]; done)))
            | (refine ⟨WCall.pf (hp3) ?_ ?_ ?_ ?_, ?_⟩; (focus (simp [oks, opnds, gS, gof, eget]; done)); (focus (simp [omap, brwV, brwC, evS, eget, strip, hget, leVL, leV, leC, leL, hlt, hal, hcap, ij, hjc]; done)); (focus (simp [noV, noC, flatR, flatV, flatC, evS, eget, strip, hlt, hal, hcap, ij, hjc]; done)))
            | (with_reducible refine And.intro (And.intro ?_ ?_) ?_)
            | fail)
          exact ⟨_, j + 1, (Gh.ren [2] (by simp [hB0]) (by simp [hB0] <;> decide) (by simp [eget, rnS, rnR, rnV, rnC, LtS, LtR, LtV, LtC, lget, hE, e1]) (by simp [hget, rnO, rnC, LtO, LtC, lget, hE, e1]) (.inl (by simp [lget, hE, e1]))), by omega, rfl, by omega⟩
      · obtain rfl : j = m := by omega
        simp only [List.map_append] at hlv hby_pfn
        repeat' (first
          | simp [AK_at, acode_seq, acode_region, acode_draw, acode_cond, ↓CB_t, ↓CB_f, CB_u, acode_block, acode_loop, acode_exit, acode_scope, acode_ret, acode_skip, seqQ_n, seqQ_e, seqQ_r, blockQ_n, blockQ_e, blockQ_r, TK_at, OK_at, SK_at, aops_nil, aops_cons, asch_done, asch_one, asch_two, asch_top, astep, aop_eq, isLoud, aloud, aloud1, isWrite, qv, evS, strip, gof, eget, hget, putO, eput, herase, oks, opnds, gS, afin, afin0, binD, arith, D.cells, takeD, fillD, keep, trim, envOf, Fin, aresl, aresv, resD, argOk, pickV, isP, deq, deqs, boundD, slD, lenD, isT, chunks, mn_min, mx_max, D.cells, splice_one, splice_more, Rbr_at, Rfr_at, frR, frV, frC, flatC, brwR, brwV, brwC, omap, leR, leV, leC, leL, leVL, hol]
          | (refine WCall.pf (hlv) ?_ ?_ ?_ ?_; (focus (simp [oks, opnds, gS, gof, eget]; done)); (focus (simp [omap, brwV, brwC, evS, eget, strip, hget, leVL, leV, leC, leL, hol]; done)); (focus (simp [noV, noC, flatR, flatV, flatC, evS, eget, strip, hol]; done)))
          | (refine ⟨WCall.pf (hlv) ?_ ?_ ?_ ?_, ?_⟩; (focus (simp [oks, opnds, gS, gof, eget]; done)); (focus (simp [omap, brwV, brwC, evS, eget, strip, hget, leVL, leV, leC, leL, hol]; done)); (focus (simp [noV, noC, flatR, flatV, flatC, evS, eget, strip, hol]; done)))
          | (refine WCall.pfn (hby_pfn) ?_ ?_ ?_; (focus (simp [oks, opnds, gS, gof, eget]; done)); (focus (simp [omap, brwV, brwC, evS, eget, strip, hget, leVL, leV, leC, leL, hol]; done)))
          | (refine ⟨WCall.pfn (hby_pfn) ?_ ?_ ?_, ?_⟩; (focus (simp [oks, opnds, gS, gof, eget]; done)); (focus (simp [omap, brwV, brwC, evS, eget, strip, hget, leVL, leV, leC, leL, hol]; done)))
          | (refine WCall.pf (hl1) ?_ ?_ ?_ ?_; (focus (simp [oks, opnds, gS, gof, eget]; done)); (focus (simp [omap, brwV, brwC, evS, eget, strip, hget, leVL, leV, leC, leL, hol]; done)); (focus (simp [noV, noC, flatR, flatV, flatC, evS, eget, strip, hol]; done)))
          | (refine ⟨WCall.pf (hl1) ?_ ?_ ?_ ?_, ?_⟩; (focus (simp [oks, opnds, gS, gof, eget]; done)); (focus (simp [omap, brwV, brwC, evS, eget, strip, hget, leVL, leV, leC, leL, hol]; done)); (focus (simp [noV, noC, flatR, flatV, flatC, evS, eget, strip, hol]; done)))
          | (with_reducible refine And.intro (And.intro ?_ ?_) ?_)
          | fail)
        refine W.loopS (fun b : Nat => ⟨[(20, I b), (19, I (sumT C b)), (18, I 6), (16, I 0), (15, D.rows 1 (C.map fun z => [I z])), (14, I 0), (13, I ((i : Int) - j)), (8, I j), (7, I i), (6, .bool false)], [], 0⟩)
          (fun n b => n = 12 - b ∧ b ≤ 12) ?_ ?_
        · exact ⟨_, 0, (Gh.ren [] (by simp [hB0]) (by simp [hB0] <;> decide) (by simp [eget, rnS, rnR, rnV, rnC, LtS, LtR, LtV, LtC, lget, sumT]) (by simp [hget, rnO, rnC, LtO, LtC, lget, sumT]) (.inr rfl)), rfl, by omega⟩
        rintro k2 b ⟨hn, hb⟩
        refine acode_sound [0, 1, 2, 6, 7, 8, 9, 10, 11, 12, 13, 14, 15, 16, 18, 19, 20, 29, 41, 47, 75] [] _ _ _ ?_
        by_cases hb2 : b < 12
        · have h1 := hbd b hb
          have h2 := hob b (by omega)
          have h3 := sumT_succ C b (by omega)
          have ib : InR ((b : Int) + 1) := inT (by omega) (by omega)
          have hbC : b < C.length := by omega
          have hbz : (b : Int) < 12 := by omega
          have ic : InR (sumT C b + C[b]) := inT (by omega) (by omega)
          simp [AK_at, acode_seq, acode_region, acode_draw, acode_cond, ↓CB_t, ↓CB_f, CB_u, acode_block, acode_loop, acode_exit, acode_scope, acode_ret, acode_skip, seqQ_n, seqQ_e, seqQ_r, blockQ_n, blockQ_e, blockQ_r, TK_at, OK_at, SK_at, aops_nil, aops_cons, asch_done, asch_one, asch_two, asch_top, astep, aop_eq, isLoud, aloud, aloud1, isWrite, qv, evS, strip, gof, eget, hget, putO, eput, herase, oks, opnds, gS, afin, afin0, binD, arith, D.cells, takeD, fillD, keep, trim, envOf, Fin, aresl, aresv, resD, argOk, pickV, isP, deq, deqs, boundD, slD, lenD, isT, chunks, mn_min, mx_max, D.cells, splice_one, splice_more, Rbr_at, Rfr_at, frR, frV, frC, flatC, brwR, brwV, brwC, omap, leR, leV, leC, leL, leVL, hol, hb2, hbC, ib, ic, hbz]
          exact ⟨_, b + 1, (Gh.ren [] (by simp [hB0]) (by simp [hB0] <;> decide) (by simp [eget, rnS, rnR, rnV, rnC, LtS, LtR, LtV, LtC, lget, h3]) (by simp [hget, rnO, rnC, LtO, LtC, lget, h3]) (.inr rfl)), by omega, rfl, by omega⟩
        · obtain rfl : b = 12 := by omega
          have is : InR ((i : Int) - j) := inT (by omega) (by omega)
          simp [AK_at, acode_seq, acode_region, acode_draw, acode_cond, ↓CB_t, ↓CB_f, CB_u, acode_block, acode_loop, acode_exit, acode_scope, acode_ret, acode_skip, seqQ_n, seqQ_e, seqQ_r, blockQ_n, blockQ_e, blockQ_r, TK_at, OK_at, SK_at, aops_nil, aops_cons, asch_done, asch_one, asch_two, asch_top, astep, aop_eq, isLoud, aloud, aloud1, isWrite, qv, evS, strip, gof, eget, hget, putO, eput, herase, oks, opnds, gS, afin, afin0, binD, arith, D.cells, takeD, fillD, keep, trim, envOf, Fin, aresl, aresv, resD, argOk, pickV, isP, deq, deqs, boundD, slD, lenD, isT, chunks, mn_min, mx_max, D.cells, splice_one, splice_more, Rbr_at, Rfr_at, frR, frV, frC, flatC, brwR, brwV, brwC, omap, leR, leV, leC, leL, leVL, hol, hsum, is]
end Go.Proofs.Ytfkeddefajkobaa
