/- This text holds, one behind the other, the texts that say what the program computes, step by step, and the rules that they need. They have no condition of their own. -/
import Derived.Test.YtajimebannjofaaMd
import Derived.RangeFuncNested
import Derived.Test.YtajimebannjofaaMc
set_option linter.unusedSimpArgs false
set_option linter.unusedVariables false
set_option maxRecDepth 100000
set_option maxHeartbeats 4000000
namespace Go.Proofs.Ytajimebannjofaa
open Go.RowKit
theorem inG {z : Int} (h1 : -9223372036854775808 ≤ z) (h2 : z ≤ 9223372036854775807) : InR z := ⟨h1, h2⟩
theorem hspot_pf (b i : Int) (hb : 0 ≤ b) (hb' : b < 12) (hi : 0 ≤ i) (hi' : i < 32) : PF Try.prog 51 [I b, I i] (.tup [I (spotN b.toNat i.toNat : Nat), I 0]) := by
  refine ⟨by kernel_rfl, fun Z w vs hz hl hv => ?_⟩
  obtain ⟨v0, v1, rfl⟩ : ∃ v0 v1, vs = #[v0, v1] := by
    match vs, hl with
    | ⟨[v0, v1]⟩, _ => exact ⟨_, _, rfl⟩
  have e0 : v0 = .int .i64 b := vtInt (hv 0 _ rfl)
  have e1 : v1 = .int .i64 i := vtInt (hv 1 _ rfl)
  subst e0 e1
  refine (hashSpot_any b i w hb hb' hi hi').mono fun e w' ⟨he, hB⟩ => ⟨_, Z, he, ⟨_, rfl, rfl, fun j x h => ?_⟩, Zx.refl hz hB, hB⟩
  match j, h with
  | 0, h => obtain rfl := Option.some.inj h; exact VT.int _ _
  | 1, h => obtain rfl := Option.some.inj h; exact VT.int _ _
  | j + 2, h => simp at h
theorem hkey_pf (k : Int) (h0 : 0 ≤ k) (h1 : k < 4294967296) : PF Try.prog 20 [I k] (.tup [I (keyN k.toNat : Nat), I 0]) := by
  refine ⟨by kernel_rfl, fun Z w vs hz hl hv => ?_⟩
  obtain ⟨v0, rfl⟩ : ∃ v0, vs = #[v0] := by
    match vs, hl with
    | ⟨[v0]⟩, _ => exact ⟨_, rfl⟩
  have e0 : v0 = .int .i64 k := vtInt (hv 0 _ rfl)
  subst e0
  refine (hashKey_any k w h0 h1).mono fun e w' ⟨he, hB⟩ => ⟨_, Z, he, ⟨_, rfl, rfl, fun j x h => ?_⟩, Zx.refl hz hB, hB⟩
  match j, h with
  | 0, h => obtain rfl := Option.some.inj h; exact VT.int _ _
  | 1, h => obtain rfl := Option.some.inj h; exact VT.int _ _
  | j + 2, h => simp at h
def spotAt (b i : Nat) : Int × Int := ((spotN b i : Nat), b)
def spotsM (b n : Nat) : List (Int × Int) := (List.range n).map (spotAt b)
theorem spotsM_succ (b n : Nat) : spotsM b (n + 1) = spotsM b n ++ [spotAt b n] := by unfold spotsM; rw [List.range_succ, List.map_append]; rfl
theorem spotsM_len (b n : Nat) : (spotsM b n).length = n := by simp [spotsM]
theorem rspots_code : cfun Try.prog [] 34 = some ⟨(.seq (.region 0 [⟨(some 4), (.mov (.k .nil0)), none⟩]) (.seq (.region 1 [⟨(some 5), (.mov (.k .nil0)), none⟩]) (.seq (.seq (.region 2 [⟨(some 9), (.mov (.t 1)), none⟩, ⟨(some 10), (.bin .mul (.t 9) (.k (.int .i64 4))), none⟩, ⟨(some 11), (.mov (.k (.int .i64 0))), none⟩]) (.block 0 (.loop (.seq (.region 3 [⟨(some 12), (.bin .lss (.t 11) (.t 10)), none⟩]) (.seq (.cond 12 .skip (.exit 0)) (.seq (.block 1 (.seq (.region 4 [⟨(some 13), (.mov (.t 11)), none⟩, ⟨(some 6), (.mov (.t 13)), none⟩]) (.seq (.region 5 [⟨(some 15), (.mov (.t 0)), none⟩, ⟨(some 16), (.mov (.t 6)), none⟩, ⟨(some 17), (.call 51 [(.t 15), (.t 16)]), none⟩, ⟨(some 14), (.mov (.t 17)), none⟩, ⟨(some 18), (.ext (.t 14) 0), none⟩, ⟨(some 19), (.ext (.t 14) 1), none⟩, ⟨(some 7), (.mov (.t 18)), none⟩, ⟨(some 8), (.mov (.t 19)), none⟩]) (.region 6 [⟨(some 20), (.mov (.t 5)), none⟩, ⟨(some 21), (.mov (.t 7)), none⟩, ⟨(some 22), (.mov (.t 0)), none⟩, ⟨(some 23), (.build [(.int .i64 0), (.int .i64 0)] [(0, (1, (.t 21))), (1, (1, (.t 22)))]), none⟩, ⟨(some 24), (.bslice 2 1 [(.int .i64 0), (.int .i64 0)] [(0, (.t 23))]), none⟩, ⟨(some 25), (.app 2 16 [(.int .i64 0), (.int .i64 0)] (.t 20) (.t 24)), none⟩, ⟨(some 5), (.mov (.t 25)), none⟩])))) (.region 7 [⟨(some 26), (.bin .add (.t 11) (.k (.int .i64 1))), none⟩, ⟨(some 11), (.mov (.t 26)), none⟩]))))))) (.seq (.region 8 [⟨(some 27), (.mov (.t 5)), none⟩, ⟨(some 4), (.mov (.t 27)), none⟩]) .ret)))), [(.t 4)], 28⟩ := by kernel_rfl
theorem rspots_pf (b w : Nat) (hb : b < 12) (hw : w ≤ 8) : PF Try.prog 34 [I b, I w] (.rows 2 ((spotsM b (4 * w)).map spE)) := by
  have i1 : InR ((w : Int) * 4) := inG (by omega) (by omega)
  refine PF.of follows_ok rspots_code (by simp) (by simp [argOk]) (by simp [noV, noC]) fun B hBN hB0 => acode_sound [0, 1, 4, 5, 6, 7, 10, 11, 12] [] _ _ _ ?_
  simp [AK_at, acode_seq, acode_region, acode_draw, acode_cond, ↓CB_t, ↓CB_f, CB_u, acode_block, acode_loop, acode_exit, acode_scope, acode_ret, acode_skip, seqQ_n, seqQ_e, seqQ_r, blockQ_n, blockQ_e, blockQ_r, TK_at, OK_at, SK_at, aops_nil, aops_cons, asch_done, asch_one, asch_two, asch_top, astep, aop_eq, isLoud, aloud, aloud1, isWrite, qv, evS, strip, gof, eget, hget, putO, eput, herase, oks, opnds, gS, afin, afin0, binD, arith, D.cells, takeD, fillD, keep, trim, envOf, Fin, aresl, aresv, resD, argOk, pickV, isP, deq, deqs, boundD, slD, lenD, isT, isSl, ptrIds, chunks, mn_min, mx_max, D.cells, splice_one, splice_more, Rbr_at, Rfr_at, frR, frV, frC, flatC, brwR, brwV, brwC, omap, leR, leV, leC, leL, leVL, i1]
  refine W.loopS (fun i : Nat => ⟨[(11, I i), (10, I ((w : Int) * 4)), (5, .own 0), (4, .nil0), (1, I w), (0, I b)], [(0, .row 2 ((spotsM b i).map spE))], 1⟩)
    (fun n i => n = 4 * w - i ∧ i ≤ 4 * w) ?_ ?_
  · refine ⟨_, 0, (Gh.adopt 5 2 (by omega) (by simp [eget])).trans ?_, rfl, by omega⟩
    simp [eput]
    exact (Gh.ren [0] (by simp [hB0]) (by simp [hB0] <;> decide) (by simp [eget, rnS, rnR, rnV, rnC, LtS, LtR, LtV, LtC, lget, spotsM]) (by simp [hget, rnO, rnC, LtO, LtC, lget, spotsM]) (.inl (by simp [lget, spotsM])))
  rintro n i ⟨hn, hi⟩
  refine acode_sound [0, 1, 4, 5, 6, 7, 10, 11, 12] [] _ _ _ ?_
  by_cases hlt : i < 4 * w
  · have hz : (i : Int) < w * 4 := by omega
    have hs := hspot_pf b i (by omega) (by omega) (by omega) (by omega)
    rw [Int.toNat_natCast, Int.toNat_natCast] at hs
    have hsl := spotsM_len b i
    have hcap : (i + 1) * 16 ≤ 140737488355328 := by omega
    have ii : InR ((i : Int) + 1) := inG (by omega) (by omega)
    have hss := spotsM_succ b i
    repeat' (first
      | simp [AK_at, acode_seq, acode_region, acode_draw, acode_cond, ↓CB_t, ↓CB_f, CB_u, acode_block, acode_loop, acode_exit, acode_scope, acode_ret, acode_skip, seqQ_n, seqQ_e, seqQ_r, blockQ_n, blockQ_e, blockQ_r, TK_at, OK_at, SK_at, aops_nil, aops_cons, asch_done, asch_one, asch_two, asch_top, astep, aop_eq, isLoud, aloud, aloud1, isWrite, qv, evS, strip, gof, eget, hget, putO, eput, herase, oks, opnds, gS, afin, afin0, binD, arith, D.cells, takeD, fillD, keep, trim, envOf, Fin, aresl, aresv, resD, argOk, pickV, isP, deq, deqs, boundD, slD, lenD, isT, isSl, ptrIds, chunks, mn_min, mx_max, D.cells, splice_one, splice_more, Rbr_at, Rfr_at, frR, frV, frC, flatC, brwR, brwV, brwC, omap, leR, leV, leC, leL, leVL, hz, hsl, hcap, ii]
      | (refine WCall.pf (hs) ?_ ?_ ?_ ?_; (focus (simp [oks, opnds, gS, gof, eget]; done)); (focus (simp [omap, brwV, brwC, evS, eget, strip, hget, leVL, leV, leC, leL, hz, hsl, hcap, ii]; done)); (focus (simp [noV, noC, flatR, flatV, flatC, evS, eget, strip, hz, hsl, hcap, ii]; done)))
      | (refine ⟨WCall.pf (hs) ?_ ?_ ?_ ?_, ?_⟩; (focus (simp [oks, opnds, gS, gof, eget]; done)); (focus (simp [omap, brwV, brwC, evS, eget, strip, hget, leVL, leV, leC, leL, hz, hsl, hcap, ii]; done)); (focus (simp [noV, noC, flatR, flatV, flatC, evS, eget, strip, hz, hsl, hcap, ii]; done)))
      | (with_reducible refine And.intro (And.intro ?_ ?_) ?_)
      | fail)
    all_goals exact ⟨_, i + 1, (Gh.ren [2] (by simp [hB0]) (by simp [hB0] <;> decide) (by simp [eget, rnS, rnR, rnV, rnC, LtS, LtR, LtV, LtC, lget, hss, spE, spotAt]) (by simp [hget, rnO, rnC, LtO, LtC, lget, hss, spE, spotAt]) (.inl (by simp [lget, hss, spE, spotAt]))), by omega, rfl, by omega⟩
  · obtain rfl : i = 4 * w := by omega
    have hz : ¬ (4 * (w : Int)) < w * 4 := by omega
    simp [AK_at, acode_seq, acode_region, acode_draw, acode_cond, ↓CB_t, ↓CB_f, CB_u, acode_block, acode_loop, acode_exit, acode_scope, acode_ret, acode_skip, seqQ_n, seqQ_e, seqQ_r, blockQ_n, blockQ_e, blockQ_r, TK_at, OK_at, SK_at, aops_nil, aops_cons, asch_done, asch_one, asch_two, asch_top, astep, aop_eq, isLoud, aloud, aloud1, isWrite, qv, evS, strip, gof, eget, hget, putO, eput, herase, oks, opnds, gS, afin, afin0, binD, arith, D.cells, takeD, fillD, keep, trim, envOf, Fin, aresl, aresv, resD, argOk, pickV, isP, deq, deqs, boundD, slD, lenD, isT, isSl, ptrIds, chunks, mn_min, mx_max, D.cells, splice_one, splice_more, Rbr_at, Rfr_at, frR, frV, frC, flatC, brwR, brwV, brwC, omap, leR, leV, leC, leL, leVL, hz]
/-- the weights of a ring -/
structure WOk (ws : List Nat) : Prop where
  len : ws.length = 12
  le : ∀ w ∈ ws, w ≤ 8
def wantM (ws : List Nat) (k : Nat) : List (Int × Int) := (List.range k).flatMap fun b => spotsM b (4 * ws.getD b 0)
def ringM (ws : List Nat) : List (Int × Int) := sortM (wantM ws 12)
def isB (b : Nat) (s : Int × Int) : Bool := decide (s.2 = (b : Int))
def cntS (l : List (Int × Int)) : List Int := (List.range 12).map fun b => ((l.countP (isB b) : Nat) : Int)
theorem wantM_succ (ws : List Nat) (k : Nat) : wantM ws (k + 1) = wantM ws k ++ spotsM k (4 * ws.getD k 0) := by unfold wantM; rw [List.range_succ, List.flatMap_append]; simp
theorem wantM_len (ws : List Nat) (h : WOk ws) : ∀ k, (wantM ws k).length ≤ 32 * k
  | 0 => by simp [wantM]
  | k + 1 => by
    have ih := wantM_len ws h k
    have : ws.getD k 0 ≤ 8 := by
      by_cases hk : k < ws.length
      · rw [List.getD_eq_getElem?_getD, List.getElem?_eq_getElem hk]; exact h.le _ (List.getElem_mem hk)
      · rw [List.getD_eq_getElem?_getD, List.getElem?_eq_none (by omega)]; simp
    rw [wantM_succ, List.length_append, spotsM_len]; omega
theorem spotsM_mem {b n : Nat} {s : Int × Int} (h : s ∈ spotsM b n) : s.2 = (b : Int) := by
  obtain ⟨i, _, rfl⟩ := List.mem_map.1 h; rfl
theorem wantM_mem {ws : List Nat} {k : Nat} {s : Int × Int} (h : s ∈ wantM ws k) : 0 ≤ s.2 ∧ s.2 < k := by
  obtain ⟨b, hb, hs⟩ := List.mem_flatMap.1 h
  have := spotsM_mem hs
  have := List.mem_range.1 hb
  omega
theorem ringM_perm (ws : List Nat) : (ringM ws).Perm (wantM ws 12) := List.mergeSort_perm _ _
theorem ringM_mem {ws : List Nat} {s : Int × Int} (h : s ∈ ringM ws) : 0 ≤ s.2 ∧ s.2 < 12 := wantM_mem ((ringM_perm ws).mem_iff.1 h)
theorem ringM_len (ws : List Nat) (h : WOk ws) : (ringM ws).length ≤ 384 := by rw [(ringM_perm ws).length_eq]; exact wantM_len ws h 12
theorem cnt_spots (b c n : Nat) : (spotsM c n).countP (isB b) = if c = b then n else 0 := by
  by_cases h : c = b
  · rw [if_pos h, List.countP_eq_length.2 fun s hs => by have := spotsM_mem hs; simp [isB, this, h], spotsM_len]
  · rw [if_neg h]
    refine List.countP_eq_zero.2 fun s hs => ?_
    have := spotsM_mem hs
    simp [isB, this]; omega
theorem cnt_want (ws : List Nat) (b : Nat) : ∀ k, (wantM ws k).countP (isB b) = if b < k then 4 * ws.getD b 0 else 0
  | 0 => by simp [wantM]
  | k + 1 => by
    rw [wantM_succ, List.countP_append, cnt_want ws b k, cnt_spots]
    rcases Nat.lt_trichotomy b k with h | h | h
    · rw [if_pos h, if_neg (by omega), if_pos (by omega)]; rfl
    · subst h; rw [if_neg (by omega), if_pos rfl, if_pos (by omega)]; omega
    · rw [if_neg (by omega), if_neg (by omega), if_neg (by omega)]
theorem cnt_ring (ws : List Nat) (b : Nat) (hb : b < 12) : (ringM ws).countP (isB b) = 4 * ws.getD b 0 := by
  rw [(ringM_perm ws).countP_eq, cnt_want, if_pos hb]
/-- behind the first loop; behind k rounds of the second -/
def byM (ws : List Nat) (k : Nat) : List Int := (List.range 12).map fun b => if b < k then ((ws.getD b 0 : Nat) : Int) else ((4 * ws.getD b 0 : Nat) : Int)
theorem cnt_byM (ws : List Nat) : cntS (ringM ws) = byM ws 0 := by
  unfold cntS byM
  refine List.map_congr_left fun b hb => ?_
  rw [cnt_ring ws b (List.mem_range.1 hb), if_neg (by omega)]
theorem cntS_succ (l : List (Int × Int)) (i : Nat) (h : i < l.length) (b : Nat) (hb : l[i].2 = b) (hb2 : b < 12) : cntS (l.take (i + 1)) = (cntS (l.take i)).set b (((l.take i).countP (isB b) : Nat) + 1) := by
  rw [List.take_succ_eq_append_getElem h]
  refine List.ext_getElem (by simp [cntS]) fun j h1 h2 => ?_
  have hj : j < 12 := by simpa [cntS] using h1
  rw [List.getElem_set]
  simp only [cntS, List.getElem_map, List.getElem_range, List.countP_append, List.countP_cons, List.countP_nil]
  by_cases hjb : b = j
  · subst hjb; simp [isB, hb]
  · rw [if_neg hjb]
    have : isB j l[i] = false := by simp [isB, hb]; omega
    simp [this]
theorem cntS_bd (l : List (Int × Int)) (b : Nat) : ((l.countP (isB b) : Nat) : Int) ≤ l.length := by
  have := List.countP_le_length (p := isB b) (l := l); omega
theorem byM_set (ws : List Nat) (k : Nat) (hk : k < 12) : (byM ws k).set k ((ws.getD k 0 : Nat) : Int) = byM ws (k + 1) := by
  refine List.ext_getElem (by simp [byM]) fun j h1 h2 => ?_
  rw [List.getElem_set]
  simp only [byM, List.getElem_map, List.getElem_range]
  by_cases h : k = j
  · subst h; rw [if_pos rfl, if_pos (by omega)]
  · rw [if_neg h]
    by_cases h3 : j < k
    · rw [if_pos h3, if_pos (by omega)]
    · rw [if_neg h3, if_neg (by omega)]
end Go.Proofs.Ytajimebannjofaa

set_option linter.unusedSimpArgs false
set_option linter.unusedVariables false
set_option maxRecDepth 100000
set_option maxHeartbeats 4000000
namespace Go.Proofs.Ytajimebannjofaa
open Go.RowKit
theorem speq2 (l : List (Int × Int)) (hl : l.length ≤ 1000000) : PF Try.prog 47 [.rows 2 (l.map spE), .rows 2 (l.map spE)] (.bool true) := speq_pf l hl
theorem rnI (f : Nat → Nat) : rnC f ∘ I = I := rfl
theorem spliceI (l : List Int) (b : Nat) (z : Int) (h : b < l.length) : splice (l.map I) b [D.int IntKind.i64 z] = (l.set b z).map I := by
  rw [splice_one _ _ _ (by simpa using h), List.map_set]
theorem omapI (H : List (Nat × Ob)) (nx : Nat) : ∀ l : List Nat, omap (brwC H nx) (l.map fun w : Nat => I (w : Int)) = some (l.map fun w : Nat => I (w : Int))
  | [] => rfl
  | x :: t => by simp [omap, brwC, omapI H nx t]
theorem leLI : ∀ l : List Nat, leL (l.map fun w : Nat => I (w : Int)) (l.map fun w : Nat => I (w : Int))
  | [] => by simp [leL]
  | x :: t => by simp [leL, leC, leLI t]
theorem rwei_code : cfun Try.prog [] 29 = some ⟨(.seq (.region 0 [⟨(some 1), (.box (.t 0)), none⟩, ⟨(some 2), (.alloc [(.int .i64 0), (.int .i64 0), (.int .i64 0), (.int .i64 0), (.int .i64 0), (.int .i64 0), (.int .i64 0), (.int .i64 0), (.int .i64 0), (.int .i64 0), (.int .i64 0), (.int .i64 0)]), none⟩, ⟨(some 3), (.mov (.k (.bool false))), none⟩]) (.seq (.region 1 [⟨(some 4), (.alloc [(.int .i64 0), (.int .i64 0), (.int .i64 0), (.int .i64 0), (.int .i64 0), (.int .i64 0), (.int .i64 0), (.int .i64 0), (.int .i64 0), (.int .i64 0), (.int .i64 0), (.int .i64 0)]), none⟩]) (.seq (.seq (.region 2 [⟨(some 10), (.fad 0 (.t 1)), none⟩, ⟨(some 11), (.load false 1 (.t 10)), none⟩, ⟨(some 12), (.len (.t 11)), none⟩, ⟨(some 13), (.mov (.k (.int .i64 0))), none⟩]) (.block 0 (.loop (.seq (.region 3 [⟨(some 14), (.bin .lss (.t 13) (.t 12)), none⟩]) (.seq (.cond 14 .skip (.exit 0)) (.seq (.block 1 (.seq (.region 4 [⟨(some 15), (.iads 2 (.t 11) (.t 13)), none⟩, ⟨(some 16), (.load true 2 (.t 15)), none⟩, ⟨(some 6), (.alloc [(.int .i64 0), (.int .i64 0)]), none⟩, ⟨none, (.store 2 (.t 6) (.t 16)), none⟩]) (.seq (.seq (.region 5 [⟨(some 17), (.fad 1 (.t 6)), none⟩, ⟨(some 18), (.load false 1 (.t 17)), none⟩, ⟨(some 19), (.bin .lss (.t 18) (.k (.int .i64 0))), none⟩, ⟨(some 20), (.mov (.t 19)), none⟩, ⟨(some 21), (.fad 1 (.t 6)), (some (20, false))⟩, ⟨(some 22), (.load false 1 (.t 21)), (some (20, false))⟩, ⟨(some 23), (.bin .geq (.t 22) (.k (.int .i64 12))), (some (20, false))⟩, ⟨(some 24), (.pick (.t 20) (.k (.bool true)) (.t 23)), none⟩]) (.cond 24 (.seq (.region 6 [⟨(some 25), (.load true 12 (.t 4)), none⟩, ⟨none, (.store 12 (.t 2) (.t 25)), none⟩, ⟨(some 3), (.mov (.k (.bool false))), none⟩]) .ret) .skip)) (.region 7 [⟨(some 26), (.fad 1 (.t 6)), none⟩, ⟨(some 27), (.load false 1 (.t 26)), none⟩, ⟨(some 28), (.iada 12 1 (.t 4) (.t 27)), none⟩, ⟨(some 29), (.load false 1 (.t 28)), none⟩, ⟨(some 30), (.bin .add (.t 29) (.k (.int .i64 1))), none⟩, ⟨(some 31), (.iada 12 1 (.t 4) (.t 27)), none⟩, ⟨none, (.store 1 (.t 31) (.t 30)), none⟩])))) (.region 8 [⟨(some 32), (.bin .add (.t 13) (.k (.int .i64 1))), none⟩, ⟨(some 13), (.mov (.t 32)), none⟩]))))))) (.seq (.region 9 [⟨(some 7), (.mov (.k .nil0)), none⟩]) (.seq (.seq (.region 10 [⟨(some 33), (.load true 12 (.t 4)), none⟩, ⟨(some 34), (.mov (.k (.int .i64 0))), none⟩]) (.block 2 (.loop (.seq (.region 11 [⟨(some 35), (.bin .lss (.t 34) (.k (.int .i64 12))), none⟩]) (.seq (.cond 35 .skip (.exit 2)) (.seq (.block 3 (.seq (.region 12 [⟨(some 36), (.mov (.t 34)), none⟩, ⟨(some 37), (.ida false 12 1 (.t 33) (.t 34)), none⟩, ⟨(some 8), (.mov (.t 36)), none⟩, ⟨(some 9), (.mov (.t 37)), none⟩]) (.seq (.seq (.region 13 [⟨(some 38), (.mov (.t 9)), none⟩, ⟨(some 39), (.bin .rem (.t 38) (.k (.int .i64 4))), none⟩, ⟨(some 40), (.bin .neq (.t 39) (.k (.int .i64 0))), none⟩, ⟨(some 41), (.mov (.t 40)), none⟩, ⟨(some 42), (.mov (.t 9)), (some (41, false))⟩, ⟨(some 43), (.bin .gtr (.t 42) (.k (.int .i64 32))), (some (41, false))⟩, ⟨(some 44), (.pick (.t 41) (.k (.bool true)) (.t 43)), none⟩]) (.cond 44 (.seq (.region 14 [⟨(some 45), (.load true 12 (.t 4)), none⟩, ⟨none, (.store 12 (.t 2) (.t 45)), none⟩, ⟨(some 3), (.mov (.k (.bool false))), none⟩]) .ret) .skip)) (.seq (.region 15 [⟨(some 46), (.mov (.t 8)), none⟩, ⟨(some 47), (.mov (.t 9)), none⟩, ⟨(some 48), (.bin .quo (.t 47) (.k (.int .i64 4))), none⟩, ⟨(some 49), (.iada 12 1 (.t 4) (.t 46)), none⟩, ⟨none, (.store 1 (.t 49) (.t 48)), none⟩]) (.region 16 [⟨(some 50), (.mov (.t 7)), none⟩, ⟨(some 51), (.mov (.t 8)), none⟩, ⟨(some 52), (.mov (.t 8)), none⟩, ⟨(some 53), (.iada 12 1 (.t 4) (.t 52)), none⟩, ⟨(some 54), (.load false 1 (.t 53)), none⟩, ⟨(some 55), (.call 34 [(.t 51), (.t 54)]), none⟩, ⟨(some 56), (.app 2 16 [(.int .i64 0), (.int .i64 0)] (.t 50) (.t 55)), none⟩, ⟨(some 7), (.mov (.t 56)), none⟩]))))) (.region 17 [⟨(some 57), (.bin .add (.t 34) (.k (.int .i64 1))), none⟩, ⟨(some 34), (.mov (.t 57)), none⟩]))))))) (.seq (.region 18 [⟨(some 58), (.mov (.t 7)), none⟩, ⟨(some 59), (.call 35 [(.t 58), (.k (.fn 36 []))]), none⟩]) (.seq (.draw 19 (.one true ⟨(some 60), (.load true 12 (.t 4)), none⟩ (.one true ⟨(some 61), (.mov (.t 7)), none⟩ (.one true ⟨(some 62), (.fad 0 (.t 1)), none⟩ (.one true ⟨(some 63), (.load false 1 (.t 62)), none⟩ (.one true ⟨(some 64), (.call 47 [(.t 61), (.t 63)]), none⟩ (.one false ⟨none, (.store 12 (.t 2) (.t 60)), none⟩ (.one true ⟨(some 3), (.mov (.t 64)), none⟩ .done)))))))) .ret))))))), [(.c 2 true 12), (.t 3)], 65⟩ := by kernel_rfl
theorem rwei_pf (ws : List Nat) (h : WOk ws) : PF Try.prog 29 [.agg [.rows 2 ((ringM ws).map spE)]] (.tup [.agg (ws.map fun w : Nat => I (w : Int)), .bool true]) := by
  have hrl := ringM_len ws h
  have heq := speq2 (ringM ws) (by omega)
  refine PF.of follows_ok rwei_code (by simp) (by simp [argOk]) (by simp [noV, noC]) fun B hBN hB0 => acode_sound [0, 1, 2, 3, 4, 6, 7, 8, 9, 11, 12, 13, 14, 24, 33, 34, 35, 44] [] _ _ _ ?_
  simp [AK_at, acode_seq, acode_region, acode_draw, acode_cond, ↓CB_t, ↓CB_f, CB_u, acode_block, acode_loop, acode_exit, acode_scope, acode_ret, acode_skip, seqQ_n, seqQ_e, seqQ_r, blockQ_n, blockQ_e, blockQ_r, TK_at, OK_at, SK_at, aops_nil, aops_cons, asch_done, asch_one, asch_two, asch_top, astep, aop_eq, isLoud, aloud, aloud1, isWrite, qv, evS, strip, gof, eget, hget, putO, eput, herase, oks, opnds, gS, afin, afin0, binD, arith, D.cells, takeD, fillD, keep, trim, envOf, Fin, aresl, aresv, resD, argOk, pickV, isP, deq, deqs, boundD, slD, lenD, isT, isSl, ptrIds, chunks, mn_min, mx_max, D.cells, splice_one, splice_more, Rbr_at, Rfr_at, frR, frV, frC, flatC, brwR, brwV, brwC, omap, leR, leV, leC, leL, leVL]
  refine W.loopS (fun i : Nat => ⟨[(13, I i), (12, I (ringM ws).length), (11, .rows 2 ((ringM ws).map spE)), (4, .ptr 2 0), (3, .bool false), (2, .ptr 1 0), (1, .ptr 0 0)], [(2, .cells ((cntS ((ringM ws).take i)).map I)), (1, .cells [I 0, I 0, I 0, I 0, I 0, I 0, I 0, I 0, I 0, I 0, I 0, I 0]), (0, .cells [.rows 2 ((ringM ws).map spE)])], 3⟩)
    (fun n i => n = (ringM ws).length - i ∧ i ≤ (ringM ws).length) ?_ ?_
  · exact ⟨_, 0, (Gh.ren [0, 1, 2] (by simp [hB0]) (by simp [hB0] <;> decide) (by simp [eget, rnS, rnR, rnV, rnC, LtS, LtR, LtV, LtC, lget, cntS, List.range_succ]) (by simp [hget, rnO, rnC, LtO, LtC, lget, cntS, List.range_succ]) (.inl (by simp [lget, cntS, List.range_succ]))), rfl, by omega⟩
  rintro n i ⟨hn, hi⟩
  refine acode_sound [0, 1, 2, 3, 4, 6, 7, 8, 9, 11, 12, 13, 14, 24, 33, 34, 35, 44] [] _ _ _ ?_
  by_cases hlt : i < (ringM ws).length
  · obtain ⟨o, ho⟩ : ∃ o, o = (ringM ws)[i] := ⟨_, rfl⟩
    have hm : o ∈ ringM ws := ho ▸ List.getElem_mem hlt
    have hmm := ringM_mem hm
    obtain ⟨b, hb⟩ : ∃ b : Nat, o.2 = b := ⟨o.2.toNat, by omega⟩
    have hb2 : b < 12 := by omega
    have hbd := cntS_bd ((ringM ws).take i) b
    have hll : ((ringM ws).take i).length ≤ 384 := by simp; omega
    have hst := cntS_succ (ringM ws) i hlt b (ho ▸ hb) hb2
    have hlc : (cntS ((ringM ws).take i)).length = 12 := by simp [cntS]
    obtain ⟨c, hc⟩ : ∃ c, c = ((ringM ws).take i).countP (isB b) := ⟨_, rfl⟩
    rw [← hc] at hst hbd
    have hat : (cntS ((ringM ws).take i))[b]? = some (c : Int) := by simp [cntS, hc, List.getElem?_range, hb2]
    have ii : InR ((i : Int) + 1) := inG (by omega) (by omega)
    have ic : InR ((c : Int) + 1) := inG (by omega) (by omega)
    have c1 : ¬ (b : Int) < 0 := by omega
    have c2 : ¬ (12 : Int) ≤ b := by omega
    have hspl := spliceI (cntS ((ringM ws).take i)) b ((c : Int) + 1) (by rw [hlc]; exact hb2)
    rw [← hst] at hspl
    simp [AK_at, acode_seq, acode_region, acode_draw, acode_cond, ↓CB_t, ↓CB_f, CB_u, acode_block, acode_loop, acode_exit, acode_scope, acode_ret, acode_skip, seqQ_n, seqQ_e, seqQ_r, blockQ_n, blockQ_e, blockQ_r, TK_at, OK_at, SK_at, aops_nil, aops_cons, asch_done, asch_one, asch_two, asch_top, astep, aop_eq, isLoud, aloud, aloud1, isWrite, qv, evS, strip, gof, eget, hget, putO, eput, herase, oks, opnds, gS, afin, afin0, binD, arith, D.cells, takeD, fillD, keep, trim, envOf, Fin, aresl, aresv, resD, argOk, pickV, isP, deq, deqs, boundD, slD, lenD, isT, isSl, ptrIds, chunks, mn_min, mx_max, D.cells, splice_one, splice_more, Rbr_at, Rfr_at, frR, frV, frC, flatC, brwR, brwV, brwC, omap, leR, leV, leC, leL, leVL, hlt, ← ho, spE, hb, hat, hlc, ii, ic, c1, c2, hspl]
    exact ⟨by omega, by omega, by omega, by omega, _, i + 1, (Gh.ren [0, 1, 2] (by simp [hB0]) (by simp [hB0] <;> decide) (by simp [eget, rnS, rnR, rnV, rnC, LtS, LtR, LtV, LtC, lget, rnI]) (by simp [hget, rnO, rnC, LtO, LtC, lget, rnI]) (.inl (by simp [lget, rnI]))), by omega, rfl, by omega⟩
  · obtain rfl : i = (ringM ws).length := by omega
    simp only [List.take_length, cnt_byM]
    have hlb : ∀ k, (byM ws k).length = 12 := fun k => by simp [byM]
    have htk : ∀ k, ((byM ws k).map I).take 12 = (byM ws k).map I := fun k => List.take_of_length_le (by simp [hlb])
    simp [AK_at, acode_seq, acode_region, acode_draw, acode_cond, ↓CB_t, ↓CB_f, CB_u, acode_block, acode_loop, acode_exit, acode_scope, acode_ret, acode_skip, seqQ_n, seqQ_e, seqQ_r, blockQ_n, blockQ_e, blockQ_r, TK_at, OK_at, SK_at, aops_nil, aops_cons, asch_done, asch_one, asch_two, asch_top, astep, aop_eq, isLoud, aloud, aloud1, isWrite, qv, evS, strip, gof, eget, hget, putO, eput, herase, oks, opnds, gS, afin, afin0, binD, arith, D.cells, takeD, fillD, keep, trim, envOf, Fin, aresl, aresv, resD, argOk, pickV, isP, deq, deqs, boundD, slD, lenD, isT, isSl, ptrIds, chunks, mn_min, mx_max, D.cells, splice_one, splice_more, Rbr_at, Rfr_at, frR, frV, frC, flatC, brwR, brwV, brwC, omap, leR, leV, leC, leL, leVL, hlb, htk]
    refine W.loopS (fun k : Nat => ⟨[(34, I k), (33, .agg ((byM ws 0).map I)), (7, .own 3), (4, .ptr 2 0), (3, .bool false), (2, .ptr 1 0), (1, .ptr 0 0)], [(3, .row 2 ((wantM ws k).map spE)), (2, .cells ((byM ws k).map I)), (1, .cells [I 0, I 0, I 0, I 0, I 0, I 0, I 0, I 0, I 0, I 0, I 0, I 0]), (0, .cells [.rows 2 ((ringM ws).map spE)])], 4⟩)
      (fun n k => n = 12 - k ∧ k ≤ 12) ?_ ?_
    · refine ⟨_, 0, (Gh.adopt 7 2 (by omega) (by simp [eget])).trans ?_, rfl, by omega⟩
      simp [eput]
      exact (Gh.ren [0, 1, 2, 3] (by simp [hB0]) (by simp [hB0] <;> decide) (by simp [eget, rnS, rnR, rnV, rnC, LtS, LtR, LtV, LtC, lget, wantM, rnI]) (by simp [hget, rnO, rnC, LtO, LtC, lget, wantM, rnI]) (.inl (by simp [lget, wantM, rnI])))
    rintro n k ⟨hn, hk⟩
    refine acode_sound [0, 1, 2, 3, 4, 6, 7, 8, 9, 11, 12, 13, 14, 24, 33, 34, 35, 44] [] _ _ _ ?_
    by_cases hlt : k < 12
    · have hz : (k : Int) < 12 := by omega
      obtain ⟨w, hw⟩ : ∃ w, w = ws.getD k 0 := ⟨_, rfl⟩
      have hw8 : w ≤ 8 := by
        rw [hw, List.getD_eq_getElem?_getD, List.getElem?_eq_getElem (by rw [h.len]; exact hlt)]
        exact h.le _ (List.getElem_mem _)
      have hset := byM_set ws k hlt
      rw [← hw] at hset
      have hat0 : (byM ws 0)[k]? = some ((4 * w : Nat) : Int) := by simp [byM, List.getElem?_range, hlt, hw]
      have hatk : (byM ws (k + 1))[k]? = some (w : Int) := by simp [byM, List.getElem?_range, hlt, hw]
      have hsp := rspots_pf k w hlt hw8
      have hws := wantM_succ ws k
      rw [← hw] at hws
      have hwl := wantM_len ws h k
      have hsl := spotsM_len k (4 * w)
      have ii : InR ((k : Int) + 1) := inG (by omega) (by omega)
      have c8 : ¬ (32 : Int) < 4 * w := by omega
      have hq : 4 * (w : Int) / 4 = w := by omega
      have hspl := spliceI (byM ws k) k (w : Int) (by rw [hlb]; exact hlt)
      rw [hset] at hspl
      have hcap : (wantM ws k).length + 4 * w ≤ 1000 := by omega
      have g1 : 0 < 12 - k := by omega
      have g2 : k ≤ 11 := by omega
      have g3 : (0 : Int) ≤ 4 * w := by omega
      have iw : InR (w : Int) := inG (by omega) (by omega)
      have hcap2 : ((wantM ws k).length + 4 * w) * 16 ≤ 140737488355328 := by omega
      repeat' (first
        | simp [AK_at, acode_seq, acode_region, acode_draw, acode_cond, ↓CB_t, ↓CB_f, CB_u, acode_block, acode_loop, acode_exit, acode_scope, acode_ret, acode_skip, seqQ_n, seqQ_e, seqQ_r, blockQ_n, blockQ_e, blockQ_r, TK_at, OK_at, SK_at, aops_nil, aops_cons, asch_done, asch_one, asch_two, asch_top, astep, aop_eq, isLoud, aloud, aloud1, isWrite, qv, evS, strip, gof, eget, hget, putO, eput, herase, oks, opnds, gS, afin, afin0, binD, arith, D.cells, takeD, fillD, keep, trim, envOf, Fin, aresl, aresv, resD, argOk, pickV, isP, deq, deqs, boundD, slD, lenD, isT, isSl, ptrIds, chunks, mn_min, mx_max, D.cells, splice_one, splice_more, Rbr_at, Rfr_at, frR, frV, frC, flatC, brwR, brwV, brwC, omap, leR, leV, leC, leL, leVL, hz, hlb, htk, hat0, c8, hq, hspl, hatk, ii, hwl, hsl, g1, g2, g3, iw, hcap2]
        | (refine WCall.pf (hsp) ?_ ?_ ?_ ?_; (focus (simp [oks, opnds, gS, gof, eget]; done)); (focus (simp [omap, brwV, brwC, evS, eget, strip, hget, leVL, leV, leC, leL, hz, hlb, htk, hat0, c8, hq, hspl, hatk, ii, hwl, hsl, g1, g2, g3, iw, hcap2]; done)); (focus (simp [noV, noC, flatR, flatV, flatC, evS, eget, strip, hz, hlb, htk, hat0, c8, hq, hspl, hatk, ii, hwl, hsl, g1, g2, g3, iw, hcap2]; done)))
        | (refine ⟨WCall.pf (hsp) ?_ ?_ ?_ ?_, ?_⟩; (focus (simp [oks, opnds, gS, gof, eget]; done)); (focus (simp [omap, brwV, brwC, evS, eget, strip, hget, leVL, leV, leC, leL, hz, hlb, htk, hat0, c8, hq, hspl, hatk, ii, hwl, hsl, g1, g2, g3, iw, hcap2]; done)); (focus (simp [noV, noC, flatR, flatV, flatC, evS, eget, strip, hz, hlb, htk, hat0, c8, hq, hspl, hatk, ii, hwl, hsl, g1, g2, g3, iw, hcap2]; done)))
        | (with_reducible refine And.intro (And.intro ?_ ?_) ?_)
        | fail)
      exact ⟨fun row a b h1 h2 => by subst h2; rfl, _, k + 1, (Gh.ren [0, 1, 2, 4] (by simp [hB0]) (by simp [hB0] <;> decide) (by simp [eget, rnS, rnR, rnV, rnC, LtS, LtR, LtV, LtC, lget, hws, rnI]) (by simp [hget, rnO, rnC, LtO, LtC, lget, hws, rnI]) (.inl (by simp [lget, hws, rnI]))), by omega, rfl, by omega⟩
    · obtain rfl : k = 12 := by omega
      simp [AK_at, acode_seq, acode_region, acode_draw, acode_cond, ↓CB_t, ↓CB_f, CB_u, acode_block, acode_loop, acode_exit, acode_scope, acode_ret, acode_skip, seqQ_n, seqQ_e, seqQ_r, blockQ_n, blockQ_e, blockQ_r, TK_at, OK_at, SK_at, aops_nil, aops_cons, asch_done, asch_one, asch_two, asch_top, astep, aop_eq, isLoud, aloud, aloud1, isWrite, qv, evS, strip, gof, eget, hget, putO, eput, herase, oks, opnds, gS, afin, afin0, binD, arith, D.cells, takeD, fillD, keep, trim, envOf, Fin, aresl, aresv, resD, argOk, pickV, isP, deq, deqs, boundD, slD, lenD, isT, isSl, ptrIds, chunks, mn_min, mx_max, D.cells, splice_one, splice_more, Rbr_at, Rfr_at, frR, frV, frC, flatC, brwR, brwV, brwC, omap, leR, leV, leC, leL, leVL, hlb, htk]
      refine WCall.hf [3] (spsortA_hf (wantM ws 12) (by have := wantM_len ws h 12; omega)) (by simp [oks, opnds, gS, gof, eget]) rfl rfl (by decide) (by simp) (by simp [evS, eget, strip, rnV, rnC, rho, ]) (by simp [argOk, ]) (by simp [LtV, LtC, ]) (by simp [rho, rnO, rnC, hget, LtO, LtC, ]) ?_
      rintro d H' nx' ⟨rfl, rfl, rfl⟩
      have hsr : sortM (wantM ws 12) = ringM ws := rfl
      have hs0 : splice [I 0, I 0, I 0, I 0, I 0, I 0, I 0, I 0, I 0, I 0, I 0, I 0] 0 ((byM ws 12).map I) = (byM ws 12).map I := by simp [splice, hlb]
      have hb12 : (byM ws 12).map I = ws.map fun w : Nat => I (w : Int) := by
        refine List.ext_getElem (by simp [byM, h.len]) fun j h1 h2 => ?_
        have hj : j < 12 := by simpa [byM] using h1
        simp [byM, hj, List.getElem?_eq_getElem (show j < ws.length by rw [h.len]; exact hj)]
      have hw12 : ws.length = 12 := h.len
      have htw : (ws.map fun w : Nat => I (w : Int)).take 12 = ws.map fun w : Nat => I (w : Int) := List.take_of_length_le (by simp [h.len])
      rw [hb12] at hs0
      repeat' (first
        | simp [AK_at, acode_seq, acode_region, acode_draw, acode_cond, ↓CB_t, ↓CB_f, CB_u, acode_block, acode_loop, acode_exit, acode_scope, acode_ret, acode_skip, seqQ_n, seqQ_e, seqQ_r, blockQ_n, blockQ_e, blockQ_r, TK_at, OK_at, SK_at, aops_nil, aops_cons, asch_done, asch_one, asch_two, asch_top, astep, aop_eq, isLoud, aloud, aloud1, isWrite, qv, evS, strip, gof, eget, hget, putO, eput, herase, oks, opnds, gS, afin, afin0, binD, arith, D.cells, takeD, fillD, keep, trim, envOf, Fin, aresl, aresv, resD, argOk, pickV, isP, deq, deqs, boundD, slD, lenD, isT, isSl, ptrIds, chunks, mn_min, mx_max, D.cells, splice_one, splice_more, Rbr_at, Rfr_at, frR, frV, frC, flatC, brwR, brwV, brwC, omap, leR, leV, leC, leL, leVL, rnR, rnV, rnC, rnO, rho_0, hputs, herases, rho, hlb, htk, hsr, hs0, hb12, hw12, htw, omapI, leLI]
        | (refine WCall.pf (heq) ?_ ?_ ?_ ?_; (focus (simp [oks, opnds, gS, gof, eget]; done)); (focus (simp [omap, brwV, brwC, evS, eget, strip, hget, leVL, leV, leC, leL, rnR, rnV, rnC, rnO, rho_0, hputs, herases, rho, hlb, htk, hsr, hs0, hb12, hw12, htw, omapI, leLI]; done)); (focus (simp [noV, noC, flatR, flatV, flatC, evS, eget, strip, rnR, rnV, rnC, rnO, rho_0, hputs, herases, rho, hlb, htk, hsr, hs0, hb12, hw12, htw, omapI, leLI]; done)))
        | (refine ⟨WCall.pf (heq) ?_ ?_ ?_ ?_, ?_⟩; (focus (simp [oks, opnds, gS, gof, eget]; done)); (focus (simp [omap, brwV, brwC, evS, eget, strip, hget, leVL, leV, leC, leL, rnR, rnV, rnC, rnO, rho_0, hputs, herases, rho, hlb, htk, hsr, hs0, hb12, hw12, htw, omapI, leLI]; done)); (focus (simp [noV, noC, flatR, flatV, flatC, evS, eget, strip, rnR, rnV, rnC, rnO, rho_0, hputs, herases, rho, hlb, htk, hsr, hs0, hb12, hw12, htw, omapI, leLI]; done)))
        | (with_reducible refine And.intro (And.intro ?_ ?_) ?_)
        | fail)
end Go.Proofs.Ytajimebannjofaa

set_option linter.unusedSimpArgs false
set_option linter.unusedVariables false
set_option maxRecDepth 100000
set_option maxHeartbeats 4000000
namespace Go.Proofs.Ytajimebannjofaa
open Go.RowKit Go.Shelf
attribute [local go_sem] Oper.semAt_some

theorem wei_in (w0 w1 w2 w3 w4 w5 w6 w7 w8 w9 w10 w11 : Nat) (h : WOk [w0, w1, w2, w3, w4, w5, w6, w7, w8, w9, w10, w11]) (sl : Value) (n : Nat) (W : World)
    (hV : VT (fun b o => W.cell? ⟨b, o, none⟩) (.rows 2 ((ringM [w0, w1, w2, w3, w4, w5, w6, w7, w8, w9, w10, w11]).map fun x : Int × Int => [I x.1, I x.2])) sl) :
    CallsIn Fence.wide n Try.prog 29 #[.agg #[sl]] W fun e w' => e = .returned (.tuple #[.agg #[.int .i64 w0, .int .i64 w1, .int .i64 w2, .int .i64 w3, .int .i64 w4, .int .i64 w5, .int .i64 w6, .int .i64 w7, .int .i64 w8, .int .i64 w9, .int .i64 w10, .int .i64 w11], .bool true]) ∧ Below W.heap.size W w' := by
  refine ((rwei_pf _ h).wide (fun b o => W.cell? ⟨b, o, none⟩) W _ (fun _ _ _ h => h) rfl ?_).mono ?_
  · intro j x hx
    match j, hx with
    | 0, hx =>
      simp at hx; subst hx
      refine ⟨_, rfl, rfl, fun k y hy => ?_⟩
      match k, hy with
      | 0, hy => simp at hy; subst hy; exact hV
      | k + 1, hy => simp at hy
    | j + 1, hx => simp at hx
  · rintro e w' ⟨v, Z', rfl, hr, _, hb⟩
    refine ⟨?_, hb⟩
    obtain ⟨us, rfl, hs, hu⟩ := hr
    have u0 := hu 0 _ rfl
    have u1 := hu 1 _ rfl
    match us, hs, u0, u1 with
    | ⟨[p, q]⟩, _, u0, u1 =>
      have e1 : q = .bool true := by
        have : VT Z' (.bool true) q := u1
        cases this; rfl
      obtain ⟨vs, e0, hs', hv⟩ := u0
      have e0 : p = .agg vs := e0
      match vs, hs', hv, e0 with
      | ⟨[a0, a1, a2, a3, a4, a5, a6, a7, a8, a9, a10, a11]⟩, _, hv, e0 =>
        have key : ∀ (j : Nat) (z : Int), ([w0, w1, w2, w3, w4, w5, w6, w7, w8, w9, w10, w11].map fun w : Nat => I (w : Int))[j]? = some (I z) → (#[a0, a1, a2, a3, a4, a5, a6, a7, a8, a9, a10, a11] : Array Value).getD j undef = .int .i64 z := fun j z hj => by
          have : VT Z' (I z) _ := hv j _ hj
          generalize (#[a0, a1, a2, a3, a4, a5, a6, a7, a8, a9, a10, a11] : Array Value).getD j undef = u at *
          cases this; rfl
        have k0 := key 0 w0 rfl
        have k1 := key 1 w1 rfl
        have k2 := key 2 w2 rfl
        have k3 := key 3 w3 rfl
        have k4 := key 4 w4 rfl
        have k5 := key 5 w5 rfl
        have k6 := key 6 w6 rfl
        have k7 := key 7 w7 rfl
        have k8 := key 8 w8 rfl
        have k9 := key 9 w9 rfl
        have k10 := key 10 w10 rfl
        have k11 := key 11 w11 rfl
        simp only [Array.getD_eq_getD_getElem?, List.getElem?_toArray, List.getElem?_cons_zero, List.getElem?_cons_succ, Option.getD_some] at k0 k1 k2 k3 k4 k5 k6 k7 k8 k9 k10 k11
        subst k0 k1 k2 k3 k4 k5 k6 k7 k8 k9 k10 k11
        rw [e0, e1]
theorem key_in (k : Int) (h0 : 0 ≤ k) (h1 : k < 4294967296) (n : Nat) (W : World) :
    CallsIn Fence.wide n Try.prog 20 #[.int .i64 k] W fun e w' => e = .returned (.tuple #[.int .i64 ((keyN k.toNat : Nat) : Int), .int .i64 0]) ∧ Below W.heap.size W w' := by
  refine ((hkey_pf k h0 h1).wide (fun _ _ => none) W _ (fun _ _ _ h => by cases h) rfl ?_).mono ?_
  · intro j x hx
    match j, hx with
    | 0, hx => simp at hx; subst hx; exact VT.int _ _
    | j + 1, hx => simp at hx
  · rintro e w' ⟨v, Z', rfl, hr, _, hb⟩
    refine ⟨?_, hb⟩
    obtain ⟨us, rfl, hs, hu⟩ := hr
    have u0 := hu 0 _ rfl
    have u1 := hu 1 _ rfl
    match us, hs, u0, u1 with
    | ⟨[p, q]⟩, _, u0, u1 =>
      have e0 : p = .int .i64 ((keyN k.toNat : Nat) : Int) := by
        have : VT Z' (I ((keyN k.toNat : Nat) : Int)) p := u0
        cases this; rfl
      have e1 : q = .int .i64 0 := by
        have : VT Z' (I 0) q := u1
        cases this; rfl
      rw [e0, e1]
theorem vt_introw {W : World} {base : Nat} {e : TypeId} {v : Value} {out : List Int} (h : W.ownsRow base e 1 v out.length (out.map (Value.int .i64))) :
    VT (fun b o => if base ≤ b then W.cell? ⟨b, o, none⟩ else none) (.rows 1 (out.map fun z => [I z])) v := by
  have h0 := h
  obtain ⟨_, h2⟩ := h
  rcases h2 with ⟨h1, h2⟩ | ⟨g, cap, cur, rfl, hg, hh, hn, hcap, hsz, htake⟩
  · have hx : out = [] := List.length_eq_zero_iff.1 h2
    subst hx
    rw [h1]
    exact VT.rnil _ _ _
  · have := VT.rows (Z := fun b o => if base ≤ b then W.cell? ⟨b, o, none⟩ else none) 1 (out.map fun z : Int => [I z]) g 0 cap (fun i j => .int .i64 (out.getD i 0)) (by simpa using hn) ?_ ?_
    · simpa using this
    · intro i row j d hi hj
      rw [List.getElem?_map] at hi
      cases hx : out[i]? with
      | none => rw [hx] at hi; cases hi
      | some x =>
        rw [hx] at hi
        simp only [Option.map_some, Option.some.injEq] at hi
        subst hi
        match j, hj with
        | 0, hj =>
          have hil : i < out.length := (List.getElem?_eq_some_iff.1 hx).1
          have hc := h0.cellAt i (by omega)
          refine ⟨by omega, ?_⟩
          rw [if_pos hg, show 0 + i * 1 + 0 = i by omega, hc, List.getElem?_map, hx]
          simp [hx]
        | j + 1, hj => simp at hj
    · intro i row j d hi hj
      rw [List.getElem?_map] at hi
      cases hx : out[i]? with
      | none => rw [hx] at hi; cases hi
      | some x =>
        rw [hx] at hi
        simp only [Option.map_some, Option.some.injEq] at hi
        subst hi
        match j, hj with
        | 0, hj => simp at hj; subst hj; simp only [List.getD_eq_getElem?_getD, hx, Option.getD_some]; exact VT.int _ _
        | j + 1, hj => simp at hj
theorem con_in (out : List Int) (z : Int) (v : Value) (base : Nat) (e : TypeId) (n : Nat) (W : World) (hl : out.length ≤ 1000000) (h : W.ownsRow base e 1 v out.length (out.map (Value.int .i64))) :
    CallsIn Fence.wide n Try.prog 31 #[v, .int .i64 z] W fun e w' => e = .returned (.bool (decide (z ∈ out))) ∧ Below W.heap.size W w' := by
  refine ((icon_pf out z hl).wide (fun b o => if base ≤ b then W.cell? ⟨b, o, none⟩ else none) W _ (fun b o u hu => by
    by_cases hb : base ≤ b
    · rwa [if_pos hb] at hu
    · rw [if_neg hb] at hu; cases hu) rfl ?_).mono ?_
  · intro j x hx
    match j, hx with
    | 0, hx => simp at hx; subst hx; exact vt_introw h
    | 1, hx => simp at hx; subst hx; exact VT.int _ _
    | j + 2, hx => simp at hx
  · rintro e w' ⟨v, Z', rfl, hr, _, hb⟩
    refine ⟨?_, hb⟩
    have : VT Z' (.bool (decide (z ∈ out))) v := hr
    cases this; rfl
/-- who is met, each once -/
def dedM : List (Int × Int) → List Int := List.foldl (fun out s => if s.2 ∈ out then out else out ++ [s.2]) []
theorem dedM_snoc (l : List (Int × Int)) (s : Int × Int) : dedM (l ++ [s]) = if s.2 ∈ dedM l then dedM l else dedM l ++ [s.2] := by unfold dedM; rw [List.foldl_append]; rfl
theorem dedM_len (l : List (Int × Int)) : (dedM l).length ≤ l.length := by
  suffices h : ∀ (l : List (Int × Int)) (acc : List Int), (l.foldl (fun out s => if s.2 ∈ out then out else out ++ [s.2]) acc).length ≤ acc.length + l.length by simpa [dedM] using h l []
  intro l
  induction l with
  | nil => intro acc; simp
  | cons s t ih =>
    intro acc
    simp only [List.foldl_cons, List.length_cons]
    refine Nat.le_trans (ih _) ?_
    split <;> simp <;> omega
end Go.Proofs.Ytajimebannjofaa

set_option linter.unusedSimpArgs false
set_option linter.unusedVariables false
set_option maxRecDepth 100000
set_option maxHeartbeats 4000000
namespace Go.Proofs.Ytajimebannjofaa
open Go.RowKit Go.Shelf
attribute [local go_sem] Oper.semAt_some

theorem cell_alloc_l' {W : World} {a : Addr} {v : Value} (o : Obj) (h : W.cell? a = some v) : (W.alloc o).cell? a = some v := cell_kept h (World.grownBy_alloc W o none) (fun r e => by cases e)
theorem two_new (W : World) (x y : Value) (t : TypeId) (j : Nat) (u : Value) (h : [x, y][j]? = some u) : (W.alloc (.cells #[x, y] t)).cell? ⟨W.heap.size, j, none⟩ = some u := by
  unfold World.cell?
  simp only [World.alloc_heap_new]
  match j, h with
  | 0, h => simpa using h
  | 1, h => simpa using h
  | j + 2, h => simp at h
theorem ownsLe {w : World} {b b' : Nat} {e : TypeId} {sz n : Nat} {v : Value} {xs : List Value} (hle : b' ≤ b) (h : w.ownsRow b e sz v n xs) : w.ownsRow b' e sz v n xs :=
  ⟨h.1, h.2.imp id fun ⟨g, cap, cur, h1, h2, r⟩ => ⟨g, cap, cur, h1, Nat.le_trans hle h2, r⟩⟩
theorem intInfo : (Try.prog.info? 3).map (fun i => (i.zero, i.size, i.bytes)) = some (some (.int .i64 0), 1, 8) := by kernel_rfl
theorem intsUnder : Try.prog.underlying 36 = some (.slice 3) := by kernel_rfl
theorem kc_app {W w1 : World} {n bo : Nat} {e : TypeId} {sz k : Nat} {v v' : Value} {xs : List Value} {tmp : Obj} (hrow : W.ownsRow n e sz v k xs) (hgrow : (W.alloc tmp).grownBy w1 v.ownBlock) : Kc n bo W (w1.setCell ⟨bo, 0, none⟩ v') := fun p u hp hne hu => by
  have h1 : (W.alloc tmp).cell? p = some u := cell_alloc_l' tmp hu
  have h2 : w1.cell? p = some u := by
    rw [World.cell?_of_block (hgrow.block p.block (World.block_lt_of_cell? _ _ h1) ?_)]
    · exact h1
    · rcases hrow.2 with ⟨rfl, _⟩ | ⟨g, cap, cur, rfl, hg, _⟩
      · simp [Value.ownBlock]
      · simp [Value.ownBlock]; omega
  rw [World.cell?_of_block (Below.heap_setCell _ _ _ _ (by exact hne))]
  exact h2
theorem boxB {w w' : World} {B : Nat} {t : TypeId} {v : Value} (h : Boxed w B t v) (hb : Below w.heap.size w w') : Boxed w' B t v := (hb.block B h.lt).trans h
theorem keepsB {w w' : World} (hb : Below w.heap.size w w') : KeepsOthers w w' := ⟨hb.size, fun k o hk _ => by rw [hb.block k (Array.getElem?_eq_some_iff.1 hk).1]; exact hk⟩
theorem kc_t {n bo : Nat} {A B C : World} (h : Kc n bo A B) (k : Kc n bo B C) : Kc n bo A C := fun p v h1 h2 h3 => k p v h1 h2 (h p v h1 h2 h3)
theorem kc_b {n bo : Nat} {w : World} (hn : n ≤ w.heap.size) (W : World) (l : Nat) (o o' : Obj) (hl : w.heap.size ≤ l) (h : W.heap[l]? = some o) (_ : o.isCells = false) (_ : o.isWalk = false) : Kc n bo W (W.putObj l o') := fun p v h1 _ hv => by
  rw [World.cell?_of_block (World.putObj_heap_other (by omega))]; exact hv
theorem rwalk_in (w0 w1 w2 w3 w4 w5 w6 w7 w8 w9 w10 w11 : Nat) (h : WOk [w0, w1, w2, w3, w4, w5, w6, w7, w8, w9, w10, w11]) (k k2 : Int) (hkey : ∀ n W, CallsIn Fence.wide n Try.prog 20 #[.int .i64 k] W fun e w' => e = .returned (.tuple #[.int .i64 k2, .int .i64 0]) ∧ Below W.heap.size W w') (a : Option Addr) (b off cap : Nat) (W : World) (xs : List (Int × Int)) (hxs : ringM [w0, w1, w2, w3, w4, w5, w6, w7, w8, w9, w10, w11] = xs)
    (hcap : xs.length ≤ cap) (ha : xs ≠ [] → a = some ⟨b, off, none⟩ ∧ b < W.heap.size)
    (hc : ∀ i x, xs[i]? = some x → W.cell? ⟨b, off + i * 2, none⟩ = some (.int .i64 x.1) ∧ W.cell? ⟨b, off + i * 2 + 1, none⟩ = some (.int .i64 x.2))
    (hmono : ∀ z i j (hi : i < xs.length) (hj : j < xs.length), i ≤ j → ord2 xs[j].1 xs[j].2 z (-1) < 0 → ord2 xs[i].1 xs[i].2 z (-1) < 0) :
    CallsIn Fence.wide 3 Try.prog 19 #[.agg #[.slice a xs.length cap], .int .i64 k] W fun e w' => ∃ v, e = .returned (.tuple #[v, .int .i64 0]) ∧
      w'.ownsRow W.heap.size 3 1 v (dedM (rotL xs (fromM k2 xs))).length ((dedM (rotL xs (fromM k2 xs))).map (Value.int .i64)) ∧ Below W.heap.size W w' := by
  have hlen : xs.length ≤ 384 := hxs ▸ ringM_len _ h
  have hwei := fun n W' hV => wei_in w0 w1 w2 w3 w4 w5 w6 w7 w8 w9 w10 w11 h (.slice a xs.length cap) n W' hV
  rw [hxs] at hwei
  obtain ⟨i0, hi, hz0, hz1, hz2⟩ := info_parts intInfo
  have f1 : Fence.wide.fn 29 := trivial
  have f2 : Fence.wide.fn 20 := trivial
  have f3 : Fence.wide.fn 30 := trivial
  have f4 : Fence.wide.fn 31 := trivial
  have keep : ∀ {A B : World}, Below A.heap.size A B → Below W.heap.size W A → (∀ i x, xs[i]? = some x → B.cell? ⟨b, off + i * 2, none⟩ = some (.int .i64 x.1) ∧ B.cell? ⟨b, off + i * 2 + 1, none⟩ = some (.int .i64 x.2)) := fun {A B} h1 h2 i x hx => by
    have hne : xs ≠ [] := by rintro rfl; simp at hx
    have hb := (ha hne).2
    have h3 : Below W.heap.size W B := h2.trans (h1.mono h2.size)
    obtain ⟨q1, q2⟩ := hc i x hx
    exact ⟨(h3.cell (p := ⟨b, off + i * 2, none⟩) hb).trans q1, (h3.cell (p := ⟨b, off + i * 2 + 1, none⟩) hb).trans q2⟩
  refine callsIn_of_wp_marks Try.func19 rfl trivial ?_ rfl
  simp only [Try.ntmps19, List.size_toArray, List.length_cons, List.length_nil, Nat.reduceAdd, Nat.reduceSub, Array.replicate_succ, Array.replicate_zero, List.push_toArray, List.append_toArray, List.nil_append, List.cons_append]
  have b0 := Boxed.new W 51 (.slice a xs.length cap)
  have hB0 : Below W.heap.size W (W.alloc (.cells #[.slice a xs.length cap] 51)) := (Below.refl _ W).alloc (Nat.le_refl _) _
  have hB0' : Below W.heap.size W (W.alloc (.cells #[.slice a xs.length cap] 51)) := hB0
  gi_wp2_with (gi_at_call 29; refine (hwei _ _ (vt_spots hcap (fun h => (ha h).1) (keep (A := W) hB0' (Below.refl _ W)))).mono ?_; rintro e v1 ⟨rfl, hb1⟩)
  refine (hkey 2 _).mono ?_
  rintro e v2 ⟨rfl, hb2⟩
  have hB1 : Below W.heap.size W v1 := hB0.trans (hb1.mono hB0.size)
  have c1 : v1.cell? ⟨W.heap.size, 0, none⟩ = some (.slice a xs.length cap) := (hb1.cell (p := ⟨W.heap.size, 0, none⟩) (by simp)).trans b0.cell
  have hS1 : W.heap.size < v1.heap.size := World.block_lt_of_cell? v1 _ c1
  have hB2 : Below W.heap.size W v2 := (hB1.alloc (Nat.le_of_lt hS1) _).trans (hb2.mono (by simp; omega))
  have c2 : v2.cell? ⟨W.heap.size, 0, none⟩ = some (.slice a xs.length cap) := (hb2.cell (p := ⟨W.heap.size, 0, none⟩) (by simp; omega)).trans (cell_alloc_l' _ c1)
  have hS2 : W.heap.size < v2.heap.size := World.block_lt_of_cell? v2 _ c2
  have c3 : (v2.alloc (.cells #[.slice none 0 0] 36)).cell? ⟨W.heap.size, 0, none⟩ = some (.slice a xs.length cap) := cell_alloc_l' _ c2
  gi_wp2_with (gi_at_call 30; refine (ralong_in a xs.length cap _ 2 _).mono ?_; rintro e v3 ⟨rfl, hv3⟩)
  obtain ⟨u3, hu3⟩ : ∃ u3, u3 = (((v2.alloc (.cells #[.slice none 0 0] 36)).alloc (.cells #[.slice a xs.length cap] 49)).alloc (.cells #[.int .i64 k2] 3)) := ⟨_, rfl⟩
  have s3 : u3.heap.size = v2.heap.size + 3 := by rw [hu3]; simp
  have bO : Boxed u3 v2.heap.size 36 (.slice none 0 0) := by rw [hu3]; exact ((Boxed.new v2 _ _).alloc _).alloc _
  have bL : u3.cell? ⟨v2.heap.size + 1, 0, none⟩ = some (.slice a xs.length cap) := by
    have := (Boxed.new (v2.alloc (.cells #[.slice none 0 0] 36)) 49 (.slice a xs.length cap)).alloc (.cells #[.int .i64 k2] 3)
    rw [← hu3, World.size_alloc] at this; exact this.cell
  have bA : u3.cell? ⟨v2.heap.size + 1 + 1, 0, none⟩ = some (.int .i64 k2) := by
    have := Boxed.new ((v2.alloc (.cells #[.slice none 0 0] 36)).alloc (.cells #[.slice a xs.length cap] 49)) 3 (.int .i64 k2)
    rw [← hu3, World.size_alloc, World.size_alloc] at this; exact this.cell
  have hB23 : Below v2.heap.size v2 u3 := by rw [hu3]; exact (((Below.refl _ v2).alloc (Nat.le_refl _) _).alloc (by simp) _).alloc (by simp; omega) _
  have hB3 : Below W.heap.size W u3 := hB2.trans (hB23.mono hB2.size)
  rw [← hu3]
  clear hu3
  have hRd : Rd u3 u3.heap.size v2.heap.size (v2.heap.size + 1) (v2.heap.size + 1 + 1) b off cap a k2 xs :=
    ⟨by omega, by omega, fun hne => by obtain ⟨q1, q2⟩ := ha hne; exact ⟨q1, by omega, by omega⟩, bL, bA, keep hB23 hB2⟩
  have hseq : SeqStopsK Fence.wide 2 Try.prog 48 #[.pointer (some ⟨v2.heap.size + 1, 0, none⟩), .pointer (some ⟨v2.heap.size + 1 + 1, 0, none⟩)] spV (Kc u3.heap.size v2.heap.size) (fun ys => ys = rotL xs (fromM k2 xs)) (fun _ => True) xs.length u3 :=
    fun l J Jx W' hW hJ hJx hY h0 => ralong1_in 2 (by omega) l _ _ b off cap u3.heap.size v2.heap.size a k2 xs J Jx W' (by omega) hcap (hmono k2) hW.size hJ hY (hRd.keep (Kc.below hW)) h0
  refine wpIn_rangeFunc_ownH (F := Fence.wide) (n := 3) rfl (by omega) (gf := 48) rfl trivial (enters_of Try.func48 (by kernel_rfl) rfl) hseq
    kc_t (kc_b (Nat.le_refl _)) (Below.refl _ _) (fun _ => rfl)
    (fun pre W' => (∃ v, Boxed W' v2.heap.size 36 v ∧ W'.ownsRow u3.heap.size 3 1 v (dedM pre).length ((dedM pre).map (Value.int .i64))) ∧ Below W.heap.size W W')
    (fun _ _ _ => False) ?hI (fun _ _ _ _ _ hs _ _ => hs) ⟨⟨_, bO, World.ownsRow_nil _ _ _ _⟩, hB3⟩
    (fun x a' W' => ∃ B, W'.cell? ⟨B, 0, none⟩ = some (.int .i64 x.1) ∧ W'.cell? ⟨B, 1, none⟩ = some (.int .i64 x.2) ∧ a' = { tmps := #[.agg #[.slice a xs.length cap], .int .i64 k, .pointer (some ⟨W.heap.size, 0, none⟩), undef, .slice none 0 0, .int .i64 0, .pointer (some ⟨v1.heap.size, 0, none⟩), .bool true, .int .i64 k2, .int .i64 0, .pointer (some ⟨v2.heap.size, 0, none⟩), .pointer (some ⟨B, 0, none⟩),
      .tuple #[.agg #[.int .i64 w0, .int .i64 w1, .int .i64 w2, .int .i64 w3, .int .i64 w4, .int .i64 w5, .int .i64 w6, .int .i64 w7, .int .i64 w8, .int .i64 w9, .int .i64 w10, .int .i64 w11], .bool true], .agg #[.slice a xs.length cap], .tuple #[.agg #[.int .i64 w0, .int .i64 w1, .int .i64 w2, .int .i64 w3, .int .i64 w4, .int .i64 w5, .int .i64 w6, .int .i64 w7, .int .i64 w8, .int .i64 w9, .int .i64 w10, .int .i64 w11], .bool true], .agg #[.int .i64 w0, .int .i64 w1, .int .i64 w2, .int .i64 w3, .int .i64 w4, .int .i64 w5, .int .i64 w6, .int .i64 w7, .int .i64 w8, .int .i64 w9, .int .i64 w10, .int .i64 w11], .bool true, .bool true, .bool false, .tuple #[.int .i64 k2, .int .i64 0], .int .i64 k, .tuple #[.int .i64 k2, .int .i64 0], .int .i64 k2, .int .i64 0, .int .i64 0, .bool false, undef, .pointer (some ⟨W.heap.size, 0, none⟩), .slice a xs.length cap, .int .i64 k2,
      .func (.func 48) #[] #[.pointer (some ⟨v2.heap.size + 1, 0, none⟩), .pointer (some ⟨v2.heap.size + 1 + 1, 0, none⟩)], .agg #[.int .i64 x.1, .int .i64 x.2], undef, undef, undef, undef, undef, undef, undef, undef, undef, undef, undef], defers := [] })
    ?hAx ?assign ?body ?done ?stop
  case hI =>
    refine OwnFrom.and (Own.from ?_ _) (ownFrom_below (Nat.le_refl _) (by omega))
    have := holdsRow_own u3.heap.size v2.heap.size 36 3 1 (fun pre => (dedM pre).length) (fun pre => (dedM pre).map (Value.int .i64)) (fun _ _ => True)
    rintro s A B row ⟨v, g1, g2⟩ hg hr
    obtain ⟨v', g3, g4, _⟩ := this s A B row ⟨v, g1, g2, trivial⟩ hg hr
    exact ⟨v', g3, g4⟩
  case hAx =>
    rintro x a' s A B row ⟨Bs, q2, q3, q4⟩ hg hr
    exact ⟨Bs, cell_kept q2 hg (fun r e => (hr r e).2), cell_kept q3 hg (fun r e => (hr r e).2), q4⟩
  case assign =>
    intro l pre x W' K hI hK
    simp only [spV]
    gi_wp2
    obtain ⟨⟨v, g1, g2⟩, g3⟩ := hI
    have hsW : W.heap.size ≤ W'.heap.size := g3.size
    refine hK _ _ ((KeepsOthers.alloc W' _).from _) (Kc.below ((Below.refl _ W').alloc (Nat.le_refl _) _)) ⟨⟨v, g1.alloc _, g2.alloc _⟩, g3.alloc hsW _⟩ ⟨W'.heap.size, ?_, ?_, rfl⟩
    · exact two_new W' _ _ _ 0 _ rfl
    · exact two_new W' _ _ _ 1 _ rfl
  case body =>
    rintro l pre x a' W' hl ⟨r0, hlr⟩ ⟨⟨v, hv, hrow⟩, hB⟩ ⟨B, q1, q2, rfl⟩ hlt
    have hul : u3.heap.size ≤ W'.heap.size := by have := (Array.getElem?_eq_some_iff.1 hlr).1; omega
    have hc := hv.cell
    have hpl : (dedM pre).length ≤ pre.length := dedM_len pre
    have hsz : W.heap.size ≤ v2.heap.size := hB2.size
    gi_wp2_with (first | (gi_at_call 31; refine (con_in (dedM pre) x.2 v u3.heap.size 3 _ W' (by omega) hrow).mono ?_; rintro e W2 ⟨rfl, hb2⟩; have hv2 := boxB hv hb2; have hrow2 := owns_call hrow hb2; have hcW2 := hv2.cell; have q2' := (hb2.cell (p := ⟨B, 1, none⟩) (World.block_lt_of_cell? W' _ q2)).trans q2; have hBW := hB.trans (hb2.mono hB.size); have hvlt := hv2.lt) | (gi_at_builtin; refine wpListIn_append_own _ rfl _ _ 36 rfl u3.heap.size 3 i0 (.int .i64 0) 1 8 intsUnder hi hz0 hz1 hz2 rfl (by decide) _ _ _ rfl (hrow2.alloc _) ⟨W2.heap.size, 0, none⟩ 1 1 [.int .i64 x.2] rfl rfl (cell_one_new _ _ _) (by simp [Value.oneCell']) (by unfold maxLen; omega) (by omega) (by have := hb2.size; simp; omega) ?_; intro v' w1 hown' hgrow _; obtain ⟨g', cap', rfl⟩ := ownsRow_succ hown'; obtain ⟨hv1, hv2', hr2, hk2, hb2'⟩ := hv2.appended (by decide) (ownsLe hB3.size hrow2) hBW.size hsz (ownsLe hB3.size hown') hgrow; have hc1 := hv1.cell; have hf1 := hv1.frozen))
    · have hm : ¬ x.2 ∈ dedM pre := by simpa using ‹(!decide (x.2 ∈ dedM pre)) = true›
      refine ⟨((keepsB hb2).trans hk2).from _, kc_t (Kc.below hb2) (kc_app hrow2 hgrow), ⟨_, hv2', ?_⟩, hBW.trans hb2'⟩
      rw [dedM_snoc, if_neg hm]
      have := hown'.kept (grownBy_setCell' w1 v2.heap.size (.slice (some ⟨g', 0, none⟩) ((dedM pre).length + 1) cap')) (.inr (hv1.not_row (by decide) hown').symm)
      simpa using this
    · have hm : x.2 ∈ dedM pre := by simpa using ‹(!decide (x.2 ∈ dedM pre)) = false›
      exact ⟨(keepsB hb2).from _, Kc.below hb2, ⟨v, hv2, by rw [dedM_snoc, if_pos hm]; exact hrow2⟩, hB.trans (hb2.mono hB.size)⟩
  case done =>
    rintro D ys W' hD rfl ⟨⟨v, hv, hrow⟩, hB⟩ hK
    have hc := hv.cell
    gi_wp2
    refine ⟨by simp, .inl ⟨_, _, rfl, run_takeDeferred hK, ?_⟩⟩
    refine ⟨.tuple #[v, .int .i64 0], by simp [results, Sem.run_bind, Sem.run_pure, Result.andThen, Try.func19, Try.f19], v, rfl, ownsLe hB3.size (ownsRow_putObj hrow _ hK rfl), hB.trans (belowK_b (w := u3) hB3.size W' D _ _ (by omega) hK rfl rfl)⟩
  case stop =>
    rintro D c pre W' _ _ h _
    exact h.elim
end Go.Proofs.Ytajimebannjofaa

set_option linter.unusedSimpArgs false
set_option linter.unusedVariables false
set_option maxRecDepth 100000
set_option maxHeartbeats 4000000
namespace Go.Proofs.Ytajimebannjofaa
open Go.RowKit Go.Sort
theorem sortM_pw (l : List (Int × Int)) : List.Pairwise (fun a b => (!(ltOf cfSp) b a) = true) (sortM l) := by
  refine List.pairwise_mergeSort (fun a b c h1 h2 => ?_) (fun a b => ?_) l
  · rw [ltSp] at *; simp at *; omega
  · rw [ltSp, ltSp]; simp; omega
theorem sortM_perm {l m : List (Int × Int)} (h : l.Perm m) : sortM l = sortM m := by
  refine List.Perm.eq_of_pairwise (le := fun a b => (!(ltOf cfSp) b a) = true) (fun a b _ _ h1 h2 => ?_) (sortM_pw l) (sortM_pw m) ((List.mergeSort_perm l _).trans (h.trans (List.mergeSort_perm m _).symm))
  simp only [Bool.not_eq_true'] at h1 h2
  exact totSp a b h2 h1
theorem want_add (ws : List Nat) (b w : Nat) (hb : ws.getD b 0 = 0) (hl : b < ws.length) : ∀ k, (wantM (ws.set b w) k).Perm (wantM ws k ++ if b < k then spotsM b (4 * w) else [])
  | 0 => by simp [wantM]
  | k + 1 => by
    have ih := want_add ws b w hb hl k
    rw [wantM_succ, wantM_succ]
    by_cases hk : b = k
    · subst hk
      have e : (ws.set b w).getD b 0 = w := by simp [List.getD_eq_getElem?_getD, hl]
      rw [e, hb, if_pos (by omega)]
      rw [if_neg (by omega), List.append_nil] at ih
      have : spotsM b (4 * 0) = [] := rfl
      rw [this, List.append_nil]
      exact ih.append_right _
    · have e : (ws.set b w).getD k 0 = ws.getD k 0 := by simp [List.getD_eq_getElem?_getD, List.getElem?_set_ne hk]
      rw [e]
      by_cases h2 : b < k
      · rw [if_pos h2] at ih
        rw [if_pos (by omega)]
        refine (ih.append_right _).trans ?_
        rw [List.append_assoc, List.append_assoc]
        exact List.Perm.append_left _ List.perm_append_comm
      · rw [if_neg h2, List.append_nil] at ih
        rw [if_neg (by omega), List.append_nil]
        exact ih.append_right _
theorem ring_add (ws : List Nat) (h : WOk ws) (b w : Nat) (hb : b < 12) (h0 : ws.getD b 0 = 0) : sortM (ringM ws ++ spotsM b (4 * w)) = ringM (ws.set b w) := by
  refine sortM_perm ?_
  have h1 := want_add ws b w h0 (by rw [h.len]; exact hb) 12
  rw [if_pos hb] at h1
  exact ((ringM_perm ws).append_right _).trans h1.symm
theorem WOk.set {ws : List Nat} (h : WOk ws) (b w : Nat) (hw : w ≤ 8) : WOk (ws.set b w) :=
  ⟨by rw [List.length_set]; exact h.len, fun x hx => by
    rcases List.mem_or_eq_of_mem_set hx with h1 | h1
    · exact h.le x h1
    · omega⟩
theorem spl12 {l : List Nat} (h : l.length = 12) : splice [I 0, I 0, I 0, I 0, I 0, I 0, I 0, I 0, I 0, I 0, I 0, I 0] 0 (l.map fun w : Nat => I (w : Int)) = l.map fun w : Nat => I (w : Int) := by simp [splice, h]
theorem els_sp (l : List (Int × Int)) : Els 2 spE l := fun x hx => ⟨rfl, fun d hd => by simp [spE] at hd; rcases hd with rfl | rfl <;> rfl⟩
theorem radd_code : cfun Try.prog [] 21 = some ⟨(.seq (.region 0 [⟨(some 3), (.box (.t 0)), none⟩, ⟨(some 6), (.alloc [.nil0]), none⟩, ⟨(some 7), (.mov (.k (.int .i64 0))), none⟩]) (.seq (.region 1 [⟨(some 12), (.load true 1 (.t 3)), none⟩, ⟨(some 13), (.call 29 [(.t 12)]), none⟩, ⟨(some 11), (.mov (.t 13)), none⟩, ⟨(some 14), (.ext (.t 11) 0), none⟩, ⟨(some 15), (.ext (.t 11) 1), none⟩, ⟨(some 8), (.alloc [(.int .i64 0), (.int .i64 0), (.int .i64 0), (.int .i64 0), (.int .i64 0), (.int .i64 0), (.int .i64 0), (.int .i64 0), (.int .i64 0), (.int .i64 0), (.int .i64 0), (.int .i64 0)]), none⟩, ⟨none, (.store 12 (.t 8) (.t 14)), none⟩, ⟨(some 9), (.mov (.t 15)), none⟩]) (.seq (.block 0 (.seq (.region 2 [⟨(some 17), (.mov (.t 9)), none⟩, ⟨(some 18), (.not (.t 17)), none⟩, ⟨(some 16), (.mov (.t 18)), none⟩]) (.cond 16 (.seq (.region 3 [⟨(some 19), (.build [.nil0] []), none⟩, ⟨none, (.store 1 (.t 6) (.t 19)), none⟩, ⟨(some 7), (.mov (.k (.int .i64 6))), none⟩]) .ret) (.seq (.region 4 [⟨(some 21), (.mov (.t 1)), none⟩, ⟨(some 22), (.bin .lss (.t 21) (.k (.int .i64 0))), none⟩, ⟨(some 23), (.mov (.t 22)), none⟩, ⟨(some 24), (.mov (.t 1)), (some (23, false))⟩, ⟨(some 25), (.bin .geq (.t 24) (.k (.int .i64 12))), (some (23, false))⟩, ⟨(some 26), (.pick (.t 23) (.k (.bool true)) (.t 25)), none⟩, ⟨(some 27), (.mov (.t 26)), none⟩, ⟨(some 28), (.mov (.t 2)), (some (27, false))⟩, ⟨(some 29), (.bin .lss (.t 28) (.k (.int .i64 1))), (some (27, false))⟩, ⟨(some 30), (.pick (.t 27) (.k (.bool true)) (.t 29)), none⟩, ⟨(some 31), (.mov (.t 30)), none⟩, ⟨(some 32), (.mov (.t 2)), (some (31, false))⟩, ⟨(some 33), (.bin .gtr (.t 32) (.k (.int .i64 8))), (some (31, false))⟩, ⟨(some 34), (.pick (.t 31) (.k (.bool true)) (.t 33)), none⟩, ⟨(some 20), (.mov (.t 34)), none⟩]) (.cond 20 (.seq (.region 5 [⟨(some 35), (.build [.nil0] []), none⟩, ⟨none, (.store 1 (.t 6) (.t 35)), none⟩, ⟨(some 7), (.mov (.k (.int .i64 2))), none⟩]) .ret) (.seq (.region 6 [⟨(some 37), (.mov (.t 1)), none⟩, ⟨(some 38), (.iada 12 1 (.t 8) (.t 37)), none⟩, ⟨(some 39), (.load false 1 (.t 38)), none⟩, ⟨(some 40), (.bin .gtr (.t 39) (.k (.int .i64 0))), none⟩, ⟨(some 36), (.mov (.t 40)), none⟩]) (.cond 36 (.seq (.region 7 [⟨(some 41), (.build [.nil0] []), none⟩, ⟨none, (.store 1 (.t 6) (.t 41)), none⟩, ⟨(some 7), (.mov (.k (.int .i64 7))), none⟩]) .ret) .skip))))))) (.seq (.region 8 [⟨(some 42), (.fad 0 (.t 3)), none⟩, ⟨(some 43), (.load false 1 (.t 42)), none⟩, ⟨(some 44), (.call 33 [(.t 43)]), none⟩, ⟨(some 45), (.mov (.t 1)), none⟩, ⟨(some 46), (.mov (.t 2)), none⟩, ⟨(some 47), (.call 34 [(.t 45), (.t 46)]), none⟩, ⟨(some 48), (.app 2 16 [(.int .i64 0), (.int .i64 0)] (.t 44) (.t 47)), none⟩, ⟨(some 10), (.mov (.t 48)), none⟩]) (.seq (.region 9 [⟨(some 49), (.mov (.t 10)), none⟩, ⟨(some 50), (.call 35 [(.t 49), (.k (.fn 36 []))]), none⟩]) (.seq (.region 10 [⟨(some 51), (.mov (.t 10)), none⟩, ⟨(some 52), (.build [.nil0] [(0, (1, (.t 51)))]), none⟩, ⟨none, (.store 1 (.t 6) (.t 52)), none⟩, ⟨(some 7), (.mov (.k (.int .i64 0))), none⟩]) .ret)))))), [(.c 6 true 1), (.t 7)], 53⟩ := by kernel_rfl
theorem radd_pf (ws : List Nat) (h : WOk ws) (b w : Nat) (hb : b < 12) (hw : 1 ≤ w ∧ w ≤ 8) (h0 : ws.getD b 0 = 0) :
    PF Try.prog 21 [.agg [.rows 2 ((ringM ws).map spE)], I b, I w] (.tup [.agg [.rows 2 ((ringM (ws.set b w)).map spE)], I 0]) := by
  have hwe := rwei_pf ws h
  have hsp := rspots_pf b w hb hw.2
  have hrl := ringM_len ws h
  have hsl := spotsM_len b (4 * w)
  have hra := ring_add ws h b w hb h0
  have hcl := spcln_hf spE (ringM ws) (by omega) (els_sp _)
  have hl12 := h.len
  have hs0 := spl12 h.len
  have htw : (ws.map fun w : Nat => I (w : Int)).take 12 = ws.map fun w : Nat => I (w : Int) := List.take_of_length_le (by simp [h.len])
  have hat : ws[b]? = some 0 := by
    rw [List.getD_eq_getElem?_getD, List.getElem?_eq_getElem (by omega)] at h0
    rw [List.getElem?_eq_getElem (by omega)]
    simpa using h0
  have c1 : ¬ (b : Int) < 0 := by omega
  have c2 : ¬ (12 : Int) ≤ b := by omega
  have c3 : ¬ (w : Int) < 1 := by omega
  have c4 : ¬ (8 : Int) < w := by omega
  have hb1 : (b : Int) < 12 := by omega
  have hb2 : b ≤ 11 := by omega
  have hb3 : 0 < 12 - b := by omega
  refine PF.of follows_ok radd_code (by simp) (by simp [argOk]) (by simp [noV, noC]) fun B hBN hB0 => acode_sound [0, 1, 2, 3, 6, 7, 8, 9, 10, 16, 20, 36] [] _ _ _ ?_
  repeat' (first
    | simp [AK_at, acode_seq, acode_region, acode_draw, acode_cond, ↓CB_t, ↓CB_f, CB_u, acode_block, acode_loop, acode_exit, acode_scope, acode_ret, acode_skip, seqQ_n, seqQ_e, seqQ_r, blockQ_n, blockQ_e, blockQ_r, TK_at, OK_at, SK_at, aops_nil, aops_cons, asch_done, asch_one, asch_two, asch_top, astep, aop_eq, isLoud, aloud, aloud1, isWrite, qv, evS, strip, gof, eget, hget, putO, eput, herase, oks, opnds, gS, afin, afin0, binD, arith, D.cells, takeD, fillD, keep, trim, envOf, Fin, aresl, aresv, resD, argOk, pickV, isP, deq, deqs, boundD, slD, lenD, isT, isSl, ptrIds, chunks, mn_min, mx_max, D.cells, splice_one, splice_more, Rbr_at, Rfr_at, frR, frV, frC, flatC, brwR, brwV, brwC, omap, leR, leV, leC, leL, leVL, hl12, hs0, htw, hat, c1, c2, c3, c4, hb1, hb2, hb3]
    | (refine WCall.pf (hwe) ?_ ?_ ?_ ?_; (focus (simp [oks, opnds, gS, gof, eget]; done)); (focus (simp [omap, brwV, brwC, evS, eget, strip, hget, leVL, leV, leC, leL, hl12, hs0, htw, hat, c1, c2, c3, c4, hb1, hb2, hb3]; done)); (focus (simp [noV, noC, flatR, flatV, flatC, evS, eget, strip, hl12, hs0, htw, hat, c1, c2, c3, c4, hb1, hb2, hb3]; done)))
    | (refine ⟨WCall.pf (hwe) ?_ ?_ ?_ ?_, ?_⟩; (focus (simp [oks, opnds, gS, gof, eget]; done)); (focus (simp [omap, brwV, brwC, evS, eget, strip, hget, leVL, leV, leC, leL, hl12, hs0, htw, hat, c1, c2, c3, c4, hb1, hb2, hb3]; done)); (focus (simp [noV, noC, flatR, flatV, flatC, evS, eget, strip, hl12, hs0, htw, hat, c1, c2, c3, c4, hb1, hb2, hb3]; done)))
    | (with_reducible refine And.intro (And.intro ?_ ?_) ?_)
    | fail)
  have hcap : ((ringM ws).length + 4 * w) * 16 ≤ 140737488355328 := by omega
  have hcap0 : 4 * w * 16 ≤ 140737488355328 := by omega
  have hw0 : ¬ spotsM b (4 * w) = [] := fun e => by rw [e] at hsl; simp at hsl; omega
  refine WCall.hf0 hcl (by simp [oks, opnds, gS, gof, eget]) (by simp [evS, eget, strip]) (by simp [argOk]) (by simp [noV, noC]) ?_
  rintro d H' nx' (⟨rfl, hnil, rfl, rfl⟩ | ⟨rfl, rfl, rfl⟩)
  · rw [hnil] at hra ⊢
    repeat' (first
      | simp [AK_at, acode_seq, acode_region, acode_draw, acode_cond, ↓CB_t, ↓CB_f, CB_u, acode_block, acode_loop, acode_exit, acode_scope, acode_ret, acode_skip, seqQ_n, seqQ_e, seqQ_r, blockQ_n, blockQ_e, blockQ_r, TK_at, OK_at, SK_at, aops_nil, aops_cons, asch_done, asch_one, asch_two, asch_top, astep, aop_eq, isLoud, aloud, aloud1, isWrite, qv, evS, strip, gof, eget, hget, putO, eput, herase, oks, opnds, gS, afin, afin0, binD, arith, D.cells, takeD, fillD, keep, trim, envOf, Fin, aresl, aresv, resD, argOk, pickV, isP, deq, deqs, boundD, slD, lenD, isT, isSl, ptrIds, chunks, mn_min, mx_max, D.cells, splice_one, splice_more, Rbr_at, Rfr_at, frR, frV, frC, flatC, brwR, brwV, brwC, omap, leR, leV, leC, leL, leVL, rnR, rnV, rnC, rnO, rho_0, hputs, herases, rho, hsl, hcap0, hw0]
      | (refine WCall.pf (hsp) ?_ ?_ ?_ ?_; (focus (simp [oks, opnds, gS, gof, eget]; done)); (focus (simp [omap, brwV, brwC, evS, eget, strip, hget, leVL, leV, leC, leL, rnR, rnV, rnC, rnO, rho_0, hputs, herases, rho, hsl, hcap0, hw0]; done)); (focus (simp [noV, noC, flatR, flatV, flatC, evS, eget, strip, rnR, rnV, rnC, rnO, rho_0, hputs, herases, rho, hsl, hcap0, hw0]; done)))
      | (refine ⟨WCall.pf (hsp) ?_ ?_ ?_ ?_, ?_⟩; (focus (simp [oks, opnds, gS, gof, eget]; done)); (focus (simp [omap, brwV, brwC, evS, eget, strip, hget, leVL, leV, leC, leL, rnR, rnV, rnC, rnO, rho_0, hputs, herases, rho, hsl, hcap0, hw0]; done)); (focus (simp [noV, noC, flatR, flatV, flatC, evS, eget, strip, rnR, rnV, rnC, rnO, rho_0, hputs, herases, rho, hsl, hcap0, hw0]; done)))
      | (with_reducible refine And.intro (And.intro ?_ ?_) ?_)
      | fail)
    refine ⟨fun row x y h1 h2 => by subst h2; rfl, ?_⟩
    refine WCall.hf [3] (spsortA_hf (spotsM b (4 * w)) (by omega)) (by simp [oks, opnds, gS, gof, eget]) rfl rfl (by decide) (by simp) (by simp [evS, eget, strip, rnV, rnC, rho, ]) (by simp [argOk, ]) (by simp [LtV, LtC, ]) (by simp [rho, rnO, rnC, hget, LtO, LtC, ]) ?_
    rintro d H' nx' ⟨rfl, rfl, rfl⟩
    rw [List.nil_append] at hra
    simp [AK_at, acode_seq, acode_region, acode_draw, acode_cond, ↓CB_t, ↓CB_f, CB_u, acode_block, acode_loop, acode_exit, acode_scope, acode_ret, acode_skip, seqQ_n, seqQ_e, seqQ_r, blockQ_n, blockQ_e, blockQ_r, TK_at, OK_at, SK_at, aops_nil, aops_cons, asch_done, asch_one, asch_two, asch_top, astep, aop_eq, isLoud, aloud, aloud1, isWrite, qv, evS, strip, gof, eget, hget, putO, eput, herase, oks, opnds, gS, afin, afin0, binD, arith, D.cells, takeD, fillD, keep, trim, envOf, Fin, aresl, aresv, resD, argOk, pickV, isP, deq, deqs, boundD, slD, lenD, isT, isSl, ptrIds, chunks, mn_min, mx_max, D.cells, splice_one, splice_more, Rbr_at, Rfr_at, frR, frV, frC, flatC, brwR, brwV, brwC, omap, leR, leV, leC, leL, leVL, rnR, rnV, rnC, rnO, rho_0, hputs, herases, rho, hra]
  · skip
    repeat' (first
      | simp [AK_at, acode_seq, acode_region, acode_draw, acode_cond, ↓CB_t, ↓CB_f, CB_u, acode_block, acode_loop, acode_exit, acode_scope, acode_ret, acode_skip, seqQ_n, seqQ_e, seqQ_r, blockQ_n, blockQ_e, blockQ_r, TK_at, OK_at, SK_at, aops_nil, aops_cons, asch_done, asch_one, asch_two, asch_top, astep, aop_eq, isLoud, aloud, aloud1, isWrite, qv, evS, strip, gof, eget, hget, putO, eput, herase, oks, opnds, gS, afin, afin0, binD, arith, D.cells, takeD, fillD, keep, trim, envOf, Fin, aresl, aresv, resD, argOk, pickV, isP, deq, deqs, boundD, slD, lenD, isT, isSl, ptrIds, chunks, mn_min, mx_max, D.cells, splice_one, splice_more, Rbr_at, Rfr_at, frR, frV, frC, flatC, brwR, brwV, brwC, omap, leR, leV, leC, leL, leVL, rnR, rnV, rnC, rnO, rho_0, hputs, herases, rho, hsl, hcap]
      | (refine WCall.pf (hsp) ?_ ?_ ?_ ?_; (focus (simp [oks, opnds, gS, gof, eget]; done)); (focus (simp [omap, brwV, brwC, evS, eget, strip, hget, leVL, leV, leC, leL, rnR, rnV, rnC, rnO, rho_0, hputs, herases, rho, hsl, hcap]; done)); (focus (simp [noV, noC, flatR, flatV, flatC, evS, eget, strip, rnR, rnV, rnC, rnO, rho_0, hputs, herases, rho, hsl, hcap]; done)))
      | (refine ⟨WCall.pf (hsp) ?_ ?_ ?_ ?_, ?_⟩; (focus (simp [oks, opnds, gS, gof, eget]; done)); (focus (simp [omap, brwV, brwC, evS, eget, strip, hget, leVL, leV, leC, leL, rnR, rnV, rnC, rnO, rho_0, hputs, herases, rho, hsl, hcap]; done)); (focus (simp [noV, noC, flatR, flatV, flatC, evS, eget, strip, rnR, rnV, rnC, rnO, rho_0, hputs, herases, rho, hsl, hcap]; done)))
      | (with_reducible refine And.intro (And.intro ?_ ?_) ?_)
      | fail)
    refine ⟨fun row x y h1 h2 => by subst h2; rfl, ?_⟩
    rw [← List.map_append]
    refine WCall.hf [5] (spsortA_hf (ringM ws ++ spotsM b (4 * w)) (by rw [List.length_append]; omega)) (by simp [oks, opnds, gS, gof, eget]) rfl rfl (by decide) (by simp) (by simp [evS, eget, strip, rnV, rnC, rho, ]) (by simp [argOk, ]) (by simp [LtV, LtC, ]) (by simp [rho, rnO, rnC, hget, LtO, LtC, ]) ?_
    rintro d H' nx' ⟨rfl, rfl, rfl⟩
    simp [AK_at, acode_seq, acode_region, acode_draw, acode_cond, ↓CB_t, ↓CB_f, CB_u, acode_block, acode_loop, acode_exit, acode_scope, acode_ret, acode_skip, seqQ_n, seqQ_e, seqQ_r, blockQ_n, blockQ_e, blockQ_r, TK_at, OK_at, SK_at, aops_nil, aops_cons, asch_done, asch_one, asch_two, asch_top, astep, aop_eq, isLoud, aloud, aloud1, isWrite, qv, evS, strip, gof, eget, hget, putO, eput, herase, oks, opnds, gS, afin, afin0, binD, arith, D.cells, takeD, fillD, keep, trim, envOf, Fin, aresl, aresv, resD, argOk, pickV, isP, deq, deqs, boundD, slD, lenD, isT, isSl, ptrIds, chunks, mn_min, mx_max, D.cells, splice_one, splice_more, Rbr_at, Rfr_at, frR, frV, frC, flatC, brwR, brwV, brwC, omap, leR, leV, leC, leL, leVL, rnR, rnV, rnC, rnO, rho_0, hputs, herases, rho, hra]
end Go.Proofs.Ytajimebannjofaa

set_option linter.unusedSimpArgs false
set_option linter.unusedVariables false
set_option maxRecDepth 100000
set_option maxHeartbeats 4000000
namespace Go.Proofs.Ytajimebannjofaa
open Go.RowKit

/-- whom a walk along the ring of these weights meets, behind place z -/
def walkM (ws : List Nat) (z : Int) : List Int := dedM (rotL (ringM ws) (fromM z (ringM ws)))
theorem ring_mono (ws : List Nat) (z : Int) (i j : Nat) (hi : i < (ringM ws).length) (hj : j < (ringM ws).length) (hij : i ≤ j) (h : ord2 (ringM ws)[j].1 (ringM ws)[j].2 z (-1) < 0) : ord2 (ringM ws)[i].1 (ringM ws)[i].2 z (-1) < 0 := by
  by_cases e : i = j
  · subst e; exact h
  have hp := List.pairwise_iff_getElem.1 (sortM_pw (wantM ws 12)) i j hi hj (by omega)
  rw [ltSp] at hp
  simp at hp
  rw [ord2_neg] at *
  unfold ringM at *
  omega
theorem WOk.twelve {ws : List Nat} (h : WOk ws) : ∃ w0 w1 w2 w3 w4 w5 w6 w7 w8 w9 w10 w11, ws = [w0, w1, w2, w3, w4, w5, w6, w7, w8, w9, w10, w11] := by
  match ws, h.len with
  | [w0, w1, w2, w3, w4, w5, w6, w7, w8, w9, w10, w11], _ => exact ⟨_, _, _, _, _, _, _, _, _, _, _, _, rfl⟩
theorem rwalk_pfn (ws : List Nat) (h : WOk ws) (k : Int) (hk0 : 0 ≤ k) (hk1 : k < 4294967296) :
    PFn Try.prog 19 [.agg [.rows 2 ((ringM ws).map spE)], I k] (.tup [.rows 1 ((walkM ws (keyN k.toNat : Nat)).map fun z => [I z]), I 0]) := by
  refine ⟨by kernel_rfl, fun Z w vs hz hl hv => ?_⟩
  match vs, hl, hv with
  | ⟨[p, q]⟩, _, hv =>
    obtain ⟨us, e0, hs, hu⟩ : VV s0 Z (.agg [.rows 2 ((ringM ws).map spE)]) p := hv 0 _ rfl
    have e1 : q = .int .i64 k := by
      have : VT Z (I k) q := hv 1 _ rfl
      cases this; rfl
    match us, hs, hu, e0 with
    | ⟨[sl]⟩, _, hu, e0 =>
      subst e0 e1
      have hV : VT Z (.rows 2 ((ringM ws).map spE)) sl := hu 0 _ rfl
      obtain ⟨a, b, off, cap, rfl, hcap, ha, hc⟩ : ∃ a b off cap, sl = .slice a (ringM ws).length cap ∧ (ringM ws).length ≤ cap ∧ (ringM ws ≠ [] → a = some ⟨b, off, none⟩ ∧ b < w.heap.size) ∧
          ∀ i x, (ringM ws)[i]? = some x → w.cell? ⟨b, off + i * 2, none⟩ = some (.int .i64 x.1) ∧ w.cell? ⟨b, off + i * 2 + 1, none⟩ = some (.int .i64 x.2) := by
        generalize hys : (ringM ws).map spE = ys at hV
        cases hV with
        | rnil _ a cap =>
          have h0 : ringM ws = [] := List.map_eq_nil_iff.1 hys
          exact ⟨a, 0, 0, cap, by rw [h0]; rfl, by simp [h0], fun hne => absurd h0 hne, fun i x hx => by rw [h0] at hx; simp at hx⟩
        | rows _ _ b off cap c h1 h2 h3 =>
          have hlen : ys.length = (ringM ws).length := by rw [← hys]; simp
          have hcell : ∀ i x, (ringM ws)[i]? = some x → w.cell? ⟨b, off + i * 2, none⟩ = some (.int .i64 x.1) ∧ w.cell? ⟨b, off + i * 2 + 1, none⟩ = some (.int .i64 x.2) := fun i x hx => by
            have hy : ys[i]? = some (spE x) := by rw [← hys, List.getElem?_map, hx]; rfl
            have g0 := (h2 i _ 0 _ hy rfl).2
            have g1 := (h2 i _ 1 _ hy rfl).2
            have v0 := h3 i _ 0 _ hy rfl
            have v1 := h3 i _ 1 _ hy rfl
            have k0 := vtInt v0
            have k1 := vtInt v1
            rw [k0] at g0
            rw [k1] at g1
            exact ⟨hz _ _ _ g0, hz _ _ _ g1⟩
          refine ⟨_, b, off, cap, by rw [hlen], by omega, fun hne => ⟨rfl, ?_⟩, hcell⟩
          obtain ⟨x, hx⟩ := List.exists_mem_of_ne_nil _ hne
          obtain ⟨i, hi⟩ := List.getElem?_of_mem hx
          exact World.block_lt_of_cell? w _ (hcell i x hi).1
      obtain ⟨w0, w1, w2, w3, w4, w5, w6, w7, w8, w9, w10, w11, hwe⟩ := WOk.twelve h
      · subst hwe
        refine callsIn_wide.1 (CallsIn.mono (rwalk_in w0 w1 w2 w3 w4 w5 w6 w7 w8 w9 w10 w11 h k (keyN k.toNat : Nat) (fun n W => key_in k hk0 hk1 n W) a b off cap w _ rfl hcap ha hc (fun z i j hi hj => ring_mono _ z i j hi hj)) ?_)
        rintro e w' ⟨v, rfl, hrow, hB⟩
        refine ⟨_, fun b o => if w.heap.size ≤ b then w'.cell? ⟨b, o, none⟩ else none, rfl, ?_, fun b o u hu => ?_, hB⟩
        · refine ⟨_, rfl, rfl, fun j x hx => ?_⟩
          match j, hx with
          | 0, hx => simp at hx; subst hx; exact vt_introw hrow
          | 1, hx => simp at hx; subst hx; exact VT.int _ _
          | j + 2, hx => simp at hx
        · simp only at hu
          split at hu
          · rename_i hb; exact ⟨hb, hu⟩
          · cases hu
end Go.Proofs.Ytajimebannjofaa

set_option linter.unusedSimpArgs false
set_option linter.unusedVariables false
set_option maxRecDepth 100000
set_option maxHeartbeats 4000000
namespace Go.Proofs.Ytajimebannjofaa
open Go.RowKit
/-- the weights behind some members -/
def rgStep (ws : List Nat) (r : List Int) : List Nat :=
  let b := (pickedZ (r.getD 0 0) 12).toNat
  if 0 < ws.getD b 0 then ws else ws.set b (1 + (pickedZ (r.getD 1 0) 8).toNat)
def rg0 : List Nat := [0, 0, 0, 0, 0, 0, 0, 0, 0, 0, 0, 0]
def rgL (l : List (List Int)) : List Nat := (l.take 20).foldl rgStep rg0
theorem rgL_inv (l : List (List Int)) : ∀ i, WOk ((l.take i).foldl rgStep rg0) := fun i => by
  suffices h : ∀ (m : List (List Int)) (ws : List Nat), WOk ws → WOk (m.foldl rgStep ws) from h _ _ ⟨rfl, by simp [rg0]⟩
  intro m
  induction m with
  | nil => exact fun ws h => h
  | cons r t ih =>
    intro ws h
    refine ih _ ?_
    unfold rgStep
    simp only
    split
    · exact h
    · have := pickedZ_range (r.getD 1 0) 8 (by omega)
      exact h.set _ _ (by omega)
theorem rgL_succ (l : List (List Int)) (i : Nat) (h : i < l.length) : (l.take (i + 1)).foldl rgStep rg0 = rgStep ((l.take i).foldl rgStep rg0) l[i] := by
  rw [List.take_succ_eq_append_getElem h, List.foldl_append]; rfl
theorem ring0 : ringM rg0 = [] := by
  have : wantM rg0 12 = [] := by simp [wantM, rg0, List.range_succ, spotsM]
  unfold ringM
  rw [this]
  exact List.mergeSort_nil
theorem ring0b : ringM [0, 0, 0, 0, 0, 0, 0, 0, 0, 0, 0, 0] = [] := ring0
theorem want_len_set (ws : List Nat) (h : WOk ws) (b w : Nat) (hb : b < 12) (h0 : ws.getD b 0 = 0) : (ringM (ws.set b w)).length = (ringM ws).length + 4 * w := by
  rw [← ring_add ws h b w hb h0, sortM_len, List.length_append, spotsM_len]
theorem rnN (f : Nat → Nat) : (rnC f ∘ fun w : Nat => I (w : Int)) = fun w : Nat => I (w : Int) := rfl
theorem spliceN (l : List Nat) (b w : Nat) (h : b < l.length) : splice (l.map fun w : Nat => I (w : Int)) b [D.int IntKind.i64 (w : Int)] = (l.set b w).map fun w : Nat => I (w : Int) := by
  rw [splice_one _ _ _ (by simpa using h), List.map_set]
theorem ringed_code : cfun Try.prog [] 18 = some ⟨(.seq (.region 0 [⟨(some 2), (.alloc [.nil0]), none⟩, ⟨(some 3), (.alloc [(.int .i64 0), (.int .i64 0), (.int .i64 0), (.int .i64 0), (.int .i64 0), (.int .i64 0), (.int .i64 0), (.int .i64 0), (.int .i64 0), (.int .i64 0), (.int .i64 0), (.int .i64 0)]), none⟩, ⟨(some 4), (.mov (.k (.bool false))), none⟩]) (.seq (.region 1 [⟨(some 5), (.alloc [.nil0]), none⟩]) (.seq (.region 2 [⟨(some 6), (.alloc [(.int .i64 0), (.int .i64 0), (.int .i64 0), (.int .i64 0), (.int .i64 0), (.int .i64 0), (.int .i64 0), (.int .i64 0), (.int .i64 0), (.int .i64 0), (.int .i64 0), (.int .i64 0)]), none⟩]) (.seq (.seq (.region 3 [⟨(some 7), (.mov (.k (.int .i64 0))), none⟩]) (.block 0 (.loop (.seq (.seq (.region 4 [⟨(some 11), (.mov (.t 7)), none⟩, ⟨(some 12), (.mov (.t 0)), none⟩, ⟨(some 13), (.len (.t 12)), none⟩, ⟨(some 14), (.bin .lss (.t 11) (.t 13)), none⟩, ⟨(some 15), (.mov (.t 14)), none⟩, ⟨(some 16), (.mov (.t 7)), (some (15, true))⟩, ⟨(some 17), (.bin .lss (.t 16) (.k (.int .i64 20))), (some (15, true))⟩, ⟨(some 18), (.pick (.t 15) (.t 17) (.k (.bool false))), none⟩]) (.cond 18 .skip (.exit 0))) (.seq (.block 1 (.seq (.region 6 [⟨(some 21), (.mov (.t 0)), none⟩, ⟨(some 22), (.mov (.t 7)), none⟩, ⟨(some 23), (.iads 2 (.t 21) (.t 22)), none⟩, ⟨(some 24), (.fad 0 (.t 23)), none⟩, ⟨(some 25), (.load false 1 (.t 24)), none⟩, ⟨(some 26), (.call 11 [(.t 25), (.k (.int .i64 12))]), none⟩, ⟨(some 8), (.mov (.t 26)), none⟩]) (.seq (.seq (.region 7 [⟨(some 27), (.mov (.t 8)), none⟩, ⟨(some 28), (.iada 12 1 (.t 6) (.t 27)), none⟩, ⟨(some 29), (.load false 1 (.t 28)), none⟩, ⟨(some 30), (.bin .gtr (.t 29) (.k (.int .i64 0))), none⟩]) (.cond 30 (.exit 1) .skip)) (.seq (.region 8 [⟨(some 31), (.mov (.t 8)), none⟩, ⟨(some 32), (.mov (.t 0)), none⟩, ⟨(some 33), (.mov (.t 7)), none⟩, ⟨(some 34), (.iads 2 (.t 32) (.t 33)), none⟩, ⟨(some 35), (.fad 1 (.t 34)), none⟩, ⟨(some 36), (.load false 1 (.t 35)), none⟩, ⟨(some 37), (.call 11 [(.t 36), (.k (.int .i64 8))]), none⟩, ⟨(some 38), (.bin .add (.k (.int .i64 1)) (.t 37)), none⟩, ⟨(some 39), (.iada 12 1 (.t 6) (.t 31)), none⟩, ⟨none, (.store 1 (.t 39) (.t 38)), none⟩]) (.seq (.draw 9 (.one true ⟨(some 41), (.load true 1 (.t 5)), none⟩ (.one true ⟨(some 42), (.mov (.t 8)), none⟩ (.one true ⟨(some 43), (.mov (.t 8)), none⟩ (.one true ⟨(some 44), (.iada 12 1 (.t 6) (.t 43)), none⟩ (.one true ⟨(some 45), (.load false 1 (.t 44)), none⟩ (.two (.one true ⟨(some 46), (.call 21 [(.t 41), (.t 42), (.t 45)]), none⟩ (.one true ⟨(some 40), (.mov (.t 46)), none⟩ (.one true ⟨(some 47), (.ext (.t 40) 0), none⟩ (.one true ⟨(some 48), (.ext (.t 40) 1), none⟩ (.one true ⟨(some 9), (.alloc [.nil0]), none⟩ (.one false ⟨none, (.store 1 (.t 9) (.t 47)), none⟩ (.one true ⟨(some 10), (.mov (.t 48)), none⟩ .done))))))) (.two (.one true ⟨(some 9), (.alloc [.nil0]), none⟩ (.one true ⟨(some 46), (.call 21 [(.t 41), (.t 42), (.t 45)]), none⟩ (.one true ⟨(some 40), (.mov (.t 46)), none⟩ (.one true ⟨(some 47), (.ext (.t 40) 0), none⟩ (.one true ⟨(some 48), (.ext (.t 40) 1), none⟩ (.one false ⟨none, (.store 1 (.t 9) (.t 47)), none⟩ (.one true ⟨(some 10), (.mov (.t 48)), none⟩ .done))))))) .top)))))))) (.seq (.seq (.draw 10 (.one true ⟨(some 49), (.mov (.t 10)), none⟩ (.one true ⟨(some 50), (.bin .neq (.t 49) (.k (.int .i64 0))), none⟩ (.one true ⟨(some 51), (.mov (.t 50)), none⟩ (.one true ⟨(some 52), (.fad 0 (.t 9)), (some (51, false))⟩ (.one true ⟨(some 53), (.load false 1 (.t 52)), (some (51, false))⟩ (.one true ⟨(some 54), (.len (.t 53)), (some (51, false))⟩ (.one true ⟨(some 55), (.fad 0 (.t 5)), (some (51, false))⟩ (.one true ⟨(some 56), (.load false 1 (.t 55)), (some (51, false))⟩ (.one true ⟨(some 57), (.len (.t 56)), (some (51, false))⟩ (.one true ⟨(some 58), (.mov (.t 8)), (some (51, false))⟩ (.one true ⟨(some 59), (.iada 12 1 (.t 6) (.t 58)), (some (51, false))⟩ (.one true ⟨(some 60), (.load false 1 (.t 59)), (some (51, false))⟩ (.one true ⟨(some 61), (.bin .mul (.k (.int .i64 4)) (.t 60)), (some (51, false))⟩ (.one true ⟨(some 62), (.bin .add (.t 57) (.t 61)), (some (51, false))⟩ (.one true ⟨(some 63), (.bin .neq (.t 54) (.t 62)), (some (51, false))⟩ (.one true ⟨(some 64), (.pick (.t 51) (.k (.bool true)) (.t 63)), none⟩ .done))))))))))))))))) (.cond 64 (.seq (.draw 11 (.one true ⟨(some 65), (.load true 1 (.t 5)), none⟩ (.two (.one true ⟨(some 66), (.load true 12 (.t 6)), none⟩ (.one false ⟨none, (.store 1 (.t 2) (.t 65)), none⟩ (.one false ⟨none, (.store 12 (.t 3) (.t 66)), none⟩ (.one true ⟨(some 4), (.mov (.k (.bool false))), none⟩ .done)))) (.two (.one false ⟨none, (.store 1 (.t 2) (.t 65)), none⟩ (.one true ⟨(some 66), (.load true 12 (.t 6)), none⟩ (.one false ⟨none, (.store 12 (.t 3) (.t 66)), none⟩ (.one true ⟨(some 4), (.mov (.k (.bool false))), none⟩ .done)))) .top)))) .ret) .skip)) (.region 12 [⟨(some 67), (.load true 1 (.t 9)), none⟩, ⟨none, (.store 1 (.t 5) (.t 67)), none⟩]))))))) (.region 5 [⟨(some 19), (.mov (.t 7)), none⟩, ⟨(some 20), (.bin .add (.t 19) (.k (.int .i64 1))), none⟩, ⟨(some 7), (.mov (.t 20)), none⟩])))))) (.seq (.draw 13 (.one true ⟨(some 68), (.load true 1 (.t 5)), none⟩ (.two (.one true ⟨(some 69), (.load true 12 (.t 6)), none⟩ (.one false ⟨none, (.store 1 (.t 2) (.t 68)), none⟩ (.one false ⟨none, (.store 12 (.t 3) (.t 69)), none⟩ (.one true ⟨(some 4), (.mov (.k (.bool true))), none⟩ .done)))) (.two (.one false ⟨none, (.store 1 (.t 2) (.t 68)), none⟩ (.one true ⟨(some 69), (.load true 12 (.t 6)), none⟩ (.one false ⟨none, (.store 12 (.t 3) (.t 69)), none⟩ (.one true ⟨(some 4), (.mov (.k (.bool true))), none⟩ .done)))) .top)))) .ret))))), [(.c 2 true 1), (.c 3 true 12), (.t 4)], 70⟩ := by kernel_rfl
theorem ringed_pf (l : List (List Int)) (hl : l.length ≤ Go.maxLen) (hr : ∀ r ∈ l, r.length = 2 ∧ ∀ z ∈ r, InR z) :
    PF Try.prog 18 [.rows 2 (l.map fun r => r.map I)] (.tup [.agg [.rows 2 ((ringM (rgL l)).map spE)], .agg ((rgL l).map fun w : Nat => I (w : Int)), .bool true]) := by
  refine PF.of follows_ok ringed_code (by simp) (by simp [argOk]) (by simp [noV, noC]) fun B hBN hB0 => acode_sound [0, 2, 3, 4, 5, 6, 7, 8, 9, 10, 18, 30, 64] [] _ _ _ ?_
  simp [AK_at, acode_seq, acode_region, acode_draw, acode_cond, ↓CB_t, ↓CB_f, CB_u, acode_block, acode_loop, acode_exit, acode_scope, acode_ret, acode_skip, seqQ_n, seqQ_e, seqQ_r, blockQ_n, blockQ_e, blockQ_r, TK_at, OK_at, SK_at, aops_nil, aops_cons, asch_done, asch_one, asch_two, asch_top, astep, aop_eq, isLoud, aloud, aloud1, isWrite, qv, evS, strip, gof, eget, hget, putO, eput, herase, oks, opnds, gS, afin, afin0, binD, arith, D.cells, takeD, fillD, keep, trim, envOf, Fin, aresl, aresv, resD, argOk, pickV, isP, deq, deqs, boundD, slD, lenD, isT, isSl, ptrIds, chunks, mn_min, mx_max, D.cells, splice_one, splice_more, Rbr_at, Rfr_at, frR, frV, frC, flatC, brwR, brwV, brwC, omap, leR, leV, leC, leL, leVL]
  refine W.loopS (fun i : Nat => ⟨[(7, I i), (6, .ptr 3 0), (5, .ptr 2 0), (4, .bool false), (3, .ptr 1 0), (2, .ptr 0 0), (0, .rows 2 (l.map fun r => r.map I))], [(3, .cells (((l.take i).foldl rgStep rg0).map fun w : Nat => I (w : Int))), (2, .cells [.rows 2 ((ringM ((l.take i).foldl rgStep rg0)).map spE)]), (1, .cells [I 0, I 0, I 0, I 0, I 0, I 0, I 0, I 0, I 0, I 0, I 0, I 0]), (0, .cells [.nil0])], 4⟩)
    (fun n i => n = l.length - i ∧ i ≤ l.length ∧ i ≤ 20) ?_ ?_
  · refine ⟨_, 0, (Gh.nilC 2 0 2 [.nil0] (by simp [hget]) rfl).trans ?_, rfl, by omega, by omega⟩
    simp [eput]
    exact (Gh.ren [0, 1, 2, 3] (by simp [hB0]) (by simp [hB0] <;> decide) (by simp [eget, rnS, rnR, rnV, rnC, LtS, LtR, LtV, LtC, lget, ring0b, rg0]) (by simp [hget, rnO, rnC, LtO, LtC, lget, ring0b, rg0]) (.inl (by simp [lget, ring0b, rg0])))
  rintro n i ⟨hn, hi, h20⟩
  refine acode_sound [0, 2, 3, 4, 5, 6, 7, 8, 9, 10, 18, 30, 64] [] _ _ _ ?_
  have hws := rgL_inv l i
  by_cases hlt : i < l.length ∧ i < 20
  · obtain ⟨hlt, hlt2⟩ := hlt
    have hst := rgL_succ l i hlt
    obtain ⟨ws, hw⟩ : ∃ ws, ws = (l.take i).foldl rgStep rg0 := ⟨_, rfl⟩
    rw [← hw] at hst hws
    obtain ⟨h2, hz⟩ := hr _ (List.getElem_mem hlt)
    obtain ⟨x, y, hxy⟩ : ∃ x y, l[i] = [x, y] := by
      match l[i], h2 with
      | [x, y], _ => exact ⟨x, y, rfl⟩
    rw [hxy] at hst hz
    have ix : InR x := hz _ (by simp)
    have iy : InR y := hz _ (by simp)
    have px := picked_pf x 12 ix (by omega)
    have py := picked_pf y 8 iy (by omega)
    have qx := pickedZ_range x 12 (by omega)
    have qy := pickedZ_range y 8 (by omega)
    have hz1 : (i : Int) < l.length := by omega
    have hz2 : (i : Int) < 20 := by omega
    have ii : InR ((i : Int) + 1) := inG (by omega) (by omega)
    have hst1 : rgStep ws [x, y] = if 0 < ws.getD (pickedZ x 12).toNat 0 then ws else ws.set (pickedZ x 12).toNat (1 + (pickedZ y 8).toNat) := rfl
    rw [hst1] at hst
    obtain ⟨b, hb⟩ : ∃ b : Nat, pickedZ x 12 = b := ⟨(pickedZ x 12).toNat, by omega⟩
    obtain ⟨w, hwv⟩ : ∃ w : Nat, 1 + pickedZ y 8 = w := ⟨(1 + pickedZ y 8).toNat, by omega⟩
    have hwv2 : 1 + (pickedZ y 8).toNat = w := by omega
    rw [hb] at px
    rw [hb, hwv2, Int.toNat_natCast] at hst
    have hb12 : b < 12 := by omega
    have hb1 : (b : Int) < 12 := by omega
    have hb2 : b ≤ 11 := by omega
    have hb3 : 0 < 12 - b := by omega
    have hl12 := hws.len
    obtain ⟨c, hc⟩ : ∃ c, c = ws.getD b 0 := ⟨_, rfl⟩
    rw [← hc] at hst
    have hat : ws[b]? = some c := by
      rw [List.getD_eq_getElem?_getD, List.getElem?_eq_getElem (by omega)] at hc
      rw [List.getElem?_eq_getElem (by omega)]
      simpa using hc.symm
    by_cases hc0 : 0 < c
    · rw [if_pos hc0] at hst
      have hcz : (0 : Int) < c := by omega
      repeat' (first
        | simp [AK_at, acode_seq, acode_region, acode_draw, acode_cond, ↓CB_t, ↓CB_f, CB_u, acode_block, acode_loop, acode_exit, acode_scope, acode_ret, acode_skip, seqQ_n, seqQ_e, seqQ_r, blockQ_n, blockQ_e, blockQ_r, TK_at, OK_at, SK_at, aops_nil, aops_cons, asch_done, asch_one, asch_two, asch_top, astep, aop_eq, isLoud, aloud, aloud1, isWrite, qv, evS, strip, gof, eget, hget, putO, eput, herase, oks, opnds, gS, afin, afin0, binD, arith, D.cells, takeD, fillD, keep, trim, envOf, Fin, aresl, aresv, resD, argOk, pickV, isP, deq, deqs, boundD, slD, lenD, isT, isSl, ptrIds, chunks, mn_min, mx_max, D.cells, splice_one, splice_more, Rbr_at, Rfr_at, frR, frV, frC, flatC, brwR, brwV, brwC, omap, leR, leV, leC, leL, leVL, ← hw, hxy, hlt, hz1, hz2, hb1, hb2, hb3, hl12, hat, hc0, ii]
        | (refine WCall.pf (px) ?_ ?_ ?_ ?_; (focus (simp [oks, opnds, gS, gof, eget]; done)); (focus (simp [omap, brwV, brwC, evS, eget, strip, hget, leVL, leV, leC, leL, ← hw, hxy, hlt, hz1, hz2, hb1, hb2, hb3, hl12, hat, hc0, ii]; done)); (focus (simp [noV, noC, flatR, flatV, flatC, evS, eget, strip, ← hw, hxy, hlt, hz1, hz2, hb1, hb2, hb3, hl12, hat, hc0, ii]; done)))
        | (refine ⟨WCall.pf (px) ?_ ?_ ?_ ?_, ?_⟩; (focus (simp [oks, opnds, gS, gof, eget]; done)); (focus (simp [omap, brwV, brwC, evS, eget, strip, hget, leVL, leV, leC, leL, ← hw, hxy, hlt, hz1, hz2, hb1, hb2, hb3, hl12, hat, hc0, ii]; done)); (focus (simp [noV, noC, flatR, flatV, flatC, evS, eget, strip, ← hw, hxy, hlt, hz1, hz2, hb1, hb2, hb3, hl12, hat, hc0, ii]; done)))
        | (with_reducible refine And.intro (And.intro ?_ ?_) ?_)
        | fail)
      all_goals exact ⟨_, i + 1, (Gh.ren [0, 1, 2, 3] (by simp [hB0]) (by simp [hB0] <;> decide) (by simp [eget, rnS, rnR, rnV, rnC, LtS, LtR, LtV, LtC, lget, hst, rnN]) (by simp [hget, rnO, rnC, LtO, LtC, lget, hst, rnN]) (.inl (by simp [lget, hst, rnN]))), by omega, rfl, by omega, by omega⟩
    · rw [if_neg hc0] at hst
      obtain rfl : c = 0 := by omega
      have hadd := radd_pf ws hws b w hb12 (by omega) hc.symm
      have hlen := want_len_set ws hws b w hb12 hc.symm
      have iw : InR (w : Int) := inG (by omega) (by omega)
      obtain ⟨ws2, hws2⟩ : ∃ ws2, ws2 = ws.set b w := ⟨_, rfl⟩
      have hspl := spliceN ws b w (by omega)
      have hat2 : (ws.set b w)[b]? = some w := by simp [hl12, hb12]
      have hsl12 : (ws.set b w).length = 12 := by simp [hl12]
      rw [← hws2] at hspl hat2 hsl12 hlen hadd hst
      have hrl := ringM_len ws hws
      have i4 : InR (4 * (w : Int)) := inG (by omega) (by omega)
      have i5 : InR (((ringM ws).length : Int) + 4 * w) := inG (by omega) (by omega)
      repeat' (first
        | simp [AK_at, acode_seq, acode_region, acode_draw, acode_cond, ↓CB_t, ↓CB_f, CB_u, acode_block, acode_loop, acode_exit, acode_scope, acode_ret, acode_skip, seqQ_n, seqQ_e, seqQ_r, blockQ_n, blockQ_e, blockQ_r, TK_at, OK_at, SK_at, aops_nil, aops_cons, asch_done, asch_one, asch_two, asch_top, astep, aop_eq, isLoud, aloud, aloud1, isWrite, qv, evS, strip, gof, eget, hget, putO, eput, herase, oks, opnds, gS, afin, afin0, binD, arith, D.cells, takeD, fillD, keep, trim, envOf, Fin, aresl, aresv, resD, argOk, pickV, isP, deq, deqs, boundD, slD, lenD, isT, isSl, ptrIds, chunks, mn_min, mx_max, D.cells, splice_one, splice_more, Rbr_at, Rfr_at, frR, frV, frC, flatC, brwR, brwV, brwC, omap, leR, leV, leC, leL, leVL, ← hw, hxy, hlt, hz1, hz2, hb1, hb2, hb3, hl12, hat, ii, hwv, iw, hspl, hat2, hsl12, hlen, i4, i5]
        | (refine WCall.pf (px) ?_ ?_ ?_ ?_; (focus (simp [oks, opnds, gS, gof, eget]; done)); (focus (simp [omap, brwV, brwC, evS, eget, strip, hget, leVL, leV, leC, leL, ← hw, hxy, hlt, hz1, hz2, hb1, hb2, hb3, hl12, hat, ii, hwv, iw, hspl, hat2, hsl12, hlen, i4, i5]; done)); (focus (simp [noV, noC, flatR, flatV, flatC, evS, eget, strip, ← hw, hxy, hlt, hz1, hz2, hb1, hb2, hb3, hl12, hat, ii, hwv, iw, hspl, hat2, hsl12, hlen, i4, i5]; done)))
        | (refine ⟨WCall.pf (px) ?_ ?_ ?_ ?_, ?_⟩; (focus (simp [oks, opnds, gS, gof, eget]; done)); (focus (simp [omap, brwV, brwC, evS, eget, strip, hget, leVL, leV, leC, leL, ← hw, hxy, hlt, hz1, hz2, hb1, hb2, hb3, hl12, hat, ii, hwv, iw, hspl, hat2, hsl12, hlen, i4, i5]; done)); (focus (simp [noV, noC, flatR, flatV, flatC, evS, eget, strip, ← hw, hxy, hlt, hz1, hz2, hb1, hb2, hb3, hl12, hat, ii, hwv, iw, hspl, hat2, hsl12, hlen, i4, i5]; done)))
        | (refine WCall.pf (py) ?_ ?_ ?_ ?_; (focus (simp [oks, opnds, gS, gof, eget]; done)); (focus (simp [omap, brwV, brwC, evS, eget, strip, hget, leVL, leV, leC, leL, ← hw, hxy, hlt, hz1, hz2, hb1, hb2, hb3, hl12, hat, ii, hwv, iw, hspl, hat2, hsl12, hlen, i4, i5]; done)); (focus (simp [noV, noC, flatR, flatV, flatC, evS, eget, strip, ← hw, hxy, hlt, hz1, hz2, hb1, hb2, hb3, hl12, hat, ii, hwv, iw, hspl, hat2, hsl12, hlen, i4, i5]; done)))
        | (refine ⟨WCall.pf (py) ?_ ?_ ?_ ?_, ?_⟩; (focus (simp [oks, opnds, gS, gof, eget]; done)); (focus (simp [omap, brwV, brwC, evS, eget, strip, hget, leVL, leV, leC, leL, ← hw, hxy, hlt, hz1, hz2, hb1, hb2, hb3, hl12, hat, ii, hwv, iw, hspl, hat2, hsl12, hlen, i4, i5]; done)); (focus (simp [noV, noC, flatR, flatV, flatC, evS, eget, strip, ← hw, hxy, hlt, hz1, hz2, hb1, hb2, hb3, hl12, hat, ii, hwv, iw, hspl, hat2, hsl12, hlen, i4, i5]; done)))
        | (refine WCall.pf (hadd) ?_ ?_ ?_ ?_; (focus (simp [oks, opnds, gS, gof, eget]; done)); (focus (simp [omap, brwV, brwC, evS, eget, strip, hget, leVL, leV, leC, leL, ← hw, hxy, hlt, hz1, hz2, hb1, hb2, hb3, hl12, hat, ii, hwv, iw, hspl, hat2, hsl12, hlen, i4, i5]; done)); (focus (simp [noV, noC, flatR, flatV, flatC, evS, eget, strip, ← hw, hxy, hlt, hz1, hz2, hb1, hb2, hb3, hl12, hat, ii, hwv, iw, hspl, hat2, hsl12, hlen, i4, i5]; done)))
        | (refine ⟨WCall.pf (hadd) ?_ ?_ ?_ ?_, ?_⟩; (focus (simp [oks, opnds, gS, gof, eget]; done)); (focus (simp [omap, brwV, brwC, evS, eget, strip, hget, leVL, leV, leC, leL, ← hw, hxy, hlt, hz1, hz2, hb1, hb2, hb3, hl12, hat, ii, hwv, iw, hspl, hat2, hsl12, hlen, i4, i5]; done)); (focus (simp [noV, noC, flatR, flatV, flatC, evS, eget, strip, ← hw, hxy, hlt, hz1, hz2, hb1, hb2, hb3, hl12, hat, ii, hwv, iw, hspl, hat2, hsl12, hlen, i4, i5]; done)))
        | (with_reducible refine And.intro (And.intro ?_ ?_) ?_)
        | fail)
      all_goals exact ⟨_, i + 1, (Gh.ren [0, 1, 2, 3] (by simp [hB0]) (by simp [hB0] <;> decide) (by simp [eget, rnS, rnR, rnV, rnC, LtS, LtR, LtV, LtC, lget, hst, rnN]) (by simp [hget, rnO, rnC, LtO, LtC, lget, hst, rnN]) (.inl (by simp [lget, hst, rnN]))), by omega, rfl, by omega, by omega⟩
  · have hcl : (l.take i).foldl rgStep rg0 = rgL l := by
      unfold rgL
      by_cases h1 : i = 20
      · rw [h1]
      · rw [List.take_of_length_le (show l.length ≤ i by omega), List.take_of_length_le (show l.length ≤ 20 by omega)]
    rw [hcl] at hws ⊢
    have hl12 := hws.len
    have hs0 := spl12 hws.len
    have htw : ((rgL l).map fun w : Nat => I (w : Int)).take 12 = (rgL l).map fun w : Nat => I (w : Int) := List.take_of_length_le (by simp [hl12])
    by_cases hlt1 : i < l.length
    · obtain rfl : i = 20 := by omega
      have hz1 : (20 : Int) < l.length := by omega
      simp [AK_at, acode_seq, acode_region, acode_draw, acode_cond, ↓CB_t, ↓CB_f, CB_u, acode_block, acode_loop, acode_exit, acode_scope, acode_ret, acode_skip, seqQ_n, seqQ_e, seqQ_r, blockQ_n, blockQ_e, blockQ_r, TK_at, OK_at, SK_at, aops_nil, aops_cons, asch_done, asch_one, asch_two, asch_top, astep, aop_eq, isLoud, aloud, aloud1, isWrite, qv, evS, strip, gof, eget, hget, putO, eput, herase, oks, opnds, gS, afin, afin0, binD, arith, D.cells, takeD, fillD, keep, trim, envOf, Fin, aresl, aresv, resD, argOk, pickV, isP, deq, deqs, boundD, slD, lenD, isT, isSl, ptrIds, chunks, mn_min, mx_max, D.cells, splice_one, splice_more, Rbr_at, Rfr_at, frR, frV, frC, flatC, brwR, brwV, brwC, omap, leR, leV, leC, leL, leVL, hlt1, hz1, hl12, hs0, htw, omapI, leLI]
    · have hz1 : ¬ (i : Int) < l.length := by omega
      simp [AK_at, acode_seq, acode_region, acode_draw, acode_cond, ↓CB_t, ↓CB_f, CB_u, acode_block, acode_loop, acode_exit, acode_scope, acode_ret, acode_skip, seqQ_n, seqQ_e, seqQ_r, blockQ_n, blockQ_e, blockQ_r, TK_at, OK_at, SK_at, aops_nil, aops_cons, asch_done, asch_one, asch_two, asch_top, astep, aop_eq, isLoud, aloud, aloud1, isWrite, qv, evS, strip, gof, eget, hget, putO, eput, herase, oks, opnds, gS, afin, afin0, binD, arith, D.cells, takeD, fillD, keep, trim, envOf, Fin, aresl, aresv, resD, argOk, pickV, isP, deq, deqs, boundD, slD, lenD, isT, isSl, ptrIds, chunks, mn_min, mx_max, D.cells, splice_one, splice_more, Rbr_at, Rfr_at, frR, frV, frC, flatC, brwR, brwV, brwC, omap, leR, leV, leC, leL, leVL, hlt1, hz1, hl12, hs0, htw, omapI, leLI]
end Go.Proofs.Ytajimebannjofaa

set_option linter.unusedSimpArgs false
set_option linter.unusedVariables false
set_option maxRecDepth 100000
set_option maxHeartbeats 4000000
namespace Go.Proofs.Ytajimebannjofaa
open Go.RowKit
theorem rgStep_pos (ws : List Nat) (r : List Int) (h : WOk ws) : ∃ b, b < 12 ∧ 0 < (rgStep ws r).getD b 0 := by
  have q := pickedZ_range (r.getD 0 0) 12 (by omega)
  refine ⟨(pickedZ (r.getD 0 0) 12).toNat, by omega, ?_⟩
  unfold rgStep
  simp only
  split
  · assumption
  · have : (pickedZ (r.getD 0 0) 12).toNat < ws.length := by rw [h.len]; omega
    rw [List.getD_eq_getElem?_getD, List.getElem?_set_self this]
    show 0 < 1 + (pickedZ (r.getD 1 0) 8).toNat
    omega
theorem rgL_pos (l : List (List Int)) (h : l ≠ []) : 0 < (ringM (rgL l)).length := by
  have hl : 0 < l.length := List.length_pos_iff.2 h
  obtain ⟨i, hi⟩ : ∃ i, min 20 l.length = i + 1 := ⟨min 20 l.length - 1, by omega⟩
  have e : rgL l = rgStep ((l.take i).foldl rgStep rg0) (l[i]'(by omega)) := by
    rw [← rgL_succ l i (by omega)]
    unfold rgL
    by_cases h20 : 20 ≤ l.length
    · rw [show i + 1 = 20 by omega]
    · rw [List.take_of_length_le (show l.length ≤ 20 by omega), List.take_of_length_le (show l.length ≤ i + 1 by omega)]
  obtain ⟨b, hb, hp⟩ := rgStep_pos ((l.take i).foldl rgStep rg0) (l[i]'(by omega)) (rgL_inv l i)
  rw [← e] at hp
  have h1 := cnt_ring (rgL l) b hb
  have h2 := List.countP_le_length (p := isB b) (l := ringM (rgL l))
  omega
def dnM (ws : List Nat) (k : Nat) : List Nat := (List.range 12).map fun j => if k ≤ j then ws.getD j 0 else 0
theorem dnM_len (ws : List Nat) (k : Nat) : (dnM ws k).length = 12 := by simp [dnM]
theorem dnM_ok {ws : List Nat} (h : WOk ws) (k : Nat) : WOk (dnM ws k) := ⟨dnM_len ws k, fun w hw => by
  obtain ⟨j, hj, rfl⟩ := List.mem_map.1 hw
  have hj := List.mem_range.1 hj
  split
  · rw [List.getD_eq_getElem?_getD, List.getElem?_eq_getElem (by rw [h.len]; exact hj)]
    exact h.le _ (List.getElem_mem _)
  · omega⟩
theorem dnM_12 (ws : List Nat) : dnM ws 12 = rg0 := by simp [dnM, rg0, List.range_succ]
theorem dnM_0 {ws : List Nat} (h : WOk ws) : dnM ws 0 = ws := by
  refine List.ext_getElem (by rw [dnM_len, h.len]) fun j h1 h2 => ?_
  have hj : j < 12 := by rw [dnM_len] at h1; exact h1
  simp [dnM, List.getElem?_eq_getElem h2]
theorem dnM_at (ws : List Nat) (k : Nat) (hk : k < 12) : (dnM ws (k + 1)).getD k 0 = 0 := by
  have : ¬ k + 1 ≤ k := by omega
  simp [dnM, List.getD_eq_getElem?_getD, List.getElem?_range, hk, this]
theorem dnM_set (ws : List Nat) (k : Nat) (hk : k < 12) : (dnM ws (k + 1)).set k (ws.getD k 0) = dnM ws k := by
  refine List.ext_getElem (by simp [dnM]) fun j h1 h2 => ?_
  rw [List.getElem_set]
  simp only [dnM, List.getElem_map, List.getElem_range]
  by_cases h : k = j
  · subst h; rw [if_pos rfl, if_pos (by omega)]
  · rw [if_neg h]
    by_cases h3 : k ≤ j
    · rw [if_pos h3, if_pos (by omega)]
    · rw [if_neg h3, if_neg (by omega)]
theorem dnM_same (ws : List Nat) (k : Nat) (hk : k < 12) (h0 : ws.getD k 0 = 0) : dnM ws k = dnM ws (k + 1) := by
  rw [← dnM_set ws k hk, h0]
  refine List.ext_getElem (by simp) fun j h1 h2 => ?_
  rw [List.getElem_set]
  by_cases h : k = j
  · subst h
    have : ¬ k + 1 ≤ k := by omega
    simp [dnM, this]
  · rw [if_neg h]
end Go.Proofs.Ytajimebannjofaa

set_option linter.unusedSimpArgs false
set_option linter.unusedVariables false
set_option maxRecDepth 100000
set_option maxHeartbeats 4000000
namespace Go.Proofs.Ytajimebannjofaa
open Go.RowKit
theorem rwalk_pf (ws : List Nat) (h : WOk ws) (k : Int) (hk0 : 0 ≤ k) (hk1 : k < 4294967296) :
    PF Try.prog 19 [.agg [.rows 2 ((ringM ws).map spE)], I k] (.tup [.rows 1 ((walkM ws (keyN k.toNat : Nat)).map fun z => [I z]), I 0]) := (rwalk_pfn ws h k hk0 hk1).pf
theorem ded_go (l : List (Int × Int)) : ∀ acc : List Int, acc.Nodup → ((l.foldl (fun out s => if s.2 ∈ out then out else out ++ [s.2]) acc).Nodup ∧ ∀ z, z ∈ l.foldl (fun out s => if s.2 ∈ out then out else out ++ [s.2]) acc ↔ z ∈ acc ∨ ∃ s ∈ l, s.2 = z) := by
  induction l with
  | nil => intro acc h; exact ⟨h, fun z => by simp⟩
  | cons s t ih =>
    intro acc h
    simp only [List.foldl_cons]
    by_cases hm : s.2 ∈ acc
    · rw [if_pos hm]
      obtain ⟨h1, h2⟩ := ih acc h
      refine ⟨h1, fun z => ?_⟩
      rw [h2]
      constructor
      · rintro (h3 | ⟨u, h3, h4⟩)
        · exact .inl h3
        · exact .inr ⟨u, List.mem_cons_of_mem _ h3, h4⟩
      · rintro (h3 | ⟨u, h3, h4⟩)
        · exact .inl h3
        · rcases List.mem_cons.1 h3 with rfl | h3
          · exact .inl (h4 ▸ hm)
          · exact .inr ⟨u, h3, h4⟩
    · rw [if_neg hm]
      obtain ⟨h1, h2⟩ := ih (acc ++ [s.2]) (by
        rw [List.nodup_append]
        refine ⟨h, by simp, fun a ha b hb => ?_⟩
        simp at hb
        subst hb
        rintro rfl
        exact hm ha)
      refine ⟨h1, fun z => ?_⟩
      rw [h2]
      constructor
      · rintro (h3 | ⟨u, h3, h4⟩)
        · rcases List.mem_append.1 h3 with h3 | h3
          · exact .inl h3
          · simp at h3; exact .inr ⟨s, List.mem_cons_self, h3.symm⟩
        · exact .inr ⟨u, List.mem_cons_of_mem _ h3, h4⟩
      · rintro (h3 | ⟨u, h3, h4⟩)
        · exact .inl (List.mem_append_left _ h3)
        · rcases List.mem_cons.1 h3 with rfl | h3
          · exact .inl (by simp [h4])
          · exact .inr ⟨u, h3, h4⟩
theorem dedM_nodup (l : List (Int × Int)) : (dedM l).Nodup := (ded_go l [] (by simp)).1
theorem dedM_mem (l : List (Int × Int)) (z : Int) : z ∈ dedM l ↔ ∃ s ∈ l, s.2 = z := by
  have := (ded_go l [] (by simp)).2 z
  simpa [dedM] using this
theorem rotL_mem {α : Type} (l : List α) (f : Nat) (x : α) : x ∈ rotL l f ↔ x ∈ l := by
  unfold rotL
  rw [List.mem_append, or_comm, ← List.mem_append, List.take_append_drop]
theorem walkM_nodup (ws : List Nat) (z : Int) : (walkM ws z).Nodup := dedM_nodup _
theorem walkM_mem (ws : List Nat) (z : Int) (b : Nat) (hb : b < 12) : (b : Int) ∈ walkM ws z ↔ 0 < ws.getD b 0 := by
  unfold walkM
  rw [dedM_mem]
  have hc := cnt_ring ws b hb
  constructor
  · rintro ⟨s, h1, h2⟩
    rw [rotL_mem] at h1
    have : 0 < (ringM ws).countP (isB b) := List.countP_pos_iff.2 ⟨s, h1, by simp [isB, h2]⟩
    omega
  · intro h
    have : 0 < (ringM ws).countP (isB b) := by omega
    obtain ⟨s, h1, h2⟩ := List.countP_pos_iff.1 this
    exact ⟨s, (rotL_mem _ _ _).2 h1, by simpa [isB] using h2⟩
theorem walkM_bd (ws : List Nat) (z x : Int) (h : x ∈ walkM ws z) : 0 ≤ x ∧ x < 12 := by
  obtain ⟨s, h1, rfl⟩ := (dedM_mem _ _).1 h
  exact ringM_mem ((rotL_mem _ _ _).1 h1)
theorem walkM_len (ws : List Nat) (h : WOk ws) (z : Int) : (walkM ws z).length ≤ 384 := by
  have h1 := dedM_len (rotL (ringM ws) (fromM z (ringM ws)))
  rw [rotL_len (ringM ws) (fromM z (ringM ws)) (lowB_le _ _)] at h1
  have := ringM_len ws h
  unfold walkM
  omega
def zP (z : Int) : Int × Int := (0, z)
def metM (ws : List Nat) : List Int := (List.range 12).map fun b => if 0 < ws.getD b 0 then 1 else 0
theorem cnt_zP (b : Nat) : ∀ l : List Int, l.Nodup → (l.map zP).countP (isB b) = if (b : Int) ∈ l then 1 else 0
  | [], _ => by simp
  | z :: t, h => by
    obtain ⟨h1, h2⟩ := List.nodup_cons.1 h
    rw [List.map_cons, List.countP_cons, cnt_zP b t h2]
    by_cases e : z = (b : Int)
    · subst e
      simp [isB, zP, h1]
    · have : ¬ (b : Int) = z := fun h => e h.symm
      simp [isB, zP, e, this]
theorem cnt_met (ws : List Nat) (z : Int) : cntS ((walkM ws z).map zP) = metM ws := by
  unfold cntS metM
  refine List.map_congr_left fun b hb => ?_
  rw [cnt_zP b _ (walkM_nodup ws z)]
  have := walkM_mem ws z b (List.mem_range.1 hb)
  by_cases h : 0 < ws.getD b 0
  · rw [if_pos h, if_pos (this.2 h)]; rfl
  · rw [if_neg h, if_neg (fun hm => h (this.1 hm))]; rfl
theorem rall_code : cfun Try.prog [] 7 = some ⟨(.seq (.region 0 [⟨(some 4), (.mov (.k (.bool false))), none⟩]) (.seq (.region 1 [⟨(some 14), (.mov (.t 0)), none⟩, ⟨(some 15), (.call 18 [(.t 14)]), none⟩, ⟨(some 13), (.mov (.t 15)), none⟩, ⟨(some 16), (.ext (.t 13) 0), none⟩, ⟨(some 17), (.ext (.t 13) 1), none⟩, ⟨(some 18), (.ext (.t 13) 2), none⟩, ⟨(some 5), (.alloc [.nil0]), none⟩, ⟨(some 6), (.alloc [(.int .i64 0), (.int .i64 0), (.int .i64 0), (.int .i64 0), (.int .i64 0), (.int .i64 0), (.int .i64 0), (.int .i64 0), (.int .i64 0), (.int .i64 0), (.int .i64 0), (.int .i64 0)]), none⟩, ⟨none, (.store 1 (.t 5) (.t 16)), none⟩, ⟨none, (.store 12 (.t 6) (.t 17)), none⟩, ⟨(some 7), (.mov (.t 18)), none⟩]) (.seq (.draw 2 (.one true ⟨(some 20), (.load true 1 (.t 5)), none⟩ (.one true ⟨(some 21), (.mov (.t 1)), none⟩ (.one true ⟨(some 22), (.call 11 [(.t 21), (.k (.int .i64 4294967296))]), none⟩ (.one true ⟨(some 23), (.call 19 [(.t 20), (.t 22)]), none⟩ (.one true ⟨(some 19), (.mov (.t 23)), none⟩ (.one true ⟨(some 24), (.ext (.t 19) 0), none⟩ (.one true ⟨(some 25), (.ext (.t 19) 1), none⟩ (.one true ⟨(some 8), (.mov (.t 24)), none⟩ (.one true ⟨(some 9), (.mov (.t 25)), none⟩ .done)))))))))) (.seq (.seq (.region 3 [⟨(some 26), (.mov (.t 7)), none⟩, ⟨(some 27), (.not (.t 26)), none⟩, ⟨(some 28), (.mov (.t 27)), none⟩, ⟨(some 29), (.mov (.t 9)), (some (28, false))⟩, ⟨(some 30), (.bin .neq (.t 29) (.k (.int .i64 0))), (some (28, false))⟩, ⟨(some 31), (.pick (.t 28) (.k (.bool true)) (.t 30)), none⟩]) (.cond 31 (.seq (.region 4 [⟨(some 4), (.mov (.k (.bool false))), none⟩]) .ret) .skip)) (.seq (.region 5 [⟨(some 10), (.alloc [(.int .i64 0), (.int .i64 0), (.int .i64 0), (.int .i64 0), (.int .i64 0), (.int .i64 0), (.int .i64 0), (.int .i64 0), (.int .i64 0), (.int .i64 0), (.int .i64 0), (.int .i64 0)]), none⟩]) (.seq (.seq (.region 6 [⟨(some 11), (.mov (.k (.int .i64 0))), none⟩]) (.block 0 (.loop (.seq (.seq (.region 7 [⟨(some 32), (.mov (.t 11)), none⟩, ⟨(some 33), (.mov (.t 8)), none⟩, ⟨(some 34), (.len (.t 33)), none⟩, ⟨(some 35), (.bin .lss (.t 32) (.t 34)), none⟩]) (.cond 35 .skip (.exit 0))) (.seq (.block 1 (.seq (.seq (.region 9 [⟨(some 38), (.mov (.t 8)), none⟩, ⟨(some 39), (.mov (.t 11)), none⟩, ⟨(some 40), (.iads 1 (.t 38) (.t 39)), none⟩, ⟨(some 41), (.load false 1 (.t 40)), none⟩, ⟨(some 42), (.bin .lss (.t 41) (.k (.int .i64 0))), none⟩, ⟨(some 43), (.mov (.t 42)), none⟩, ⟨(some 44), (.mov (.t 8)), (some (43, false))⟩, ⟨(some 45), (.mov (.t 11)), (some (43, false))⟩, ⟨(some 46), (.iads 1 (.t 44) (.t 45)), (some (43, false))⟩, ⟨(some 47), (.load false 1 (.t 46)), (some (43, false))⟩, ⟨(some 48), (.bin .geq (.t 47) (.k (.int .i64 12))), (some (43, false))⟩, ⟨(some 49), (.pick (.t 43) (.k (.bool true)) (.t 48)), none⟩]) (.cond 49 (.seq (.region 10 [⟨(some 4), (.mov (.k (.bool false))), none⟩]) .ret) .skip)) (.region 11 [⟨(some 50), (.mov (.t 8)), none⟩, ⟨(some 51), (.mov (.t 11)), none⟩, ⟨(some 52), (.iads 1 (.t 50) (.t 51)), none⟩, ⟨(some 53), (.load false 1 (.t 52)), none⟩, ⟨(some 54), (.iada 12 1 (.t 10) (.t 53)), none⟩, ⟨(some 55), (.load false 1 (.t 54)), none⟩, ⟨(some 56), (.bin .add (.t 55) (.k (.int .i64 1))), none⟩, ⟨(some 57), (.iada 12 1 (.t 10) (.t 53)), none⟩, ⟨none, (.store 1 (.t 57) (.t 56)), none⟩]))) (.region 8 [⟨(some 36), (.mov (.t 11)), none⟩, ⟨(some 37), (.bin .add (.t 36) (.k (.int .i64 1))), none⟩, ⟨(some 11), (.mov (.t 37)), none⟩])))))) (.seq (.seq (.region 12 [⟨(some 12), (.mov (.k (.int .i64 0))), none⟩]) (.block 2 (.loop (.seq (.seq (.region 13 [⟨(some 58), (.mov (.t 12)), none⟩, ⟨(some 59), (.bin .lss (.t 58) (.k (.int .i64 12))), none⟩]) (.cond 59 .skip (.exit 2))) (.seq (.block 3 (.seq (.region 15 [⟨(some 62), (.mov (.t 12)), none⟩, ⟨(some 63), (.iada 12 1 (.t 6) (.t 62)), none⟩, ⟨(some 64), (.load false 1 (.t 63)), none⟩, ⟨(some 65), (.bin .gtr (.t 64) (.k (.int .i64 0))), none⟩, ⟨(some 66), (.mov (.t 65)), none⟩, ⟨(some 67), (.mov (.t 12)), (some (66, true))⟩, ⟨(some 68), (.iada 12 1 (.t 10) (.t 67)), (some (66, true))⟩, ⟨(some 69), (.load false 1 (.t 68)), (some (66, true))⟩, ⟨(some 70), (.bin .neq (.t 69) (.k (.int .i64 1))), (some (66, true))⟩, ⟨(some 71), (.pick (.t 66) (.t 70) (.k (.bool false))), none⟩, ⟨(some 72), (.mov (.t 71)), none⟩, ⟨(some 73), (.mov (.t 12)), (some (72, false))⟩, ⟨(some 74), (.iada 12 1 (.t 6) (.t 73)), (some (72, false))⟩, ⟨(some 75), (.load false 1 (.t 74)), (some (72, false))⟩, ⟨(some 76), (.bin .eql (.t 75) (.k (.int .i64 0))), (some (72, false))⟩, ⟨(some 77), (.mov (.t 76)), (some (72, false))⟩, ⟨(some 78), (.mov (.t 12)), (some (77, true))⟩, ⟨(some 79), (.iada 12 1 (.t 10) (.t 78)), (some (77, true))⟩, ⟨(some 80), (.load false 1 (.t 79)), (some (77, true))⟩, ⟨(some 81), (.bin .neq (.t 80) (.k (.int .i64 0))), (some (77, true))⟩, ⟨(some 82), (.pick (.t 77) (.t 81) (.k (.bool false))), (some (72, false))⟩, ⟨(some 83), (.pick (.t 72) (.k (.bool true)) (.t 82)), none⟩]) (.cond 83 (.seq (.region 16 [⟨(some 4), (.mov (.k (.bool false))), none⟩]) .ret) .skip))) (.region 14 [⟨(some 60), (.mov (.t 12)), none⟩, ⟨(some 61), (.bin .add (.t 60) (.k (.int .i64 1))), none⟩, ⟨(some 12), (.mov (.t 61)), none⟩])))))) (.seq (.region 17 [⟨(some 4), (.mov (.k (.bool true))), none⟩]) .ret)))))))), [(.t 4)], 84⟩ := by kernel_rfl
theorem rall_pf (l : List (List Int)) (key : Int) (hl : l.length ≤ Go.maxLen) (hr : ∀ r ∈ l, r.length = 2 ∧ ∀ z ∈ r, InR z) (ik : InR key) :
    PF Try.prog 7 [.rows 2 (l.map fun r => r.map I), I key] (.bool true) := by
  have hrg := ringed_pf l hl hr
  have hws : WOk (rgL l) := rgL_inv l 20
  generalize rgL l = ws at hrg hws
  have p1 := picked_pf key 4294967296 ik (by omega)
  have q1 := pickedZ_range key 4294967296 (by omega)
  obtain ⟨k, hk⟩ : ∃ k, k = pickedZ key 4294967296 := ⟨_, rfl⟩
  rw [← hk] at p1 q1
  have hwk := rwalk_pf ws hws k (by omega) (by omega)
  have hmet := cnt_met ws (keyN k.toNat : Nat)
  have hbd := walkM_bd ws (keyN k.toNat : Nat)
  have hwl := walkM_len ws hws (keyN k.toNat : Nat)
  generalize walkM ws (keyN k.toNat : Nat) = wk at hwk hmet hbd hwl
  have hl12 := hws.len
  have hs0 := spl12 hws.len
  have htw : (ws.map fun w : Nat => I (w : Int)).take 12 = ws.map fun w : Nat => I (w : Int) := List.take_of_length_le (by simp [hl12])
  refine PF.of follows_ok rall_code (by simp) (by simp [argOk]) (by simp [noV, noC]) fun B hBN hB0 => acode_sound [0, 1, 4, 5, 6, 7, 8, 9, 10, 11, 12, 31, 35, 49, 59, 83] [] _ _ _ ?_
  repeat' (first
    | simp [AK_at, acode_seq, acode_region, acode_draw, acode_cond, ↓CB_t, ↓CB_f, CB_u, acode_block, acode_loop, acode_exit, acode_scope, acode_ret, acode_skip, seqQ_n, seqQ_e, seqQ_r, blockQ_n, blockQ_e, blockQ_r, TK_at, OK_at, SK_at, aops_nil, aops_cons, asch_done, asch_one, asch_two, asch_top, astep, aop_eq, isLoud, aloud, aloud1, isWrite, qv, evS, strip, gof, eget, hget, putO, eput, herase, oks, opnds, gS, afin, afin0, binD, arith, D.cells, takeD, fillD, keep, trim, envOf, Fin, aresl, aresv, resD, argOk, pickV, isP, deq, deqs, boundD, slD, lenD, isT, isSl, ptrIds, chunks, mn_min, mx_max, D.cells, splice_one, splice_more, Rbr_at, Rfr_at, frR, frV, frC, flatC, brwR, brwV, brwC, omap, leR, leV, leC, leL, leVL, hl12, hs0, htw]
    | (refine WCall.pf (hrg) ?_ ?_ ?_ ?_; (focus (simp [oks, opnds, gS, gof, eget]; done)); (focus (simp [omap, brwV, brwC, evS, eget, strip, hget, leVL, leV, leC, leL, hl12, hs0, htw]; done)); (focus (simp [noV, noC, flatR, flatV, flatC, evS, eget, strip, hl12, hs0, htw]; done)))
    | (refine ⟨WCall.pf (hrg) ?_ ?_ ?_ ?_, ?_⟩; (focus (simp [oks, opnds, gS, gof, eget]; done)); (focus (simp [omap, brwV, brwC, evS, eget, strip, hget, leVL, leV, leC, leL, hl12, hs0, htw]; done)); (focus (simp [noV, noC, flatR, flatV, flatC, evS, eget, strip, hl12, hs0, htw]; done)))
    | (refine WCall.pf (p1) ?_ ?_ ?_ ?_; (focus (simp [oks, opnds, gS, gof, eget]; done)); (focus (simp [omap, brwV, brwC, evS, eget, strip, hget, leVL, leV, leC, leL, hl12, hs0, htw]; done)); (focus (simp [noV, noC, flatR, flatV, flatC, evS, eget, strip, hl12, hs0, htw]; done)))
    | (refine ⟨WCall.pf (p1) ?_ ?_ ?_ ?_, ?_⟩; (focus (simp [oks, opnds, gS, gof, eget]; done)); (focus (simp [omap, brwV, brwC, evS, eget, strip, hget, leVL, leV, leC, leL, hl12, hs0, htw]; done)); (focus (simp [noV, noC, flatR, flatV, flatC, evS, eget, strip, hl12, hs0, htw]; done)))
    | (refine WCall.pf (hwk) ?_ ?_ ?_ ?_; (focus (simp [oks, opnds, gS, gof, eget]; done)); (focus (simp [omap, brwV, brwC, evS, eget, strip, hget, leVL, leV, leC, leL, hl12, hs0, htw]; done)); (focus (simp [noV, noC, flatR, flatV, flatC, evS, eget, strip, hl12, hs0, htw]; done)))
    | (refine ⟨WCall.pf (hwk) ?_ ?_ ?_ ?_, ?_⟩; (focus (simp [oks, opnds, gS, gof, eget]; done)); (focus (simp [omap, brwV, brwC, evS, eget, strip, hget, leVL, leV, leC, leL, hl12, hs0, htw]; done)); (focus (simp [noV, noC, flatR, flatV, flatC, evS, eget, strip, hl12, hs0, htw]; done)))
    | (with_reducible refine And.intro (And.intro ?_ ?_) ?_)
    | fail)
  obtain ⟨wp, hwp⟩ : ∃ wp, wp = wk.map zP := ⟨_, rfl⟩
  have hwr : (wk.map fun z => [I z]) = wp.map fun s : Int × Int => [I s.2] := by rw [hwp, List.map_map]; rfl
  have hwl2 : wp.length ≤ 384 := by rw [hwp]; simpa using hwl
  have hbd2 : ∀ s ∈ wp, 0 ≤ s.2 ∧ s.2 < 12 := by
    intro s hs
    rw [hwp] at hs
    obtain ⟨z, hz, rfl⟩ := List.mem_map.1 hs
    exact hbd z hz
  rw [← hwp] at hmet
  simp only [hwr]
  clear hwr hwp
  refine W.loopS (fun i : Nat => ⟨[(11, I i), (10, .ptr 2 0), (8, .rows 1 (wp.map fun s : Int × Int => [I s.2])), (6, .ptr 1 0), (4, .bool false)], [(2, .cells ((cntS (wp.take i)).map I)), (1, .cells (ws.map fun w : Nat => I (w : Int))), (0, .cells [.rows 2 ((ringM ws).map spE)])], 3⟩)
    (fun n i => n = wp.length - i ∧ i ≤ wp.length) ?_ ?_
  · exact ⟨_, 0, (Gh.ren [0, 1, 2] (by simp [hB0]) (by simp [hB0] <;> decide) (by simp [eget, rnS, rnR, rnV, rnC, LtS, LtR, LtV, LtC, lget, cntS, List.range_succ, rnN]) (by simp [hget, rnO, rnC, LtO, LtC, lget, cntS, List.range_succ, rnN]) (.inl (by simp [lget, cntS, List.range_succ, rnN]))), rfl, by omega⟩
  rintro n i ⟨hn, hi⟩
  refine acode_sound [0, 1, 4, 5, 6, 7, 8, 9, 10, 11, 12, 31, 35, 49, 59, 83] [] _ _ _ ?_
  by_cases hlt : i < wp.length
  · obtain ⟨o, ho⟩ : ∃ o, o = wp[i] := ⟨_, rfl⟩
    have hmm := hbd2 o (ho ▸ List.getElem_mem hlt)
    obtain ⟨b, hb⟩ : ∃ b : Nat, o.2 = b := ⟨o.2.toNat, by omega⟩
    have hb2 : b < 12 := by omega
    have hbc := cntS_bd (wp.take i) b
    have hll : (wp.take i).length ≤ 384 := by simp; omega
    have hst := cntS_succ wp i hlt b (ho ▸ hb) hb2
    have hlc : (cntS (wp.take i)).length = 12 := by simp [cntS]
    obtain ⟨c, hc⟩ : ∃ c, c = (wp.take i).countP (isB b) := ⟨_, rfl⟩
    rw [← hc] at hst hbc
    have hat : (cntS (wp.take i))[b]? = some (c : Int) := by simp [cntS, hc, List.getElem?_range, hb2]
    have ii : InR ((i : Int) + 1) := inG (by omega) (by omega)
    have ic : InR ((c : Int) + 1) := inG (by omega) (by omega)
    have c1 : ¬ (b : Int) < 0 := by omega
    have c2 : ¬ (12 : Int) ≤ b := by omega
    have hb3 : (b : Int) < 12 := by omega
    have hb4 : b ≤ 11 := by omega
    have hb5 : 0 < 12 - b := by omega
    have hspl := spliceI (cntS (wp.take i)) b ((c : Int) + 1) (by rw [hlc]; exact hb2)
    rw [← hst] at hspl
    repeat' (first
      | simp [AK_at, acode_seq, acode_region, acode_draw, acode_cond, ↓CB_t, ↓CB_f, CB_u, acode_block, acode_loop, acode_exit, acode_scope, acode_ret, acode_skip, seqQ_n, seqQ_e, seqQ_r, blockQ_n, blockQ_e, blockQ_r, TK_at, OK_at, SK_at, aops_nil, aops_cons, asch_done, asch_one, asch_two, asch_top, astep, aop_eq, isLoud, aloud, aloud1, isWrite, qv, evS, strip, gof, eget, hget, putO, eput, herase, oks, opnds, gS, afin, afin0, binD, arith, D.cells, takeD, fillD, keep, trim, envOf, Fin, aresl, aresv, resD, argOk, pickV, isP, deq, deqs, boundD, slD, lenD, isT, isSl, ptrIds, chunks, mn_min, mx_max, D.cells, splice_one, splice_more, Rbr_at, Rfr_at, frR, frV, frC, flatC, brwR, brwV, brwC, omap, leR, leV, leC, leL, leVL, hlt, ← ho, hb, hat, hlc, ii, ic, c1, c2, hspl, hb3, hb4, hb5]
      | (refine WCall.pf (hwk) ?_ ?_ ?_ ?_; (focus (simp [oks, opnds, gS, gof, eget]; done)); (focus (simp [omap, brwV, brwC, evS, eget, strip, hget, leVL, leV, leC, leL, hlt, ← ho, hb, hat, hlc, ii, ic, c1, c2, hspl, hb3, hb4, hb5]; done)); (focus (simp [noV, noC, flatR, flatV, flatC, evS, eget, strip, hlt, ← ho, hb, hat, hlc, ii, ic, c1, c2, hspl, hb3, hb4, hb5]; done)))
      | (refine ⟨WCall.pf (hwk) ?_ ?_ ?_ ?_, ?_⟩; (focus (simp [oks, opnds, gS, gof, eget]; done)); (focus (simp [omap, brwV, brwC, evS, eget, strip, hget, leVL, leV, leC, leL, hlt, ← ho, hb, hat, hlc, ii, ic, c1, c2, hspl, hb3, hb4, hb5]; done)); (focus (simp [noV, noC, flatR, flatV, flatC, evS, eget, strip, hlt, ← ho, hb, hat, hlc, ii, ic, c1, c2, hspl, hb3, hb4, hb5]; done)))
      | (with_reducible refine And.intro (And.intro ?_ ?_) ?_)
      | fail)
    all_goals exact ⟨_, i + 1, (Gh.ren [0, 1, 2] (by simp [hB0]) (by simp [hB0] <;> decide) (by simp [eget, rnS, rnR, rnV, rnC, LtS, LtR, LtV, LtC, lget, rnI, rnN]) (by simp [hget, rnO, rnC, LtO, LtC, lget, rnI, rnN]) (.inl (by simp [lget, rnI, rnN]))), by omega, rfl, by omega⟩
  · obtain rfl : i = wp.length := by omega
    simp only [List.take_length, hmet]
    simp [AK_at, acode_seq, acode_region, acode_draw, acode_cond, ↓CB_t, ↓CB_f, CB_u, acode_block, acode_loop, acode_exit, acode_scope, acode_ret, acode_skip, seqQ_n, seqQ_e, seqQ_r, blockQ_n, blockQ_e, blockQ_r, TK_at, OK_at, SK_at, aops_nil, aops_cons, asch_done, asch_one, asch_two, asch_top, astep, aop_eq, isLoud, aloud, aloud1, isWrite, qv, evS, strip, gof, eget, hget, putO, eput, herase, oks, opnds, gS, afin, afin0, binD, arith, D.cells, takeD, fillD, keep, trim, envOf, Fin, aresl, aresv, resD, argOk, pickV, isP, deq, deqs, boundD, slD, lenD, isT, isSl, ptrIds, chunks, mn_min, mx_max, D.cells, splice_one, splice_more, Rbr_at, Rfr_at, frR, frV, frC, flatC, brwR, brwV, brwC, omap, leR, leV, leC, leL, leVL]
    refine W.loopS (fun k : Nat => ⟨[(12, I k), (10, .ptr 2 0), (6, .ptr 1 0), (4, .bool false)], [(2, .cells ((metM ws).map I)), (1, .cells (ws.map fun w : Nat => I (w : Int)))], 3⟩)
      (fun n k => n = 12 - k ∧ k ≤ 12) ?_ ?_
    · exact ⟨_, 0, (Gh.ren [0, 1, 2] (by simp [hB0]) (by simp [hB0] <;> decide) (by simp [eget, rnS, rnR, rnV, rnC, LtS, LtR, LtV, LtC, lget, rnI, rnN]) (by simp [hget, rnO, rnC, LtO, LtC, lget, rnI, rnN]) (.inl (by simp [lget, rnI, rnN]))), rfl, by omega⟩
    rintro n k ⟨hn, hk⟩
    refine acode_sound [0, 1, 4, 5, 6, 7, 8, 9, 10, 11, 12, 31, 35, 49, 59, 83] [] _ _ _ ?_
    have hlm : (metM ws).length = 12 := by simp [metM]
    by_cases hk12 : k < 12
    · obtain ⟨w, hw⟩ : ∃ w, w = ws.getD k 0 := ⟨_, rfl⟩
      have hat : ws[k]? = some w := by
        rw [List.getD_eq_getElem?_getD, List.getElem?_eq_getElem (by omega)] at hw
        rw [List.getElem?_eq_getElem (by omega)]
        simpa using hw.symm
      have hat0 : (metM ws)[k]? = some (if 0 < w then 1 else 0) := by simp [metM, List.getElem?_range, hk12, hat]
      have ii : InR ((k : Int) + 1) := inG (by omega) (by omega)
      have hb1 : (k : Int) < 12 := by omega
      have hb2 : k ≤ 11 := by omega
      have hb3 : 0 < 12 - k := by omega
      by_cases h0 : 0 < w
      · have h1 : ¬ w = 0 := by omega
        rw [if_pos h0] at hat0
        repeat' (first
          | simp [AK_at, acode_seq, acode_region, acode_draw, acode_cond, ↓CB_t, ↓CB_f, CB_u, acode_block, acode_loop, acode_exit, acode_scope, acode_ret, acode_skip, seqQ_n, seqQ_e, seqQ_r, blockQ_n, blockQ_e, blockQ_r, TK_at, OK_at, SK_at, aops_nil, aops_cons, asch_done, asch_one, asch_two, asch_top, astep, aop_eq, isLoud, aloud, aloud1, isWrite, qv, evS, strip, gof, eget, hget, putO, eput, herase, oks, opnds, gS, afin, afin0, binD, arith, D.cells, takeD, fillD, keep, trim, envOf, Fin, aresl, aresv, resD, argOk, pickV, isP, deq, deqs, boundD, slD, lenD, isT, isSl, ptrIds, chunks, mn_min, mx_max, D.cells, splice_one, splice_more, Rbr_at, Rfr_at, frR, frV, frC, flatC, brwR, brwV, brwC, omap, leR, leV, leC, leL, leVL, hl12, hlm, hat, hat0, ii, hb1, hb2, hb3, h0, h1]
          | (refine WCall.pf (hwk) ?_ ?_ ?_ ?_; (focus (simp [oks, opnds, gS, gof, eget]; done)); (focus (simp [omap, brwV, brwC, evS, eget, strip, hget, leVL, leV, leC, leL, hl12, hlm, hat, hat0, ii, hb1, hb2, hb3, h0, h1]; done)); (focus (simp [noV, noC, flatR, flatV, flatC, evS, eget, strip, hl12, hlm, hat, hat0, ii, hb1, hb2, hb3, h0, h1]; done)))
          | (refine ⟨WCall.pf (hwk) ?_ ?_ ?_ ?_, ?_⟩; (focus (simp [oks, opnds, gS, gof, eget]; done)); (focus (simp [omap, brwV, brwC, evS, eget, strip, hget, leVL, leV, leC, leL, hl12, hlm, hat, hat0, ii, hb1, hb2, hb3, h0, h1]; done)); (focus (simp [noV, noC, flatR, flatV, flatC, evS, eget, strip, hl12, hlm, hat, hat0, ii, hb1, hb2, hb3, h0, h1]; done)))
          | (with_reducible refine And.intro (And.intro ?_ ?_) ?_)
          | fail)
        all_goals exact ⟨_, k + 1, (Gh.ren [0, 1, 2] (by simp [hB0]) (by simp [hB0] <;> decide) (by simp [eget, rnS, rnR, rnV, rnC, LtS, LtR, LtV, LtC, lget, rnI, rnN]) (by simp [hget, rnO, rnC, LtO, LtC, lget, rnI, rnN]) (.inl (by simp [lget, rnI, rnN]))), by omega, rfl, by omega⟩
      · have h1 : w = 0 := by omega
        rw [if_neg h0] at hat0
        repeat' (first
          | simp [AK_at, acode_seq, acode_region, acode_draw, acode_cond, ↓CB_t, ↓CB_f, CB_u, acode_block, acode_loop, acode_exit, acode_scope, acode_ret, acode_skip, seqQ_n, seqQ_e, seqQ_r, blockQ_n, blockQ_e, blockQ_r, TK_at, OK_at, SK_at, aops_nil, aops_cons, asch_done, asch_one, asch_two, asch_top, astep, aop_eq, isLoud, aloud, aloud1, isWrite, qv, evS, strip, gof, eget, hget, putO, eput, herase, oks, opnds, gS, afin, afin0, binD, arith, D.cells, takeD, fillD, keep, trim, envOf, Fin, aresl, aresv, resD, argOk, pickV, isP, deq, deqs, boundD, slD, lenD, isT, isSl, ptrIds, chunks, mn_min, mx_max, D.cells, splice_one, splice_more, Rbr_at, Rfr_at, frR, frV, frC, flatC, brwR, brwV, brwC, omap, leR, leV, leC, leL, leVL, hl12, hlm, hat, hat0, ii, hb1, hb2, hb3, h0, h1]
          | (refine WCall.pf (hwk) ?_ ?_ ?_ ?_; (focus (simp [oks, opnds, gS, gof, eget]; done)); (focus (simp [omap, brwV, brwC, evS, eget, strip, hget, leVL, leV, leC, leL, hl12, hlm, hat, hat0, ii, hb1, hb2, hb3, h0, h1]; done)); (focus (simp [noV, noC, flatR, flatV, flatC, evS, eget, strip, hl12, hlm, hat, hat0, ii, hb1, hb2, hb3, h0, h1]; done)))
          | (refine ⟨WCall.pf (hwk) ?_ ?_ ?_ ?_, ?_⟩; (focus (simp [oks, opnds, gS, gof, eget]; done)); (focus (simp [omap, brwV, brwC, evS, eget, strip, hget, leVL, leV, leC, leL, hl12, hlm, hat, hat0, ii, hb1, hb2, hb3, h0, h1]; done)); (focus (simp [noV, noC, flatR, flatV, flatC, evS, eget, strip, hl12, hlm, hat, hat0, ii, hb1, hb2, hb3, h0, h1]; done)))
          | (with_reducible refine And.intro (And.intro ?_ ?_) ?_)
          | fail)
        all_goals exact ⟨_, k + 1, (Gh.ren [0, 1, 2] (by simp [hB0]) (by simp [hB0] <;> decide) (by simp [eget, rnS, rnR, rnV, rnC, LtS, LtR, LtV, LtC, lget, rnI, rnN]) (by simp [hget, rnO, rnC, LtO, LtC, lget, rnI, rnN]) (.inl (by simp [lget, rnI, rnN]))), by omega, rfl, by omega⟩
    · obtain rfl : k = 12 := by omega
      repeat' (first
        | simp [AK_at, acode_seq, acode_region, acode_draw, acode_cond, ↓CB_t, ↓CB_f, CB_u, acode_block, acode_loop, acode_exit, acode_scope, acode_ret, acode_skip, seqQ_n, seqQ_e, seqQ_r, blockQ_n, blockQ_e, blockQ_r, TK_at, OK_at, SK_at, aops_nil, aops_cons, asch_done, asch_one, asch_two, asch_top, astep, aop_eq, isLoud, aloud, aloud1, isWrite, qv, evS, strip, gof, eget, hget, putO, eput, herase, oks, opnds, gS, afin, afin0, binD, arith, D.cells, takeD, fillD, keep, trim, envOf, Fin, aresl, aresv, resD, argOk, pickV, isP, deq, deqs, boundD, slD, lenD, isT, isSl, ptrIds, chunks, mn_min, mx_max, D.cells, splice_one, splice_more, Rbr_at, Rfr_at, frR, frV, frC, flatC, brwR, brwV, brwC, omap, leR, leV, leC, leL, leVL, ]
        | (refine WCall.pf (hwk) ?_ ?_ ?_ ?_; (focus (simp [oks, opnds, gS, gof, eget]; done)); (focus (simp [omap, brwV, brwC, evS, eget, strip, hget, leVL, leV, leC, leL, ]; done)); (focus (simp [noV, noC, flatR, flatV, flatC, evS, eget, strip, ]; done)))
        | (refine ⟨WCall.pf (hwk) ?_ ?_ ?_ ?_, ?_⟩; (focus (simp [oks, opnds, gS, gof, eget]; done)); (focus (simp [omap, brwV, brwC, evS, eget, strip, hget, leVL, leV, leC, leL, ]; done)); (focus (simp [noV, noC, flatR, flatV, flatC, evS, eget, strip, ]; done)))
        | (with_reducible refine And.intro (And.intro ?_ ?_) ?_)
        | fail)
end Go.Proofs.Ytajimebannjofaa

set_option linter.unusedSimpArgs false
set_option linter.unusedVariables false
set_option maxRecDepth 100000
set_option maxHeartbeats 4000000
namespace Go.Proofs.Ytajimebannjofaa
open Go.RowKit
def nq (q : Int × Int → Bool) (x : Int × Int) : Bool := !q x
theorem df_keep {l ys : List (Int × Int)} {q : Int × Int → Bool} {i j : Nat} (hl : ys.length = l.length) (hij : i < j) (hj : j < l.length) (h1 : ys.take i = (l.take j).filter (nq q)) (h2 : ys.drop j = l.drop j) (hq : q l[j] = false) :
    (ys.set i l[j]).take (i + 1) = (l.take (j + 1)).filter (nq q) ∧ (ys.set i l[j]).drop (j + 1) = l.drop (j + 1) := by
  constructor
  · rw [List.take_succ_eq_append_getElem (by simp; omega), List.take_succ_eq_append_getElem hj, List.filter_append, ← h1]
    simp [nq, hq, List.take_set_of_le]
  · rw [List.drop_set_of_lt (by omega)]
    have := congrArg (List.drop 1) h2
    rwa [List.drop_drop, List.drop_drop] at this
theorem df_drop {l ys : List (Int × Int)} {q : Int × Int → Bool} {i j : Nat} (hj : j < l.length) (h1 : ys.take i = (l.take j).filter (nq q)) (h2 : ys.drop j = l.drop j) (hq : q l[j] = true) :
    ys.take i = (l.take (j + 1)).filter (nq q) ∧ ys.drop (j + 1) = l.drop (j + 1) := by
  constructor
  · rw [List.take_succ_eq_append_getElem hj, List.filter_append, ← h1]
    simp [nq, hq]
  · have := congrArg (List.drop 1) h2
    rwa [List.drop_drop, List.drop_drop] at this
theorem df_at {l ys : List (Int × Int)} {j : Nat} (hj : j < l.length) (hy : j < ys.length) (h2 : ys.drop j = l.drop j) : ys[j] = l[j] := by
  rw [List.drop_eq_getElem_cons hy, List.drop_eq_getElem_cons hj] at h2
  exact (List.cons.inj h2).1
theorem df_all {l : List (Int × Int)} {q : Int × Int → Bool} (h : idxZ q l = -1) : l.filter (nq q) = l :=
  List.filter_eq_self.2 fun x hx => by
    cases hq : q x with
    | false => simp [nq, hq]
    | true => have := idxZ_some q l ⟨x, hx, hq⟩; omega
theorem df_start {l : List (Int × Int)} {q : Int × Int → Bool} {i : Nat} (h : idxZ q l = i) : l.take i = (l.take (i + 1)).filter (nq q) := by
  obtain ⟨h2, hq, hb⟩ := idxZ_get q l (by omega)
  have e : (idxZ q l).toNat = i := by omega
  simp only [e] at h2 hq hb
  rw [List.take_succ_eq_append_getElem h2, List.filter_append, List.filter_eq_self.2 fun x hx => ?_]
  · simp [nq, hq]
  · obtain ⟨j, hj, rfl⟩ := List.mem_iff_getElem.1 hx
    rw [List.length_take] at hj
    rw [List.getElem_take]
    simp [nq, hb j (by omega)]
theorem spdf_code : cfun Try.prog [] 37 = some ⟨(.seq (.region 0 [⟨(some 4), (.mov (.k .nil0)), none⟩]) (.seq (.region 1 [⟨(some 8), (.mov (.t 0)), none⟩, ⟨(some 9), (.mov (.t 1)), none⟩, ⟨(some 10), (.call 56 [(.t 8), (.t 9)]), none⟩, ⟨(some 5), (.mov (.t 10)), none⟩]) (.seq (.seq (.region 2 [⟨(some 11), (.mov (.t 5)), none⟩, ⟨(some 12), (.bin .eql (.t 11) (.k (.int .i64 (-1)))), none⟩]) (.cond 12 (.seq (.region 3 [⟨(some 13), (.mov (.t 0)), none⟩, ⟨(some 4), (.mov (.t 13)), none⟩]) .ret) .skip)) (.seq (.seq (.region 4 [⟨(some 14), (.mov (.t 5)), none⟩, ⟨(some 15), (.bin .add (.t 14) (.k (.int .i64 1))), none⟩, ⟨(some 6), (.mov (.t 15)), none⟩]) (.block 0 (.loop (.seq (.seq (.region 5 [⟨(some 16), (.mov (.t 6)), none⟩, ⟨(some 17), (.mov (.t 0)), none⟩, ⟨(some 18), (.len (.t 17)), none⟩, ⟨(some 19), (.bin .lss (.t 16) (.t 18)), none⟩]) (.cond 19 .skip (.exit 0))) (.seq (.block 1 (.seq (.region 7 [⟨(some 22), (.mov (.t 0)), none⟩, ⟨(some 23), (.mov (.t 6)), none⟩, ⟨(some 24), (.iads 2 (.t 22) (.t 23)), none⟩, ⟨(some 25), (.load true 2 (.t 24)), none⟩, ⟨(some 7), (.alloc [(.int .i64 0), (.int .i64 0)]), none⟩, ⟨none, (.store 2 (.t 7) (.t 25)), none⟩]) (.seq (.region 8 [⟨(some 26), (.mov (.t 1)), none⟩, ⟨(some 27), (.load true 2 (.t 7)), none⟩, ⟨(some 28), (.callv (.t 26) [(.t 27)]), none⟩, ⟨(some 29), (.not (.t 28)), none⟩]) (.cond 29 (.seq (.region 9 [⟨(some 30), (.mov (.t 0)), none⟩, ⟨(some 31), (.mov (.t 5)), none⟩, ⟨(some 32), (.load true 2 (.t 7)), none⟩, ⟨(some 33), (.iads 2 (.t 30) (.t 31)), none⟩, ⟨none, (.store 2 (.t 33) (.t 32)), none⟩]) (.region 10 [⟨(some 34), (.mov (.t 5)), none⟩, ⟨(some 35), (.bin .add (.t 34) (.k (.int .i64 1))), none⟩, ⟨(some 5), (.mov (.t 35)), none⟩])) .skip)))) (.region 6 [⟨(some 20), (.mov (.t 6)), none⟩, ⟨(some 21), (.bin .add (.t 20) (.k (.int .i64 1))), none⟩, ⟨(some 6), (.mov (.t 21)), none⟩])))))) (.seq (.region 11 [⟨(some 36), (.mov (.t 0)), none⟩, ⟨(some 37), (.mov (.t 5)), none⟩, ⟨(some 38), (.slc 2 (.t 36) (some (.t 37)) none none), none⟩, ⟨none, (.xop 10 [2] [(.t 38)]), none⟩]) (.seq (.region 12 [⟨(some 39), (.mov (.t 0)), none⟩, ⟨(some 40), (.mov (.t 5)), none⟩, ⟨(some 41), (.slc 2 (.t 39) none (some (.t 40)) none), none⟩, ⟨(some 4), (.mov (.t 41)), none⟩]) .ret)))))), [(.t 4)], 42⟩ := by kernel_rfl
theorem spdf_hf (l : List (Int × Int)) (F : FuncId) (ds : List D) (q : Int × Int → Bool) (hl : l.length ≤ 1000000) (hF : ∀ s ∈ l, PF Try.prog F [.agg (spE s), .pc ds] (.bool (q s))) :
    HF Try.prog 37 [.own 0, .fn F [.pc ds]] [(0, .row 2 (l.map spE))] 1 (fun d H' nx' => (d = .own 0 ∧ H' = [(0, .row 2 ((l.filter (nq q)).map spE))] ∧ nx' = 1) ∨ ∃ W3, d = .sl 0 2 0 (l.filter (nq q)).length W3.length ∧ H' = [(0, .blk 2 W3)] ∧ nx' = 1 ∧ W3.take (l.filter (nq q)).length = (l.filter (nq q)).map spE ∧ ∀ f, W3.map (fun x => List.map (rnC f) x) = W3) := by
  have hix := spixf1_pf spE l F ds q hl (els_sp l) hF
  refine HF.of follows_ok spdf_code (by simp) (by simp [argOk]) (by simp [LtV, LtC]) fun B hBN hB0 => acode_sound [0, 1, 4, 5, 6, 7, 12, 19, 29] [11] _ _ _ ?_
  by_cases h : idxZ q l = -1
  · have hall : l.filter (nq q) = l := df_all h
    rw [hall]
    repeat' (first
      | simp [AK_at, acode_seq, acode_region, acode_draw, acode_cond, ↓CB_t, ↓CB_f, CB_u, acode_block, acode_loop, acode_exit, acode_scope, acode_ret, acode_skip, seqQ_n, seqQ_e, seqQ_r, blockQ_n, blockQ_e, blockQ_r, TK_at, OK_at, SK_at, aops_nil, aops_cons, asch_done, asch_one, asch_two, asch_top, astep, aop_eq, isLoud, aloud, aloud1, isWrite, qv, evS, strip, gof, eget, hget, putO, eput, herase, oks, opnds, gS, afin, afin0, binD, arith, D.cells, takeD, fillD, keep, trim, envOf, Fin, aresl, aresv, resD, argOk, pickV, isP, deq, deqs, boundD, slD, lenD, isT, isSl, ptrIds, chunks, mn_min, mx_max, D.cells, splice_one, splice_more, Rbr_at, Rfr_at, frR, frV, frC, flatC, brwR, brwV, brwC, omap, leR, leV, leC, leL, leVL, h]
      | (refine WCall.pf (hix) ?_ ?_ ?_ ?_; (focus (simp [oks, opnds, gS, gof, eget]; done)); (focus (simp [omap, brwV, brwC, evS, eget, strip, hget, leVL, leV, leC, leL, h]; done)); (focus (simp [noV, noC, flatR, flatV, flatC, evS, eget, strip, h]; done)))
      | (refine ⟨WCall.pf (hix) ?_ ?_ ?_ ?_, ?_⟩; (focus (simp [oks, opnds, gS, gof, eget]; done)); (focus (simp [omap, brwV, brwC, evS, eget, strip, hget, leVL, leV, leC, leL, h]; done)); (focus (simp [noV, noC, flatR, flatV, flatC, evS, eget, strip, h]; done)))
      | (with_reducible refine And.intro (And.intro ?_ ?_) ?_)
      | fail)
  · have hlo := idxZ_lo q l
    have h0 : 0 ≤ idxZ q l := by omega
    obtain ⟨i0, hi0⟩ : ∃ i0 : Nat, idxZ q l = i0 := ⟨(idxZ q l).toNat, by omega⟩
    rw [hi0] at hix
    have hil : i0 < l.length := by omega
    have ii : InR ((i0 : Int) + 1) := inG (by omega) (by omega)
    have hne : ¬ (i0 : Int) = -1 := by omega
    repeat' (first
      | simp [AK_at, acode_seq, acode_region, acode_draw, acode_cond, ↓CB_t, ↓CB_f, CB_u, acode_block, acode_loop, acode_exit, acode_scope, acode_ret, acode_skip, seqQ_n, seqQ_e, seqQ_r, blockQ_n, blockQ_e, blockQ_r, TK_at, OK_at, SK_at, aops_nil, aops_cons, asch_done, asch_one, asch_two, asch_top, astep, aop_eq, isLoud, aloud, aloud1, isWrite, qv, evS, strip, gof, eget, hget, putO, eput, herase, oks, opnds, gS, afin, afin0, binD, arith, D.cells, takeD, fillD, keep, trim, envOf, Fin, aresl, aresv, resD, argOk, pickV, isP, deq, deqs, boundD, slD, lenD, isT, isSl, ptrIds, chunks, mn_min, mx_max, D.cells, splice_one, splice_more, Rbr_at, Rfr_at, frR, frV, frC, flatC, brwR, brwV, brwC, omap, leR, leV, leC, leL, leVL, ii, hne]
      | (refine WCall.pf (hix) ?_ ?_ ?_ ?_; (focus (simp [oks, opnds, gS, gof, eget]; done)); (focus (simp [omap, brwV, brwC, evS, eget, strip, hget, leVL, leV, leC, leL, ii, hne]; done)); (focus (simp [noV, noC, flatR, flatV, flatC, evS, eget, strip, ii, hne]; done)))
      | (refine ⟨WCall.pf (hix) ?_ ?_ ?_ ?_, ?_⟩; (focus (simp [oks, opnds, gS, gof, eget]; done)); (focus (simp [omap, brwV, brwC, evS, eget, strip, hget, leVL, leV, leC, leL, ii, hne]; done)); (focus (simp [noV, noC, flatR, flatV, flatC, evS, eget, strip, ii, hne]; done)))
      | (with_reducible refine And.intro (And.intro ?_ ?_) ?_)
      | fail)
    refine W.loopS (fun y : Nat × Nat × List (Int × Int) => ⟨[(6, I y.2.1), (5, I y.1), (4, .nil0), (1, .fn F [.pc ds]), (0, .own 0)], [(0, .row 2 (y.2.2.map spE))], 1⟩)
      (fun n y => n = l.length - y.2.1 ∧ y.2.1 ≤ l.length ∧ y.1 < y.2.1 ∧ y.2.2.length = l.length ∧ y.2.2.take y.1 = (l.take y.2.1).filter (nq q) ∧ y.2.2.drop y.2.1 = l.drop y.2.1) ?_ ?_
    · refine ⟨_, (i0, i0 + 1, l), (Gh.ren [0] (by simp [hB0]) (by simp [hB0] <;> decide) (by simp [eget, rnS, rnR, rnV, rnC, LtS, LtR, LtV, LtC, lget]) (by simp [hget, rnO, rnC, LtO, LtC, lget]) (.inl (by simp [lget]))), rfl, by simp only; omega, by simp only; omega, rfl, df_start hi0, rfl⟩
    rintro n ⟨i, j, ys⟩ ⟨hn, hj, hij, hyl, h1, h2⟩
    simp only at hn hj hij hyl h1 h2
    refine acode_sound [0, 1, 4, 5, 6, 7, 12, 19, 29] [11] _ _ _ ?_
    by_cases hlt : j < l.length
    · obtain ⟨x, hx⟩ : ∃ x, x = l[j] := ⟨_, rfl⟩
      have hyj : j < ys.length := by omega
      have hye : ys[j] = x := by rw [hx]; exact df_at hlt hyj h2
      have hFx := hF x (hx ▸ List.getElem_mem hlt)
      have ij : InR ((j : Int) + 1) := inG (by omega) (by omega)
      have i1 : InR ((i : Int) + 1) := inG (by omega) (by omega)
      have hiy : i < ys.length := by omega
      by_cases hq : q x = true
      · have hd := df_drop hlt h1 h2 (hx ▸ hq)
        rw [hq] at hFx
        repeat' (first
          | simp [AK_at, acode_seq, acode_region, acode_draw, acode_cond, ↓CB_t, ↓CB_f, CB_u, acode_block, acode_loop, acode_exit, acode_scope, acode_ret, acode_skip, seqQ_n, seqQ_e, seqQ_r, blockQ_n, blockQ_e, blockQ_r, TK_at, OK_at, SK_at, aops_nil, aops_cons, asch_done, asch_one, asch_two, asch_top, astep, aop_eq, isLoud, aloud, aloud1, isWrite, qv, evS, strip, gof, eget, hget, putO, eput, herase, oks, opnds, gS, afin, afin0, binD, arith, D.cells, takeD, fillD, keep, trim, envOf, Fin, aresl, aresv, resD, argOk, pickV, isP, deq, deqs, boundD, slD, lenD, isT, isSl, ptrIds, chunks, mn_min, mx_max, D.cells, splice_one, splice_more, Rbr_at, Rfr_at, frR, frV, frC, flatC, brwR, brwV, brwC, omap, leR, leV, leC, leL, leVL, hlt, hyl, hyj, hye, spE, ij]
          | (refine WCall.pfv (hFx) ?_ rfl ?_ ?_ ?_; (focus (simp [oks, opnds, gS, gof, eget]; done)); (focus (simp [omap, brwV, brwC, evS, eget, strip, hget, leVL, leV, leC, leL, hlt, hyl, hyj, hye, spE, ij]; done)); (focus (simp [noV, noC, flatR, flatV, flatC, evS, eget, strip, hlt, hyl, hyj, hye, spE, ij]; done)))
          | (refine ⟨WCall.pfv (hFx) ?_ rfl ?_ ?_ ?_, ?_⟩; (focus (simp [oks, opnds, gS, gof, eget]; done)); (focus (simp [omap, brwV, brwC, evS, eget, strip, hget, leVL, leV, leC, leL, hlt, hyl, hyj, hye, spE, ij]; done)); (focus (simp [noV, noC, flatR, flatV, flatC, evS, eget, strip, hlt, hyl, hyj, hye, spE, ij]; done)))
          | (with_reducible refine And.intro (And.intro ?_ ?_) ?_)
          | fail)
        exact ⟨_, (i, j + 1, ys), (Gh.ren [0] (by simp [hB0]) (by simp [hB0] <;> decide) (by simp [eget, rnS, rnR, rnV, rnC, LtS, LtR, LtV, LtC, lget]) (by simp [hget, rnO, rnC, LtO, LtC, lget]) (.inl (by simp [lget]))), by simp only; omega, rfl, by simp only; omega, by simp only; omega, hyl, hd.1, hd.2⟩
      · have hq : q x = false := by simpa using hq
        have hd := df_keep hyl hij hlt h1 h2 (hx ▸ hq)
        rw [← hx] at hd
        rw [hq] at hFx
        have hd2 : List.drop 2 ((Option.map spE ys[i]?).getD []) = [] := by simp [List.getElem?_eq_getElem hiy, spE]
        repeat' (first
          | simp [AK_at, acode_seq, acode_region, acode_draw, acode_cond, ↓CB_t, ↓CB_f, CB_u, acode_block, acode_loop, acode_exit, acode_scope, acode_ret, acode_skip, seqQ_n, seqQ_e, seqQ_r, blockQ_n, blockQ_e, blockQ_r, TK_at, OK_at, SK_at, aops_nil, aops_cons, asch_done, asch_one, asch_two, asch_top, astep, aop_eq, isLoud, aloud, aloud1, isWrite, qv, evS, strip, gof, eget, hget, putO, eput, herase, oks, opnds, gS, afin, afin0, binD, arith, D.cells, takeD, fillD, keep, trim, envOf, Fin, aresl, aresv, resD, argOk, pickV, isP, deq, deqs, boundD, slD, lenD, isT, isSl, ptrIds, chunks, mn_min, mx_max, D.cells, splice_one, splice_more, Rbr_at, Rfr_at, frR, frV, frC, flatC, brwR, brwV, brwC, omap, leR, leV, leC, leL, leVL, hlt, hyl, hyj, hye, spE, ij, i1, hiy, hd2]
          | (refine WCall.pfv (hFx) ?_ rfl ?_ ?_ ?_; (focus (simp [oks, opnds, gS, gof, eget]; done)); (focus (simp [omap, brwV, brwC, evS, eget, strip, hget, leVL, leV, leC, leL, hlt, hyl, hyj, hye, spE, ij, i1, hiy, hd2]; done)); (focus (simp [noV, noC, flatR, flatV, flatC, evS, eget, strip, hlt, hyl, hyj, hye, spE, ij, i1, hiy, hd2]; done)))
          | (refine ⟨WCall.pfv (hFx) ?_ rfl ?_ ?_ ?_, ?_⟩; (focus (simp [oks, opnds, gS, gof, eget]; done)); (focus (simp [omap, brwV, brwC, evS, eget, strip, hget, leVL, leV, leC, leL, hlt, hyl, hyj, hye, spE, ij, i1, hiy, hd2]; done)); (focus (simp [noV, noC, flatR, flatV, flatC, evS, eget, strip, hlt, hyl, hyj, hye, spE, ij, i1, hiy, hd2]; done)))
          | (with_reducible refine And.intro (And.intro ?_ ?_) ?_)
          | fail)
        exact ⟨by omega, _, (i + 1, j + 1, ys.set i x), (Gh.ren [0] (by simp [hB0]) (by simp [hB0] <;> decide) (by simp [eget, rnS, rnR, rnV, rnC, LtS, LtR, LtV, LtC, lget, List.map_set, spE]) (by simp [hget, rnO, rnC, LtO, LtC, lget, List.map_set, spE]) (.inl (by simp [lget, List.map_set, spE]))), by simp only; omega, rfl, by simp only; omega, by simp only; omega, by simp [hyl], hd.1, hd.2⟩
    · obtain rfl : j = l.length := by omega
      rw [List.take_length] at h1
      have hfl : (l.filter (nq q)).length = i := by rw [← h1, List.length_take]; omega
      have hfm : (l.filter (nq q)).map spE = (ys.map spE).take i := by rw [← h1, List.map_take]
      simp [AK_at, acode_seq, acode_region, acode_draw, acode_cond, ↓CB_t, ↓CB_f, CB_u, acode_block, acode_loop, acode_exit, acode_scope, acode_ret, acode_skip, seqQ_n, seqQ_e, seqQ_r, blockQ_n, blockQ_e, blockQ_r, TK_at, OK_at, SK_at, aops_nil, aops_cons, asch_done, asch_one, asch_two, asch_top, astep, aop_eq, isLoud, aloud, aloud1, isWrite, qv, evS, strip, gof, eget, hget, putO, eput, herase, oks, opnds, gS, afin, afin0, binD, arith, D.cells, takeD, fillD, keep, trim, envOf, Fin, aresl, aresv, resD, argOk, pickV, isP, deq, deqs, boundD, slD, lenD, isT, isSl, ptrIds, chunks, mn_min, mx_max, D.cells, splice_one, splice_more, Rbr_at, Rfr_at, frR, frV, frC, flatC, brwR, brwV, brwC, omap, leR, leV, leC, leL, leVL, hyl]
      refine W.openR (t := 0) (id := 0) (sz := 2) (xs := ys.map spE) (by simp [eget]) (by simp [hget]) (by simp; rintro rfl; simp at hyl; omega) fun k => ?_
      simp only [eput]
      refine acode_sound [0, 1, 4, 5, 6, 7, 12, 19, 29] [] _ _ _ ?_
      obtain ⟨U, hU⟩ : ∃ U, U = ys.map spE ++ List.replicate k (anyRow 2) := ⟨_, rfl⟩
      have hUl : U.length = l.length + k := by rw [hU]; simp [hyl]
      have hUt : U.take i = (ys.map spE).take i := by rw [hU, List.take_append_of_le_length (by simp; omega)]
      rw [← hU, List.length_map, hyl]
      have e1 : i ≤ l.length := by omega
      have e2 : i ≤ l.length + k := by omega
      have e3 : l.length ≤ l.length + k := by omega
      simp [AK_at, acode_seq, acode_region, acode_draw, acode_cond, ↓CB_t, ↓CB_f, CB_u, acode_block, acode_loop, acode_exit, acode_scope, acode_ret, acode_skip, seqQ_n, seqQ_e, seqQ_r, blockQ_n, blockQ_e, blockQ_r, TK_at, OK_at, SK_at, aops_nil, aops_cons, asch_done, asch_one, asch_two, asch_top, astep, aop_eq, isLoud, aloud, aloud1, isWrite, qv, evS, strip, gof, eget, hget, putO, eput, herase, oks, opnds, gS, afin, afin0, binD, arith, D.cells, takeD, fillD, keep, trim, envOf, Fin, aresl, aresv, resD, argOk, pickV, isP, deq, deqs, boundD, slD, lenD, isT, isSl, ptrIds, chunks, mn_min, mx_max, D.cells, splice_one, splice_more, Rbr_at, Rfr_at, frR, frV, frC, flatC, brwR, brwV, brwC, omap, leR, leV, leC, leL, leVL, e1, e2, e3]
      refine XCall.clear (id := 0) (sz := 2) (off := i) (len := l.length - i) (cp := l.length + k - i) (xs := U) (by simp [oks, opnds, gS, gof, eget]) rfl (by simp [evS, eget, strip]) (by simp [hget]) ?_
      obtain ⟨W3, hW3⟩ : ∃ W3, W3 = U.take i ++ List.replicate (l.length - i) (anyRow 2) ++ U.drop (i + (List.replicate (l.length - i) (anyRow 2)).length) := ⟨_, rfl⟩
      have hWl : W3.length = l.length + k := by rw [hW3]; simp; omega
      have hWt : W3.take i = (ys.map spE).take i := by
        rw [hW3, List.append_assoc, List.take_append_of_le_length (by simp; omega), List.take_take, Nat.min_self, hUt]
      have hWr : ∀ f, W3.map (fun x => List.map (rnC f) x) = W3 := fun f => by
        have hUm : ∀ r ∈ U, (∃ y, r = spE y) ∨ r = anyRow 2 := fun r hr => by
          rw [hU] at hr
          rcases List.mem_append.1 hr with hr | hr
          · obtain ⟨y, _, rfl⟩ := List.mem_map.1 hr; exact .inl ⟨y, rfl⟩
          · exact .inr (List.eq_of_mem_replicate hr)
        have : ∀ r ∈ W3, List.map (rnC f) r = r := fun r hr => by
          have hr' : (∃ y, r = spE y) ∨ r = anyRow 2 := by
            rw [hW3] at hr
            rcases List.mem_append.1 hr with hr | hr
            · rcases List.mem_append.1 hr with hr | hr
              · exact hUm r (List.mem_of_mem_take hr)
              · exact .inr (List.eq_of_mem_replicate hr)
            · exact hUm r (List.mem_of_mem_drop hr)
          rcases hr' with ⟨y, rfl⟩ | rfl <;> rfl
        exact (List.map_congr_left this).trans (by simp)
      rw [← hW3]
      simp [AK_at, acode_seq, acode_region, acode_draw, acode_cond, ↓CB_t, ↓CB_f, CB_u, acode_block, acode_loop, acode_exit, acode_scope, acode_ret, acode_skip, seqQ_n, seqQ_e, seqQ_r, blockQ_n, blockQ_e, blockQ_r, TK_at, OK_at, SK_at, aops_nil, aops_cons, asch_done, asch_one, asch_two, asch_top, astep, aop_eq, isLoud, aloud, aloud1, isWrite, qv, evS, strip, gof, eget, hget, putO, eput, herase, oks, opnds, gS, afin, afin0, binD, arith, D.cells, takeD, fillD, keep, trim, envOf, Fin, aresl, aresv, resD, argOk, pickV, isP, deq, deqs, boundD, slD, lenD, isT, isSl, ptrIds, chunks, mn_min, mx_max, D.cells, splice_one, splice_more, Rbr_at, Rfr_at, frR, frV, frC, flatC, brwR, brwV, brwC, omap, leR, leV, leC, leL, leVL, e1, e2, e3, hfl, hfm, hWl, hWt]
      exact ⟨W3, hWl.symm, rfl, hWt, hWr⟩
theorem spots_del (b k n : Nat) : (spotsM k n).filter (nq (isB b)) = if k = b then [] else spotsM k n := by
  split
  · rename_i h
    refine List.filter_eq_nil_iff.2 fun s hs => ?_
    have := spotsM_mem hs
    simp [nq, isB, this, h]
  · rename_i h
    refine List.filter_eq_self.2 fun s hs => ?_
    have := spotsM_mem hs
    simp [nq, isB, this]; omega
theorem want_del (ws : List Nat) (b : Nat) (hb : b < ws.length) : ∀ k, wantM (ws.set b 0) k = (wantM ws k).filter (nq (isB b))
  | 0 => by simp [wantM]
  | k + 1 => by
    rw [wantM_succ, wantM_succ, List.filter_append, want_del ws b hb k, spots_del]
    by_cases h : k = b
    · subst h
      rw [if_pos rfl]
      have : (ws.set k 0).getD k 0 = 0 := by simp [List.getD_eq_getElem?_getD, hb]
      rw [this]; rfl
    · rw [if_neg h]
      have : (ws.set b 0).getD k 0 = ws.getD k 0 := by simp [List.getD_eq_getElem?_getD, List.getElem?_set_ne (Ne.symm h)]
      rw [this]
theorem ring_del (ws : List Nat) (h : WOk ws) (b : Nat) (hb : b < 12) : (ringM ws).filter (nq (isB b)) = ringM (ws.set b 0) := by
  have hp : ((ringM ws).filter (nq (isB b))).Perm (ringM (ws.set b 0)) := by
    refine ((ringM_perm ws).filter _).trans ?_
    rw [← want_del ws b (by rw [h.len]; exact hb)]
    exact (ringM_perm _).symm
  refine List.Perm.eq_of_pairwise (le := fun a b => (!(ltOf cfSp) b a) = true) (fun a b _ _ h1 h2 => ?_) ((sortM_pw _).filter _) (sortM_pw _) hp
  simp only [Bool.not_eq_true'] at h1 h2
  exact totSp a b h2 h1
theorem rrem1_code : cfun Try.prog [] 38 = some ⟨(.seq (.region 0 [⟨(some 2), (.box (.t 0)), none⟩, ⟨(some 3), (.mov (.k (.bool false))), none⟩]) (.seq (.region 1 [⟨(some 4), (.fad 1 (.t 2)), none⟩, ⟨(some 5), (.load false 1 (.t 4)), none⟩, ⟨(some 6), (.load false 1 (.t 1)), none⟩, ⟨(some 7), (.bin .eql (.t 5) (.t 6)), none⟩, ⟨(some 3), (.mov (.t 7)), none⟩]) .ret)), [(.t 3)], 8⟩ := by kernel_rfl
theorem rrem1_pf (s : Int × Int) (b : Nat) : PF Try.prog 38 [.agg (spE s), .pc [I b]] (.bool (isB b s)) := by
  refine PF.of follows_ok rrem1_code (by simp) (by simp [argOk]) (by simp [noV, noC, spE]) fun B hBN hB0 => acode_sound [0, 1, 2, 3] [] _ _ _ ?_
  simp [AK_at, acode_seq, acode_region, acode_draw, acode_cond, ↓CB_t, ↓CB_f, CB_u, acode_block, acode_loop, acode_exit, acode_scope, acode_ret, acode_skip, seqQ_n, seqQ_e, seqQ_r, blockQ_n, blockQ_e, blockQ_r, TK_at, OK_at, SK_at, aops_nil, aops_cons, asch_done, asch_one, asch_two, asch_top, astep, aop_eq, isLoud, aloud, aloud1, isWrite, qv, evS, strip, gof, eget, hget, putO, eput, herase, oks, opnds, gS, afin, afin0, binD, arith, D.cells, takeD, fillD, keep, trim, envOf, Fin, aresl, aresv, resD, argOk, pickV, isP, deq, deqs, boundD, slD, lenD, isT, isSl, ptrIds, chunks, mn_min, mx_max, D.cells, splice_one, splice_more, Rbr_at, Rfr_at, frR, frV, frC, flatC, brwR, brwV, brwC, omap, leR, leV, leC, leL, leVL, spE, isB]
theorem rrem_code : cfun Try.prog [] 23 = some ⟨(.seq (.region 0 [⟨(some 2), (.box (.t 0)), none⟩, ⟨(some 3), (.box (.t 1)), none⟩, ⟨(some 4), (.alloc [.nil0]), none⟩, ⟨(some 5), (.mov (.k (.int .i64 0))), none⟩]) (.seq (.region 1 [⟨(some 10), (.load true 1 (.t 2)), none⟩, ⟨(some 11), (.call 29 [(.t 10)]), none⟩, ⟨(some 9), (.mov (.t 11)), none⟩, ⟨(some 12), (.ext (.t 9) 0), none⟩, ⟨(some 13), (.ext (.t 9) 1), none⟩, ⟨(some 6), (.alloc [(.int .i64 0), (.int .i64 0), (.int .i64 0), (.int .i64 0), (.int .i64 0), (.int .i64 0), (.int .i64 0), (.int .i64 0), (.int .i64 0), (.int .i64 0), (.int .i64 0), (.int .i64 0)]), none⟩, ⟨none, (.store 12 (.t 6) (.t 12)), none⟩, ⟨(some 7), (.mov (.t 13)), none⟩]) (.seq (.block 0 (.seq (.region 2 [⟨(some 15), (.mov (.t 7)), none⟩, ⟨(some 16), (.not (.t 15)), none⟩, ⟨(some 14), (.mov (.t 16)), none⟩]) (.cond 14 (.seq (.region 3 [⟨(some 17), (.build [.nil0] []), none⟩, ⟨none, (.store 1 (.t 4) (.t 17)), none⟩, ⟨(some 5), (.mov (.k (.int .i64 6))), none⟩]) .ret) (.seq (.region 4 [⟨(some 19), (.load false 1 (.t 3)), none⟩, ⟨(some 20), (.bin .lss (.t 19) (.k (.int .i64 0))), none⟩, ⟨(some 21), (.mov (.t 20)), none⟩, ⟨(some 22), (.load false 1 (.t 3)), (some (21, false))⟩, ⟨(some 23), (.bin .geq (.t 22) (.k (.int .i64 12))), (some (21, false))⟩, ⟨(some 24), (.pick (.t 21) (.k (.bool true)) (.t 23)), none⟩, ⟨(some 25), (.mov (.t 24)), none⟩, ⟨(some 26), (.load false 1 (.t 3)), (some (25, false))⟩, ⟨(some 27), (.iada 12 1 (.t 6) (.t 26)), (some (25, false))⟩, ⟨(some 28), (.load false 1 (.t 27)), (some (25, false))⟩, ⟨(some 29), (.bin .eql (.t 28) (.k (.int .i64 0))), (some (25, false))⟩, ⟨(some 30), (.pick (.t 25) (.k (.bool true)) (.t 29)), none⟩, ⟨(some 18), (.mov (.t 30)), none⟩]) (.cond 18 (.seq (.region 5 [⟨(some 31), (.build [.nil0] []), none⟩, ⟨none, (.store 1 (.t 4) (.t 31)), none⟩, ⟨(some 5), (.mov (.k (.int .i64 8))), none⟩]) .ret) .skip))))) (.seq (.region 6 [⟨(some 32), (.fad 0 (.t 2)), none⟩, ⟨(some 33), (.load false 1 (.t 32)), none⟩, ⟨(some 34), (.call 33 [(.t 33)]), none⟩, ⟨(some 35), (.mkfn 38 [(.t 3)]), none⟩, ⟨(some 36), (.call 37 [(.t 34), (.t 35)]), none⟩, ⟨(some 8), (.mov (.t 36)), none⟩]) (.seq (.region 7 [⟨(some 37), (.mov (.t 8)), none⟩, ⟨(some 38), (.build [.nil0] [(0, (1, (.t 37)))]), none⟩, ⟨none, (.store 1 (.t 4) (.t 38)), none⟩, ⟨(some 5), (.mov (.k (.int .i64 0))), none⟩]) .ret))))), [(.c 4 true 1), (.t 5)], 39⟩ := by kernel_rfl
theorem rrem0_pf (ws : List Nat) (h : WOk ws) (b : Nat) (hb : b < 12) (h0 : ws.getD b 0 = 0) :
    PF Try.prog 23 [.agg [.rows 2 ((ringM ws).map spE)], I b] (.tup [.agg [.rows 2 []], I 8]) := by
  have hwe := rwei_pf ws h
  have hrl := ringM_len ws h
  have hl12 := h.len
  have hs0 := spl12 h.len
  have htw : (ws.map fun w : Nat => I (w : Int)).take 12 = ws.map fun w : Nat => I (w : Int) := List.take_of_length_le (by simp [h.len])
  have hat : ws[b]? = some 0 := by
    rw [List.getD_eq_getElem?_getD, List.getElem?_eq_getElem (by omega)] at h0
    rw [List.getElem?_eq_getElem (by omega)]
    simpa using h0
  have c1 : ¬ (b : Int) < 0 := by omega
  have c2 : ¬ (12 : Int) ≤ b := by omega
  have hb1 : (b : Int) < 12 := by omega
  have hb2 : b ≤ 11 := by omega
  have hb3 : 0 < 12 - b := by omega
  refine PF.of follows_ok rrem_code (by simp) (by simp [argOk]) (by simp [noV, noC]) fun B hBN hB0 => acode_sound [0, 1, 2, 3, 4, 5, 6, 7, 8, 14, 18] [] _ _ _ ?_
  repeat' (first
    | simp [AK_at, acode_seq, acode_region, acode_draw, acode_cond, ↓CB_t, ↓CB_f, CB_u, acode_block, acode_loop, acode_exit, acode_scope, acode_ret, acode_skip, seqQ_n, seqQ_e, seqQ_r, blockQ_n, blockQ_e, blockQ_r, TK_at, OK_at, SK_at, aops_nil, aops_cons, asch_done, asch_one, asch_two, asch_top, astep, aop_eq, isLoud, aloud, aloud1, isWrite, qv, evS, strip, gof, eget, hget, putO, eput, herase, oks, opnds, gS, afin, afin0, binD, arith, D.cells, takeD, fillD, keep, trim, envOf, Fin, aresl, aresv, resD, argOk, pickV, isP, deq, deqs, boundD, slD, lenD, isT, isSl, ptrIds, chunks, mn_min, mx_max, D.cells, splice_one, splice_more, Rbr_at, Rfr_at, frR, frV, frC, flatC, brwR, brwV, brwC, omap, leR, leV, leC, leL, leVL, hl12, hs0, htw, hat, c1, c2, hb1, hb2, hb3]
    | (refine WCall.pf (hwe) ?_ ?_ ?_ ?_; (focus (simp [oks, opnds, gS, gof, eget]; done)); (focus (simp [omap, brwV, brwC, evS, eget, strip, hget, leVL, leV, leC, leL, hl12, hs0, htw, hat, c1, c2, hb1, hb2, hb3]; done)); (focus (simp [noV, noC, flatR, flatV, flatC, evS, eget, strip, hl12, hs0, htw, hat, c1, c2, hb1, hb2, hb3]; done)))
    | (refine ⟨WCall.pf (hwe) ?_ ?_ ?_ ?_, ?_⟩; (focus (simp [oks, opnds, gS, gof, eget]; done)); (focus (simp [omap, brwV, brwC, evS, eget, strip, hget, leVL, leV, leC, leL, hl12, hs0, htw, hat, c1, c2, hb1, hb2, hb3]; done)); (focus (simp [noV, noC, flatR, flatV, flatC, evS, eget, strip, hl12, hs0, htw, hat, c1, c2, hb1, hb2, hb3]; done)))
    | (with_reducible refine And.intro (And.intro ?_ ?_) ?_)
    | fail)
theorem rrem_pf (ws : List Nat) (h : WOk ws) (b w : Nat) (hb : b < 12) (hw : ws.getD b 0 = w) (h1 : 0 < w) :
    PF Try.prog 23 [.agg [.rows 2 ((ringM ws).map spE)], I b] (.tup [.agg [.rows 2 ((ringM (ws.set b 0)).map spE)], I 0]) := by
  have hwe := rwei_pf ws h
  have hrl := ringM_len ws h
  have hl12 := h.len
  have hs0 := spl12 h.len
  have htw : (ws.map fun w : Nat => I (w : Int)).take 12 = ws.map fun w : Nat => I (w : Int) := List.take_of_length_le (by simp [h.len])
  have hat : ws[b]? = some w := by
    rw [List.getD_eq_getElem?_getD, List.getElem?_eq_getElem (by omega)] at hw
    rw [List.getElem?_eq_getElem (by omega)]
    simpa using hw
  have c1 : ¬ (b : Int) < 0 := by omega
  have c2 : ¬ (12 : Int) ≤ b := by omega
  have c3 : ¬ w = 0 := by omega
  have hb1 : (b : Int) < 12 := by omega
  have hb2 : b ≤ 11 := by omega
  have hb3 : 0 < 12 - b := by omega
  have hcl := spcln_hf spE (ringM ws) (by omega) (els_sp _)
  have hdf := spdf_hf (ringM ws) 38 [I b] (isB b) (by omega) (fun s _ => rrem1_pf s b)
  rw [ring_del ws h b hb] at hdf
  have hne : ringM ws ≠ [] := fun e => by
    have := cnt_ring ws b hb
    rw [e, hw] at this
    simp at this; omega
  refine PF.of follows_ok rrem_code (by simp) (by simp [argOk]) (by simp [noV, noC]) fun B hBN hB0 => acode_sound [0, 1, 2, 3, 4, 5, 6, 7, 8, 14, 18] [6, 7] _ _ _ ?_
  repeat' (first
    | simp [AK_at, acode_seq, acode_region, acode_draw, acode_cond, ↓CB_t, ↓CB_f, CB_u, acode_block, acode_loop, acode_exit, acode_scope, acode_ret, acode_skip, seqQ_n, seqQ_e, seqQ_r, blockQ_n, blockQ_e, blockQ_r, TK_at, OK_at, SK_at, aops_nil, aops_cons, asch_done, asch_one, asch_two, asch_top, astep, aop_eq, isLoud, aloud, aloud1, isWrite, qv, evS, strip, gof, eget, hget, putO, eput, herase, oks, opnds, gS, afin, afin0, binD, arith, D.cells, takeD, fillD, keep, trim, envOf, Fin, aresl, aresv, resD, argOk, pickV, isP, deq, deqs, boundD, slD, lenD, isT, isSl, ptrIds, chunks, mn_min, mx_max, D.cells, splice_one, splice_more, Rbr_at, Rfr_at, frR, frV, frC, flatC, brwR, brwV, brwC, omap, leR, leV, leC, leL, leVL, hl12, hs0, htw, hat, c1, c2, c3, hb1, hb2, hb3]
    | (refine WCall.pf (hwe) ?_ ?_ ?_ ?_; (focus (simp [oks, opnds, gS, gof, eget]; done)); (focus (simp [omap, brwV, brwC, evS, eget, strip, hget, leVL, leV, leC, leL, hl12, hs0, htw, hat, c1, c2, c3, hb1, hb2, hb3]; done)); (focus (simp [noV, noC, flatR, flatV, flatC, evS, eget, strip, hl12, hs0, htw, hat, c1, c2, c3, hb1, hb2, hb3]; done)))
    | (refine ⟨WCall.pf (hwe) ?_ ?_ ?_ ?_, ?_⟩; (focus (simp [oks, opnds, gS, gof, eget]; done)); (focus (simp [omap, brwV, brwC, evS, eget, strip, hget, leVL, leV, leC, leL, hl12, hs0, htw, hat, c1, c2, c3, hb1, hb2, hb3]; done)); (focus (simp [noV, noC, flatR, flatV, flatC, evS, eget, strip, hl12, hs0, htw, hat, c1, c2, c3, hb1, hb2, hb3]; done)))
    | (with_reducible refine And.intro (And.intro ?_ ?_) ?_)
    | fail)
  refine W.freeze [1] ?_
  simp [freeze, hkeep, hdrop, fzS, fzR, fzV, fzC, fzO, brwC, omap, hget]
  refine acode_sound [0, 1, 2, 3, 4, 5, 6, 7, 8, 14, 18] [7] _ _ _ ?_
  simp [AK_at, acode_seq, acode_region, acode_draw, acode_cond, ↓CB_t, ↓CB_f, CB_u, acode_block, acode_loop, acode_exit, acode_scope, acode_ret, acode_skip, seqQ_n, seqQ_e, seqQ_r, blockQ_n, blockQ_e, blockQ_r, TK_at, OK_at, SK_at, aops_nil, aops_cons, asch_done, asch_one, asch_two, asch_top, astep, aop_eq, isLoud, aloud, aloud1, isWrite, qv, evS, strip, gof, eget, hget, putO, eput, herase, oks, opnds, gS, afin, afin0, binD, arith, D.cells, takeD, fillD, keep, trim, envOf, Fin, aresl, aresv, resD, argOk, pickV, isP, deq, deqs, boundD, slD, lenD, isT, isSl, ptrIds, chunks, mn_min, mx_max, D.cells, splice_one, splice_more, Rbr_at, Rfr_at, frR, frV, frC, flatC, brwR, brwV, brwC, omap, leR, leV, leC, leL, leVL]
  refine WCall.hf0 hcl (by simp [oks, opnds, gS, gof, eget]) (by simp [evS, eget, strip]) (by simp [argOk]) (by simp [noV, noC]) ?_
  rintro d H' nx' (⟨rfl, hnil, rfl, rfl⟩ | ⟨rfl, rfl, rfl⟩)
  · exact absurd hnil hne
  simp [AK_at, acode_seq, acode_region, acode_draw, acode_cond, ↓CB_t, ↓CB_f, CB_u, acode_block, acode_loop, acode_exit, acode_scope, acode_ret, acode_skip, seqQ_n, seqQ_e, seqQ_r, blockQ_n, blockQ_e, blockQ_r, TK_at, OK_at, SK_at, aops_nil, aops_cons, asch_done, asch_one, asch_two, asch_top, astep, aop_eq, isLoud, aloud, aloud1, isWrite, qv, evS, strip, gof, eget, hget, putO, eput, herase, oks, opnds, gS, afin, afin0, binD, arith, D.cells, takeD, fillD, keep, trim, envOf, Fin, aresl, aresv, resD, argOk, pickV, isP, deq, deqs, boundD, slD, lenD, isT, isSl, ptrIds, chunks, mn_min, mx_max, D.cells, splice_one, splice_more, Rbr_at, Rfr_at, frR, frV, frC, flatC, brwR, brwV, brwC, omap, leR, leV, leC, leL, leVL, rnR, rnV, rnC, rnO, rho_0, hputs, herases, rho]
  refine WCall.hf [5] (hdf) (by simp [oks, opnds, gS, gof, eget]) rfl rfl (by decide) (by simp) (by simp [evS, eget, strip, rnV, rnC, rho, ]) (by simp [argOk, ]) (by simp [LtV, LtC, ]) (by simp [rho, rnO, rnC, hget, LtO, LtC, ]) ?_
  obtain ⟨R, hR⟩ : ∃ R, R = ringM (ws.set b 0) := ⟨_, rfl⟩
  rw [← hR]
  rintro d H' nx' (⟨rfl, rfl, rfl⟩ | ⟨W3, rfl, rfl, rfl, hW3, hWr⟩)
  · simp [AK_at, acode_seq, acode_region, acode_draw, acode_cond, ↓CB_t, ↓CB_f, CB_u, acode_block, acode_loop, acode_exit, acode_scope, acode_ret, acode_skip, seqQ_n, seqQ_e, seqQ_r, blockQ_n, blockQ_e, blockQ_r, TK_at, OK_at, SK_at, aops_nil, aops_cons, asch_done, asch_one, asch_two, asch_top, astep, aop_eq, isLoud, aloud, aloud1, isWrite, qv, evS, strip, gof, eget, hget, putO, eput, herase, oks, opnds, gS, afin, afin0, binD, arith, D.cells, takeD, fillD, keep, trim, envOf, Fin, aresl, aresv, resD, argOk, pickV, isP, deq, deqs, boundD, slD, lenD, isT, isSl, ptrIds, chunks, mn_min, mx_max, D.cells, splice_one, splice_more, Rbr_at, Rfr_at, frR, frV, frC, flatC, brwR, brwV, brwC, omap, leR, leV, leC, leL, leVL, rnR, rnV, rnC, rnO, rho_0, hputs, herases, rho]
    refine acode_sound [0, 1, 2, 3, 4, 5, 6, 7, 8, 14, 18] [] _ _ _ ?_
    simp [AK_at, acode_seq, acode_region, acode_draw, acode_cond, ↓CB_t, ↓CB_f, CB_u, acode_block, acode_loop, acode_exit, acode_scope, acode_ret, acode_skip, seqQ_n, seqQ_e, seqQ_r, blockQ_n, blockQ_e, blockQ_r, TK_at, OK_at, SK_at, aops_nil, aops_cons, asch_done, asch_one, asch_two, asch_top, astep, aop_eq, isLoud, aloud, aloud1, isWrite, qv, evS, strip, gof, eget, hget, putO, eput, herase, oks, opnds, gS, afin, afin0, binD, arith, D.cells, takeD, fillD, keep, trim, envOf, Fin, aresl, aresv, resD, argOk, pickV, isP, deq, deqs, boundD, slD, lenD, isT, isSl, ptrIds, chunks, mn_min, mx_max, D.cells, splice_one, splice_more, Rbr_at, Rfr_at, frR, frV, frC, flatC, brwR, brwV, brwC, omap, leR, leV, leC, leL, leVL, rnR, rnV, rnC, rnO, rho_0, hputs, herases, rho]
  · simp [AK_at, acode_seq, acode_region, acode_draw, acode_cond, ↓CB_t, ↓CB_f, CB_u, acode_block, acode_loop, acode_exit, acode_scope, acode_ret, acode_skip, seqQ_n, seqQ_e, seqQ_r, blockQ_n, blockQ_e, blockQ_r, TK_at, OK_at, SK_at, aops_nil, aops_cons, asch_done, asch_one, asch_two, asch_top, astep, aop_eq, isLoud, aloud, aloud1, isWrite, qv, evS, strip, gof, eget, hget, putO, eput, herase, oks, opnds, gS, afin, afin0, binD, arith, D.cells, takeD, fillD, keep, trim, envOf, Fin, aresl, aresv, resD, argOk, pickV, isP, deq, deqs, boundD, slD, lenD, isT, isSl, ptrIds, chunks, mn_min, mx_max, D.cells, splice_one, splice_more, Rbr_at, Rfr_at, frR, frV, frC, flatC, brwR, brwV, brwC, omap, leR, leV, leC, leL, leVL, rnR, rnV, rnC, rnO, rho_0, hputs, herases, rho, hWr]
    refine W.gh (Gh.closeR (t := 8) (id := 5) (sz := 2) (len := R.length) (xs := W3) (by simp [eget]) (by simp [hget]) ?_) ?_
    · rw [hW3]
      intro r hr d hd
      obtain ⟨y, _, rfl⟩ := List.mem_map.1 hr
      simp [spE] at hd
      rcases hd with rfl | rfl <;> rfl
    rw [hW3]
    simp only [eput, herase]
    refine acode_sound [0, 1, 2, 3, 4, 5, 6, 7, 8, 14, 18] [] _ _ _ ?_
    simp [AK_at, acode_seq, acode_region, acode_draw, acode_cond, ↓CB_t, ↓CB_f, CB_u, acode_block, acode_loop, acode_exit, acode_scope, acode_ret, acode_skip, seqQ_n, seqQ_e, seqQ_r, blockQ_n, blockQ_e, blockQ_r, TK_at, OK_at, SK_at, aops_nil, aops_cons, asch_done, asch_one, asch_two, asch_top, astep, aop_eq, isLoud, aloud, aloud1, isWrite, qv, evS, strip, gof, eget, hget, putO, eput, herase, oks, opnds, gS, afin, afin0, binD, arith, D.cells, takeD, fillD, keep, trim, envOf, Fin, aresl, aresv, resD, argOk, pickV, isP, deq, deqs, boundD, slD, lenD, isT, isSl, ptrIds, chunks, mn_min, mx_max, D.cells, splice_one, splice_more, Rbr_at, Rfr_at, frR, frV, frC, flatC, brwR, brwV, brwC, omap, leR, leV, leC, leL, leVL, rnR, rnV, rnC, rnO, rho_0, hputs, herases, rho]
end Go.Proofs.Ytajimebannjofaa

set_option linter.unusedSimpArgs false
set_option linter.unusedVariables false
set_option maxRecDepth 100000
set_option maxHeartbeats 4000000
namespace Go.Proofs.Ytajimebannjofaa
open Go.RowKit
theorem ded_head (l : List (Int × Int)) : ∀ acc : List Int, acc ≠ [] → (l.foldl (fun out s => if s.2 ∈ out then out else out ++ [s.2]) acc).head? = acc.head? := by
  induction l with
  | nil => intro acc _; rfl
  | cons s t ih =>
    intro acc h
    simp only [List.foldl_cons]
    split
    · exact ih acc h
    · rw [ih _ (by simp)]
      cases acc with
      | nil => exact absurd rfl h
      | cons a b => rfl
theorem dedM_head (s : Int × Int) (t : List (Int × Int)) : (dedM (s :: t)).head? = some s.2 := by
  unfold dedM
  simp only [List.foldl_cons, List.not_mem_nil, if_false, List.nil_append]
  rw [ded_head t [s.2] (by simp)]
  rfl
/-- the backend of the next spot, or of the first one of all -/
def wantF (xs : List (Int × Int)) (z d : Int) (i : Nat) : Int := match (xs.drop i).find? (fun s => decide (z ≤ s.1)) with | some s => s.2 | none => d
theorem wantF_end (xs : List (Int × Int)) (z d : Int) : wantF xs z d xs.length = d := by simp [wantF]
theorem wantF_step (xs : List (Int × Int)) (z d : Int) (i : Nat) (h : i < xs.length) : wantF xs z d i = if z ≤ xs[i].1 then xs[i].2 else wantF xs z d (i + 1) := by
  unfold wantF
  rw [List.drop_eq_getElem_cons h, List.find?_cons]
  by_cases hz : z ≤ xs[i].1
  · simp [hz]
  · simp [hz]
theorem find_low (p : Int × Int → Bool) (q : Int × Int → Bool) : ∀ (l : List (Int × Int)), (∀ x ∈ l, q x = !p x) → l.find? q = l[(l.takeWhile p).length]?
  | [], _ => by simp
  | x :: t, h => by
    rw [List.find?_cons, List.takeWhile_cons, h x List.mem_cons_self]
    cases hp : p x with
    | true => simp [find_low p q t fun y hy => h y (List.mem_cons_of_mem _ hy)]
    | false => simp
theorem walk_head (ws : List Nat) (z : Int) (h : 0 < (ringM ws).length) : (walkM ws z).head? = some (wantF (ringM ws) z ((ringM ws)[0]'h).2 0) := by
  have hf := find_low (fun x => decide (ord2 x.1 x.2 z (-1) < 0)) (fun s => decide (z ≤ s.1)) (ringM ws) (fun x hx => by
    have := ringM_mem hx
    have e := ord2_neg (a := x.1) (b := x.2) (c := z) (d := -1)
    by_cases hz : z ≤ x.1
    · have : ¬ ord2 x.1 x.2 z (-1) < 0 := fun hh => by have := e.1 hh; omega
      simp [hz, this]
    · have : ord2 x.1 x.2 z (-1) < 0 := e.2 (by omega)
      simp [hz, this])
  have hle : fromM z (ringM ws) ≤ (ringM ws).length := lowB_le _ _
  change (ringM ws).find? _ = (ringM ws)[fromM z (ringM ws)]? at hf
  unfold walkM wantF
  rw [List.drop_zero, hf]
  have h0 := rotL_get (ringM ws) (fromM z (ringM ws)) 0 hle h
  obtain ⟨s, t, hst⟩ : ∃ s t, rotL (ringM ws) (fromM z (ringM ws)) = s :: t := by
    have := rotL_len (ringM ws) (fromM z (ringM ws)) hle
    cases hr : rotL (ringM ws) (fromM z (ringM ws)) with
    | nil => rw [hr] at this; simp at this; omega
    | cons s t => exact ⟨s, t, rfl⟩
  rw [hst] at h0 ⊢
  rw [dedM_head]
  simp only [List.getElem?_cons_zero, Nat.add_zero] at h0
  by_cases hlt : fromM z (ringM ws) < (ringM ws).length
  · rw [Nat.mod_eq_of_lt hlt] at h0
    rw [← h0]
  · have e : fromM z (ringM ws) = (ringM ws).length := by omega
    rw [e, Nat.mod_self] at h0
    rw [e, List.getElem?_eq_none (Nat.le_refl _)]
    rw [List.getElem?_eq_getElem h] at h0
    simp only [Option.some.injEq] at h0
    simp only [h0]
theorem rfirst_code : cfun Try.prog [] 8 = some ⟨(.seq (.region 0 [⟨(some 4), (.mov (.k (.bool false))), none⟩]) (.seq (.region 1 [⟨(some 16), (.mov (.t 0)), none⟩, ⟨(some 17), (.call 18 [(.t 16)]), none⟩, ⟨(some 15), (.mov (.t 17)), none⟩, ⟨(some 18), (.ext (.t 15) 0), none⟩, ⟨(some 19), (.ext (.t 15) 1), none⟩, ⟨(some 20), (.ext (.t 15) 2), none⟩, ⟨(some 5), (.alloc [.nil0]), none⟩, ⟨(some 6), (.alloc [(.int .i64 0), (.int .i64 0), (.int .i64 0), (.int .i64 0), (.int .i64 0), (.int .i64 0), (.int .i64 0), (.int .i64 0), (.int .i64 0), (.int .i64 0), (.int .i64 0), (.int .i64 0)]), none⟩, ⟨none, (.store 1 (.t 5) (.t 18)), none⟩, ⟨none, (.store 12 (.t 6) (.t 19)), none⟩, ⟨(some 7), (.mov (.t 20)), none⟩]) (.seq (.region 2 [⟨(some 21), (.mov (.t 1)), none⟩, ⟨(some 22), (.call 11 [(.t 21), (.k (.int .i64 4294967296))]), none⟩, ⟨(some 8), (.mov (.t 22)), none⟩]) (.seq (.region 3 [⟨(some 24), (.mov (.t 8)), none⟩, ⟨(some 25), (.call 20 [(.t 24)]), none⟩, ⟨(some 23), (.mov (.t 25)), none⟩, ⟨(some 26), (.ext (.t 23) 0), none⟩, ⟨(some 27), (.ext (.t 23) 1), none⟩, ⟨(some 9), (.mov (.t 26)), none⟩, ⟨(some 10), (.mov (.t 27)), none⟩]) (.seq (.region 4 [⟨(some 29), (.load true 1 (.t 5)), none⟩, ⟨(some 30), (.mov (.t 8)), none⟩, ⟨(some 31), (.call 19 [(.t 29), (.t 30)]), none⟩, ⟨(some 28), (.mov (.t 31)), none⟩, ⟨(some 32), (.ext (.t 28) 0), none⟩, ⟨(some 33), (.ext (.t 28) 1), none⟩, ⟨(some 11), (.mov (.t 32)), none⟩, ⟨(some 12), (.mov (.t 33)), none⟩]) (.seq (.seq (.region 5 [⟨(some 34), (.mov (.t 7)), none⟩, ⟨(some 35), (.not (.t 34)), none⟩, ⟨(some 36), (.mov (.t 35)), none⟩, ⟨(some 37), (.mov (.t 10)), (some (36, false))⟩, ⟨(some 38), (.bin .neq (.t 37) (.k (.int .i64 0))), (some (36, false))⟩, ⟨(some 39), (.pick (.t 36) (.k (.bool true)) (.t 38)), none⟩, ⟨(some 40), (.mov (.t 39)), none⟩, ⟨(some 41), (.mov (.t 12)), (some (40, false))⟩, ⟨(some 42), (.bin .neq (.t 41) (.k (.int .i64 0))), (some (40, false))⟩, ⟨(some 43), (.pick (.t 40) (.k (.bool true)) (.t 42)), none⟩]) (.cond 43 (.seq (.region 6 [⟨(some 4), (.mov (.k (.bool false))), none⟩]) .ret) .skip)) (.seq (.seq (.region 7 [⟨(some 44), (.fad 0 (.t 5)), none⟩, ⟨(some 45), (.load false 1 (.t 44)), none⟩, ⟨(some 46), (.len (.t 45)), none⟩, ⟨(some 47), (.bin .eql (.t 46) (.k (.int .i64 0))), none⟩]) (.cond 47 (.seq (.region 8 [⟨(some 48), (.mov (.t 11)), none⟩, ⟨(some 49), (.len (.t 48)), none⟩, ⟨(some 50), (.bin .eql (.t 49) (.k (.int .i64 0))), none⟩, ⟨(some 4), (.mov (.t 50)), none⟩]) .ret) .skip)) (.seq (.region 9 [⟨(some 51), (.fad 0 (.t 5)), none⟩, ⟨(some 52), (.load false 1 (.t 51)), none⟩, ⟨(some 53), (.iads 2 (.t 52) (.k (.int .i64 0))), none⟩, ⟨(some 54), (.fad 1 (.t 53)), none⟩, ⟨(some 55), (.load false 1 (.t 54)), none⟩, ⟨(some 13), (.mov (.t 55)), none⟩]) (.seq (.seq (.region 10 [⟨(some 56), (.fad 0 (.t 5)), none⟩, ⟨(some 57), (.load false 1 (.t 56)), none⟩, ⟨(some 58), (.len (.t 57)), none⟩, ⟨(some 59), (.bin .sub (.t 58) (.k (.int .i64 1))), none⟩, ⟨(some 14), (.mov (.t 59)), none⟩]) (.block 0 (.loop (.seq (.seq (.region 11 [⟨(some 60), (.mov (.t 14)), none⟩, ⟨(some 61), (.bin .geq (.t 60) (.k (.int .i64 0))), none⟩]) (.cond 61 .skip (.exit 0))) (.seq (.block 1 (.seq (.region 13 [⟨(some 64), (.fad 0 (.t 5)), none⟩, ⟨(some 65), (.load false 1 (.t 64)), none⟩, ⟨(some 66), (.mov (.t 14)), none⟩, ⟨(some 67), (.iads 2 (.t 65) (.t 66)), none⟩, ⟨(some 68), (.fad 0 (.t 67)), none⟩, ⟨(some 69), (.load false 1 (.t 68)), none⟩, ⟨(some 70), (.mov (.t 9)), none⟩, ⟨(some 71), (.bin .geq (.t 69) (.t 70)), none⟩]) (.cond 71 (.region 14 [⟨(some 72), (.fad 0 (.t 5)), none⟩, ⟨(some 73), (.load false 1 (.t 72)), none⟩, ⟨(some 74), (.mov (.t 14)), none⟩, ⟨(some 75), (.iads 2 (.t 73) (.t 74)), none⟩, ⟨(some 76), (.fad 1 (.t 75)), none⟩, ⟨(some 77), (.load false 1 (.t 76)), none⟩, ⟨(some 13), (.mov (.t 77)), none⟩]) .skip))) (.region 12 [⟨(some 62), (.mov (.t 14)), none⟩, ⟨(some 63), (.bin .sub (.t 62) (.k (.int .i64 1))), none⟩, ⟨(some 14), (.mov (.t 63)), none⟩])))))) (.seq (.region 15 [⟨(some 78), (.mov (.t 11)), none⟩, ⟨(some 79), (.len (.t 78)), none⟩, ⟨(some 80), (.bin .gtr (.t 79) (.k (.int .i64 0))), none⟩, ⟨(some 81), (.mov (.t 80)), none⟩, ⟨(some 82), (.mov (.t 11)), (some (81, true))⟩, ⟨(some 83), (.iads 1 (.t 82) (.k (.int .i64 0))), (some (81, true))⟩, ⟨(some 84), (.load false 1 (.t 83)), (some (81, true))⟩, ⟨(some 85), (.mov (.t 13)), (some (81, true))⟩, ⟨(some 86), (.bin .eql (.t 84) (.t 85)), (some (81, true))⟩, ⟨(some 87), (.pick (.t 81) (.t 86) (.k (.bool false))), none⟩, ⟨(some 4), (.mov (.t 87)), none⟩]) .ret)))))))))), [(.t 4)], 88⟩ := by kernel_rfl
theorem rfirst_pf (l : List (List Int)) (key : Int) (hl : l.length ≤ Go.maxLen) (hr : ∀ r ∈ l, r.length = 2 ∧ ∀ z ∈ r, InR z) (ik : InR key) :
    PF Try.prog 8 [.rows 2 (l.map fun r => r.map I), I key] (.bool true) := by
  have hrg := ringed_pf l hl hr
  have hws : WOk (rgL l) := rgL_inv l 20
  generalize rgL l = ws at hrg hws
  have p1 := picked_pf key 4294967296 ik (by omega)
  have q1 := pickedZ_range key 4294967296 (by omega)
  obtain ⟨k, hk⟩ : ∃ k, k = pickedZ key 4294967296 := ⟨_, rfl⟩
  rw [← hk] at p1 q1
  have hwk := rwalk_pf ws hws k (by omega) (by omega)
  have hky := hkey_pf k (by omega) (by omega)
  have hhd := walk_head ws (keyN k.toNat : Nat)
  have hwl := walkM_len ws hws (keyN k.toNat : Nat)
  have hnil : ringM ws = [] → walkM ws (keyN k.toNat : Nat) = [] := fun h => by
    unfold walkM; rw [h]; rfl
  have hrl := ringM_len ws hws
  generalize walkM ws (keyN k.toNat : Nat) = wk at hwk hhd hwl hnil
  generalize ringM ws = xs at hwk hhd hnil hrl hrg
  generalize ((keyN k.toNat : Nat) : Int) = z at hky hhd
  have hl12 := hws.len
  have hs0 := spl12 hws.len
  have htw : (ws.map fun w : Nat => I (w : Int)).take 12 = ws.map fun w : Nat => I (w : Int) := List.take_of_length_le (by simp [hl12])
  by_cases h0 : xs = []
  · subst h0
    obtain rfl := hnil rfl
    refine PF.of follows_ok rfirst_code (by simp) (by simp [argOk]) (by simp [noV, noC]) fun B hBN hB0 => acode_sound [0, 1, 4, 5, 7, 8, 9, 10, 11, 12, 13, 14, 43, 47, 61, 71] [] _ _ _ ?_
    repeat' (first
      | simp [AK_at, acode_seq, acode_region, acode_draw, acode_cond, ↓CB_t, ↓CB_f, CB_u, acode_block, acode_loop, acode_exit, acode_scope, acode_ret, acode_skip, seqQ_n, seqQ_e, seqQ_r, blockQ_n, blockQ_e, blockQ_r, TK_at, OK_at, SK_at, aops_nil, aops_cons, asch_done, asch_one, asch_two, asch_top, astep, aop_eq, isLoud, aloud, aloud1, isWrite, qv, evS, strip, gof, eget, hget, putO, eput, herase, oks, opnds, gS, afin, afin0, binD, arith, D.cells, takeD, fillD, keep, trim, envOf, Fin, aresl, aresv, resD, argOk, pickV, isP, deq, deqs, boundD, slD, lenD, isT, isSl, ptrIds, chunks, mn_min, mx_max, D.cells, splice_one, splice_more, Rbr_at, Rfr_at, frR, frV, frC, flatC, brwR, brwV, brwC, omap, leR, leV, leC, leL, leVL, hl12, hs0, htw]
      | (refine WCall.pf (hrg) ?_ ?_ ?_ ?_; (focus (simp [oks, opnds, gS, gof, eget]; done)); (focus (simp [omap, brwV, brwC, evS, eget, strip, hget, leVL, leV, leC, leL, hl12, hs0, htw]; done)); (focus (simp [noV, noC, flatR, flatV, flatC, evS, eget, strip, hl12, hs0, htw]; done)))
      | (refine ⟨WCall.pf (hrg) ?_ ?_ ?_ ?_, ?_⟩; (focus (simp [oks, opnds, gS, gof, eget]; done)); (focus (simp [omap, brwV, brwC, evS, eget, strip, hget, leVL, leV, leC, leL, hl12, hs0, htw]; done)); (focus (simp [noV, noC, flatR, flatV, flatC, evS, eget, strip, hl12, hs0, htw]; done)))
      | (refine WCall.pf (p1) ?_ ?_ ?_ ?_; (focus (simp [oks, opnds, gS, gof, eget]; done)); (focus (simp [omap, brwV, brwC, evS, eget, strip, hget, leVL, leV, leC, leL, hl12, hs0, htw]; done)); (focus (simp [noV, noC, flatR, flatV, flatC, evS, eget, strip, hl12, hs0, htw]; done)))
      | (refine ⟨WCall.pf (p1) ?_ ?_ ?_ ?_, ?_⟩; (focus (simp [oks, opnds, gS, gof, eget]; done)); (focus (simp [omap, brwV, brwC, evS, eget, strip, hget, leVL, leV, leC, leL, hl12, hs0, htw]; done)); (focus (simp [noV, noC, flatR, flatV, flatC, evS, eget, strip, hl12, hs0, htw]; done)))
      | (refine WCall.pf (hwk) ?_ ?_ ?_ ?_; (focus (simp [oks, opnds, gS, gof, eget]; done)); (focus (simp [omap, brwV, brwC, evS, eget, strip, hget, leVL, leV, leC, leL, hl12, hs0, htw]; done)); (focus (simp [noV, noC, flatR, flatV, flatC, evS, eget, strip, hl12, hs0, htw]; done)))
      | (refine ⟨WCall.pf (hwk) ?_ ?_ ?_ ?_, ?_⟩; (focus (simp [oks, opnds, gS, gof, eget]; done)); (focus (simp [omap, brwV, brwC, evS, eget, strip, hget, leVL, leV, leC, leL, hl12, hs0, htw]; done)); (focus (simp [noV, noC, flatR, flatV, flatC, evS, eget, strip, hl12, hs0, htw]; done)))
      | (refine WCall.pf (hky) ?_ ?_ ?_ ?_; (focus (simp [oks, opnds, gS, gof, eget]; done)); (focus (simp [omap, brwV, brwC, evS, eget, strip, hget, leVL, leV, leC, leL, hl12, hs0, htw]; done)); (focus (simp [noV, noC, flatR, flatV, flatC, evS, eget, strip, hl12, hs0, htw]; done)))
      | (refine ⟨WCall.pf (hky) ?_ ?_ ?_ ?_, ?_⟩; (focus (simp [oks, opnds, gS, gof, eget]; done)); (focus (simp [omap, brwV, brwC, evS, eget, strip, hget, leVL, leV, leC, leL, hl12, hs0, htw]; done)); (focus (simp [noV, noC, flatR, flatV, flatC, evS, eget, strip, hl12, hs0, htw]; done)))
      | (with_reducible refine And.intro (And.intro ?_ ?_) ?_)
      | fail)
  · have hx0 : 0 < xs.length := List.length_pos_iff.2 h0
    have hhd := hhd hx0
    obtain ⟨d, hd⟩ : ∃ d, d = xs[0].2 := ⟨_, rfl⟩
    rw [← hd] at hhd
    have i1 : InR ((xs.length : Int) - 1) := inG (by omega) (by omega)
    refine PF.of follows_ok rfirst_code (by simp) (by simp [argOk]) (by simp [noV, noC]) fun B hBN hB0 => acode_sound [0, 1, 4, 5, 7, 8, 9, 10, 11, 12, 13, 14, 43, 47, 61, 71] [] _ _ _ ?_
    repeat' (first
      | simp [AK_at, acode_seq, acode_region, acode_draw, acode_cond, ↓CB_t, ↓CB_f, CB_u, acode_block, acode_loop, acode_exit, acode_scope, acode_ret, acode_skip, seqQ_n, seqQ_e, seqQ_r, blockQ_n, blockQ_e, blockQ_r, TK_at, OK_at, SK_at, aops_nil, aops_cons, asch_done, asch_one, asch_two, asch_top, astep, aop_eq, isLoud, aloud, aloud1, isWrite, qv, evS, strip, gof, eget, hget, putO, eput, herase, oks, opnds, gS, afin, afin0, binD, arith, D.cells, takeD, fillD, keep, trim, envOf, Fin, aresl, aresv, resD, argOk, pickV, isP, deq, deqs, boundD, slD, lenD, isT, isSl, ptrIds, chunks, mn_min, mx_max, D.cells, splice_one, splice_more, Rbr_at, Rfr_at, frR, frV, frC, flatC, brwR, brwV, brwC, omap, leR, leV, leC, leL, leVL, hl12, hs0, htw, h0, hx0, spE, ← hd, i1]
      | (refine WCall.pf (hrg) ?_ ?_ ?_ ?_; (focus (simp [oks, opnds, gS, gof, eget]; done)); (focus (simp [omap, brwV, brwC, evS, eget, strip, hget, leVL, leV, leC, leL, hl12, hs0, htw, h0, hx0, spE, ← hd, i1]; done)); (focus (simp [noV, noC, flatR, flatV, flatC, evS, eget, strip, hl12, hs0, htw, h0, hx0, spE, ← hd, i1]; done)))
      | (refine ⟨WCall.pf (hrg) ?_ ?_ ?_ ?_, ?_⟩; (focus (simp [oks, opnds, gS, gof, eget]; done)); (focus (simp [omap, brwV, brwC, evS, eget, strip, hget, leVL, leV, leC, leL, hl12, hs0, htw, h0, hx0, spE, ← hd, i1]; done)); (focus (simp [noV, noC, flatR, flatV, flatC, evS, eget, strip, hl12, hs0, htw, h0, hx0, spE, ← hd, i1]; done)))
      | (refine WCall.pf (p1) ?_ ?_ ?_ ?_; (focus (simp [oks, opnds, gS, gof, eget]; done)); (focus (simp [omap, brwV, brwC, evS, eget, strip, hget, leVL, leV, leC, leL, hl12, hs0, htw, h0, hx0, spE, ← hd, i1]; done)); (focus (simp [noV, noC, flatR, flatV, flatC, evS, eget, strip, hl12, hs0, htw, h0, hx0, spE, ← hd, i1]; done)))
      | (refine ⟨WCall.pf (p1) ?_ ?_ ?_ ?_, ?_⟩; (focus (simp [oks, opnds, gS, gof, eget]; done)); (focus (simp [omap, brwV, brwC, evS, eget, strip, hget, leVL, leV, leC, leL, hl12, hs0, htw, h0, hx0, spE, ← hd, i1]; done)); (focus (simp [noV, noC, flatR, flatV, flatC, evS, eget, strip, hl12, hs0, htw, h0, hx0, spE, ← hd, i1]; done)))
      | (refine WCall.pf (hwk) ?_ ?_ ?_ ?_; (focus (simp [oks, opnds, gS, gof, eget]; done)); (focus (simp [omap, brwV, brwC, evS, eget, strip, hget, leVL, leV, leC, leL, hl12, hs0, htw, h0, hx0, spE, ← hd, i1]; done)); (focus (simp [noV, noC, flatR, flatV, flatC, evS, eget, strip, hl12, hs0, htw, h0, hx0, spE, ← hd, i1]; done)))
      | (refine ⟨WCall.pf (hwk) ?_ ?_ ?_ ?_, ?_⟩; (focus (simp [oks, opnds, gS, gof, eget]; done)); (focus (simp [omap, brwV, brwC, evS, eget, strip, hget, leVL, leV, leC, leL, hl12, hs0, htw, h0, hx0, spE, ← hd, i1]; done)); (focus (simp [noV, noC, flatR, flatV, flatC, evS, eget, strip, hl12, hs0, htw, h0, hx0, spE, ← hd, i1]; done)))
      | (refine WCall.pf (hky) ?_ ?_ ?_ ?_; (focus (simp [oks, opnds, gS, gof, eget]; done)); (focus (simp [omap, brwV, brwC, evS, eget, strip, hget, leVL, leV, leC, leL, hl12, hs0, htw, h0, hx0, spE, ← hd, i1]; done)); (focus (simp [noV, noC, flatR, flatV, flatC, evS, eget, strip, hl12, hs0, htw, h0, hx0, spE, ← hd, i1]; done)))
      | (refine ⟨WCall.pf (hky) ?_ ?_ ?_ ?_, ?_⟩; (focus (simp [oks, opnds, gS, gof, eget]; done)); (focus (simp [omap, brwV, brwC, evS, eget, strip, hget, leVL, leV, leC, leL, hl12, hs0, htw, h0, hx0, spE, ← hd, i1]; done)); (focus (simp [noV, noC, flatR, flatV, flatC, evS, eget, strip, hl12, hs0, htw, h0, hx0, spE, ← hd, i1]; done)))
      | (with_reducible refine And.intro (And.intro ?_ ?_) ?_)
      | fail)
    refine W.loopS (fun i : Nat => ⟨[(14, I ((i : Int) - 1)), (13, I (wantF xs z d i)), (11, .rows 1 (wk.map fun z => [I z])), (9, I z), (5, .ptr 0 0), (4, .bool false)], [(1, .cells (ws.map fun w : Nat => I (w : Int))), (0, .cells [.rows 2 (xs.map spE)])], 2⟩)
      (fun n i => n = i ∧ i ≤ xs.length) ?_ ?_
    · exact ⟨_, xs.length, (Gh.ren [0, 1] (by simp [hB0]) (by simp [hB0] <;> decide) (by simp [eget, rnS, rnR, rnV, rnC, LtS, LtR, LtV, LtC, lget, rnN, wantF_end, spE]) (by simp [hget, rnO, rnC, LtO, LtC, lget, rnN, wantF_end, spE]) (.inl (by simp [lget, rnN, wantF_end, spE]))), rfl, by omega⟩
    rintro n i ⟨rfl, hi⟩
    refine acode_sound [0, 1, 4, 5, 7, 8, 9, 10, 11, 12, 13, 14, 43, 47, 61, 71] [] _ _ _ ?_
    cases n with
    | zero =>
      obtain ⟨a, t, rfl⟩ : ∃ a t, wk = a :: t := by
        cases wk with
        | nil => simp at hhd
        | cons a t => exact ⟨a, t, rfl⟩
      simp only [List.head?_cons, Option.some.injEq] at hhd
      repeat' (first
        | simp [AK_at, acode_seq, acode_region, acode_draw, acode_cond, ↓CB_t, ↓CB_f, CB_u, acode_block, acode_loop, acode_exit, acode_scope, acode_ret, acode_skip, seqQ_n, seqQ_e, seqQ_r, blockQ_n, blockQ_e, blockQ_r, TK_at, OK_at, SK_at, aops_nil, aops_cons, asch_done, asch_one, asch_two, asch_top, astep, aop_eq, isLoud, aloud, aloud1, isWrite, qv, evS, strip, gof, eget, hget, putO, eput, herase, oks, opnds, gS, afin, afin0, binD, arith, D.cells, takeD, fillD, keep, trim, envOf, Fin, aresl, aresv, resD, argOk, pickV, isP, deq, deqs, boundD, slD, lenD, isT, isSl, ptrIds, chunks, mn_min, mx_max, D.cells, splice_one, splice_more, Rbr_at, Rfr_at, frR, frV, frC, flatC, brwR, brwV, brwC, omap, leR, leV, leC, leL, leVL, hhd]
        | (refine WCall.pf (hwk) ?_ ?_ ?_ ?_; (focus (simp [oks, opnds, gS, gof, eget]; done)); (focus (simp [omap, brwV, brwC, evS, eget, strip, hget, leVL, leV, leC, leL, hhd]; done)); (focus (simp [noV, noC, flatR, flatV, flatC, evS, eget, strip, hhd]; done)))
        | (refine ⟨WCall.pf (hwk) ?_ ?_ ?_ ?_, ?_⟩; (focus (simp [oks, opnds, gS, gof, eget]; done)); (focus (simp [omap, brwV, brwC, evS, eget, strip, hget, leVL, leV, leC, leL, hhd]; done)); (focus (simp [noV, noC, flatR, flatV, flatC, evS, eget, strip, hhd]; done)))
        | (with_reducible refine And.intro (And.intro ?_ ?_) ?_)
        | fail)
    | succ j =>
      have hj : j < xs.length := by omega
      have hst := wantF_step xs z d j hj
      obtain ⟨o, ho⟩ : ∃ o, o = xs[j] := ⟨_, rfl⟩
      rw [← ho] at hst
      have ij : InR ((j : Int) + 1 - 1) := inG (by omega) (by omega)
      have ij2 : InR ((j : Int) - 1) := inG (by omega) (by omega)
      have e1 : ((j : Int) + 1 - 1) = j := by omega
      have d1 : (0 : Int) ≤ j := by omega
      by_cases hz : z ≤ o.1
      · rw [if_pos hz] at hst
        repeat' (first
          | simp [AK_at, acode_seq, acode_region, acode_draw, acode_cond, ↓CB_t, ↓CB_f, CB_u, acode_block, acode_loop, acode_exit, acode_scope, acode_ret, acode_skip, seqQ_n, seqQ_e, seqQ_r, blockQ_n, blockQ_e, blockQ_r, TK_at, OK_at, SK_at, aops_nil, aops_cons, asch_done, asch_one, asch_two, asch_top, astep, aop_eq, isLoud, aloud, aloud1, isWrite, qv, evS, strip, gof, eget, hget, putO, eput, herase, oks, opnds, gS, afin, afin0, binD, arith, D.cells, takeD, fillD, keep, trim, envOf, Fin, aresl, aresv, resD, argOk, pickV, isP, deq, deqs, boundD, slD, lenD, isT, isSl, ptrIds, chunks, mn_min, mx_max, D.cells, splice_one, splice_more, Rbr_at, Rfr_at, frR, frV, frC, flatC, brwR, brwV, brwC, omap, leR, leV, leC, leL, leVL, hj, ← ho, spE, e1, d1, ij2, hz]
          | (refine WCall.pf (hwk) ?_ ?_ ?_ ?_; (focus (simp [oks, opnds, gS, gof, eget]; done)); (focus (simp [omap, brwV, brwC, evS, eget, strip, hget, leVL, leV, leC, leL, hj, ← ho, spE, e1, d1, ij2, hz]; done)); (focus (simp [noV, noC, flatR, flatV, flatC, evS, eget, strip, hj, ← ho, spE, e1, d1, ij2, hz]; done)))
          | (refine ⟨WCall.pf (hwk) ?_ ?_ ?_ ?_, ?_⟩; (focus (simp [oks, opnds, gS, gof, eget]; done)); (focus (simp [omap, brwV, brwC, evS, eget, strip, hget, leVL, leV, leC, leL, hj, ← ho, spE, e1, d1, ij2, hz]; done)); (focus (simp [noV, noC, flatR, flatV, flatC, evS, eget, strip, hj, ← ho, spE, e1, d1, ij2, hz]; done)))
          | (with_reducible refine And.intro (And.intro ?_ ?_) ?_)
          | fail)
        all_goals exact ⟨_, j, (Gh.ren [0, 1] (by simp [hB0]) (by simp [hB0] <;> decide) (by simp [eget, rnS, rnR, rnV, rnC, LtS, LtR, LtV, LtC, lget, rnN, hst, spE]) (by simp [hget, rnO, rnC, LtO, LtC, lget, rnN, hst, spE]) (.inl (by simp [lget, rnN, hst, spE]))), by omega, rfl, by omega⟩
      · rw [if_neg hz] at hst
        repeat' (first
          | simp [AK_at, acode_seq, acode_region, acode_draw, acode_cond, ↓CB_t, ↓CB_f, CB_u, acode_block, acode_loop, acode_exit, acode_scope, acode_ret, acode_skip, seqQ_n, seqQ_e, seqQ_r, blockQ_n, blockQ_e, blockQ_r, TK_at, OK_at, SK_at, aops_nil, aops_cons, asch_done, asch_one, asch_two, asch_top, astep, aop_eq, isLoud, aloud, aloud1, isWrite, qv, evS, strip, gof, eget, hget, putO, eput, herase, oks, opnds, gS, afin, afin0, binD, arith, D.cells, takeD, fillD, keep, trim, envOf, Fin, aresl, aresv, resD, argOk, pickV, isP, deq, deqs, boundD, slD, lenD, isT, isSl, ptrIds, chunks, mn_min, mx_max, D.cells, splice_one, splice_more, Rbr_at, Rfr_at, frR, frV, frC, flatC, brwR, brwV, brwC, omap, leR, leV, leC, leL, leVL, hj, ← ho, spE, e1, d1, ij2, hz]
          | (refine WCall.pf (hwk) ?_ ?_ ?_ ?_; (focus (simp [oks, opnds, gS, gof, eget]; done)); (focus (simp [omap, brwV, brwC, evS, eget, strip, hget, leVL, leV, leC, leL, hj, ← ho, spE, e1, d1, ij2, hz]; done)); (focus (simp [noV, noC, flatR, flatV, flatC, evS, eget, strip, hj, ← ho, spE, e1, d1, ij2, hz]; done)))
          | (refine ⟨WCall.pf (hwk) ?_ ?_ ?_ ?_, ?_⟩; (focus (simp [oks, opnds, gS, gof, eget]; done)); (focus (simp [omap, brwV, brwC, evS, eget, strip, hget, leVL, leV, leC, leL, hj, ← ho, spE, e1, d1, ij2, hz]; done)); (focus (simp [noV, noC, flatR, flatV, flatC, evS, eget, strip, hj, ← ho, spE, e1, d1, ij2, hz]; done)))
          | (with_reducible refine And.intro (And.intro ?_ ?_) ?_)
          | fail)
        all_goals exact ⟨_, j, (Gh.ren [0, 1] (by simp [hB0]) (by simp [hB0] <;> decide) (by simp [eget, rnS, rnR, rnV, rnC, LtS, LtR, LtV, LtC, lget, rnN, hst, spE]) (by simp [hget, rnO, rnC, LtO, LtC, lget, rnN, hst, spE]) (.inl (by simp [lget, rnN, hst, spE]))), by omega, rfl, by omega⟩
end Go.Proofs.Ytajimebannjofaa

