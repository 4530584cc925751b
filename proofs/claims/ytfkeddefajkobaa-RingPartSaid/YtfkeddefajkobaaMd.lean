/- This text holds, one behind the other, the texts that say what the program computes, step by step, and the rules that they need. They have no condition of their own. -/
import Derived.Test.YtfkeddefajkobaaMc
import Derived.Test.YtfkeddefajkobaaMa
set_option linter.unusedSimpArgs false
set_option linter.unusedVariables false
set_option maxRecDepth 100000
set_option maxHeartbeats 2000000
namespace Go.Proofs.Ytfkeddefajkobaa
open Go.RowKit
theorem inW {z : Int} (h1 : -9223372036854775808 ≤ z) (h2 : z ≤ 9223372036854775807) : InR z := ⟨h1, h2⟩
def PB (z : Int) : List D := [.int .u8 z]
def Byte (c : Int) : Prop := 0 ≤ c ∧ c < 256
theorem and127 {c : Int} (h : Byte c) : iand .u8 c 127 = c % 128 := by
  have key : ∀ x : _root_.Fin 256, iand .u8 (x.val : Int) 127 = (x.val : Int) % 128 := by decide +kernel
  obtain ⟨h1, h2⟩ := h
  have := key ⟨c.toNat, by omega⟩
  simp only [Int.toNat_of_nonneg h1] at this
  exact this
theorem or128 {m : Int} (h : 0 ≤ m) : ior .u8 (IntKind.u8.wrap m) 128 = m % 128 + 128 := by
  have key : ∀ x : _root_.Fin 256, ior .u8 (x.val : Int) 128 = (x.val : Int) % 128 + 128 := by decide +kernel
  have hw : IntKind.u8.wrap m = m % 256 := by rw [IntKind.wrap_u8]
  have := key ⟨(m % 256).toNat, by omega⟩
  simp only [Int.toNat_of_nonneg (show 0 ≤ m % 256 by omega)] at this
  rw [hw, this]
  omega
theorem or_lo (a b s : Nat) (ha : a < 2 ^ s) (hb : b * 2 ^ s < 9223372036854775808) (hs : 2 ^ s ≤ 9223372036854775808) : ior .i64 (a : Int) ((b : Int) * 2 ^ s) = (a : Int) + (b : Int) * 2 ^ s := by
  have e3 : ((b : Int) * 2 ^ s) = ((b * 2 ^ s : Nat) : Int) := by rw [Int.natCast_mul, Int.natCast_pow]; rfl
  have e4 : b * 2 ^ s ||| a = 2 ^ s * b + a := by rw [Nat.two_pow_add_eq_or_of_lt ha, Nat.mul_comm]
  have hlt : (b * 2 ^ s ||| a) < 2 ^ 63 := Nat.or_lt_two_pow (n := 63) (by omega) (by omega)
  rw [e4, Nat.mul_comm] at hlt
  rw [e3]
  generalize hy : b * 2 ^ s = y at *
  show IntKind.i64.wrap ((BitVec.ofInt 64 (a : Int) ||| BitVec.ofInt 64 (y : Int)).toNat : Int) = _
  rw [BitVec.toNat_or, ofInt_u64 a (by omega), ofInt_u64 y (by omega), IntKind.wrap_i64, Nat.or_comm, e4, Nat.mul_comm, hy]
  omega
def encF : Nat → Int → List Int
  | 0, n => [n]
  | k + 1, n => if n < 128 then [n] else (n % 128 + 128) :: encF k (n / 128)
theorem wput_code : cfun Try.prog [] 66 = some ⟨(.seq (.region 0 [⟨(some 4), (.mov (.k .nil0)), none⟩]) (.seq (.block 0 (.loop (.seq (.seq (.region 1 [⟨(some 5), (.mov (.t 1)), none⟩, ⟨(some 6), (.bin .geq (.t 5) (.k (.int .i64 128))), none⟩]) (.cond 6 .skip (.exit 0))) (.seq (.block 1 (.region 3 [⟨(some 9), (.mov (.t 0)), none⟩, ⟨(some 10), (.mov (.t 1)), none⟩, ⟨(some 11), (.conv .u8 (.t 10)), none⟩, ⟨(some 12), (.bin .or (.t 11) (.k (.int .u8 128))), none⟩, ⟨(some 13), (.bslice 1 1 [(.int .u8 0)] [(0, (.t 12))]), none⟩, ⟨(some 14), (.app 1 1 [(.int .u8 0)] (.t 9) (.t 13)), none⟩, ⟨(some 0), (.mov (.t 14)), none⟩])) (.region 2 [⟨(some 7), (.mov (.t 1)), none⟩, ⟨(some 8), (.bin .shr (.t 7) (.k (.int .u64 7))), none⟩, ⟨(some 1), (.mov (.t 8)), none⟩]))))) (.seq (.region 4 [⟨(some 15), (.mov (.t 0)), none⟩, ⟨(some 16), (.mov (.t 1)), none⟩, ⟨(some 17), (.conv .u8 (.t 16)), none⟩, ⟨(some 18), (.bslice 1 1 [(.int .u8 0)] [(0, (.t 17))]), none⟩, ⟨(some 19), (.app 1 1 [(.int .u8 0)] (.t 15) (.t 18)), none⟩, ⟨(some 4), (.mov (.t 19)), none⟩]) .ret))), [(.t 4)], 20⟩ := by kernel_rfl
theorem wput_hf (b : List Int) (n : Int) (hb : b.length < 1000) (h0 : 0 ≤ n) (h1 : n < 34359738368) :
    HF Try.prog 66 [.own 0, I n] [(0, .row 1 (b.map PB))] 1 (fun d H' nx' => ∃ x, d = .own 3 ∧ H' = [(3, .row 1 ((b ++ encF 4 n).map PB)), (2, .row 1 [x])] ∧ nx' = 4) := by
  refine HF.of follows_ok wput_code (by simp) (by simp [argOk]) (by simp [LtV, LtC]) fun B hBN hB0 => acode_sound [0, 1, 4, 6] [] _ _ _ ?_
  simp [AK_at, acode_seq, acode_region, acode_draw, acode_cond, ↓CB_t, ↓CB_f, CB_u, acode_block, acode_loop, acode_exit, acode_scope, acode_ret, acode_skip, seqQ_n, seqQ_e, seqQ_r, blockQ_n, blockQ_e, blockQ_r, TK_at, OK_at, SK_at, aops_nil, aops_cons, asch_done, asch_one, asch_two, asch_top, astep, aop_eq, isLoud, aloud, aloud1, isWrite, qv, evS, strip, gof, eget, hget, putO, eput, herase, oks, opnds, gS, afin, afin0, binD, arith, D.cells, takeD, fillD, keep, trim, envOf, Fin, aresl, aresv, resD, argOk, pickV, isP, deq, deqs, boundD, slD, lenD, isT, isSl, ptrIds, chunks, mn_min, mx_max, D.cells, splice_one, splice_more, Rbr_at, Rfr_at, frR, frV, frC, flatC, brwR, brwV, brwC, omap, leR, leV, leC, leL, leVL]
  refine W.loopS (fun y : Nat × Int × List Int × Nat => ⟨[(1, I y.2.1), (0, .own y.1)], [(y.1, .row 1 (y.2.2.1.map PB))], 2⟩)
    (fun m y => m = y.2.2.2 ∧ y.1 < 2 ∧ 0 ≤ y.2.1 ∧ y.2.1 < 128 * 128 ^ y.2.2.2 ∧ y.2.2.1.length + y.2.2.2 ≤ b.length + 4 ∧ y.2.2.1 ++ encF y.2.2.2 y.2.1 = b ++ encF 4 n) ?_ ?_
  · exact ⟨_, (0, n, b, 4), (Gh.ren [] (by simp [hB0]) (by simp [hB0] <;> decide) (by simp [eget, rnS, rnR, rnV, rnC, LtS, LtR, LtV, LtC, lget]) (by simp [hget, rnO, rnC, LtO, LtC, lget]) (.inr rfl)), rfl, by simp, h0, by simp only; omega, by simp only; omega, rfl⟩
  rintro k ⟨id, m, out, j⟩ ⟨hk, hid, hm0, hm1, hlen, henc⟩
  simp only at hk hid hm0 hm1 hlen henc
  refine acode_sound [0, 1, 4, 6] [] _ _ _ ?_
  have hor := or128 hm0
  have hcap : out.length + 1 ≤ 140737488355328 := by omega
  have hid2 : id = 0 ∨ id = 1 := by omega
  by_cases hlt : 128 ≤ m
  · have hj : 0 < j := by
      rcases Nat.eq_zero_or_pos j with rfl | h
      · simp at hm1; omega
      · exact h
    obtain ⟨j, rfl⟩ : ∃ i, j = i + 1 := ⟨j - 1, by omega⟩
    have hst : encF (j + 1) m = (m % 128 + 128) :: encF j (m / 128) := by simp only [encF]; rw [if_neg (by omega)]
    rw [hst] at henc
    rw [Int.pow_succ] at hm1
    obtain ⟨p, hp⟩ : ∃ p : Int, p = 128 ^ j := ⟨_, rfl⟩
    rw [← hp] at hm1
    have hm2 : m / 128 < 128 * p := by omega
    rw [hp] at hm2
    have hsh : m / 2 ^ min 7 IntKind.i64.bits = m / 128 := rfl
    rcases hid2 with rfl | rfl
    · simp [AK_at, acode_seq, acode_region, acode_draw, acode_cond, ↓CB_t, ↓CB_f, CB_u, acode_block, acode_loop, acode_exit, acode_scope, acode_ret, acode_skip, seqQ_n, seqQ_e, seqQ_r, blockQ_n, blockQ_e, blockQ_r, TK_at, OK_at, SK_at, aops_nil, aops_cons, asch_done, asch_one, asch_two, asch_top, astep, aop_eq, isLoud, aloud, aloud1, isWrite, qv, evS, strip, gof, eget, hget, putO, eput, herase, oks, opnds, gS, afin, afin0, binD, arith, D.cells, takeD, fillD, keep, trim, envOf, Fin, aresl, aresv, resD, argOk, pickV, isP, deq, deqs, boundD, slD, lenD, isT, isSl, ptrIds, chunks, mn_min, mx_max, D.cells, splice_one, splice_more, Rbr_at, Rfr_at, frR, frV, frC, flatC, brwR, brwV, brwC, omap, leR, leV, leC, leL, leVL, hlt, hor, hcap, PB, hsh]
      exact ⟨_, (1, m / 128, out ++ [m % 128 + 128], j), (Gh.ren [0, 3] (by simp [hB0]) (by simp [hB0] <;> decide) (by simp [eget, rnS, rnR, rnV, rnC, LtS, LtR, LtV, LtC, lget, PB, hsh]) (by simp [hget, rnO, rnC, LtO, LtC, lget, PB, hsh]) (.inl (by simp [lget, PB, hsh]))), (show j < k by omega), rfl, by simp, by simp only; omega, hm2, by simp; omega, by simp only; rw [← henc]; simp⟩
    · simp [AK_at, acode_seq, acode_region, acode_draw, acode_cond, ↓CB_t, ↓CB_f, CB_u, acode_block, acode_loop, acode_exit, acode_scope, acode_ret, acode_skip, seqQ_n, seqQ_e, seqQ_r, blockQ_n, blockQ_e, blockQ_r, TK_at, OK_at, SK_at, aops_nil, aops_cons, asch_done, asch_one, asch_two, asch_top, astep, aop_eq, isLoud, aloud, aloud1, isWrite, qv, evS, strip, gof, eget, hget, putO, eput, herase, oks, opnds, gS, afin, afin0, binD, arith, D.cells, takeD, fillD, keep, trim, envOf, Fin, aresl, aresv, resD, argOk, pickV, isP, deq, deqs, boundD, slD, lenD, isT, isSl, ptrIds, chunks, mn_min, mx_max, D.cells, splice_one, splice_more, Rbr_at, Rfr_at, frR, frV, frC, flatC, brwR, brwV, brwC, omap, leR, leV, leC, leL, leVL, hlt, hor, hcap, PB, hsh]
      exact ⟨_, (1, m / 128, out ++ [m % 128 + 128], j), (Gh.ren [0, 3] (by simp [hB0]) (by simp [hB0] <;> decide) (by simp [eget, rnS, rnR, rnV, rnC, LtS, LtR, LtV, LtC, lget, PB, hsh]) (by simp [hget, rnO, rnC, LtO, LtC, lget, PB, hsh]) (.inl (by simp [lget, PB, hsh]))), (show j < k by omega), rfl, by simp, by simp only; omega, hm2, by simp; omega, by simp only; rw [← henc]; simp⟩
  · have hst : encF j m = [m] := by
      cases j with
      | zero => rfl
      | succ j => simp only [encF]; rw [if_pos (by omega)]
    rw [hst] at henc
    have hmap := congrArg (List.map PB) henc
    simp [PB] at hmap
    have hw : IntKind.u8.wrap m = m := by rw [IntKind.wrap_u8]; omega
    rcases hid2 with rfl | rfl
    · simp [AK_at, acode_seq, acode_region, acode_draw, acode_cond, ↓CB_t, ↓CB_f, CB_u, acode_block, acode_loop, acode_exit, acode_scope, acode_ret, acode_skip, seqQ_n, seqQ_e, seqQ_r, blockQ_n, blockQ_e, blockQ_r, TK_at, OK_at, SK_at, aops_nil, aops_cons, asch_done, asch_one, asch_two, asch_top, astep, aop_eq, isLoud, aloud, aloud1, isWrite, qv, evS, strip, gof, eget, hget, putO, eput, herase, oks, opnds, gS, afin, afin0, binD, arith, D.cells, takeD, fillD, keep, trim, envOf, Fin, aresl, aresv, resD, argOk, pickV, isP, deq, deqs, boundD, slD, lenD, isT, isSl, ptrIds, chunks, mn_min, mx_max, D.cells, splice_one, splice_more, Rbr_at, Rfr_at, frR, frV, frC, flatC, brwR, brwV, brwC, omap, leR, leV, leC, leL, leVL, hlt, hcap, PB, hw]
      exact hmap
    · simp [AK_at, acode_seq, acode_region, acode_draw, acode_cond, ↓CB_t, ↓CB_f, CB_u, acode_block, acode_loop, acode_exit, acode_scope, acode_ret, acode_skip, seqQ_n, seqQ_e, seqQ_r, blockQ_n, blockQ_e, blockQ_r, TK_at, OK_at, SK_at, aops_nil, aops_cons, asch_done, asch_one, asch_two, asch_top, astep, aop_eq, isLoud, aloud, aloud1, isWrite, qv, evS, strip, gof, eget, hget, putO, eput, herase, oks, opnds, gS, afin, afin0, binD, arith, D.cells, takeD, fillD, keep, trim, envOf, Fin, aresl, aresv, resD, argOk, pickV, isP, deq, deqs, boundD, slD, lenD, isT, isSl, ptrIds, chunks, mn_min, mx_max, D.cells, splice_one, splice_more, Rbr_at, Rfr_at, frR, frV, frC, flatC, brwR, brwV, brwC, omap, leR, leV, leC, leL, leVL, hlt, hcap, PB, hw]
      exact hmap
def getM : List Int → Nat → Int → Int × Int × Int
  | [], _, _ => (0, 0, 4)
  | c :: r, i, n => if i = 6 then (0, 0, 2) else if c < 128 then (if c = 0 ∧ 0 < i then (0, 0, 3) else (n + c * 2 ^ (7 * i), (i : Int) + 1, 0)) else getM r (i + 1) (n + c % 128 * 2 ^ (7 * i))
def getD3 (r : Int × Int × Int) : D := .tup [I r.1, I r.2.1, I r.2.2]
theorem wget_code : cfun Try.prog [] 64 = some ⟨(.seq (.region 0 [⟨(some 2), (.mov (.k (.int .i64 0))), none⟩, ⟨(some 3), (.mov (.k (.int .i64 0))), none⟩, ⟨(some 4), (.mov (.k (.int .i64 0))), none⟩]) (.seq (.seq (.region 1 [⟨(some 7), (.mov (.t 0)), none⟩, ⟨(some 8), (.len (.t 7)), none⟩, ⟨(some 9), (.mov (.k (.int .i64 0))), none⟩]) (.block 0 (.loop (.seq (.region 2 [⟨(some 10), (.bin .lss (.t 9) (.t 8)), none⟩]) (.seq (.cond 10 .skip (.exit 0)) (.seq (.block 1 (.seq (.region 3 [⟨(some 11), (.mov (.t 9)), none⟩, ⟨(some 12), (.iads 1 (.t 7) (.t 9)), none⟩, ⟨(some 13), (.load false 1 (.t 12)), none⟩, ⟨(some 5), (.mov (.t 11)), none⟩, ⟨(some 6), (.mov (.t 13)), none⟩]) (.seq (.seq (.region 4 [⟨(some 14), (.mov (.t 5)), none⟩, ⟨(some 15), (.bin .eql (.t 14) (.k (.int .i64 6))), none⟩]) (.cond 15 (.seq (.region 5 [⟨(some 2), (.mov (.k (.int .i64 0))), none⟩, ⟨(some 3), (.mov (.k (.int .i64 0))), none⟩, ⟨(some 4), (.mov (.k (.int .i64 2))), none⟩]) .ret) .skip)) (.seq (.region 6 [⟨(some 16), (.mov (.t 2)), none⟩, ⟨(some 17), (.mov (.t 6)), none⟩, ⟨(some 18), (.bin .and (.t 17) (.k (.int .u8 127))), none⟩, ⟨(some 19), (.conv .i64 (.t 18)), none⟩, ⟨(some 20), (.mov (.t 5)), none⟩, ⟨(some 21), (.bin .mul (.k (.int .i64 7)) (.t 20)), none⟩, ⟨(some 22), (.bin .shl (.t 19) (.t 21)), none⟩, ⟨(some 23), (.bin .or (.t 16) (.t 22)), none⟩, ⟨(some 2), (.mov (.t 23)), none⟩]) (.seq (.region 7 [⟨(some 24), (.mov (.t 6)), none⟩, ⟨(some 25), (.bin .lss (.t 24) (.k (.int .u8 128))), none⟩]) (.cond 25 (.seq (.seq (.region 8 [⟨(some 26), (.mov (.t 6)), none⟩, ⟨(some 27), (.bin .eql (.t 26) (.k (.int .u8 0))), none⟩, ⟨(some 28), (.mov (.t 27)), none⟩, ⟨(some 29), (.mov (.t 5)), (some (28, true))⟩, ⟨(some 30), (.bin .gtr (.t 29) (.k (.int .i64 0))), (some (28, true))⟩, ⟨(some 31), (.pick (.t 28) (.t 30) (.k (.bool false))), none⟩]) (.cond 31 (.seq (.region 9 [⟨(some 2), (.mov (.k (.int .i64 0))), none⟩, ⟨(some 3), (.mov (.k (.int .i64 0))), none⟩, ⟨(some 4), (.mov (.k (.int .i64 3))), none⟩]) .ret) .skip)) (.seq (.region 10 [⟨(some 32), (.mov (.t 2)), none⟩, ⟨(some 33), (.mov (.t 5)), none⟩, ⟨(some 34), (.bin .add (.t 33) (.k (.int .i64 1))), none⟩, ⟨(some 2), (.mov (.t 32)), none⟩, ⟨(some 3), (.mov (.t 34)), none⟩, ⟨(some 4), (.mov (.k (.int .i64 0))), none⟩]) .ret)) .skip)))))) (.region 11 [⟨(some 35), (.bin .add (.t 9) (.k (.int .i64 1))), none⟩, ⟨(some 9), (.mov (.t 35)), none⟩]))))))) (.seq (.region 12 [⟨(some 2), (.mov (.k (.int .i64 0))), none⟩, ⟨(some 3), (.mov (.k (.int .i64 0))), none⟩, ⟨(some 4), (.mov (.k (.int .i64 4))), none⟩]) .ret))), [(.t 2), (.t 3), (.t 4)], 36⟩ := by kernel_rfl
theorem wget_pf (b : List Int) (hb : ∀ c ∈ b, Byte c) (hl : b.length < 1000) : PF Try.prog 64 [.rows 1 (b.map PB)] (getD3 (getM b 0 0)) := by
  refine PF.of follows_ok wget_code (by simp) (by simp [argOk]) (by simp [noV, noC]) fun B hBN hB0 => acode_sound [0, 2, 3, 4, 5, 6, 7, 8, 9, 10, 15, 25, 31] [] _ _ _ ?_
  simp [AK_at, acode_seq, acode_region, acode_draw, acode_cond, ↓CB_t, ↓CB_f, CB_u, acode_block, acode_loop, acode_exit, acode_scope, acode_ret, acode_skip, seqQ_n, seqQ_e, seqQ_r, blockQ_n, blockQ_e, blockQ_r, TK_at, OK_at, SK_at, aops_nil, aops_cons, asch_done, asch_one, asch_two, asch_top, astep, aop_eq, isLoud, aloud, aloud1, isWrite, qv, evS, strip, gof, eget, hget, putO, eput, herase, oks, opnds, gS, afin, afin0, binD, arith, D.cells, takeD, fillD, keep, trim, envOf, Fin, aresl, aresv, resD, argOk, pickV, isP, deq, deqs, boundD, slD, lenD, isT, isSl, ptrIds, chunks, mn_min, mx_max, D.cells, splice_one, splice_more, Rbr_at, Rfr_at, frR, frV, frC, flatC, brwR, brwV, brwC, omap, leR, leV, leC, leL, leVL]
  refine W.loopS (fun y : Nat × Int => ⟨[(9, I y.1), (8, I b.length), (7, D.rows 1 (b.map PB)), (2, I y.2)], [], 0⟩)
    (fun k y => k = b.length - y.1 ∧ y.1 ≤ b.length ∧ y.1 ≤ 6 ∧ 0 ≤ y.2 ∧ y.2 < 2 ^ (7 * y.1) ∧ getM (b.drop y.1) y.1 y.2 = getM b 0 0) ?_ ?_
  · exact ⟨_, (0, 0), (Gh.ren [] (by simp [hB0]) (by simp [hB0] <;> decide) (by simp [eget, rnS, rnR, rnV, rnC, LtS, LtR, LtV, LtC, lget]) (by simp [hget, rnO, rnC, LtO, LtC, lget]) (.inr rfl)), rfl, by omega, by simp, by simp, by simp, by simp⟩
  rintro k ⟨i, n⟩ ⟨hk, hi, hi6, hn0, hn1, hg⟩
  simp only at hk hi hi6 hn0 hn1 hg
  refine acode_sound [0, 2, 3, 4, 5, 6, 7, 8, 9, 10, 15, 25, 31] [] _ _ _ ?_
  by_cases hlt : i < b.length
  · obtain ⟨c, hc⟩ : ∃ c, c = b[i] := ⟨_, rfl⟩
    have hcb : Byte c := hb c (hc ▸ List.getElem_mem hlt)
    have hand := and127 hcb
    obtain ⟨hc0, hc1⟩ := hcb
    have hd : b.drop i = c :: b.drop (i + 1) := by rw [hc]; exact List.drop_eq_getElem_cons hlt
    rw [hd] at hg
    simp only [getM] at hg
    have ii : InR ((i : Int) + 1) := inW (by omega) (by omega)
    by_cases h6 : i = 6
    · subst h6
      rw [if_pos rfl] at hg
      have hltI : (6 : Int) < b.length := by omega
      simp [AK_at, acode_seq, acode_region, acode_draw, acode_cond, ↓CB_t, ↓CB_f, CB_u, acode_block, acode_loop, acode_exit, acode_scope, acode_ret, acode_skip, seqQ_n, seqQ_e, seqQ_r, blockQ_n, blockQ_e, blockQ_r, TK_at, OK_at, SK_at, aops_nil, aops_cons, asch_done, asch_one, asch_two, asch_top, astep, aop_eq, isLoud, aloud, aloud1, isWrite, qv, evS, strip, gof, eget, hget, putO, eput, herase, oks, opnds, gS, afin, afin0, binD, arith, D.cells, takeD, fillD, keep, trim, envOf, Fin, aresl, aresv, resD, argOk, pickV, isP, deq, deqs, boundD, slD, lenD, isT, isSl, ptrIds, chunks, mn_min, mx_max, D.cells, splice_one, splice_more, Rbr_at, Rfr_at, frR, frV, frC, flatC, brwR, brwV, brwC, omap, leR, leV, leC, leL, leVL, hlt, hltI, ← hc, PB, getD3, ← hg]
      done
    · rw [if_neg h6] at hg
      have h6' : ¬ (i : Int) = 6 := by omega
      have hp : (2 : Int) ^ (7 * i) ≤ 2 ^ 35 ∧ (0 : Int) < 2 ^ (7 * i) := by
        have : i = 0 ∨ i = 1 ∨ i = 2 ∨ i = 3 ∨ i = 4 ∨ i = 5 := by omega
        rcases this with rfl | rfl | rfl | rfl | rfl | rfl <;> simp
      have hpn : (2 : Nat) ^ (7 * i) ≤ 2 ^ 35 := Nat.pow_le_pow_right (by omega) (by omega)
      have i7 : InR (7 * (i : Int)) := inW (by omega) (by omega)
      have ic : InR (c % 128) := inW (by omega) (by omega)
      have hmin : min (7 * (i : Int)).toNat IntKind.i64.bits = 7 * i := by show min (7 * (i : Int)).toNat 64 = 7 * i; omega
      have hmul : c % 128 * 2 ^ (7 * i) ≤ 127 * 2 ^ 35 := Int.mul_le_mul (by omega) hp.1 (by omega) (by omega)
      have hmul0 : 0 ≤ c % 128 * 2 ^ (7 * i) := Int.mul_nonneg (by omega) (by omega)
      have is : InR (c % 128 * 2 ^ (7 * i)) := inW (by omega) (by omega)
      have h70 : (0 : Int) ≤ 7 * i := by omega
      have hor : ior .i64 n (c % 128 * 2 ^ (7 * i)) = n + c % 128 * 2 ^ (7 * i) := by
        obtain ⟨n', rfl⟩ := Int.eq_ofNat_of_zero_le hn0
        obtain ⟨c', hc'⟩ := Int.eq_ofNat_of_zero_le (show 0 ≤ c % 128 by omega)
        rw [hc']
        have e : ((c' * 2 ^ (7 * i) : Nat) : Int) = c % 128 * 2 ^ (7 * i) := by rw [hc', Int.natCast_mul, Int.natCast_pow]; rfl
        exact or_lo n' c' (7 * i) (by have : ((2 ^ (7 * i) : Nat) : Int) = 2 ^ (7 * i) := Int.natCast_pow 2 _; omega) (by omega) (by omega)
      by_cases h128 : c < 128
      · rw [if_pos h128] at hg
        by_cases hz : c = 0 ∧ 0 < i
        · rw [if_pos hz] at hg
          obtain ⟨hz1, hz2⟩ := hz
          have iz : InR 0 := inW (by omega) (by omega)
          subst hz1
          have hor0 : ior .i64 n 0 = n := by simpa using hor
          have hz2' : (0 : Int) < i := by omega
          simp [AK_at, acode_seq, acode_region, acode_draw, acode_cond, ↓CB_t, ↓CB_f, CB_u, acode_block, acode_loop, acode_exit, acode_scope, acode_ret, acode_skip, seqQ_n, seqQ_e, seqQ_r, blockQ_n, blockQ_e, blockQ_r, TK_at, OK_at, SK_at, aops_nil, aops_cons, asch_done, asch_one, asch_two, asch_top, astep, aop_eq, isLoud, aloud, aloud1, isWrite, qv, evS, strip, gof, eget, hget, putO, eput, herase, oks, opnds, gS, afin, afin0, binD, arith, D.cells, takeD, fillD, keep, trim, envOf, Fin, aresl, aresv, resD, argOk, pickV, isP, deq, deqs, boundD, slD, lenD, isT, isSl, ptrIds, chunks, mn_min, mx_max, D.cells, splice_one, splice_more, Rbr_at, Rfr_at, frR, frV, frC, flatC, brwR, brwV, brwC, omap, leR, leV, leC, leL, leVL, hlt, ← hc, PB, getD3, ← hg, h6', hand, ic, i7, hmin, is, hor, hz2, h70, iz, hor0, hz2']
          done
        · rw [if_neg hz] at hg
          have hcm : c % 128 = c := by omega
          rw [hcm] at hand ic is hor
          by_cases hc00 : c = 0
          · have hi0 : i = 0 := by omega
            subst hi0 hc00
            have iz : InR 0 := inW (by omega) (by omega)
            have i1 : InR 1 := inW (by omega) (by omega)
            have hor0 : ior .i64 n 0 = n := by simpa using hor
            simp [AK_at, acode_seq, acode_region, acode_draw, acode_cond, ↓CB_t, ↓CB_f, CB_u, acode_block, acode_loop, acode_exit, acode_scope, acode_ret, acode_skip, seqQ_n, seqQ_e, seqQ_r, blockQ_n, blockQ_e, blockQ_r, TK_at, OK_at, SK_at, aops_nil, aops_cons, asch_done, asch_one, asch_two, asch_top, astep, aop_eq, isLoud, aloud, aloud1, isWrite, qv, evS, strip, gof, eget, hget, putO, eput, herase, oks, opnds, gS, afin, afin0, binD, arith, D.cells, takeD, fillD, keep, trim, envOf, Fin, aresl, aresv, resD, argOk, pickV, isP, deq, deqs, boundD, slD, lenD, isT, isSl, ptrIds, chunks, mn_min, mx_max, D.cells, splice_one, splice_more, Rbr_at, Rfr_at, frR, frV, frC, flatC, brwR, brwV, brwC, omap, leR, leV, leC, leL, leVL, hlt, iz, i1, hor0, ← hc, PB, getD3, ← hg, h6', hand, ic, i7, hmin, is, hor, h128, ii, h70]
            done
          · simp [AK_at, acode_seq, acode_region, acode_draw, acode_cond, ↓CB_t, ↓CB_f, CB_u, acode_block, acode_loop, acode_exit, acode_scope, acode_ret, acode_skip, seqQ_n, seqQ_e, seqQ_r, blockQ_n, blockQ_e, blockQ_r, TK_at, OK_at, SK_at, aops_nil, aops_cons, asch_done, asch_one, asch_two, asch_top, astep, aop_eq, isLoud, aloud, aloud1, isWrite, qv, evS, strip, gof, eget, hget, putO, eput, herase, oks, opnds, gS, afin, afin0, binD, arith, D.cells, takeD, fillD, keep, trim, envOf, Fin, aresl, aresv, resD, argOk, pickV, isP, deq, deqs, boundD, slD, lenD, isT, isSl, ptrIds, chunks, mn_min, mx_max, D.cells, splice_one, splice_more, Rbr_at, Rfr_at, frR, frV, frC, flatC, brwR, brwV, brwC, omap, leR, leV, leC, leL, leVL, hlt, ← hc, PB, getD3, ← hg, h6', hand, ic, i7, hmin, is, hor, h128, hc00, ii, h70]
            done
      · rw [if_neg h128] at hg
        simp [AK_at, acode_seq, acode_region, acode_draw, acode_cond, ↓CB_t, ↓CB_f, CB_u, acode_block, acode_loop, acode_exit, acode_scope, acode_ret, acode_skip, seqQ_n, seqQ_e, seqQ_r, blockQ_n, blockQ_e, blockQ_r, TK_at, OK_at, SK_at, aops_nil, aops_cons, asch_done, asch_one, asch_two, asch_top, astep, aop_eq, isLoud, aloud, aloud1, isWrite, qv, evS, strip, gof, eget, hget, putO, eput, herase, oks, opnds, gS, afin, afin0, binD, arith, D.cells, takeD, fillD, keep, trim, envOf, Fin, aresl, aresv, resD, argOk, pickV, isP, deq, deqs, boundD, slD, lenD, isT, isSl, ptrIds, chunks, mn_min, mx_max, D.cells, splice_one, splice_more, Rbr_at, Rfr_at, frR, frV, frC, flatC, brwR, brwV, brwC, omap, leR, leV, leC, leL, leVL, hlt, ← hc, PB, getD3, h6', hand, ic, i7, hmin, is, hor, h128, ii, h70]
        refine ⟨_, (i + 1, n + c % 128 * 2 ^ (7 * i)), (Gh.ren [] (by simp [hB0]) (by simp [hB0] <;> decide) (by simp [eget, rnS, rnR, rnV, rnC, LtS, LtR, LtV, LtC, lget]) (by simp [hget, rnO, rnC, LtO, LtC, lget]) (.inr rfl)), by omega, rfl, by omega, by omega, by simp only; omega, ?_, hg⟩
        simp only
        rw [show 7 * (i + 1) = 7 * i + 7 by omega, Int.pow_add]
        have : c % 128 * 2 ^ (7 * i) ≤ 127 * 2 ^ (7 * i) := Int.mul_le_mul_of_nonneg_right (by omega) (by omega)
        omega
  · have hie : i = b.length := by omega
    subst hie
    simp [getM] at hg
    simp [AK_at, acode_seq, acode_region, acode_draw, acode_cond, ↓CB_t, ↓CB_f, CB_u, acode_block, acode_loop, acode_exit, acode_scope, acode_ret, acode_skip, seqQ_n, seqQ_e, seqQ_r, blockQ_n, blockQ_e, blockQ_r, TK_at, OK_at, SK_at, aops_nil, aops_cons, asch_done, asch_one, asch_two, asch_top, astep, aop_eq, isLoud, aloud, aloud1, isWrite, qv, evS, strip, gof, eget, hget, putO, eput, herase, oks, opnds, gS, afin, afin0, binD, arith, D.cells, takeD, fillD, keep, trim, envOf, Fin, aresl, aresv, resD, argOk, pickV, isP, deq, deqs, boundD, slD, lenD, isT, isSl, ptrIds, chunks, mn_min, mx_max, D.cells, splice_one, splice_more, Rbr_at, Rfr_at, frR, frV, frC, flatC, brwR, brwV, brwC, omap, leR, leV, leC, leL, leVL, getD3, ← hg]
end Go.Proofs.Ytfkeddefajkobaa

set_option linter.unusedSimpArgs false
set_option linter.unusedVariables false
set_option maxRecDepth 100000
set_option maxHeartbeats 2000000
namespace Go.Proofs.Ytfkeddefajkobaa
open Go.RowKit
theorem WCall.hf {P : Program} {sb : Bool} {B : Base} {st : St} {K : St → Prop} {f : FuncId} {as_ : List Opd} {ds0 : List D} {dst : Option Nat} {H0 : List (Nat × Ob)} {n0 : Nat} {R : D → List (Nat × Ob) → Nat → Prop} (l : List Nat) (hf : HF P f ds0 H0 n0 R)
    (hok : oks st.env (.call f as_) = true) (hsb : sb = false) (hl : l.length = n0) (hnd : l.Nodup) (hlt : ∀ k ∈ l, k < st.nx)
    (hds : as_.map (evS st.env) = ds0.map (rnV (rho l n0 st.nx))) (hao : ds0.all argOk = true) (hdl : ∀ d ∈ ds0, LtV n0 d)
    (hH0 : ∀ p ∈ H0, p.1 < n0 ∧ LtO n0 p.2 ∧ hget st.heap (rho l n0 st.nx p.1) = some (rnO (rho l n0 st.nx) p.2))
    (hK : ∀ d H' nx', R d H' nx' → K ⟨putO st.env dst (rnR (rho l n0 st.nx) d), hputs (rho l n0 st.nx) H' (herases l st.heap), st.nx + (nx' - n0)⟩) : WCall P sb B (.call f as_) dst st K :=
  WCall.of hok (CallOk.hf hf (fun h => by rw [hsb] at h; cases h) l hl hnd hlt hds hao hdl hH0 fun d H' nx' _ hR => hK d H' nx' hR)
/-- the kinds of events -/
inductive EK where
  | op | da | cl | an | jo | re | ti
def EK.n : EK → Int
  | .op => 1 | .da => 2 | .cl => 3 | .an => 4 | .jo => 5 | .re => 6 | .ti => 7
def flowR : List (List D) := [[.ptr 0 2, I 0, I 39], [.ptr 0 3, I 0, I 1048576]]
def askR : List (List D) := [[.ptr 0 5, I 0, I 1048576], [.ptr 0 6, I 0, I 11]]
def EK.rows : EK → List (List D)
  | .op => [[.ptr 0 1, I 0, I 4294967295]]
  | .da => flowR
  | .cl => flowR
  | .an => flowR ++ [[.ptr 1 0, I 0, I 1]]
  | .jo => askR ++ [[.ptr 0 7, I 1, I 8]]
  | .re => askR
  | .ti => []
def EK.fd : EK → D
  | .op => .own 4 | .da => .own 2 | .cl => .own 2 | .an => .own 5 | .jo => .own 5 | .re => .own 3 | .ti => .nil0
def EK.fn : EK → Nat
  | .op => 5 | .da => 4 | .cl => 4 | .an => 6 | .jo => 6 | .re => 4 | .ti => 4
def EK.fh : EK → List (Nat × Ob)
  | .op => [(4, .rowd 3 (EK.rows .op)), (3, .rowd 3 askR), (2, .rowd 3 flowR)]
  | .da => [(3, .rowd 3 askR), (2, .rowd 3 flowR)]
  | .cl => [(3, .rowd 3 askR), (2, .rowd 3 flowR)]
  | .an => [(5, .rowd 3 (EK.rows .an)), (4, .rowd 3 [[.ptr 1 0, I 0, I 1]]), (3, .rowd 3 askR)]
  | .jo => [(5, .rowd 3 (EK.rows .jo)), (4, .rowd 3 [[.ptr 0 7, I 1, I 8]]), (2, .rowd 3 flowR)]
  | .re => [(3, .rowd 3 askR), (2, .rowd 3 flowR)]
  | .ti => [(3, .rowd 3 askR), (2, .rowd 3 flowR)]
theorem wfields_code : cfun Try.prog [] 63 = some ⟨(.seq (.region 0 [⟨(some 4), (.mov (.k .nil0)), none⟩, ⟨(some 5), (.mov (.k (.bool false))), none⟩]) (.seq (.draw 1 (.one true ⟨(some 8), (.mov (.t 0)), none⟩ (.one true ⟨(some 9), (.nchk (.t 8)), none⟩ (.one true ⟨(some 10), (.fad 2 (.t 9)), none⟩ (.one true ⟨(some 11), (.build [.nilp, (.int .i64 0), (.int .i64 0)] [(0, (1, (.t 10))), (1, (1, (.k (.int .i64 0)))), (2, (1, (.k (.int .i64 39))))]), none⟩ (.one true ⟨(some 12), (.mov (.t 0)), none⟩ (.one true ⟨(some 13), (.nchk (.t 12)), none⟩ (.one true ⟨(some 14), (.fad 3 (.t 13)), none⟩ (.one true ⟨(some 15), (.build [.nilp, (.int .i64 0), (.int .i64 0)] [(0, (1, (.t 14))), (1, (1, (.k (.int .i64 0)))), (2, (1, (.k (.int .i64 1048576))))]), none⟩ (.one true ⟨(some 16), (.bslice 3 2 [.nilp, (.int .i64 0), (.int .i64 0)] [(0, (.t 11)), (1, (.t 15))]), none⟩ (.one true ⟨(some 6), (.mov (.t 16)), none⟩ .done))))))))))) (.seq (.draw 2 (.one true ⟨(some 17), (.mov (.t 0)), none⟩ (.one true ⟨(some 18), (.nchk (.t 17)), none⟩ (.one true ⟨(some 19), (.fad 5 (.t 18)), none⟩ (.one true ⟨(some 20), (.build [.nilp, (.int .i64 0), (.int .i64 0)] [(0, (1, (.t 19))), (1, (1, (.k (.int .i64 0)))), (2, (1, (.k (.int .i64 1048576))))]), none⟩ (.one true ⟨(some 21), (.mov (.t 0)), none⟩ (.one true ⟨(some 22), (.nchk (.t 21)), none⟩ (.one true ⟨(some 23), (.fad 6 (.t 22)), none⟩ (.one true ⟨(some 24), (.build [.nilp, (.int .i64 0), (.int .i64 0)] [(0, (1, (.t 23))), (1, (1, (.k (.int .i64 0)))), (2, (1, (.k (.int .i64 11))))]), none⟩ (.one true ⟨(some 25), (.bslice 3 2 [.nilp, (.int .i64 0), (.int .i64 0)] [(0, (.t 20)), (1, (.t 24))]), none⟩ (.one true ⟨(some 7), (.mov (.t 25)), none⟩ .done))))))))))) (.seq (.seq (.region 3 [⟨(some 26), (.mov (.t 0)), none⟩, ⟨(some 27), (.nchk (.t 26)), none⟩, ⟨(some 28), (.fad 0 (.t 27)), none⟩, ⟨(some 29), (.load false 1 (.t 28)), none⟩]) (.block 0 (.seq (.region 4 [⟨(some 31), (.bin .eql (.t 29) (.k (.int .i64 1))), none⟩, ⟨(some 30), (.mov (.t 31)), none⟩]) (.cond 30 (.seq (.region 5 [⟨(some 32), (.mov (.t 0)), none⟩, ⟨(some 33), (.nchk (.t 32)), none⟩, ⟨(some 34), (.fad 1 (.t 33)), none⟩, ⟨(some 35), (.build [.nilp, (.int .i64 0), (.int .i64 0)] [(0, (1, (.t 34))), (1, (1, (.k (.int .i64 0)))), (2, (1, (.k (.int .i64 4294967295))))]), none⟩, ⟨(some 36), (.bslice 3 1 [.nilp, (.int .i64 0), (.int .i64 0)] [(0, (.t 35))]), none⟩, ⟨(some 4), (.mov (.t 36)), none⟩, ⟨(some 5), (.mov (.k (.bool true))), none⟩]) .ret) (.seq (.seq (.region 6 [⟨(some 38), (.bin .eql (.t 29) (.k (.int .i64 2))), none⟩, ⟨(some 37), (.mov (.t 38)), none⟩]) (.cond 37 .skip (.region 7 [⟨(some 39), (.bin .eql (.t 29) (.k (.int .i64 3))), none⟩, ⟨(some 37), (.mov (.t 39)), none⟩]))) (.cond 37 (.seq (.region 8 [⟨(some 40), (.mov (.t 6)), none⟩, ⟨(some 4), (.mov (.t 40)), none⟩, ⟨(some 5), (.mov (.k (.bool true))), none⟩]) .ret) (.seq (.region 9 [⟨(some 42), (.bin .eql (.t 29) (.k (.int .i64 4))), none⟩, ⟨(some 41), (.mov (.t 42)), none⟩]) (.cond 41 (.seq (.region 10 [⟨(some 43), (.mov (.t 6)), none⟩, ⟨(some 44), (.mov (.t 1)), none⟩, ⟨(some 45), (.build [.nilp, (.int .i64 0), (.int .i64 0)] [(0, (1, (.t 44))), (1, (1, (.k (.int .i64 0)))), (2, (1, (.k (.int .i64 1))))]), none⟩, ⟨(some 46), (.bslice 3 1 [.nilp, (.int .i64 0), (.int .i64 0)] [(0, (.t 45))]), none⟩, ⟨(some 47), (.app 3 24 [.nilp, (.int .i64 0), (.int .i64 0)] (.t 43) (.t 46)), none⟩, ⟨(some 4), (.mov (.t 47)), none⟩, ⟨(some 5), (.mov (.k (.bool true))), none⟩]) .ret) (.seq (.region 11 [⟨(some 49), (.bin .eql (.t 29) (.k (.int .i64 5))), none⟩, ⟨(some 48), (.mov (.t 49)), none⟩]) (.cond 48 (.seq (.region 12 [⟨(some 50), (.mov (.t 7)), none⟩, ⟨(some 51), (.mov (.t 0)), none⟩, ⟨(some 52), (.nchk (.t 51)), none⟩, ⟨(some 53), (.fad 7 (.t 52)), none⟩, ⟨(some 54), (.build [.nilp, (.int .i64 0), (.int .i64 0)] [(0, (1, (.t 53))), (1, (1, (.k (.int .i64 1)))), (2, (1, (.k (.int .i64 8))))]), none⟩, ⟨(some 55), (.bslice 3 1 [.nilp, (.int .i64 0), (.int .i64 0)] [(0, (.t 54))]), none⟩, ⟨(some 56), (.app 3 24 [.nilp, (.int .i64 0), (.int .i64 0)] (.t 50) (.t 55)), none⟩, ⟨(some 4), (.mov (.t 56)), none⟩, ⟨(some 5), (.mov (.k (.bool true))), none⟩]) .ret) (.seq (.region 13 [⟨(some 58), (.bin .eql (.t 29) (.k (.int .i64 6))), none⟩, ⟨(some 57), (.mov (.t 58)), none⟩]) (.cond 57 (.seq (.region 14 [⟨(some 59), (.mov (.t 7)), none⟩, ⟨(some 4), (.mov (.t 59)), none⟩, ⟨(some 5), (.mov (.k (.bool true))), none⟩]) .ret) (.seq (.region 15 [⟨(some 61), (.bin .eql (.t 29) (.k (.int .i64 7))), none⟩, ⟨(some 60), (.mov (.t 61)), none⟩]) (.cond 60 (.seq (.region 16 [⟨(some 4), (.mov (.k .nil0)), none⟩, ⟨(some 5), (.mov (.k (.bool true))), none⟩]) .ret) .skip)))))))))))))) (.seq (.region 17 [⟨(some 4), (.mov (.k .nil0)), none⟩, ⟨(some 5), (.mov (.k (.bool false))), none⟩]) .ret))))), [(.t 4), (.t 5)], 62⟩ := by kernel_rfl
theorem wfields_hf (kd : EK) (c1 c2 c3 : Int) (c4 : Bool) (c5 c6 c7 g : Int) :
    HF Try.prog 63 [.ptr 0 0, .ptr 1 0] [(1, .cells [I g]), (0, .cells [I kd.n, I c1, I c2, I c3, .bool c4, I c5, I c6, I c7])] 2
      (fun d H' nx' => d = .tup [kd.fd, .bool true] ∧ H' = kd.fh ++ [(1, .cells [I g]), (0, .cells [I kd.n, I c1, I c2, I c3, .bool c4, I c5, I c6, I c7])] ∧ nx' = kd.fn) := by
  refine HF.of follows_ok wfields_code (by simp) (by simp [argOk]) (by simp [LtV, LtC]) fun B hBN hB0 => acode_sound [0, 1, 4, 5, 6, 7, 29, 30, 37, 41, 48, 57, 60] [] _ _ _ ?_
  cases kd
  all_goals
    simp [AK_at, acode_seq, acode_region, acode_draw, acode_cond, ↓CB_t, ↓CB_f, CB_u, acode_block, acode_loop, acode_exit, acode_scope, acode_ret, acode_skip, seqQ_n, seqQ_e, seqQ_r, blockQ_n, blockQ_e, blockQ_r, TK_at, OK_at, SK_at, aops_nil, aops_cons, asch_done, asch_one, asch_two, asch_top, astep, aop_eq, isLoud, aloud, aloud1, isWrite, qv, evS, strip, gof, eget, hget, putO, eput, herase, oks, opnds, gS, afin, afin0, binD, arith, D.cells, takeD, fillD, keep, trim, envOf, Fin, aresl, aresv, resD, argOk, pickV, isP, deq, deqs, boundD, slD, lenD, isT, isSl, ptrIds, chunks, mn_min, mx_max, D.cells, splice_one, splice_more, Rbr_at, Rfr_at, frR, frV, frC, flatC, brwR, brwV, brwC, omap, leR, leV, leC, leL, leVL, EK.n, EK.fd, EK.fh, EK.fn, EK.rows, flowR, askR]
    done
theorem wfields_none (k c1 c2 c3 : Int) (c4 : Bool) (c5 c6 c7 g : Int) (hk : k < 1 ∨ 7 < k) :
    HF Try.prog 63 [.ptr 0 0, .ptr 1 0] [(1, .cells [I g]), (0, .cells [I k, I c1, I c2, I c3, .bool c4, I c5, I c6, I c7])] 2
      (fun d H' nx' => d = .tup [.nil0, .bool false] ∧ H' = [(3, .rowd 3 askR), (2, .rowd 3 flowR)] ++ [(1, .cells [I g]), (0, .cells [I k, I c1, I c2, I c3, .bool c4, I c5, I c6, I c7])] ∧ nx' = 4) := by
  have k1 : ¬ k = 1 := by omega
  have k2 : ¬ k = 2 := by omega
  have k3 : ¬ k = 3 := by omega
  have k4 : ¬ k = 4 := by omega
  have k5 : ¬ k = 5 := by omega
  have k6 : ¬ k = 6 := by omega
  have k7 : ¬ k = 7 := by omega
  refine HF.of follows_ok wfields_code (by simp) (by simp [argOk]) (by simp [LtV, LtC]) fun B hBN hB0 => acode_sound [0, 1, 4, 5, 6, 7, 29, 30, 37, 41, 48, 57, 60] [] _ _ _ ?_
  simp [AK_at, acode_seq, acode_region, acode_draw, acode_cond, ↓CB_t, ↓CB_f, CB_u, acode_block, acode_loop, acode_exit, acode_scope, acode_ret, acode_skip, seqQ_n, seqQ_e, seqQ_r, blockQ_n, blockQ_e, blockQ_r, TK_at, OK_at, SK_at, aops_nil, aops_cons, asch_done, asch_one, asch_two, asch_top, astep, aop_eq, isLoud, aloud, aloud1, isWrite, qv, evS, strip, gof, eget, hget, putO, eput, herase, oks, opnds, gS, afin, afin0, binD, arith, D.cells, takeD, fillD, keep, trim, envOf, Fin, aresl, aresv, resD, argOk, pickV, isP, deq, deqs, boundD, slD, lenD, isT, isSl, ptrIds, chunks, mn_min, mx_max, D.cells, splice_one, splice_more, Rbr_at, Rfr_at, frR, frV, frC, flatC, brwR, brwV, brwC, omap, leR, leV, leC, leL, leVL, flowR, askR, k1, k2, k3, k4, k5, k6, k7]
  done
end Go.Proofs.Ytfkeddefajkobaa

set_option linter.unusedSimpArgs false
set_option linter.unusedVariables false
set_option maxRecDepth 100000
set_option maxHeartbeats 2000000
namespace Go.Proofs.Ytfkeddefajkobaa
open Go.RowKit
theorem ins_a (A : List (List D)) (row : List D) (i m k z : Nat) (hA : A.length = i) (hm : 1 ≤ m) :
    (A ++ List.replicate (m + k) (anyRow z)).take i ++ [row].take m ++ (A ++ List.replicate (m + k) (anyRow z)).drop (i + ([row].take m).length) = A ++ [row] ++ List.replicate (m + k - 1) (anyRow z) := by
  obtain ⟨m, rfl⟩ : ∃ m', m = m' + 1 := ⟨m - 1, by omega⟩
  subst hA
  rw [List.take_left, List.take_of_length_le (by simp), List.drop_append, List.drop_eq_nil_of_le (by simp), List.drop_replicate]
  simp
theorem ins_b (A B : List (List D)) (row : List D) (i r z : Nat) (hA : A.length = i) (hr : B.length ≤ r) :
    (A ++ [row] ++ List.replicate r (anyRow z)).take (i + 1) ++ B ++ (A ++ [row] ++ List.replicate r (anyRow z)).drop (i + 1 + B.length) = A ++ [row] ++ B ++ List.replicate (r - B.length) (anyRow z) := by
  subst hA
  have e : A.length + 1 = (A ++ [row]).length := by simp
  rw [e, List.take_left, List.drop_append, List.drop_eq_nil_of_le (by simp), List.drop_replicate]
  simp only [List.nil_append]
  congr 2; simp
theorem ins_c (xs : List (List D)) (i k z : Nat) (hi : i < xs.length) : (((xs ++ List.replicate (k + 1) (anyRow z)).drop i).take (xs.length + 1 - i)).take (xs.length - i) = xs.drop i := by
  rw [List.take_take, Nat.min_eq_left (by omega), List.drop_append_of_le_length (by omega), List.take_append_of_le_length (by simp), List.take_of_length_le (by simp)]
theorem ins_d (xs : List (List D)) (i k z : Nat) (hi : i < xs.length) :
    (xs ++ List.replicate (k + 1) (anyRow z)).take (i + 1) ++ xs.drop i ++ (xs ++ List.replicate (k + 1) (anyRow z)).drop (i + 1 + (xs.drop i).length) = xs.take (i + 1) ++ xs.drop i ++ List.replicate k (anyRow z) := by
  have h1 : xs.drop (i + 1 + (xs.drop i).length) = [] := List.drop_eq_nil_of_le (by simp; omega)
  rw [List.take_append_of_le_length (by omega), List.drop_append (l₁ := xs), h1, List.drop_replicate]
  simp only [List.nil_append]
  congr 2; simp; omega
theorem ins_e (xs : List (List D)) (row : List D) (i k z m : Nat) (hi : i < xs.length) (hm : 1 ≤ m) :
    (xs.take (i + 1) ++ xs.drop i ++ List.replicate k (anyRow z)).take i ++ [row].take m ++ (xs.take (i + 1) ++ xs.drop i ++ List.replicate k (anyRow z)).drop (i + ([row].take m).length) = xs.take i ++ [row] ++ xs.drop i ++ List.replicate k (anyRow z) := by
  have h1 : (xs.take (i + 1)).length = i + 1 := by simp; omega
  rw [List.take_of_length_le (l := [row]) (by simp; omega), List.append_assoc (xs.take (i + 1)), List.take_append_of_le_length (by omega), List.take_take, Nat.min_eq_left (by omega)]
  have e : i + [row].length = (xs.take (i + 1)).length := by simp; omega
  rw [e, List.drop_left]
  simp
theorem ins_t (xs : List (List D)) (row : List D) (i k z : Nat) (hi : i ≤ xs.length) : (xs.take i ++ [row] ++ xs.drop i ++ List.replicate k (anyRow z)).take (xs.length + 1) = xs.take i ++ [row] ++ xs.drop i := by
  have e : xs.length + 1 = (xs.take i ++ [row] ++ xs.drop i).length := by simp; omega
  rw [e, List.take_left]
theorem ins_mem {xs : List (List D)} {row : List D} {i : Nat} {q : List D → Prop} (h1 : ∀ r ∈ xs, q r) (h2 : q row) : ∀ r ∈ xs.take i ++ [row] ++ xs.drop i, q r := by
  intro r hr
  rcases List.mem_append.1 hr with hr | hr
  · rcases List.mem_append.1 hr with hr | hr
    · exact h1 r (List.mem_of_mem_take hr)
    · rw [List.mem_singleton.1 hr]; exact h2
  · exact h1 r (List.mem_of_mem_drop hr)
theorem lins_code : cfun Try.prog [] 98 = some ⟨(.seq (.region 0 [⟨(some 6), (.mov (.k .nil0)), none⟩]) (.seq (.region 1 [⟨(some 10), (.mov (.t 0)), none⟩, ⟨(some 11), (.mov (.t 1)), none⟩, ⟨(some 12), (.slc 6 (.t 10) (some (.t 11)) none none), none⟩]) (.seq (.region 2 [⟨(some 13), (.mov (.t 2)), none⟩, ⟨(some 14), (.len (.t 13)), none⟩, ⟨(some 7), (.mov (.t 14)), none⟩]) (.seq (.seq (.region 3 [⟨(some 15), (.mov (.t 7)), none⟩, ⟨(some 16), (.bin .eql (.t 15) (.k (.int .i64 0))), none⟩]) (.cond 16 (.seq (.region 4 [⟨(some 17), (.mov (.t 0)), none⟩, ⟨(some 6), (.mov (.t 17)), none⟩]) .ret) .skip)) (.seq (.region 5 [⟨(some 18), (.mov (.t 0)), none⟩, ⟨(some 19), (.len (.t 18)), none⟩, ⟨(some 8), (.mov (.t 19)), none⟩]) (.seq (.seq (.region 6 [⟨(some 20), (.mov (.t 1)), none⟩, ⟨(some 21), (.mov (.t 8)), none⟩, ⟨(some 22), (.bin .eql (.t 20) (.t 21)), none⟩]) (.cond 22 (.seq (.region 7 [⟨(some 23), (.mov (.t 0)), none⟩, ⟨(some 24), (.mov (.t 2)), none⟩, ⟨(some 25), (.app 6 48 [(.int .i64 0), (.int .i64 0), (.int .i64 0), (.int .i64 0), (.int .i64 0), (.int .i64 0)] (.t 23) (.t 24)), none⟩, ⟨(some 6), (.mov (.t 25)), none⟩]) .ret) .skip)) (.seq (.seq (.region 8 [⟨(some 26), (.mov (.t 8)), none⟩, ⟨(some 27), (.mov (.t 7)), none⟩, ⟨(some 28), (.bin .add (.t 26) (.t 27)), none⟩, ⟨(some 29), (.mov (.t 0)), none⟩, ⟨(some 30), (.xop 8 [] [(.t 29)]), none⟩, ⟨(some 31), (.bin .gtr (.t 28) (.t 30)), none⟩]) (.cond 31 (.seq (.region 9 [⟨(some 32), (.mov (.t 0)), none⟩, ⟨(some 33), (.mov (.t 1)), none⟩, ⟨(some 34), (.slc 6 (.t 32) none (some (.t 33)) none), none⟩, ⟨(some 35), (.mov (.t 8)), none⟩, ⟨(some 36), (.mov (.t 7)), none⟩, ⟨(some 37), (.bin .add (.t 35) (.t 36)), none⟩, ⟨(some 38), (.mov (.t 1)), none⟩, ⟨(some 39), (.bin .sub (.t 37) (.t 38)), none⟩, ⟨(some 40), (.xop 11 [6, 48] [(.t 34), (.t 39)]), none⟩, ⟨(some 9), (.mov (.t 40)), none⟩]) (.seq (.region 10 [⟨(some 41), (.mov (.t 9)), none⟩, ⟨(some 42), (.mov (.t 1)), none⟩, ⟨(some 43), (.slc 6 (.t 41) (some (.t 42)) none none), none⟩, ⟨(some 44), (.mov (.t 2)), none⟩, ⟨(some 45), (.xop 9 [6] [(.t 43), (.t 44)]), none⟩]) (.seq (.draw 11 (.one true ⟨(some 46), (.mov (.t 9)), none⟩ (.one true ⟨(some 47), (.mov (.t 1)), none⟩ (.one true ⟨(some 48), (.mov (.t 7)), none⟩ (.one true ⟨(some 49), (.bin .add (.t 47) (.t 48)), none⟩ (.one true ⟨(some 50), (.slc 6 (.t 46) (some (.t 49)) none none), none⟩ (.one true ⟨(some 51), (.mov (.t 0)), none⟩ (.one true ⟨(some 52), (.mov (.t 1)), none⟩ (.one true ⟨(some 53), (.slc 6 (.t 51) (some (.t 52)) none none), none⟩ (.one false ⟨(some 54), (.xop 9 [6] [(.t 50), (.t 53)]), none⟩ .done)))))))))) (.seq (.region 12 [⟨(some 55), (.mov (.t 9)), none⟩, ⟨(some 6), (.mov (.t 55)), none⟩]) .ret)))) .skip)) (.seq (.region 13 [⟨(some 56), (.mov (.t 0)), none⟩, ⟨(some 57), (.mov (.t 8)), none⟩, ⟨(some 58), (.mov (.t 7)), none⟩, ⟨(some 59), (.bin .add (.t 57) (.t 58)), none⟩, ⟨(some 60), (.slc 6 (.t 56) none (some (.t 59)) none), none⟩, ⟨(some 0), (.mov (.t 60)), none⟩]) (.seq (.seq (.region 14 [⟨(some 61), (.mov (.t 2)), none⟩, ⟨(some 62), (.mov (.t 0)), none⟩, ⟨(some 63), (.mov (.t 1)), none⟩, ⟨(some 64), (.mov (.t 7)), none⟩, ⟨(some 65), (.bin .add (.t 63) (.t 64)), none⟩, ⟨(some 66), (.slc 6 (.t 62) (some (.t 65)) none none), none⟩, ⟨(some 67), (.call 119 [(.t 61), (.t 66)]), none⟩, ⟨(some 68), (.not (.t 67)), none⟩]) (.cond 68 (.seq (.draw 15 (.one true ⟨(some 69), (.mov (.t 0)), none⟩ (.one true ⟨(some 70), (.mov (.t 1)), none⟩ (.one true ⟨(some 71), (.mov (.t 7)), none⟩ (.one true ⟨(some 72), (.bin .add (.t 70) (.t 71)), none⟩ (.one true ⟨(some 73), (.slc 6 (.t 69) (some (.t 72)) none none), none⟩ (.one true ⟨(some 74), (.mov (.t 0)), none⟩ (.one true ⟨(some 75), (.mov (.t 1)), none⟩ (.one true ⟨(some 76), (.slc 6 (.t 74) (some (.t 75)) none none), none⟩ (.one false ⟨(some 77), (.xop 9 [6] [(.t 73), (.t 76)]), none⟩ .done)))))))))) (.seq (.region 16 [⟨(some 78), (.mov (.t 0)), none⟩, ⟨(some 79), (.mov (.t 1)), none⟩, ⟨(some 80), (.slc 6 (.t 78) (some (.t 79)) none none), none⟩, ⟨(some 81), (.mov (.t 2)), none⟩, ⟨(some 82), (.xop 9 [6] [(.t 80), (.t 81)]), none⟩]) (.seq (.region 17 [⟨(some 83), (.mov (.t 0)), none⟩, ⟨(some 6), (.mov (.t 83)), none⟩]) .ret))) .skip)) (.seq (.region 18 [⟨(some 84), (.mov (.t 0)), none⟩, ⟨(some 85), (.mov (.t 8)), none⟩, ⟨(some 86), (.slc 6 (.t 84) (some (.t 85)) none none), none⟩, ⟨(some 87), (.mov (.t 2)), none⟩, ⟨(some 88), (.xop 9 [6] [(.t 86), (.t 87)]), none⟩]) (.seq (.region 19 [⟨(some 89), (.mov (.t 0)), none⟩, ⟨(some 90), (.mov (.t 1)), none⟩, ⟨(some 91), (.slc 6 (.t 89) (some (.t 90)) none none), none⟩, ⟨(some 92), (.mov (.t 7)), none⟩, ⟨(some 93), (.call 120 [(.t 91), (.t 92)]), none⟩]) (.seq (.region 20 [⟨(some 94), (.mov (.t 0)), none⟩, ⟨(some 6), (.mov (.t 94)), none⟩]) .ret)))))))))))), [(.t 6)], 95⟩ := by kernel_rfl
theorem lov_ext (args : Array Value) (w : World) : (callFunc 119 args).run Try.prog w = ((Extern.SlicesOverlaps.overlaps #[50, 50] #[4] args).run Try.prog w).andThen fun v w' => .ok (.value v) w' :=
  run_callFunc_extern Try.func119 (by kernel_rfl) (by kernel_rfl) (by kernel_rfl) (e := Extern.SlicesOverlaps.overlaps #[50, 50] #[4]) (by kernel_rfl) args w
theorem lins_hf (xs : List (List D)) (i : Nat) (row : List D) (hi : i ≤ xs.length) (hl : xs.length < 1000000) (hrow : row.length = 6) (hxs : ∀ r ∈ xs, r.length = 6) (hT : ∀ r ∈ xs, ∀ d ∈ r, isT d = true) (hTr : ∀ d ∈ row, isT d = true) :
    HF Try.prog 98 [.own 0, I i, .own 1] [(1, .row 6 [row]), (0, .row 6 xs)] 2 (fun d H' nx' => d = .own 2 ∧ H' = [(2, .row 6 (xs.take i ++ [row] ++ xs.drop i))] ∧ nx' = 3) := by
  refine HF.one (fun _ => rfl) (fun _ => trivial) ?_
  refine HF.of follows_ok lins_code (by simp) (by simp [argOk]) (by simp [LtV, LtC]) fun B hBN hB0 => acode_sound [0, 1, 2, 6, 7, 8, 9, 16, 22, 31, 68] [8, 12, 17] _ _ _ ?_
  by_cases hin : i = xs.length
  · subst hin
    have hcap : (xs.length + 1) * 48 ≤ 140737488355328 := by omega
    simp [AK_at, acode_seq, acode_region, acode_draw, acode_cond, ↓CB_t, ↓CB_f, CB_u, acode_block, acode_loop, acode_exit, acode_scope, acode_ret, acode_skip, seqQ_n, seqQ_e, seqQ_r, blockQ_n, blockQ_e, blockQ_r, TK_at, OK_at, SK_at, aops_nil, aops_cons, asch_done, asch_one, asch_two, asch_top, astep, aop_eq, isLoud, aloud, aloud1, isWrite, qv, evS, strip, gof, eget, hget, putO, eput, herase, oks, opnds, gS, afin, afin0, binD, arith, D.cells, takeD, fillD, keep, trim, envOf, Fin, aresl, aresv, resD, argOk, pickV, isP, deq, deqs, boundD, slD, lenD, isT, isSl, ptrIds, chunks, mn_min, mx_max, D.cells, splice_one, splice_more, hcap, hrow]
  have hz : ¬ ((i : Int) = xs.length) := by omega
  have h0 : xs ≠ [] := by
    rintro rfl
    simp at hi hin; omega
  have hlt : i < xs.length := by omega
  have i1 : InR ((xs.length : Int) + 1) := inW (by omega) (by omega)
  have i2 : InR ((xs.length : Int) + 1 - i) := inW (by omega) (by omega)
  have i3 : InR ((i : Int) + 1) := inW (by omega) (by omega)
  have p1 : (0 : Int) ≤ (xs.length : Int) + 1 := by omega
  have p3 : (0 : Int) ≤ (i : Int) + 1 := by omega
  have hnv : ∀ {d : D}, isT d = true → d ≠ .any := fun h e => by rw [e] at h; cases h
  simp [AK_at, acode_seq, acode_region, acode_draw, acode_cond, ↓CB_t, ↓CB_f, CB_u, acode_block, acode_loop, acode_exit, acode_scope, acode_ret, acode_skip, seqQ_n, seqQ_e, seqQ_r, blockQ_n, blockQ_e, blockQ_r, TK_at, OK_at, SK_at, aops_nil, aops_cons, asch_done, asch_one, asch_two, asch_top, astep, aop_eq, isLoud, aloud, aloud1, isWrite, qv, evS, strip, gof, eget, hget, putO, eput, herase, oks, opnds, gS, afin, afin0, binD, arith, D.cells, takeD, fillD, keep, trim, envOf, Fin, aresl, aresv, resD, argOk, pickV, isP, deq, deqs, boundD, slD, lenD, isT, isSl, ptrIds, chunks, mn_min, mx_max, D.cells, splice_one, splice_more, hin, hz, hi]
  refine W.openR (t := 0) (id := 0) (sz := 6) (xs := xs) (by simp [eget]) (by simp [hget]) h0 fun k => ?_
  simp only [eput]
  refine acode_sound [0, 1, 2, 6, 7, 8, 9, 16, 22, 31, 68] [] _ _ _ ?_
  have hA : (xs.take i).length = i := by simp; omega
  have hB : (xs.drop i).length = xs.length - i := by simp
  cases k with
  | zero =>
    have c0 : (xs.length : Int) < xs.length + 1 := by omega
    obtain ⟨m, hm⟩ : ∃ m, m = xs.length + 1 - i := ⟨_, rfl⟩
    have hmz : (xs.length : Int) + 1 - i = (m : Nat) := by omega
    have him : i + m = xs.length + 1 := by omega
    have hm1 : 1 ≤ m := by omega
    have i2' : InR (m : Int) := by rw [← hmz]; exact i2
    simp [AK_at, acode_seq, acode_region, acode_draw, acode_cond, ↓CB_t, ↓CB_f, CB_u, acode_block, acode_loop, acode_exit, acode_scope, acode_ret, acode_skip, seqQ_n, seqQ_e, seqQ_r, blockQ_n, blockQ_e, blockQ_r, TK_at, OK_at, SK_at, aops_nil, aops_cons, asch_done, asch_one, asch_two, asch_top, astep, aop_eq, isLoud, aloud, aloud1, isWrite, qv, evS, strip, gof, eget, hget, putO, eput, herase, oks, opnds, gS, afin, afin0, binD, arith, D.cells, takeD, fillD, keep, trim, envOf, Fin, aresl, aresv, resD, argOk, pickV, isP, deq, deqs, boundD, slD, lenD, isT, isSl, ptrIds, chunks, mn_min, mx_max, D.cells, splice_one, splice_more, i1]
    refine XCall.cap (id := 0) (sz := 6) (off := 0) (len := xs.length) (cp := xs.length) (by simp [oks, opnds, gS, gof, eget]) (by simp [evS, eget, strip]) ?_
    simp [AK_at, acode_seq, acode_region, acode_draw, acode_cond, ↓CB_t, ↓CB_f, CB_u, acode_block, acode_loop, acode_exit, acode_scope, acode_ret, acode_skip, seqQ_n, seqQ_e, seqQ_r, blockQ_n, blockQ_e, blockQ_r, TK_at, OK_at, SK_at, aops_nil, aops_cons, asch_done, asch_one, asch_two, asch_top, astep, aop_eq, isLoud, aloud, aloud1, isWrite, qv, evS, strip, gof, eget, hget, putO, eput, herase, oks, opnds, gS, afin, afin0, binD, arith, D.cells, takeD, fillD, keep, trim, envOf, Fin, aresl, aresv, resD, argOk, pickV, isP, deq, deqs, boundD, slD, lenD, isT, isSl, ptrIds, chunks, mn_min, mx_max, D.cells, splice_one, splice_more, i1, hmz, i2', c0, hi]
    refine XCall.appmake (id := 0) (off := 0) (len := i) (cp := xs.length) (xs := xs) (n := m) (by simp [oks, opnds, gS, gof, eget]) (by simp [evS, eget, strip]) (by simp [hget]) (by simp [evS, eget, strip]) (by omega) (by omega) (by omega) (by omega) fun k => ?_
    rw [List.drop_zero, him]
    obtain ⟨W1, hW1⟩ : ∃ W1, W1 = xs.take i ++ List.replicate (m + k) (anyRow 6) := ⟨_, rfl⟩
    have hW2 := ins_a (xs.take i) row i m k 6 hA hm1
    rw [← hW1] at hW2 ⊢
    obtain ⟨W2, hW2'⟩ : ∃ W2, W2 = xs.take i ++ [row] ++ List.replicate (m + k - 1) (anyRow 6) := ⟨_, rfl⟩
    rw [← hW2'] at hW2
    have hW3 := ins_b (xs.take i) (xs.drop i) row i (m + k - 1) 6 hA (by omega)
    rw [← hW2'] at hW3
    have hk3 : m + k - 1 - (xs.drop i).length = k := by omega
    rw [hk3] at hW3
    obtain ⟨W3, hW3'⟩ : ∃ W3, W3 = xs.take i ++ [row] ++ xs.drop i ++ List.replicate k (anyRow 6) := ⟨_, rfl⟩
    rw [← hW3'] at hW3
    have l3 : W3.length = xs.length + 1 + k := by rw [hW3']; simp; omega
    have t3 : W3.take (xs.length + 1) = xs.take i ++ [row] ++ xs.drop i := by rw [hW3']; exact ins_t xs row i k 6 hi
    have hle1 : i ≤ xs.length + 1 := by omega
    have hle2 : i + 1 ≤ xs.length + 1 := by omega
    have hle3 : xs.length + 1 ≤ xs.length + 1 + k := by omega
    simp [AK_at, acode_seq, acode_region, acode_draw, acode_cond, ↓CB_t, ↓CB_f, CB_u, acode_block, acode_loop, acode_exit, acode_scope, acode_ret, acode_skip, seqQ_n, seqQ_e, seqQ_r, blockQ_n, blockQ_e, blockQ_r, TK_at, OK_at, SK_at, aops_nil, aops_cons, asch_done, asch_one, asch_two, asch_top, astep, aop_eq, isLoud, aloud, aloud1, isWrite, qv, evS, strip, gof, eget, hget, putO, eput, herase, oks, opnds, gS, afin, afin0, binD, arith, D.cells, takeD, fillD, keep, trim, envOf, Fin, aresl, aresv, resD, argOk, pickV, isP, deq, deqs, boundD, slD, lenD, isT, isSl, ptrIds, chunks, mn_min, mx_max, D.cells, splice_one, splice_more, hle1, hle3]
    refine XCall.copy (id := 2) (off := i) (len := xs.length + 1 - i) (xs := W1) (ys := [row]) (cp := xs.length + 1 + k - i) (by simp [oks, opnds, gS, gof, eget]) rfl (by simp [evS, eget, strip]) (by simp [hget]) (by simp [evS, eget, strip, srcD, slD, hget]) (fun r hr => ?_) (fun r hr d hd => ?_) ?_
    · rw [List.mem_singleton.1 (List.mem_of_mem_take hr)]; exact hrow
    · rw [List.mem_singleton.1 (List.mem_of_mem_take hr)] at hd; exact hnv (hTr d hd)
    rw [← hm, hW2]
    simp [AK_at, acode_seq, acode_region, acode_draw, acode_cond, ↓CB_t, ↓CB_f, CB_u, acode_block, acode_loop, acode_exit, acode_scope, acode_ret, acode_skip, seqQ_n, seqQ_e, seqQ_r, blockQ_n, blockQ_e, blockQ_r, TK_at, OK_at, SK_at, aops_nil, aops_cons, asch_done, asch_one, asch_two, asch_top, astep, aop_eq, isLoud, aloud, aloud1, isWrite, qv, evS, strip, gof, eget, hget, putO, eput, herase, oks, opnds, gS, afin, afin0, binD, arith, D.cells, takeD, fillD, keep, trim, envOf, Fin, aresl, aresv, resD, argOk, pickV, isP, deq, deqs, boundD, slD, lenD, isT, isSl, ptrIds, chunks, mn_min, mx_max, D.cells, splice_one, splice_more, i3, hle2, hle3, hi, p3]
    have hdt0 : (xs.drop i).take (xs.length - i) = xs.drop i := List.take_of_length_le (by simp)
    refine XCall.copy (id := 2) (off := i + 1) (len := xs.length + 1 - (i + 1)) (xs := W2) (ys := xs.drop i) (cp := xs.length + 1 + k - (i + 1)) (by simp [oks, opnds, gS, gof, eget]) rfl (by simp [evS, eget, strip]) (by simp [hget]) (by simp [evS, eget, strip, srcD, hget, hdt0]) (fun r hr => ?_) (fun r hr d hd => ?_) ?_
    · exact hxs r (List.mem_of_mem_drop (List.mem_of_mem_take hr))
    · exact hnv (hT r (List.mem_of_mem_drop (List.mem_of_mem_take hr)) d hd)
    have hdt : (xs.drop i).take (xs.length + 1 - (i + 1)) = xs.drop i := List.take_of_length_le (by simp)
    rw [hdt, hW3]
    simp [AK_at, acode_seq, acode_region, acode_draw, acode_cond, ↓CB_t, ↓CB_f, CB_u, acode_block, acode_loop, acode_exit, acode_scope, acode_ret, acode_skip, seqQ_n, seqQ_e, seqQ_r, blockQ_n, blockQ_e, blockQ_r, TK_at, OK_at, SK_at, aops_nil, aops_cons, asch_done, asch_one, asch_two, asch_top, astep, aop_eq, isLoud, aloud, aloud1, isWrite, qv, evS, strip, gof, eget, hget, putO, eput, herase, oks, opnds, gS, afin, afin0, binD, arith, D.cells, takeD, fillD, keep, trim, envOf, Fin, aresl, aresv, resD, argOk, pickV, isP, deq, deqs, boundD, slD, lenD, isT, isSl, ptrIds, chunks, mn_min, mx_max, D.cells, splice_one, splice_more]
    refine W.gh (Gh.closeR (t := 9) (id := 2) (sz := 6) (len := xs.length + 1) (xs := W3) (by simp [eget, l3]) (by simp [hget]) (by rw [t3]; exact ins_mem hT hTr)) ?_
    rw [t3]
    simp only [eput, herase]
    refine acode_sound [0, 1, 2, 6, 7, 8, 9, 16, 22, 31, 68] [] _ _ _ ?_
    simp [AK_at, acode_seq, acode_region, acode_draw, acode_cond, ↓CB_t, ↓CB_f, CB_u, acode_block, acode_loop, acode_exit, acode_scope, acode_ret, acode_skip, seqQ_n, seqQ_e, seqQ_r, blockQ_n, blockQ_e, blockQ_r, TK_at, OK_at, SK_at, aops_nil, aops_cons, asch_done, asch_one, asch_two, asch_top, astep, aop_eq, isLoud, aloud, aloud1, isWrite, qv, evS, strip, gof, eget, hget, putO, eput, herase, oks, opnds, gS, afin, afin0, binD, arith, D.cells, takeD, fillD, keep, trim, envOf, Fin, aresl, aresv, resD, argOk, pickV, isP, deq, deqs, boundD, slD, lenD, isT, isSl, ptrIds, chunks, mn_min, mx_max, D.cells, splice_one, splice_more]
  | succ k =>
    have c0 : ¬ ((k : Int) + 1 < 1) := by omega
    have c1 : xs.length + 1 ≤ xs.length + (k + 1) := by omega
    have hle1 : i ≤ xs.length + 1 := by omega
    have hle2 : i + 1 ≤ xs.length + 1 := by omega
    simp [AK_at, acode_seq, acode_region, acode_draw, acode_cond, ↓CB_t, ↓CB_f, CB_u, acode_block, acode_loop, acode_exit, acode_scope, acode_ret, acode_skip, seqQ_n, seqQ_e, seqQ_r, blockQ_n, blockQ_e, blockQ_r, TK_at, OK_at, SK_at, aops_nil, aops_cons, asch_done, asch_one, asch_two, asch_top, astep, aop_eq, isLoud, aloud, aloud1, isWrite, qv, evS, strip, gof, eget, hget, putO, eput, herase, oks, opnds, gS, afin, afin0, binD, arith, D.cells, takeD, fillD, keep, trim, envOf, Fin, aresl, aresv, resD, argOk, pickV, isP, deq, deqs, boundD, slD, lenD, isT, isSl, ptrIds, chunks, mn_min, mx_max, D.cells, splice_one, splice_more, i1]
    refine XCall.cap (id := 0) (sz := 6) (off := 0) (len := xs.length) (cp := xs.length + (k + 1)) (by simp [oks, opnds, gS, gof, eget]) (by simp [evS, eget, strip]) ?_
    simp [AK_at, acode_seq, acode_region, acode_draw, acode_cond, ↓CB_t, ↓CB_f, CB_u, acode_block, acode_loop, acode_exit, acode_scope, acode_ret, acode_skip, seqQ_n, seqQ_e, seqQ_r, blockQ_n, blockQ_e, blockQ_r, TK_at, OK_at, SK_at, aops_nil, aops_cons, asch_done, asch_one, asch_two, asch_top, astep, aop_eq, isLoud, aloud, aloud1, isWrite, qv, evS, strip, gof, eget, hget, putO, eput, herase, oks, opnds, gS, afin, afin0, binD, arith, D.cells, takeD, fillD, keep, trim, envOf, Fin, aresl, aresv, resD, argOk, pickV, isP, deq, deqs, boundD, slD, lenD, isT, isSl, ptrIds, chunks, mn_min, mx_max, D.cells, splice_one, splice_more, i1, i3, c0, c1, hle1, hle2, p1, p3]
    obtain ⟨U, hU⟩ : ∃ U, U = xs ++ List.replicate (k + 1) (anyRow 6) := ⟨_, rfl⟩
    have hC := ins_c xs i k 6 hlt
    have hD := ins_d xs i k 6 hlt
    rw [← hU] at hC hD
    obtain ⟨V, hV⟩ : ∃ V, V = xs.take (i + 1) ++ xs.drop i ++ List.replicate k (anyRow 6) := ⟨_, rfl⟩
    have hE := ins_e xs row i k 6 (xs.length + 1 - i) hlt (by omega)
    rw [← hV] at hD hE
    obtain ⟨W3, hW3'⟩ : ∃ W3, W3 = xs.take i ++ [row] ++ xs.drop i ++ List.replicate k (anyRow 6) := ⟨_, rfl⟩
    rw [← hW3'] at hE
    have l3 : W3.length = xs.length + (k + 1) := by rw [hW3']; simp; omega
    have t3 : W3.take (xs.length + 1) = xs.take i ++ [row] ++ xs.drop i := by rw [hW3']; exact ins_t xs row i k 6 hi
    rw [← hU]
    refine WCall.overlaps (sz := 6) (off := i + 1) (len := xs.length + 1 - (i + 1)) (cp := xs.length + (k + 1) - (i + 1)) (id1 := 1) (sz1 := 6) (id := 0) (zs := [row]) (xs := U) (lov_ext) Try.underlying50 (by kernel_rfl) (by simp [oks, opnds, gS, gof, eget]) (by simp [evS, eget, strip]) (by simp [hget]) (by simp) (by simp [evS, eget, strip]) (by simp [hget]) (by omega) ?_
    simp [AK_at, acode_seq, acode_region, acode_draw, acode_cond, ↓CB_t, ↓CB_f, CB_u, acode_block, acode_loop, acode_exit, acode_scope, acode_ret, acode_skip, seqQ_n, seqQ_e, seqQ_r, blockQ_n, blockQ_e, blockQ_r, TK_at, OK_at, SK_at, aops_nil, aops_cons, asch_done, asch_one, asch_two, asch_top, astep, aop_eq, isLoud, aloud, aloud1, isWrite, qv, evS, strip, gof, eget, hget, putO, eput, herase, oks, opnds, gS, afin, afin0, binD, arith, D.cells, takeD, fillD, keep, trim, envOf, Fin, aresl, aresv, resD, argOk, pickV, isP, deq, deqs, boundD, slD, lenD, isT, isSl, ptrIds, chunks, mn_min, mx_max, D.cells, splice_one, splice_more, i3, p3, hle1, hle2]
    refine XCall.copy (id := 0) (off := i + 1) (len := xs.length + 1 - (i + 1)) (xs := U) (ys := (U.drop i).take (xs.length + 1 - i)) (cp := xs.length + (k + 1) - (i + 1)) (by simp [oks, opnds, gS, gof, eget]) rfl (by simp [evS, eget, strip]) (by simp [hget]) (by simp [evS, eget, strip, srcD, hget]) (fun r hr => ?_) (fun r hr d hd => ?_) ?_
    · rw [show xs.length + 1 - (i + 1) = xs.length - i by omega, hC] at hr
      exact hxs r (List.mem_of_mem_drop hr)
    · rw [show xs.length + 1 - (i + 1) = xs.length - i by omega, hC] at hr
      exact hnv (hT r (List.mem_of_mem_drop hr) d hd)
    rw [show xs.length + 1 - (i + 1) = xs.length - i by omega, hC, hD]
    simp [AK_at, acode_seq, acode_region, acode_draw, acode_cond, ↓CB_t, ↓CB_f, CB_u, acode_block, acode_loop, acode_exit, acode_scope, acode_ret, acode_skip, seqQ_n, seqQ_e, seqQ_r, blockQ_n, blockQ_e, blockQ_r, TK_at, OK_at, SK_at, aops_nil, aops_cons, asch_done, asch_one, asch_two, asch_top, astep, aop_eq, isLoud, aloud, aloud1, isWrite, qv, evS, strip, gof, eget, hget, putO, eput, herase, oks, opnds, gS, afin, afin0, binD, arith, D.cells, takeD, fillD, keep, trim, envOf, Fin, aresl, aresv, resD, argOk, pickV, isP, deq, deqs, boundD, slD, lenD, isT, isSl, ptrIds, chunks, mn_min, mx_max, D.cells, splice_one, splice_more, i3, p3, hle1, hle2]
    refine XCall.copy (id := 0) (off := i) (len := xs.length + 1 - i) (xs := V) (ys := [row]) (cp := xs.length + (k + 1) - i) (by simp [oks, opnds, gS, gof, eget]) rfl (by simp [evS, eget, strip]) (by simp [hget]) (by simp [evS, eget, strip, srcD, slD, hget]) (fun r hr => ?_) (fun r hr d hd => ?_) ?_
    · rw [List.mem_singleton.1 (List.mem_of_mem_take hr)]; exact hrow
    · rw [List.mem_singleton.1 (List.mem_of_mem_take hr)] at hd; exact hnv (hTr d hd)
    rw [hE]
    simp [AK_at, acode_seq, acode_region, acode_draw, acode_cond, ↓CB_t, ↓CB_f, CB_u, acode_block, acode_loop, acode_exit, acode_scope, acode_ret, acode_skip, seqQ_n, seqQ_e, seqQ_r, blockQ_n, blockQ_e, blockQ_r, TK_at, OK_at, SK_at, aops_nil, aops_cons, asch_done, asch_one, asch_two, asch_top, astep, aop_eq, isLoud, aloud, aloud1, isWrite, qv, evS, strip, gof, eget, hget, putO, eput, herase, oks, opnds, gS, afin, afin0, binD, arith, D.cells, takeD, fillD, keep, trim, envOf, Fin, aresl, aresv, resD, argOk, pickV, isP, deq, deqs, boundD, slD, lenD, isT, isSl, ptrIds, chunks, mn_min, mx_max, D.cells, splice_one, splice_more]
    refine W.gh (Gh.closeR (t := 0) (id := 0) (sz := 6) (len := xs.length + 1) (xs := W3) (by simp [eget, l3]) (by simp [hget]) (by rw [t3]; exact ins_mem hT hTr)) ?_
    rw [t3]
    simp only [eput, herase]
    refine acode_sound [0, 1, 2, 6, 7, 8, 9, 16, 22, 31, 68] [] _ _ _ ?_
    simp [AK_at, acode_seq, acode_region, acode_draw, acode_cond, ↓CB_t, ↓CB_f, CB_u, acode_block, acode_loop, acode_exit, acode_scope, acode_ret, acode_skip, seqQ_n, seqQ_e, seqQ_r, blockQ_n, blockQ_e, blockQ_r, TK_at, OK_at, SK_at, aops_nil, aops_cons, asch_done, asch_one, asch_two, asch_top, astep, aop_eq, isLoud, aloud, aloud1, isWrite, qv, evS, strip, gof, eget, hget, putO, eput, herase, oks, opnds, gS, afin, afin0, binD, arith, D.cells, takeD, fillD, keep, trim, envOf, Fin, aresl, aresv, resD, argOk, pickV, isP, deq, deqs, boundD, slD, lenD, isT, isSl, ptrIds, chunks, mn_min, mx_max, D.cells, splice_one, splice_more]
theorem tins_code : cfun Try.prog [] 108 = some ⟨(.seq (.region 0 [⟨(some 6), (.mov (.k .nil0)), none⟩]) (.seq (.region 1 [⟨(some 10), (.mov (.t 0)), none⟩, ⟨(some 11), (.mov (.t 1)), none⟩, ⟨(some 12), (.slc 2 (.t 10) (some (.t 11)) none none), none⟩]) (.seq (.region 2 [⟨(some 13), (.mov (.t 2)), none⟩, ⟨(some 14), (.len (.t 13)), none⟩, ⟨(some 7), (.mov (.t 14)), none⟩]) (.seq (.seq (.region 3 [⟨(some 15), (.mov (.t 7)), none⟩, ⟨(some 16), (.bin .eql (.t 15) (.k (.int .i64 0))), none⟩]) (.cond 16 (.seq (.region 4 [⟨(some 17), (.mov (.t 0)), none⟩, ⟨(some 6), (.mov (.t 17)), none⟩]) .ret) .skip)) (.seq (.region 5 [⟨(some 18), (.mov (.t 0)), none⟩, ⟨(some 19), (.len (.t 18)), none⟩, ⟨(some 8), (.mov (.t 19)), none⟩]) (.seq (.seq (.region 6 [⟨(some 20), (.mov (.t 1)), none⟩, ⟨(some 21), (.mov (.t 8)), none⟩, ⟨(some 22), (.bin .eql (.t 20) (.t 21)), none⟩]) (.cond 22 (.seq (.region 7 [⟨(some 23), (.mov (.t 0)), none⟩, ⟨(some 24), (.mov (.t 2)), none⟩, ⟨(some 25), (.app 2 16 [(.int .i64 0), (.int .i64 0)] (.t 23) (.t 24)), none⟩, ⟨(some 6), (.mov (.t 25)), none⟩]) .ret) .skip)) (.seq (.seq (.region 8 [⟨(some 26), (.mov (.t 8)), none⟩, ⟨(some 27), (.mov (.t 7)), none⟩, ⟨(some 28), (.bin .add (.t 26) (.t 27)), none⟩, ⟨(some 29), (.mov (.t 0)), none⟩, ⟨(some 30), (.xop 8 [] [(.t 29)]), none⟩, ⟨(some 31), (.bin .gtr (.t 28) (.t 30)), none⟩]) (.cond 31 (.seq (.region 9 [⟨(some 32), (.mov (.t 0)), none⟩, ⟨(some 33), (.mov (.t 1)), none⟩, ⟨(some 34), (.slc 2 (.t 32) none (some (.t 33)) none), none⟩, ⟨(some 35), (.mov (.t 8)), none⟩, ⟨(some 36), (.mov (.t 7)), none⟩, ⟨(some 37), (.bin .add (.t 35) (.t 36)), none⟩, ⟨(some 38), (.mov (.t 1)), none⟩, ⟨(some 39), (.bin .sub (.t 37) (.t 38)), none⟩, ⟨(some 40), (.xop 11 [2, 16] [(.t 34), (.t 39)]), none⟩, ⟨(some 9), (.mov (.t 40)), none⟩]) (.seq (.region 10 [⟨(some 41), (.mov (.t 9)), none⟩, ⟨(some 42), (.mov (.t 1)), none⟩, ⟨(some 43), (.slc 2 (.t 41) (some (.t 42)) none none), none⟩, ⟨(some 44), (.mov (.t 2)), none⟩, ⟨(some 45), (.xop 9 [2] [(.t 43), (.t 44)]), none⟩]) (.seq (.draw 11 (.one true ⟨(some 46), (.mov (.t 9)), none⟩ (.one true ⟨(some 47), (.mov (.t 1)), none⟩ (.one true ⟨(some 48), (.mov (.t 7)), none⟩ (.one true ⟨(some 49), (.bin .add (.t 47) (.t 48)), none⟩ (.one true ⟨(some 50), (.slc 2 (.t 46) (some (.t 49)) none none), none⟩ (.one true ⟨(some 51), (.mov (.t 0)), none⟩ (.one true ⟨(some 52), (.mov (.t 1)), none⟩ (.one true ⟨(some 53), (.slc 2 (.t 51) (some (.t 52)) none none), none⟩ (.one false ⟨(some 54), (.xop 9 [2] [(.t 50), (.t 53)]), none⟩ .done)))))))))) (.seq (.region 12 [⟨(some 55), (.mov (.t 9)), none⟩, ⟨(some 6), (.mov (.t 55)), none⟩]) .ret)))) .skip)) (.seq (.region 13 [⟨(some 56), (.mov (.t 0)), none⟩, ⟨(some 57), (.mov (.t 8)), none⟩, ⟨(some 58), (.mov (.t 7)), none⟩, ⟨(some 59), (.bin .add (.t 57) (.t 58)), none⟩, ⟨(some 60), (.slc 2 (.t 56) none (some (.t 59)) none), none⟩, ⟨(some 0), (.mov (.t 60)), none⟩]) (.seq (.seq (.region 14 [⟨(some 61), (.mov (.t 2)), none⟩, ⟨(some 62), (.mov (.t 0)), none⟩, ⟨(some 63), (.mov (.t 1)), none⟩, ⟨(some 64), (.mov (.t 7)), none⟩, ⟨(some 65), (.bin .add (.t 63) (.t 64)), none⟩, ⟨(some 66), (.slc 2 (.t 62) (some (.t 65)) none none), none⟩, ⟨(some 67), (.call 121 [(.t 61), (.t 66)]), none⟩, ⟨(some 68), (.not (.t 67)), none⟩]) (.cond 68 (.seq (.draw 15 (.one true ⟨(some 69), (.mov (.t 0)), none⟩ (.one true ⟨(some 70), (.mov (.t 1)), none⟩ (.one true ⟨(some 71), (.mov (.t 7)), none⟩ (.one true ⟨(some 72), (.bin .add (.t 70) (.t 71)), none⟩ (.one true ⟨(some 73), (.slc 2 (.t 69) (some (.t 72)) none none), none⟩ (.one true ⟨(some 74), (.mov (.t 0)), none⟩ (.one true ⟨(some 75), (.mov (.t 1)), none⟩ (.one true ⟨(some 76), (.slc 2 (.t 74) (some (.t 75)) none none), none⟩ (.one false ⟨(some 77), (.xop 9 [2] [(.t 73), (.t 76)]), none⟩ .done)))))))))) (.seq (.region 16 [⟨(some 78), (.mov (.t 0)), none⟩, ⟨(some 79), (.mov (.t 1)), none⟩, ⟨(some 80), (.slc 2 (.t 78) (some (.t 79)) none none), none⟩, ⟨(some 81), (.mov (.t 2)), none⟩, ⟨(some 82), (.xop 9 [2] [(.t 80), (.t 81)]), none⟩]) (.seq (.region 17 [⟨(some 83), (.mov (.t 0)), none⟩, ⟨(some 6), (.mov (.t 83)), none⟩]) .ret))) .skip)) (.seq (.region 18 [⟨(some 84), (.mov (.t 0)), none⟩, ⟨(some 85), (.mov (.t 8)), none⟩, ⟨(some 86), (.slc 2 (.t 84) (some (.t 85)) none none), none⟩, ⟨(some 87), (.mov (.t 2)), none⟩, ⟨(some 88), (.xop 9 [2] [(.t 86), (.t 87)]), none⟩]) (.seq (.region 19 [⟨(some 89), (.mov (.t 0)), none⟩, ⟨(some 90), (.mov (.t 1)), none⟩, ⟨(some 91), (.slc 2 (.t 89) (some (.t 90)) none none), none⟩, ⟨(some 92), (.mov (.t 7)), none⟩, ⟨(some 93), (.call 122 [(.t 91), (.t 92)]), none⟩]) (.seq (.region 20 [⟨(some 94), (.mov (.t 0)), none⟩, ⟨(some 6), (.mov (.t 94)), none⟩]) .ret)))))))))))), [(.t 6)], 95⟩ := by kernel_rfl
theorem tov_ext (args : Array Value) (w : World) : (callFunc 121 args).run Try.prog w = ((Extern.SlicesOverlaps.overlaps #[118, 118] #[4] args).run Try.prog w).andThen fun v w' => .ok (.value v) w' :=
  run_callFunc_extern Try.func121 (by kernel_rfl) (by kernel_rfl) (by kernel_rfl) (e := Extern.SlicesOverlaps.overlaps #[118, 118] #[4]) (by kernel_rfl) args w
theorem tins_hf (xs : List (List D)) (i : Nat) (row : List D) (hi : i ≤ xs.length) (hl : xs.length < 1000000) (hrow : row.length = 2) (hxs : ∀ r ∈ xs, r.length = 2) (hT : ∀ r ∈ xs, ∀ d ∈ r, isT d = true) (hTr : ∀ d ∈ row, isT d = true) :
    HF Try.prog 108 [.own 0, I i, .own 1] [(1, .row 2 [row]), (0, .row 2 xs)] 2 (fun d H' nx' => d = .own 2 ∧ H' = [(2, .row 2 (xs.take i ++ [row] ++ xs.drop i))] ∧ nx' = 3) := by
  refine HF.one (fun _ => rfl) (fun _ => trivial) ?_
  refine HF.of follows_ok tins_code (by simp) (by simp [argOk]) (by simp [LtV, LtC]) fun B hBN hB0 => acode_sound [0, 1, 2, 6, 7, 8, 9, 16, 22, 31, 68] [8, 12, 17] _ _ _ ?_
  by_cases hin : i = xs.length
  · subst hin
    have hcap : (xs.length + 1) * 16 ≤ 140737488355328 := by omega
    simp [AK_at, acode_seq, acode_region, acode_draw, acode_cond, ↓CB_t, ↓CB_f, CB_u, acode_block, acode_loop, acode_exit, acode_scope, acode_ret, acode_skip, seqQ_n, seqQ_e, seqQ_r, blockQ_n, blockQ_e, blockQ_r, TK_at, OK_at, SK_at, aops_nil, aops_cons, asch_done, asch_one, asch_two, asch_top, astep, aop_eq, isLoud, aloud, aloud1, isWrite, qv, evS, strip, gof, eget, hget, putO, eput, herase, oks, opnds, gS, afin, afin0, binD, arith, D.cells, takeD, fillD, keep, trim, envOf, Fin, aresl, aresv, resD, argOk, pickV, isP, deq, deqs, boundD, slD, lenD, isT, isSl, ptrIds, chunks, mn_min, mx_max, D.cells, splice_one, splice_more, hcap, hrow]
  have hz : ¬ ((i : Int) = xs.length) := by omega
  have h0 : xs ≠ [] := by
    rintro rfl
    simp at hi hin; omega
  have hlt : i < xs.length := by omega
  have i1 : InR ((xs.length : Int) + 1) := inW (by omega) (by omega)
  have i2 : InR ((xs.length : Int) + 1 - i) := inW (by omega) (by omega)
  have i3 : InR ((i : Int) + 1) := inW (by omega) (by omega)
  have p1 : (0 : Int) ≤ (xs.length : Int) + 1 := by omega
  have p3 : (0 : Int) ≤ (i : Int) + 1 := by omega
  have hnv : ∀ {d : D}, isT d = true → d ≠ .any := fun h e => by rw [e] at h; cases h
  simp [AK_at, acode_seq, acode_region, acode_draw, acode_cond, ↓CB_t, ↓CB_f, CB_u, acode_block, acode_loop, acode_exit, acode_scope, acode_ret, acode_skip, seqQ_n, seqQ_e, seqQ_r, blockQ_n, blockQ_e, blockQ_r, TK_at, OK_at, SK_at, aops_nil, aops_cons, asch_done, asch_one, asch_two, asch_top, astep, aop_eq, isLoud, aloud, aloud1, isWrite, qv, evS, strip, gof, eget, hget, putO, eput, herase, oks, opnds, gS, afin, afin0, binD, arith, D.cells, takeD, fillD, keep, trim, envOf, Fin, aresl, aresv, resD, argOk, pickV, isP, deq, deqs, boundD, slD, lenD, isT, isSl, ptrIds, chunks, mn_min, mx_max, D.cells, splice_one, splice_more, hin, hz, hi]
  refine W.openR (t := 0) (id := 0) (sz := 2) (xs := xs) (by simp [eget]) (by simp [hget]) h0 fun k => ?_
  simp only [eput]
  refine acode_sound [0, 1, 2, 6, 7, 8, 9, 16, 22, 31, 68] [] _ _ _ ?_
  have hA : (xs.take i).length = i := by simp; omega
  have hB : (xs.drop i).length = xs.length - i := by simp
  cases k with
  | zero =>
    have c0 : (xs.length : Int) < xs.length + 1 := by omega
    obtain ⟨m, hm⟩ : ∃ m, m = xs.length + 1 - i := ⟨_, rfl⟩
    have hmz : (xs.length : Int) + 1 - i = (m : Nat) := by omega
    have him : i + m = xs.length + 1 := by omega
    have hm1 : 1 ≤ m := by omega
    have i2' : InR (m : Int) := by rw [← hmz]; exact i2
    simp [AK_at, acode_seq, acode_region, acode_draw, acode_cond, ↓CB_t, ↓CB_f, CB_u, acode_block, acode_loop, acode_exit, acode_scope, acode_ret, acode_skip, seqQ_n, seqQ_e, seqQ_r, blockQ_n, blockQ_e, blockQ_r, TK_at, OK_at, SK_at, aops_nil, aops_cons, asch_done, asch_one, asch_two, asch_top, astep, aop_eq, isLoud, aloud, aloud1, isWrite, qv, evS, strip, gof, eget, hget, putO, eput, herase, oks, opnds, gS, afin, afin0, binD, arith, D.cells, takeD, fillD, keep, trim, envOf, Fin, aresl, aresv, resD, argOk, pickV, isP, deq, deqs, boundD, slD, lenD, isT, isSl, ptrIds, chunks, mn_min, mx_max, D.cells, splice_one, splice_more, i1]
    refine XCall.cap (id := 0) (sz := 2) (off := 0) (len := xs.length) (cp := xs.length) (by simp [oks, opnds, gS, gof, eget]) (by simp [evS, eget, strip]) ?_
    simp [AK_at, acode_seq, acode_region, acode_draw, acode_cond, ↓CB_t, ↓CB_f, CB_u, acode_block, acode_loop, acode_exit, acode_scope, acode_ret, acode_skip, seqQ_n, seqQ_e, seqQ_r, blockQ_n, blockQ_e, blockQ_r, TK_at, OK_at, SK_at, aops_nil, aops_cons, asch_done, asch_one, asch_two, asch_top, astep, aop_eq, isLoud, aloud, aloud1, isWrite, qv, evS, strip, gof, eget, hget, putO, eput, herase, oks, opnds, gS, afin, afin0, binD, arith, D.cells, takeD, fillD, keep, trim, envOf, Fin, aresl, aresv, resD, argOk, pickV, isP, deq, deqs, boundD, slD, lenD, isT, isSl, ptrIds, chunks, mn_min, mx_max, D.cells, splice_one, splice_more, i1, hmz, i2', c0, hi]
    refine XCall.appmake (id := 0) (off := 0) (len := i) (cp := xs.length) (xs := xs) (n := m) (by simp [oks, opnds, gS, gof, eget]) (by simp [evS, eget, strip]) (by simp [hget]) (by simp [evS, eget, strip]) (by omega) (by omega) (by omega) (by omega) fun k => ?_
    rw [List.drop_zero, him]
    obtain ⟨W1, hW1⟩ : ∃ W1, W1 = xs.take i ++ List.replicate (m + k) (anyRow 2) := ⟨_, rfl⟩
    have hW2 := ins_a (xs.take i) row i m k 2 hA hm1
    rw [← hW1] at hW2 ⊢
    obtain ⟨W2, hW2'⟩ : ∃ W2, W2 = xs.take i ++ [row] ++ List.replicate (m + k - 1) (anyRow 2) := ⟨_, rfl⟩
    rw [← hW2'] at hW2
    have hW3 := ins_b (xs.take i) (xs.drop i) row i (m + k - 1) 2 hA (by omega)
    rw [← hW2'] at hW3
    have hk3 : m + k - 1 - (xs.drop i).length = k := by omega
    rw [hk3] at hW3
    obtain ⟨W3, hW3'⟩ : ∃ W3, W3 = xs.take i ++ [row] ++ xs.drop i ++ List.replicate k (anyRow 2) := ⟨_, rfl⟩
    rw [← hW3'] at hW3
    have l3 : W3.length = xs.length + 1 + k := by rw [hW3']; simp; omega
    have t3 : W3.take (xs.length + 1) = xs.take i ++ [row] ++ xs.drop i := by rw [hW3']; exact ins_t xs row i k 2 hi
    have hle1 : i ≤ xs.length + 1 := by omega
    have hle2 : i + 1 ≤ xs.length + 1 := by omega
    have hle3 : xs.length + 1 ≤ xs.length + 1 + k := by omega
    simp [AK_at, acode_seq, acode_region, acode_draw, acode_cond, ↓CB_t, ↓CB_f, CB_u, acode_block, acode_loop, acode_exit, acode_scope, acode_ret, acode_skip, seqQ_n, seqQ_e, seqQ_r, blockQ_n, blockQ_e, blockQ_r, TK_at, OK_at, SK_at, aops_nil, aops_cons, asch_done, asch_one, asch_two, asch_top, astep, aop_eq, isLoud, aloud, aloud1, isWrite, qv, evS, strip, gof, eget, hget, putO, eput, herase, oks, opnds, gS, afin, afin0, binD, arith, D.cells, takeD, fillD, keep, trim, envOf, Fin, aresl, aresv, resD, argOk, pickV, isP, deq, deqs, boundD, slD, lenD, isT, isSl, ptrIds, chunks, mn_min, mx_max, D.cells, splice_one, splice_more, hle1, hle3]
    refine XCall.copy (id := 2) (off := i) (len := xs.length + 1 - i) (xs := W1) (ys := [row]) (cp := xs.length + 1 + k - i) (by simp [oks, opnds, gS, gof, eget]) rfl (by simp [evS, eget, strip]) (by simp [hget]) (by simp [evS, eget, strip, srcD, slD, hget]) (fun r hr => ?_) (fun r hr d hd => ?_) ?_
    · rw [List.mem_singleton.1 (List.mem_of_mem_take hr)]; exact hrow
    · rw [List.mem_singleton.1 (List.mem_of_mem_take hr)] at hd; exact hnv (hTr d hd)
    rw [← hm, hW2]
    simp [AK_at, acode_seq, acode_region, acode_draw, acode_cond, ↓CB_t, ↓CB_f, CB_u, acode_block, acode_loop, acode_exit, acode_scope, acode_ret, acode_skip, seqQ_n, seqQ_e, seqQ_r, blockQ_n, blockQ_e, blockQ_r, TK_at, OK_at, SK_at, aops_nil, aops_cons, asch_done, asch_one, asch_two, asch_top, astep, aop_eq, isLoud, aloud, aloud1, isWrite, qv, evS, strip, gof, eget, hget, putO, eput, herase, oks, opnds, gS, afin, afin0, binD, arith, D.cells, takeD, fillD, keep, trim, envOf, Fin, aresl, aresv, resD, argOk, pickV, isP, deq, deqs, boundD, slD, lenD, isT, isSl, ptrIds, chunks, mn_min, mx_max, D.cells, splice_one, splice_more, i3, hle2, hle3, hi, p3]
    have hdt0 : (xs.drop i).take (xs.length - i) = xs.drop i := List.take_of_length_le (by simp)
    refine XCall.copy (id := 2) (off := i + 1) (len := xs.length + 1 - (i + 1)) (xs := W2) (ys := xs.drop i) (cp := xs.length + 1 + k - (i + 1)) (by simp [oks, opnds, gS, gof, eget]) rfl (by simp [evS, eget, strip]) (by simp [hget]) (by simp [evS, eget, strip, srcD, hget, hdt0]) (fun r hr => ?_) (fun r hr d hd => ?_) ?_
    · exact hxs r (List.mem_of_mem_drop (List.mem_of_mem_take hr))
    · exact hnv (hT r (List.mem_of_mem_drop (List.mem_of_mem_take hr)) d hd)
    have hdt : (xs.drop i).take (xs.length + 1 - (i + 1)) = xs.drop i := List.take_of_length_le (by simp)
    rw [hdt, hW3]
    simp [AK_at, acode_seq, acode_region, acode_draw, acode_cond, ↓CB_t, ↓CB_f, CB_u, acode_block, acode_loop, acode_exit, acode_scope, acode_ret, acode_skip, seqQ_n, seqQ_e, seqQ_r, blockQ_n, blockQ_e, blockQ_r, TK_at, OK_at, SK_at, aops_nil, aops_cons, asch_done, asch_one, asch_two, asch_top, astep, aop_eq, isLoud, aloud, aloud1, isWrite, qv, evS, strip, gof, eget, hget, putO, eput, herase, oks, opnds, gS, afin, afin0, binD, arith, D.cells, takeD, fillD, keep, trim, envOf, Fin, aresl, aresv, resD, argOk, pickV, isP, deq, deqs, boundD, slD, lenD, isT, isSl, ptrIds, chunks, mn_min, mx_max, D.cells, splice_one, splice_more]
    refine W.gh (Gh.closeR (t := 9) (id := 2) (sz := 2) (len := xs.length + 1) (xs := W3) (by simp [eget, l3]) (by simp [hget]) (by rw [t3]; exact ins_mem hT hTr)) ?_
    rw [t3]
    simp only [eput, herase]
    refine acode_sound [0, 1, 2, 6, 7, 8, 9, 16, 22, 31, 68] [] _ _ _ ?_
    simp [AK_at, acode_seq, acode_region, acode_draw, acode_cond, ↓CB_t, ↓CB_f, CB_u, acode_block, acode_loop, acode_exit, acode_scope, acode_ret, acode_skip, seqQ_n, seqQ_e, seqQ_r, blockQ_n, blockQ_e, blockQ_r, TK_at, OK_at, SK_at, aops_nil, aops_cons, asch_done, asch_one, asch_two, asch_top, astep, aop_eq, isLoud, aloud, aloud1, isWrite, qv, evS, strip, gof, eget, hget, putO, eput, herase, oks, opnds, gS, afin, afin0, binD, arith, D.cells, takeD, fillD, keep, trim, envOf, Fin, aresl, aresv, resD, argOk, pickV, isP, deq, deqs, boundD, slD, lenD, isT, isSl, ptrIds, chunks, mn_min, mx_max, D.cells, splice_one, splice_more]
  | succ k =>
    have c0 : ¬ ((k : Int) + 1 < 1) := by omega
    have c1 : xs.length + 1 ≤ xs.length + (k + 1) := by omega
    have hle1 : i ≤ xs.length + 1 := by omega
    have hle2 : i + 1 ≤ xs.length + 1 := by omega
    simp [AK_at, acode_seq, acode_region, acode_draw, acode_cond, ↓CB_t, ↓CB_f, CB_u, acode_block, acode_loop, acode_exit, acode_scope, acode_ret, acode_skip, seqQ_n, seqQ_e, seqQ_r, blockQ_n, blockQ_e, blockQ_r, TK_at, OK_at, SK_at, aops_nil, aops_cons, asch_done, asch_one, asch_two, asch_top, astep, aop_eq, isLoud, aloud, aloud1, isWrite, qv, evS, strip, gof, eget, hget, putO, eput, herase, oks, opnds, gS, afin, afin0, binD, arith, D.cells, takeD, fillD, keep, trim, envOf, Fin, aresl, aresv, resD, argOk, pickV, isP, deq, deqs, boundD, slD, lenD, isT, isSl, ptrIds, chunks, mn_min, mx_max, D.cells, splice_one, splice_more, i1]
    refine XCall.cap (id := 0) (sz := 2) (off := 0) (len := xs.length) (cp := xs.length + (k + 1)) (by simp [oks, opnds, gS, gof, eget]) (by simp [evS, eget, strip]) ?_
    simp [AK_at, acode_seq, acode_region, acode_draw, acode_cond, ↓CB_t, ↓CB_f, CB_u, acode_block, acode_loop, acode_exit, acode_scope, acode_ret, acode_skip, seqQ_n, seqQ_e, seqQ_r, blockQ_n, blockQ_e, blockQ_r, TK_at, OK_at, SK_at, aops_nil, aops_cons, asch_done, asch_one, asch_two, asch_top, astep, aop_eq, isLoud, aloud, aloud1, isWrite, qv, evS, strip, gof, eget, hget, putO, eput, herase, oks, opnds, gS, afin, afin0, binD, arith, D.cells, takeD, fillD, keep, trim, envOf, Fin, aresl, aresv, resD, argOk, pickV, isP, deq, deqs, boundD, slD, lenD, isT, isSl, ptrIds, chunks, mn_min, mx_max, D.cells, splice_one, splice_more, i1, i3, c0, c1, hle1, hle2, p1, p3]
    obtain ⟨U, hU⟩ : ∃ U, U = xs ++ List.replicate (k + 1) (anyRow 2) := ⟨_, rfl⟩
    have hC := ins_c xs i k 2 hlt
    have hD := ins_d xs i k 2 hlt
    rw [← hU] at hC hD
    obtain ⟨V, hV⟩ : ∃ V, V = xs.take (i + 1) ++ xs.drop i ++ List.replicate k (anyRow 2) := ⟨_, rfl⟩
    have hE := ins_e xs row i k 2 (xs.length + 1 - i) hlt (by omega)
    rw [← hV] at hD hE
    obtain ⟨W3, hW3'⟩ : ∃ W3, W3 = xs.take i ++ [row] ++ xs.drop i ++ List.replicate k (anyRow 2) := ⟨_, rfl⟩
    rw [← hW3'] at hE
    have l3 : W3.length = xs.length + (k + 1) := by rw [hW3']; simp; omega
    have t3 : W3.take (xs.length + 1) = xs.take i ++ [row] ++ xs.drop i := by rw [hW3']; exact ins_t xs row i k 2 hi
    rw [← hU]
    refine WCall.overlaps (sz := 2) (off := i + 1) (len := xs.length + 1 - (i + 1)) (cp := xs.length + (k + 1) - (i + 1)) (id1 := 1) (sz1 := 2) (id := 0) (zs := [row]) (xs := U) (tov_ext) Try.underlying118 (by kernel_rfl) (by simp [oks, opnds, gS, gof, eget]) (by simp [evS, eget, strip]) (by simp [hget]) (by simp) (by simp [evS, eget, strip]) (by simp [hget]) (by omega) ?_
    simp [AK_at, acode_seq, acode_region, acode_draw, acode_cond, ↓CB_t, ↓CB_f, CB_u, acode_block, acode_loop, acode_exit, acode_scope, acode_ret, acode_skip, seqQ_n, seqQ_e, seqQ_r, blockQ_n, blockQ_e, blockQ_r, TK_at, OK_at, SK_at, aops_nil, aops_cons, asch_done, asch_one, asch_two, asch_top, astep, aop_eq, isLoud, aloud, aloud1, isWrite, qv, evS, strip, gof, eget, hget, putO, eput, herase, oks, opnds, gS, afin, afin0, binD, arith, D.cells, takeD, fillD, keep, trim, envOf, Fin, aresl, aresv, resD, argOk, pickV, isP, deq, deqs, boundD, slD, lenD, isT, isSl, ptrIds, chunks, mn_min, mx_max, D.cells, splice_one, splice_more, i3, p3, hle1, hle2]
    refine XCall.copy (id := 0) (off := i + 1) (len := xs.length + 1 - (i + 1)) (xs := U) (ys := (U.drop i).take (xs.length + 1 - i)) (cp := xs.length + (k + 1) - (i + 1)) (by simp [oks, opnds, gS, gof, eget]) rfl (by simp [evS, eget, strip]) (by simp [hget]) (by simp [evS, eget, strip, srcD, hget]) (fun r hr => ?_) (fun r hr d hd => ?_) ?_
    · rw [show xs.length + 1 - (i + 1) = xs.length - i by omega, hC] at hr
      exact hxs r (List.mem_of_mem_drop hr)
    · rw [show xs.length + 1 - (i + 1) = xs.length - i by omega, hC] at hr
      exact hnv (hT r (List.mem_of_mem_drop hr) d hd)
    rw [show xs.length + 1 - (i + 1) = xs.length - i by omega, hC, hD]
    simp [AK_at, acode_seq, acode_region, acode_draw, acode_cond, ↓CB_t, ↓CB_f, CB_u, acode_block, acode_loop, acode_exit, acode_scope, acode_ret, acode_skip, seqQ_n, seqQ_e, seqQ_r, blockQ_n, blockQ_e, blockQ_r, TK_at, OK_at, SK_at, aops_nil, aops_cons, asch_done, asch_one, asch_two, asch_top, astep, aop_eq, isLoud, aloud, aloud1, isWrite, qv, evS, strip, gof, eget, hget, putO, eput, herase, oks, opnds, gS, afin, afin0, binD, arith, D.cells, takeD, fillD, keep, trim, envOf, Fin, aresl, aresv, resD, argOk, pickV, isP, deq, deqs, boundD, slD, lenD, isT, isSl, ptrIds, chunks, mn_min, mx_max, D.cells, splice_one, splice_more, i3, p3, hle1, hle2]
    refine XCall.copy (id := 0) (off := i) (len := xs.length + 1 - i) (xs := V) (ys := [row]) (cp := xs.length + (k + 1) - i) (by simp [oks, opnds, gS, gof, eget]) rfl (by simp [evS, eget, strip]) (by simp [hget]) (by simp [evS, eget, strip, srcD, slD, hget]) (fun r hr => ?_) (fun r hr d hd => ?_) ?_
    · rw [List.mem_singleton.1 (List.mem_of_mem_take hr)]; exact hrow
    · rw [List.mem_singleton.1 (List.mem_of_mem_take hr)] at hd; exact hnv (hTr d hd)
    rw [hE]
    simp [AK_at, acode_seq, acode_region, acode_draw, acode_cond, ↓CB_t, ↓CB_f, CB_u, acode_block, acode_loop, acode_exit, acode_scope, acode_ret, acode_skip, seqQ_n, seqQ_e, seqQ_r, blockQ_n, blockQ_e, blockQ_r, TK_at, OK_at, SK_at, aops_nil, aops_cons, asch_done, asch_one, asch_two, asch_top, astep, aop_eq, isLoud, aloud, aloud1, isWrite, qv, evS, strip, gof, eget, hget, putO, eput, herase, oks, opnds, gS, afin, afin0, binD, arith, D.cells, takeD, fillD, keep, trim, envOf, Fin, aresl, aresv, resD, argOk, pickV, isP, deq, deqs, boundD, slD, lenD, isT, isSl, ptrIds, chunks, mn_min, mx_max, D.cells, splice_one, splice_more]
    refine W.gh (Gh.closeR (t := 0) (id := 0) (sz := 2) (len := xs.length + 1) (xs := W3) (by simp [eget, l3]) (by simp [hget]) (by rw [t3]; exact ins_mem hT hTr)) ?_
    rw [t3]
    simp only [eput, herase]
    refine acode_sound [0, 1, 2, 6, 7, 8, 9, 16, 22, 31, 68] [] _ _ _ ?_
    simp [AK_at, acode_seq, acode_region, acode_draw, acode_cond, ↓CB_t, ↓CB_f, CB_u, acode_block, acode_loop, acode_exit, acode_scope, acode_ret, acode_skip, seqQ_n, seqQ_e, seqQ_r, blockQ_n, blockQ_e, blockQ_r, TK_at, OK_at, SK_at, aops_nil, aops_cons, asch_done, asch_one, asch_two, asch_top, astep, aop_eq, isLoud, aloud, aloud1, isWrite, qv, evS, strip, gof, eget, hget, putO, eput, herase, oks, opnds, gS, afin, afin0, binD, arith, D.cells, takeD, fillD, keep, trim, envOf, Fin, aresl, aresv, resD, argOk, pickV, isP, deq, deqs, boundD, slD, lenD, isT, isSl, ptrIds, chunks, mn_min, mx_max, D.cells, splice_one, splice_more]
end Go.Proofs.Ytfkeddefajkobaa

set_option linter.unusedSimpArgs false
set_option linter.unusedVariables false
set_option maxRecDepth 100000
set_option maxHeartbeats 2000000
namespace Go.Proofs.Ytfkeddefajkobaa
open Go.RowKit
theorem del_a (xs : List (List D)) (i k z : Nat) (hi : i < xs.length) : ((xs ++ List.replicate k (anyRow z)).drop (i + 1)).take (xs.length - (i + 1)) = xs.drop (i + 1) := by
  rw [List.drop_append_of_le_length (by omega), List.take_append_of_le_length (by simp), List.take_of_length_le (by simp)]
theorem del_b (xs : List (List D)) (i k z : Nat) (hi : i < xs.length) : ∃ r, r.length = k + 1 ∧
    (xs ++ List.replicate k (anyRow z)).take i ++ xs.drop (i + 1) ++ (xs ++ List.replicate k (anyRow z)).drop (i + (xs.drop (i + 1)).length) = xs.take i ++ xs.drop (i + 1) ++ r := by
  refine ⟨(xs ++ List.replicate k (anyRow z)).drop (i + (xs.drop (i + 1)).length), by simp; omega, ?_⟩
  rw [List.take_append_of_le_length (by omega)]
theorem del_c (A r : List (List D)) (n m z : Nat) (hA : A.length = n) : (A ++ r).take n ++ List.replicate m (anyRow z) ++ (A ++ r).drop (n + (List.replicate m (anyRow z)).length) = A ++ (List.replicate m (anyRow z) ++ r.drop m) := by
  subst hA
  rw [List.take_left, List.drop_append]
  have h : A.drop (A.length + (List.replicate m (anyRow z)).length) = [] := List.drop_eq_nil_of_le (by simp)
  rw [h]
  simp
theorem tdel_code : cfun Try.prog [] 77 = some ⟨(.seq (.region 0 [⟨(some 6), (.mov (.k .nil0)), none⟩]) (.seq (.region 1 [⟨(some 8), (.mov (.t 0)), none⟩, ⟨(some 9), (.mov (.t 1)), none⟩, ⟨(some 10), (.mov (.t 2)), none⟩, ⟨(some 11), (.mov (.t 0)), none⟩, ⟨(some 12), (.len (.t 11)), none⟩, ⟨(some 13), (.slc 2 (.t 8) (some (.t 9)) (some (.t 10)) (some (.t 12))), none⟩]) (.seq (.seq (.region 2 [⟨(some 14), (.mov (.t 1)), none⟩, ⟨(some 15), (.mov (.t 2)), none⟩, ⟨(some 16), (.bin .eql (.t 14) (.t 15)), none⟩]) (.cond 16 (.seq (.region 3 [⟨(some 17), (.mov (.t 0)), none⟩, ⟨(some 6), (.mov (.t 17)), none⟩]) .ret) .skip)) (.seq (.region 4 [⟨(some 18), (.mov (.t 0)), none⟩, ⟨(some 19), (.len (.t 18)), none⟩, ⟨(some 7), (.mov (.t 19)), none⟩]) (.seq (.draw 5 (.one true ⟨(some 20), (.mov (.t 0)), none⟩ (.one true ⟨(some 21), (.mov (.t 1)), none⟩ (.one true ⟨(some 22), (.slc 2 (.t 20) none (some (.t 21)) none), none⟩ (.one true ⟨(some 23), (.mov (.t 0)), none⟩ (.one true ⟨(some 24), (.mov (.t 2)), none⟩ (.one true ⟨(some 25), (.slc 2 (.t 23) (some (.t 24)) none none), none⟩ (.one false ⟨(some 26), (.app 2 16 [(.int .i64 0), (.int .i64 0)] (.t 22) (.t 25)), none⟩ (.one true ⟨(some 0), (.mov (.t 26)), none⟩ .done))))))))) (.seq (.region 6 [⟨(some 27), (.mov (.t 0)), none⟩, ⟨(some 28), (.mov (.t 0)), none⟩, ⟨(some 29), (.len (.t 28)), none⟩, ⟨(some 30), (.mov (.t 7)), none⟩, ⟨(some 31), (.slc 2 (.t 27) (some (.t 29)) (some (.t 30)) none), none⟩, ⟨none, (.xop 10 [2] [(.t 31)]), none⟩]) (.seq (.region 7 [⟨(some 32), (.mov (.t 0)), none⟩, ⟨(some 6), (.mov (.t 32)), none⟩]) .ret))))))), [(.t 6)], 33⟩ := by kernel_rfl
theorem tdel_hf (xs : List (List D)) (i : Nat) (hi : i < xs.length) (hl : xs.length < 1000000) (hxs : ∀ r ∈ xs, r.length = 2) (hT : ∀ r ∈ xs, ∀ d ∈ r, isT d = true) :
    HF Try.prog 77 [.own 0, I i, I ((i : Int) + 1)] [(0, .row 2 xs)] 1 (fun d H' nx' => d = .own 1 ∧ H' = [(1, .row 2 (xs.take i ++ xs.drop (i + 1)))] ∧ nx' = 2) := by
  refine HF.one (fun _ => rfl) (fun _ => trivial) ?_
  refine HF.of follows_ok tdel_code (by simp) (by simp [argOk]) (by simp [LtV, LtC]) fun B hBN hB0 => acode_sound [0, 1, 2, 6, 7, 16] [5, 7] _ _ _ ?_
  have hz : ¬ ((i : Int) = i + 1) := by omega
  have h0 : xs ≠ [] := by
    rintro rfl
    simp at hi
  have p3 : (0 : Int) ≤ (i : Int) + 1 := by omega
  have hle : i + 1 ≤ xs.length := by omega
  have hle0 : i ≤ xs.length := by omega
  have hnv : ∀ {d : D}, isT d = true → d ≠ .any := fun h e => by rw [e] at h; cases h
  simp [AK_at, acode_seq, acode_region, acode_draw, acode_cond, ↓CB_t, ↓CB_f, CB_u, acode_block, acode_loop, acode_exit, acode_scope, acode_ret, acode_skip, seqQ_n, seqQ_e, seqQ_r, blockQ_n, blockQ_e, blockQ_r, TK_at, OK_at, SK_at, aops_nil, aops_cons, asch_done, asch_one, asch_two, asch_top, astep, aop_eq, isLoud, aloud, aloud1, isWrite, qv, evS, strip, gof, eget, hget, putO, eput, herase, oks, opnds, gS, afin, afin0, binD, arith, D.cells, takeD, fillD, keep, trim, envOf, Fin, aresl, aresv, resD, argOk, pickV, isP, deq, deqs, boundD, slD, lenD, isT, isSl, ptrIds, chunks, mn_min, mx_max, D.cells, splice_one, splice_more, hz, hle, p3]
  refine W.openR (t := 0) (id := 0) (sz := 2) (xs := xs) (by simp [eget]) (by simp [hget]) h0 fun k => ?_
  simp only [eput]
  refine acode_sound [0, 1, 2, 6, 7, 16] [] _ _ _ ?_
  obtain ⟨U, hU⟩ : ∃ U, U = xs ++ List.replicate k (anyRow 2) := ⟨_, rfl⟩
  have hA := del_a xs i k 2 hi
  obtain ⟨r, hr, hB⟩ := del_b xs i k 2 hi
  rw [← hU] at hA hB ⊢
  obtain ⟨V, hV⟩ : ∃ V, V = xs.take i ++ xs.drop (i + 1) := ⟨_, rfl⟩
  have hVl : V.length = xs.length - 1 := by rw [hV]; simp; omega
  rw [← hV] at hB ⊢
  have hdl : (xs.drop (i + 1)).length = xs.length - (i + 1) := by simp
  have hle2 : i ≤ xs.length + k := by omega
  simp [AK_at, acode_seq, acode_region, acode_draw, acode_cond, ↓CB_t, ↓CB_f, CB_u, acode_block, acode_loop, acode_exit, acode_scope, acode_ret, acode_skip, seqQ_n, seqQ_e, seqQ_r, blockQ_n, blockQ_e, blockQ_r, TK_at, OK_at, SK_at, aops_nil, aops_cons, asch_done, asch_one, asch_two, asch_top, astep, aop_eq, isLoud, aloud, aloud1, isWrite, qv, evS, strip, gof, eget, hget, putO, eput, herase, oks, opnds, gS, afin, afin0, binD, arith, D.cells, takeD, fillD, keep, trim, envOf, Fin, aresl, aresv, resD, argOk, pickV, isP, deq, deqs, boundD, slD, lenD, isT, isSl, ptrIds, chunks, mn_min, mx_max, D.cells, splice_one, splice_more, p3, hle, hle2, hle0]
  refine WCall.appSl (id := 0) (off := 0) (len := i) (cp := xs.length + k) (xs := U) (ys := (U.drop (i + 1)).take (xs.length - (i + 1))) (by simp [oks, opnds, gS, gof, eget]) rfl (by simp [evS, eget, strip]) (by simp [hget]) (by simp [evS, eget, strip, srcD, hget]) (by rw [hA, hdl]; omega) (fun r hr => ?_) (fun r hr d hd => ?_) ?_
  · rw [hA] at hr
    exact hxs r (List.mem_of_mem_drop hr)
  · rw [hA] at hr
    exact hnv (hT r (List.mem_of_mem_drop hr) d hd)
  rw [hA, Nat.zero_add, hB, hdl, show i + (xs.length - (i + 1)) = xs.length - 1 by omega]
  have c1 : xs.length - 1 ≤ xs.length := by omega
  have c2 : xs.length ≤ xs.length + k := by omega
  simp [AK_at, acode_seq, acode_region, acode_draw, acode_cond, ↓CB_t, ↓CB_f, CB_u, acode_block, acode_loop, acode_exit, acode_scope, acode_ret, acode_skip, seqQ_n, seqQ_e, seqQ_r, blockQ_n, blockQ_e, blockQ_r, TK_at, OK_at, SK_at, aops_nil, aops_cons, asch_done, asch_one, asch_two, asch_top, astep, aop_eq, isLoud, aloud, aloud1, isWrite, qv, evS, strip, gof, eget, hget, putO, eput, herase, oks, opnds, gS, afin, afin0, binD, arith, D.cells, takeD, fillD, keep, trim, envOf, Fin, aresl, aresv, resD, argOk, pickV, isP, deq, deqs, boundD, slD, lenD, isT, isSl, ptrIds, chunks, mn_min, mx_max, D.cells, splice_one, splice_more, c1, c2]
  have hC := del_c V r (xs.length - 1) (xs.length - (xs.length - 1)) 2 hVl
  refine XCall.clear (id := 0) (sz := 2) (off := xs.length - 1) (len := xs.length - (xs.length - 1)) (cp := xs.length + k - (xs.length - 1)) (xs := V ++ r) (by simp [oks, opnds, gS, gof, eget]) rfl (by simp [evS, eget, strip]) (by simp [hget]) ?_
  rw [hC]
  obtain ⟨W3, hW3⟩ : ∃ W3, W3 = V ++ (List.replicate (xs.length - (xs.length - 1)) (anyRow 2) ++ r.drop (xs.length - (xs.length - 1))) := ⟨_, rfl⟩
  have l3 : W3.length = xs.length + k := by rw [hW3]; simp; omega
  have t3 : W3.take (xs.length - 1) = V := by rw [hW3, ← hVl, List.take_left]
  rw [← hW3]
  simp [AK_at, acode_seq, acode_region, acode_draw, acode_cond, ↓CB_t, ↓CB_f, CB_u, acode_block, acode_loop, acode_exit, acode_scope, acode_ret, acode_skip, seqQ_n, seqQ_e, seqQ_r, blockQ_n, blockQ_e, blockQ_r, TK_at, OK_at, SK_at, aops_nil, aops_cons, asch_done, asch_one, asch_two, asch_top, astep, aop_eq, isLoud, aloud, aloud1, isWrite, qv, evS, strip, gof, eget, hget, putO, eput, herase, oks, opnds, gS, afin, afin0, binD, arith, D.cells, takeD, fillD, keep, trim, envOf, Fin, aresl, aresv, resD, argOk, pickV, isP, deq, deqs, boundD, slD, lenD, isT, isSl, ptrIds, chunks, mn_min, mx_max, D.cells, splice_one, splice_more]
  refine W.gh (Gh.closeR (t := 0) (id := 0) (sz := 2) (len := xs.length - 1) (xs := W3) (by simp [eget, l3]) (by simp [hget]) ?_) ?_
  · rw [t3, hV]
    intro r hr
    rcases List.mem_append.1 hr with hr | hr
    · exact hT r (List.mem_of_mem_take hr)
    · exact hT r (List.mem_of_mem_drop hr)
  rw [t3]
  simp only [eput, herase]
  refine acode_sound [0, 1, 2, 6, 7, 16] [] _ _ _ ?_
  simp [AK_at, acode_seq, acode_region, acode_draw, acode_cond, ↓CB_t, ↓CB_f, CB_u, acode_block, acode_loop, acode_exit, acode_scope, acode_ret, acode_skip, seqQ_n, seqQ_e, seqQ_r, blockQ_n, blockQ_e, blockQ_r, TK_at, OK_at, SK_at, aops_nil, aops_cons, asch_done, asch_one, asch_two, asch_top, astep, aop_eq, isLoud, aloud, aloud1, isWrite, qv, evS, strip, gof, eget, hget, putO, eput, herase, oks, opnds, gS, afin, afin0, binD, arith, D.cells, takeD, fillD, keep, trim, envOf, Fin, aresl, aresv, resD, argOk, pickV, isP, deq, deqs, boundD, slD, lenD, isT, isSl, ptrIds, chunks, mn_min, mx_max, D.cells, splice_one, splice_more]
end Go.Proofs.Ytfkeddefajkobaa

set_option linter.unusedSimpArgs false
set_option linter.unusedVariables false
namespace Go.Proofs.Ytfkeddefajkobaa
/-- the place of the first that fits, or -1 -/
def idxZ {α : Type} (q : α → Bool) : List α → Int
  | [] => -1
  | x :: l => if q x then 0 else if idxZ q l < 0 then -1 else idxZ q l + 1
theorem idxZ_lo {α : Type} (q : α → Bool) : ∀ l : List α, -1 ≤ idxZ q l ∧ idxZ q l < l.length
  | [] => by simp [idxZ]
  | x :: l => by
    have := idxZ_lo q l
    simp only [idxZ, List.length_cons]
    split
    · omega
    · split <;> omega
theorem idxZ_at {α : Type} (q : α → Bool) : ∀ (l : List α) (i : Nat) (h : i < l.length), (∀ j (hj : j < i), q l[j] = false) → q l[i] = true → idxZ q l = i
  | [], i, h, _, _ => by simp at h
  | x :: l, 0, h, _, hq => by
    simp only [List.getElem_cons_zero] at hq
    simp [idxZ, hq]
  | x :: l, i + 1, h, hb, hq => by
    have h0 := hb 0 (by omega)
    simp only [List.getElem_cons_zero] at h0
    have ih := idxZ_at q l i (by simpa using h) (fun j hj => by simpa using hb (j + 1) (by omega)) (by simpa using hq)
    simp only [idxZ, h0, Bool.false_eq_true, if_false, ih]
    rw [if_neg (by omega)]; omega
theorem idxZ_none {α : Type} (q : α → Bool) : ∀ (l : List α), (∀ x ∈ l, q x = false) → idxZ q l = -1
  | [], _ => rfl
  | x :: l, h => by simp [idxZ, h x (by simp), idxZ_none q l fun y hy => h y (List.mem_cons_of_mem _ hy)]
theorem idxZ_some {α : Type} (q : α → Bool) : ∀ (l : List α), (∃ x ∈ l, q x = true) → 0 ≤ idxZ q l
  | [], h => by simp at h
  | x :: l, h => by
    simp only [idxZ]
    split
    · omega
    · rename_i hx
      have : 0 ≤ idxZ q l := idxZ_some q l (by
        obtain ⟨y, hy, hq⟩ := h
        rcases List.mem_cons.1 hy with rfl | hy
        · exact absurd hq hx
        · exact ⟨y, hy, hq⟩)
      rw [if_neg (by omega)]; omega
theorem idxZ_get {α : Type} (q : α → Bool) : ∀ (l : List α) (h : 0 ≤ idxZ q l), ∃ (h2 : (idxZ q l).toNat < l.length), q l[(idxZ q l).toNat] = true ∧ ∀ j (hj : j < (idxZ q l).toNat), q (l[j]'(by omega)) = false := fun l h => by
  by_cases hx : ∃ x ∈ l, q x = true
  · obtain ⟨i, hi, hq, hb⟩ : ∃ (i : Nat) (hi : i < l.length), q l[i] = true ∧ ∀ j (hj : j < i), q (l[j]'(by omega)) = false := by
      obtain ⟨x, hx, hq⟩ := hx
      have h1 : l.findIdx q < l.length := List.findIdx_lt_length_of_exists ⟨x, hx, hq⟩
      exact ⟨l.findIdx q, h1, List.findIdx_getElem (w := h1), fun j hj => by simpa using List.not_of_lt_findIdx hj⟩
    have e := idxZ_at q l i hi hb hq
    have e2 : (idxZ q l).toNat = i := by omega
    refine ⟨by omega, ?_, fun j hj => hb j (by omega)⟩
    simp only [e2]; exact hq
  · have := idxZ_none q l fun x hm => by
      cases hqx : q x with
      | true => exact absurd ⟨x, hm, hqx⟩ hx
      | false => rfl
    omega
end Go.Proofs.Ytfkeddefajkobaa

