/- This text proves what wire's put and get compute. It has no condition of its own. -/
import Derived.Test.YtfkeddefajkobaaBas
import Derived.Test.YtfkeddefajkobaaAcp
set_option linter.unusedSimpArgs false
set_option linter.unusedVariables false
set_option maxRecDepth 100000
set_option maxHeartbeats 2000000
namespace Go.Proofs.Ytfkeddefajkobaa
open Go.RowKit
theorem inW {z : Int} (h1 : -9223372036854775808 ≤ z) (h2 : z ≤ 9223372036854775807) : InR z := ⟨h1, h2⟩
def PB (z : Int) : List D := [.int .u8 z]
def Byte (c : Int) : Prop := 0 ≤ c ∧ c < 256
theorem and127 {c : Int} (h : Byte c) : iand .u8 c 127 = c % 128 := by
  have key : ∀ x : _root_.Fin 256, iand .u8 (x.val : Int) 127 = (x.val : Int) % 128 := by decide +kernel
  obtain ⟨h1, h2⟩ := h
  have := key ⟨c.toNat, by omega⟩
  simp only [Int.toNat_of_nonneg h1] at this
  exact this
theorem or128 {m : Int} (h : 0 ≤ m) : ior .u8 (IntKind.u8.wrap m) 128 = m % 128 + 128 := by
  have key : ∀ x : _root_.Fin 256, ior .u8 (x.val : Int) 128 = (x.val : Int) % 128 + 128 := by decide +kernel
  have hw : IntKind.u8.wrap m = m % 256 := by rw [IntKind.wrap_u8]
  have := key ⟨(m % 256).toNat, by omega⟩
  simp only [Int.toNat_of_nonneg (show 0 ≤ m % 256 by omega)] at this
  rw [hw, this]
  omega
theorem or_lo (a b s : Nat) (ha : a < 2 ^ s) (hb : b * 2 ^ s < 9223372036854775808) (hs : 2 ^ s ≤ 9223372036854775808) : ior .i64 (a : Int) ((b : Int) * 2 ^ s) = (a : Int) + (b : Int) * 2 ^ s := by
  have e3 : ((b : Int) * 2 ^ s) = ((b * 2 ^ s : Nat) : Int) := by rw [Int.natCast_mul, Int.natCast_pow]; rfl
  have e4 : b * 2 ^ s ||| a = 2 ^ s * b + a := by rw [Nat.two_pow_add_eq_or_of_lt ha, Nat.mul_comm]
  have hlt : (b * 2 ^ s ||| a) < 2 ^ 63 := Nat.or_lt_two_pow (n := 63) (by omega) (by omega)
  rw [e4, Nat.mul_comm] at hlt
  rw [e3]
  generalize hy : b * 2 ^ s = y at *
  show IntKind.i64.wrap ((BitVec.ofInt 64 (a : Int) ||| BitVec.ofInt 64 (y : Int)).toNat : Int) = _
  rw [BitVec.toNat_or, ofInt_u64 a (by omega), ofInt_u64 y (by omega), IntKind.wrap_i64, Nat.or_comm, e4, Nat.mul_comm, hy]
  omega
def encF : Nat → Int → List Int
  | 0, n => [n]
  | k + 1, n => if n < 128 then [n] else (n % 128 + 128) :: encF k (n / 128)
theorem wput_code : cfun Try.prog [] 66 = some ⟨(.seq (.region 0 [⟨(some 4), (.mov (.k .nil0)), none⟩]) (.seq (.block 0 (.loop (.seq (.seq (.region 1 [⟨(some 5), (.mov (.t 1)), none⟩, ⟨(some 6), (.bin .geq (.t 5) (.k (.int .i64 128))), none⟩]) (.cond 6 .skip (.exit 0))) (.seq (.block 1 (.region 3 [⟨(some 9), (.mov (.t 0)), none⟩, ⟨(some 10), (.mov (.t 1)), none⟩, ⟨(some 11), (.conv .u8 (.t 10)), none⟩, ⟨(some 12), (.bin .or (.t 11) (.k (.int .u8 128))), none⟩, ⟨(some 13), (.bslice 1 1 [(.int .u8 0)] [(0, (.t 12))]), none⟩, ⟨(some 14), (.app 1 1 [(.int .u8 0)] (.t 9) (.t 13)), none⟩, ⟨(some 0), (.mov (.t 14)), none⟩])) (.region 2 [⟨(some 7), (.mov (.t 1)), none⟩, ⟨(some 8), (.bin .shr (.t 7) (.k (.int .u64 7))), none⟩, ⟨(some 1), (.mov (.t 8)), none⟩]))))) (.seq (.region 4 [⟨(some 15), (.mov (.t 0)), none⟩, ⟨(some 16), (.mov (.t 1)), none⟩, ⟨(some 17), (.conv .u8 (.t 16)), none⟩, ⟨(some 18), (.bslice 1 1 [(.int .u8 0)] [(0, (.t 17))]), none⟩, ⟨(some 19), (.app 1 1 [(.int .u8 0)] (.t 15) (.t 18)), none⟩, ⟨(some 4), (.mov (.t 19)), none⟩]) .ret))), [(.t 4)], 20⟩ := by kernel_rfl
theorem wput_hf (b : List Int) (n : Int) (hb : b.length < 1000) (h0 : 0 ≤ n) (h1 : n < 34359738368) :
    HF Try.prog 66 [.own 0, I n] [(0, .row 1 (b.map PB))] 1 (fun d H' nx' => ∃ x, d = .own 3 ∧ H' = [(3, .row 1 ((b ++ encF 4 n).map PB)), (2, .row 1 [x])] ∧ nx' = 4) := by
  refine HF.of follows_ok wput_code (by simp) (by simp [argOk]) (by simp [LtV, LtC]) fun B hBN hB0 => acode_sound [0, 1, 4, 6] [] _ _ _ ?_
  simp [AK_at, acode_seq, acode_region, acode_draw, acode_cond, ↓CB_t, ↓CB_f, CB_u, acode_block, acode_loop, acode_exit, acode_scope, acode_ret, acode_skip, seqQ_n, seqQ_e, seqQ_r, blockQ_n, blockQ_e, blockQ_r, TK_at, OK_at, SK_at, aops_nil, aops_cons, asch_done, asch_one, asch_two, asch_top, astep, aop_eq, isLoud, aloud, aloud1, isWrite, qv, evS, strip, gof, eget, hget, putO, eput, herase, oks, opnds, gS, afin, afin0, binD, arith, D.cells, takeD, fillD, keep, trim, envOf, Fin, aresl, aresv, resD, argOk, pickV, isP, deq, deqs, boundD, slD, lenD, isT, chunks, mn_min, mx_max, D.cells, splice_one, splice_more, Rbr_at, Rfr_at, frR, frV, frC, flatC, brwR, brwV, brwC, omap, leR, leV, leC, leL, leVL]
  refine W.loopS (fun y : Nat × Int × List Int × Nat => ⟨[(1, I y.2.1), (0, .own y.1)], [(y.1, .row 1 (y.2.2.1.map PB))], 2⟩)
    (fun m y => m = y.2.2.2 ∧ y.1 < 2 ∧ 0 ≤ y.2.1 ∧ y.2.1 < 128 * 128 ^ y.2.2.2 ∧ y.2.2.1.length + y.2.2.2 ≤ b.length + 4 ∧ y.2.2.1 ++ encF y.2.2.2 y.2.1 = b ++ encF 4 n) ?_ ?_
  · exact ⟨_, (0, n, b, 4), (Gh.ren [] (by simp [hB0]) (by simp [hB0] <;> decide) (by simp [eget, rnS, rnR, rnV, rnC, LtS, LtR, LtV, LtC, lget]) (by simp [hget, rnO, rnC, LtO, LtC, lget]) (.inr rfl)), rfl, by simp, h0, by simp only; omega, by simp only; omega, rfl⟩
  rintro k ⟨id, m, out, j⟩ ⟨hk, hid, hm0, hm1, hlen, henc⟩
  simp only at hk hid hm0 hm1 hlen henc
  refine acode_sound [0, 1, 4, 6] [] _ _ _ ?_
  have hor := or128 hm0
  have hcap : out.length + 1 ≤ 140737488355328 := by omega
  have hid2 : id = 0 ∨ id = 1 := by omega
  by_cases hlt : 128 ≤ m
  · have hj : 0 < j := by
      rcases Nat.eq_zero_or_pos j with rfl | h
      · simp at hm1; omega
      · exact h
    obtain ⟨j, rfl⟩ : ∃ i, j = i + 1 := ⟨j - 1, by omega⟩
    have hst : encF (j + 1) m = (m % 128 + 128) :: encF j (m / 128) := by simp only [encF]; rw [if_neg (by omega)]
    rw [hst] at henc
    rw [Int.pow_succ] at hm1
    obtain ⟨p, hp⟩ : ∃ p : Int, p = 128 ^ j := ⟨_, rfl⟩
    rw [← hp] at hm1
    have hm2 : m / 128 < 128 * p := by omega
    rw [hp] at hm2
    have hsh : m / 2 ^ min 7 IntKind.i64.bits = m / 128 := rfl
    rcases hid2 with rfl | rfl
    · simp [AK_at, acode_seq, acode_region, acode_draw, acode_cond, ↓CB_t, ↓CB_f, CB_u, acode_block, acode_loop, acode_exit, acode_scope, acode_ret, acode_skip, seqQ_n, seqQ_e, seqQ_r, blockQ_n, blockQ_e, blockQ_r, TK_at, OK_at, SK_at, aops_nil, aops_cons, asch_done, asch_one, asch_two, asch_top, astep, aop_eq, isLoud, aloud, aloud1, isWrite, qv, evS, strip, gof, eget, hget, putO, eput, herase, oks, opnds, gS, afin, afin0, binD, arith, D.cells, takeD, fillD, keep, trim, envOf, Fin, aresl, aresv, resD, argOk, pickV, isP, deq, deqs, boundD, slD, lenD, isT, chunks, mn_min, mx_max, D.cells, splice_one, splice_more, Rbr_at, Rfr_at, frR, frV, frC, flatC, brwR, brwV, brwC, omap, leR, leV, leC, leL, leVL, hlt, hor, hcap, PB, hsh]
      exact ⟨_, (1, m / 128, out ++ [m % 128 + 128], j), (Gh.ren [0, 3] (by simp [hB0]) (by simp [hB0] <;> decide) (by simp [eget, rnS, rnR, rnV, rnC, LtS, LtR, LtV, LtC, lget, PB, hsh]) (by simp [hget, rnO, rnC, LtO, LtC, lget, PB, hsh]) (.inl (by simp [lget, PB, hsh]))), (show j < k by omega), rfl, by simp, by simp only; omega, hm2, by simp; omega, by simp only; rw [← henc]; simp⟩
    · simp [AK_at, acode_seq, acode_region, acode_draw, acode_cond, ↓CB_t, ↓CB_f, CB_u, acode_block, acode_loop, acode_exit, acode_scope, acode_ret, acode_skip, seqQ_n, seqQ_e, seqQ_r, blockQ_n, blockQ_e, blockQ_r, TK_at, OK_at, SK_at, aops_nil, aops_cons, asch_done, asch_one, asch_two, asch_top, astep, aop_eq, isLoud, aloud, aloud1, isWrite, qv, evS, strip, gof, eget, hget, putO, eput, herase, oks, opnds, gS, afin, afin0, binD, arith, D.cells, takeD, fillD, keep, trim, envOf, Fin, aresl, aresv, resD, argOk, pickV, isP, deq, deqs, boundD, slD, lenD, isT, chunks, mn_min, mx_max, D.cells, splice_one, splice_more, Rbr_at, Rfr_at, frR, frV, frC, flatC, brwR, brwV, brwC, omap, leR, leV, leC, leL, leVL, hlt, hor, hcap, PB, hsh]
      exact ⟨_, (1, m / 128, out ++ [m % 128 + 128], j), (Gh.ren [0, 3] (by simp [hB0]) (by simp [hB0] <;> decide) (by simp [eget, rnS, rnR, rnV, rnC, LtS, LtR, LtV, LtC, lget, PB, hsh]) (by simp [hget, rnO, rnC, LtO, LtC, lget, PB, hsh]) (.inl (by simp [lget, PB, hsh]))), (show j < k by omega), rfl, by simp, by simp only; omega, hm2, by simp; omega, by simp only; rw [← henc]; simp⟩
  · have hst : encF j m = [m] := by
      cases j with
      | zero => rfl
      | succ j => simp only [encF]; rw [if_pos (by omega)]
    rw [hst] at henc
    have hmap := congrArg (List.map PB) henc
    simp [PB] at hmap
    have hw : IntKind.u8.wrap m = m := by rw [IntKind.wrap_u8]; omega
    rcases hid2 with rfl | rfl
    · simp [AK_at, acode_seq, acode_region, acode_draw, acode_cond, ↓CB_t, ↓CB_f, CB_u, acode_block, acode_loop, acode_exit, acode_scope, acode_ret, acode_skip, seqQ_n, seqQ_e, seqQ_r, blockQ_n, blockQ_e, blockQ_r, TK_at, OK_at, SK_at, aops_nil, aops_cons, asch_done, asch_one, asch_two, asch_top, astep, aop_eq, isLoud, aloud, aloud1, isWrite, qv, evS, strip, gof, eget, hget, putO, eput, herase, oks, opnds, gS, afin, afin0, binD, arith, D.cells, takeD, fillD, keep, trim, envOf, Fin, aresl, aresv, resD, argOk, pickV, isP, deq, deqs, boundD, slD, lenD, isT, chunks, mn_min, mx_max, D.cells, splice_one, splice_more, Rbr_at, Rfr_at, frR, frV, frC, flatC, brwR, brwV, brwC, omap, leR, leV, leC, leL, leVL, hlt, hcap, PB, hw]
      exact hmap
    · simp [AK_at, acode_seq, acode_region, acode_draw, acode_cond, ↓CB_t, ↓CB_f, CB_u, acode_block, acode_loop, acode_exit, acode_scope, acode_ret, acode_skip, seqQ_n, seqQ_e, seqQ_r, blockQ_n, blockQ_e, blockQ_r, TK_at, OK_at, SK_at, aops_nil, aops_cons, asch_done, asch_one, asch_two, asch_top, astep, aop_eq, isLoud, aloud, aloud1, isWrite, qv, evS, strip, gof, eget, hget, putO, eput, herase, oks, opnds, gS, afin, afin0, binD, arith, D.cells, takeD, fillD, keep, trim, envOf, Fin, aresl, aresv, resD, argOk, pickV, isP, deq, deqs, boundD, slD, lenD, isT, chunks, mn_min, mx_max, D.cells, splice_one, splice_more, Rbr_at, Rfr_at, frR, frV, frC, flatC, brwR, brwV, brwC, omap, leR, leV, leC, leL, leVL, hlt, hcap, PB, hw]
      exact hmap
def getM : List Int → Nat → Int → Int × Int × Int
  | [], _, _ => (0, 0, 4)
  | c :: r, i, n => if i = 6 then (0, 0, 2) else if c < 128 then (if c = 0 ∧ 0 < i then (0, 0, 3) else (n + c * 2 ^ (7 * i), (i : Int) + 1, 0)) else getM r (i + 1) (n + c % 128 * 2 ^ (7 * i))
def getD3 (r : Int × Int × Int) : D := .tup [I r.1, I r.2.1, I r.2.2]
theorem wget_code : cfun Try.prog [] 64 = some ⟨(.seq (.region 0 [⟨(some 2), (.mov (.k (.int .i64 0))), none⟩, ⟨(some 3), (.mov (.k (.int .i64 0))), none⟩, ⟨(some 4), (.mov (.k (.int .i64 0))), none⟩]) (.seq (.seq (.region 1 [⟨(some 7), (.mov (.t 0)), none⟩, ⟨(some 8), (.len (.t 7)), none⟩, ⟨(some 9), (.mov (.k (.int .i64 0))), none⟩]) (.block 0 (.loop (.seq (.region 2 [⟨(some 10), (.bin .lss (.t 9) (.t 8)), none⟩]) (.seq (.cond 10 .skip (.exit 0)) (.seq (.block 1 (.seq (.region 3 [⟨(some 11), (.mov (.t 9)), none⟩, ⟨(some 12), (.iads 1 (.t 7) (.t 9)), none⟩, ⟨(some 13), (.load false 1 (.t 12)), none⟩, ⟨(some 5), (.mov (.t 11)), none⟩, ⟨(some 6), (.mov (.t 13)), none⟩]) (.seq (.seq (.region 4 [⟨(some 14), (.mov (.t 5)), none⟩, ⟨(some 15), (.bin .eql (.t 14) (.k (.int .i64 6))), none⟩]) (.cond 15 (.seq (.region 5 [⟨(some 2), (.mov (.k (.int .i64 0))), none⟩, ⟨(some 3), (.mov (.k (.int .i64 0))), none⟩, ⟨(some 4), (.mov (.k (.int .i64 2))), none⟩]) .ret) .skip)) (.seq (.region 6 [⟨(some 16), (.mov (.t 2)), none⟩, ⟨(some 17), (.mov (.t 6)), none⟩, ⟨(some 18), (.bin .and (.t 17) (.k (.int .u8 127))), none⟩, ⟨(some 19), (.conv .i64 (.t 18)), none⟩, ⟨(some 20), (.mov (.t 5)), none⟩, ⟨(some 21), (.bin .mul (.k (.int .i64 7)) (.t 20)), none⟩, ⟨(some 22), (.bin .shl (.t 19) (.t 21)), none⟩, ⟨(some 23), (.bin .or (.t 16) (.t 22)), none⟩, ⟨(some 2), (.mov (.t 23)), none⟩]) (.seq (.region 7 [⟨(some 24), (.mov (.t 6)), none⟩, ⟨(some 25), (.bin .lss (.t 24) (.k (.int .u8 128))), none⟩]) (.cond 25 (.seq (.seq (.region 8 [⟨(some 26), (.mov (.t 6)), none⟩, ⟨(some 27), (.bin .eql (.t 26) (.k (.int .u8 0))), none⟩, ⟨(some 28), (.mov (.t 27)), none⟩, ⟨(some 29), (.mov (.t 5)), (some (28, true))⟩, ⟨(some 30), (.bin .gtr (.t 29) (.k (.int .i64 0))), (some (28, true))⟩, ⟨(some 31), (.pick (.t 28) (.t 30) (.k (.bool false))), none⟩]) (.cond 31 (.seq (.region 9 [⟨(some 2), (.mov (.k (.int .i64 0))), none⟩, ⟨(some 3), (.mov (.k (.int .i64 0))), none⟩, ⟨(some 4), (.mov (.k (.int .i64 3))), none⟩]) .ret) .skip)) (.seq (.region 10 [⟨(some 32), (.mov (.t 2)), none⟩, ⟨(some 33), (.mov (.t 5)), none⟩, ⟨(some 34), (.bin .add (.t 33) (.k (.int .i64 1))), none⟩, ⟨(some 2), (.mov (.t 32)), none⟩, ⟨(some 3), (.mov (.t 34)), none⟩, ⟨(some 4), (.mov (.k (.int .i64 0))), none⟩]) .ret)) .skip)))))) (.region 11 [⟨(some 35), (.bin .add (.t 9) (.k (.int .i64 1))), none⟩, ⟨(some 9), (.mov (.t 35)), none⟩]))))))) (.seq (.region 12 [⟨(some 2), (.mov (.k (.int .i64 0))), none⟩, ⟨(some 3), (.mov (.k (.int .i64 0))), none⟩, ⟨(some 4), (.mov (.k (.int .i64 4))), none⟩]) .ret))), [(.t 2), (.t 3), (.t 4)], 36⟩ := by kernel_rfl
theorem wget_pf (b : List Int) (hb : ∀ c ∈ b, Byte c) (hl : b.length < 1000) : PF Try.prog 64 [.rows 1 (b.map PB)] (getD3 (getM b 0 0)) := by
  refine PF.of follows_ok wget_code (by simp) (by simp [argOk]) (by simp [noV, noC]) fun B hBN hB0 => acode_sound [0, 2, 3, 4, 5, 6, 7, 8, 9, 10, 15, 25, 31] [] _ _ _ ?_
  simp [AK_at, acode_seq, acode_region, acode_draw, acode_cond, ↓CB_t, ↓CB_f, CB_u, acode_block, acode_loop, acode_exit, acode_scope, acode_ret, acode_skip, seqQ_n, seqQ_e, seqQ_r, blockQ_n, blockQ_e, blockQ_r, TK_at, OK_at, SK_at, aops_nil, aops_cons, asch_done, asch_one, asch_two, asch_top, astep, aop_eq, isLoud, aloud, aloud1, isWrite, qv, evS, strip, gof, eget, hget, putO, eput, herase, oks, opnds, gS, afin, afin0, binD, arith, D.cells, takeD, fillD, keep, trim, envOf, Fin, aresl, aresv, resD, argOk, pickV, isP, deq, deqs, boundD, slD, lenD, isT, chunks, mn_min, mx_max, D.cells, splice_one, splice_more, Rbr_at, Rfr_at, frR, frV, frC, flatC, brwR, brwV, brwC, omap, leR, leV, leC, leL, leVL]
  refine W.loopS (fun y : Nat × Int => ⟨[(9, I y.1), (8, I b.length), (7, D.rows 1 (b.map PB)), (2, I y.2)], [], 0⟩)
    (fun k y => k = b.length - y.1 ∧ y.1 ≤ b.length ∧ y.1 ≤ 6 ∧ 0 ≤ y.2 ∧ y.2 < 2 ^ (7 * y.1) ∧ getM (b.drop y.1) y.1 y.2 = getM b 0 0) ?_ ?_
  · exact ⟨_, (0, 0), (Gh.ren [] (by simp [hB0]) (by simp [hB0] <;> decide) (by simp [eget, rnS, rnR, rnV, rnC, LtS, LtR, LtV, LtC, lget]) (by simp [hget, rnO, rnC, LtO, LtC, lget]) (.inr rfl)), rfl, by omega, by simp, by simp, by simp, by simp⟩
  rintro k ⟨i, n⟩ ⟨hk, hi, hi6, hn0, hn1, hg⟩
  simp only at hk hi hi6 hn0 hn1 hg
  refine acode_sound [0, 2, 3, 4, 5, 6, 7, 8, 9, 10, 15, 25, 31] [] _ _ _ ?_
  by_cases hlt : i < b.length
  · obtain ⟨c, hc⟩ : ∃ c, c = b[i] := ⟨_, rfl⟩
    have hcb : Byte c := hb c (hc ▸ List.getElem_mem hlt)
    have hand := and127 hcb
    obtain ⟨hc0, hc1⟩ := hcb
    have hd : b.drop i = c :: b.drop (i + 1) := by rw [hc]; exact List.drop_eq_getElem_cons hlt
    rw [hd] at hg
    simp only [getM] at hg
    have ii : InR ((i : Int) + 1) := inW (by omega) (by omega)
    by_cases h6 : i = 6
    · subst h6
      rw [if_pos rfl] at hg
      have hltI : (6 : Int) < b.length := by omega
      simp [AK_at, acode_seq, acode_region, acode_draw, acode_cond, ↓CB_t, ↓CB_f, CB_u, acode_block, acode_loop, acode_exit, acode_scope, acode_ret, acode_skip, seqQ_n, seqQ_e, seqQ_r, blockQ_n, blockQ_e, blockQ_r, TK_at, OK_at, SK_at, aops_nil, aops_cons, asch_done, asch_one, asch_two, asch_top, astep, aop_eq, isLoud, aloud, aloud1, isWrite, qv, evS, strip, gof, eget, hget, putO, eput, herase, oks, opnds, gS, afin, afin0, binD, arith, D.cells, takeD, fillD, keep, trim, envOf, Fin, aresl, aresv, resD, argOk, pickV, isP, deq, deqs, boundD, slD, lenD, isT, chunks, mn_min, mx_max, D.cells, splice_one, splice_more, Rbr_at, Rfr_at, frR, frV, frC, flatC, brwR, brwV, brwC, omap, leR, leV, leC, leL, leVL, hlt, hltI, ← hc, PB, getD3, ← hg]
      done
    · rw [if_neg h6] at hg
      have h6' : ¬ (i : Int) = 6 := by omega
      have hp : (2 : Int) ^ (7 * i) ≤ 2 ^ 35 ∧ (0 : Int) < 2 ^ (7 * i) := by
        have : i = 0 ∨ i = 1 ∨ i = 2 ∨ i = 3 ∨ i = 4 ∨ i = 5 := by omega
        rcases this with rfl | rfl | rfl | rfl | rfl | rfl <;> simp
      have hpn : (2 : Nat) ^ (7 * i) ≤ 2 ^ 35 := Nat.pow_le_pow_right (by omega) (by omega)
      have i7 : InR (7 * (i : Int)) := inW (by omega) (by omega)
      have ic : InR (c % 128) := inW (by omega) (by omega)
      have hmin : min (7 * (i : Int)).toNat IntKind.i64.bits = 7 * i := by show min (7 * (i : Int)).toNat 64 = 7 * i; omega
      have hmul : c % 128 * 2 ^ (7 * i) ≤ 127 * 2 ^ 35 := Int.mul_le_mul (by omega) hp.1 (by omega) (by omega)
      have hmul0 : 0 ≤ c % 128 * 2 ^ (7 * i) := Int.mul_nonneg (by omega) (by omega)
      have is : InR (c % 128 * 2 ^ (7 * i)) := inW (by omega) (by omega)
      have h70 : (0 : Int) ≤ 7 * i := by omega
      have hor : ior .i64 n (c % 128 * 2 ^ (7 * i)) = n + c % 128 * 2 ^ (7 * i) := by
        obtain ⟨n', rfl⟩ := Int.eq_ofNat_of_zero_le hn0
        obtain ⟨c', hc'⟩ := Int.eq_ofNat_of_zero_le (show 0 ≤ c % 128 by omega)
        rw [hc']
        have e : ((c' * 2 ^ (7 * i) : Nat) : Int) = c % 128 * 2 ^ (7 * i) := by rw [hc', Int.natCast_mul, Int.natCast_pow]; rfl
        exact or_lo n' c' (7 * i) (by have : ((2 ^ (7 * i) : Nat) : Int) = 2 ^ (7 * i) := Int.natCast_pow 2 _; omega) (by omega) (by omega)
      by_cases h128 : c < 128
      · rw [if_pos h128] at hg
        by_cases hz : c = 0 ∧ 0 < i
        · rw [if_pos hz] at hg
          obtain ⟨hz1, hz2⟩ := hz
          have iz : InR 0 := inW (by omega) (by omega)
          subst hz1
          have hor0 : ior .i64 n 0 = n := by simpa using hor
          have hz2' : (0 : Int) < i := by omega
          simp [AK_at, acode_seq, acode_region, acode_draw, acode_cond, ↓CB_t, ↓CB_f, CB_u, acode_block, acode_loop, acode_exit, acode_scope, acode_ret, acode_skip, seqQ_n, seqQ_e, seqQ_r, blockQ_n, blockQ_e, blockQ_r, TK_at, OK_at, SK_at, aops_nil, aops_cons, asch_done, asch_one, asch_two, asch_top, astep, aop_eq, isLoud, aloud, aloud1, isWrite, qv, evS, strip, gof, eget, hget, putO, eput, herase, oks, opnds, gS, afin, afin0, binD, arith, D.cells, takeD, fillD, keep, trim, envOf, Fin, aresl, aresv, resD, argOk, pickV, isP, deq, deqs, boundD, slD, lenD, isT, chunks, mn_min, mx_max, D.cells, splice_one, splice_more, Rbr_at, Rfr_at, frR, frV, frC, flatC, brwR, brwV, brwC, omap, leR, leV, leC, leL, leVL, hlt, ← hc, PB, getD3, ← hg, h6', hand, ic, i7, hmin, is, hor, hz2, h70, iz, hor0, hz2']
          done
        · rw [if_neg hz] at hg
          have hcm : c % 128 = c := by omega
          rw [hcm] at hand ic is hor
          by_cases hc00 : c = 0
          · have hi0 : i = 0 := by omega
            subst hi0 hc00
            have iz : InR 0 := inW (by omega) (by omega)
            have i1 : InR 1 := inW (by omega) (by omega)
            have hor0 : ior .i64 n 0 = n := by simpa using hor
            simp [AK_at, acode_seq, acode_region, acode_draw, acode_cond, ↓CB_t, ↓CB_f, CB_u, acode_block, acode_loop, acode_exit, acode_scope, acode_ret, acode_skip, seqQ_n, seqQ_e, seqQ_r, blockQ_n, blockQ_e, blockQ_r, TK_at, OK_at, SK_at, aops_nil, aops_cons, asch_done, asch_one, asch_two, asch_top, astep, aop_eq, isLoud, aloud, aloud1, isWrite, qv, evS, strip, gof, eget, hget, putO, eput, herase, oks, opnds, gS, afin, afin0, binD, arith, D.cells, takeD, fillD, keep, trim, envOf, Fin, aresl, aresv, resD, argOk, pickV, isP, deq, deqs, boundD, slD, lenD, isT, chunks, mn_min, mx_max, D.cells, splice_one, splice_more, Rbr_at, Rfr_at, frR, frV, frC, flatC, brwR, brwV, brwC, omap, leR, leV, leC, leL, leVL, hlt, iz, i1, hor0, ← hc, PB, getD3, ← hg, h6', hand, ic, i7, hmin, is, hor, h128, ii, h70]
            done
          · simp [AK_at, acode_seq, acode_region, acode_draw, acode_cond, ↓CB_t, ↓CB_f, CB_u, acode_block, acode_loop, acode_exit, acode_scope, acode_ret, acode_skip, seqQ_n, seqQ_e, seqQ_r, blockQ_n, blockQ_e, blockQ_r, TK_at, OK_at, SK_at, aops_nil, aops_cons, asch_done, asch_one, asch_two, asch_top, astep, aop_eq, isLoud, aloud, aloud1, isWrite, qv, evS, strip, gof, eget, hget, putO, eput, herase, oks, opnds, gS, afin, afin0, binD, arith, D.cells, takeD, fillD, keep, trim, envOf, Fin, aresl, aresv, resD, argOk, pickV, isP, deq, deqs, boundD, slD, lenD, isT, chunks, mn_min, mx_max, D.cells, splice_one, splice_more, Rbr_at, Rfr_at, frR, frV, frC, flatC, brwR, brwV, brwC, omap, leR, leV, leC, leL, leVL, hlt, ← hc, PB, getD3, ← hg, h6', hand, ic, i7, hmin, is, hor, h128, hc00, ii, h70]
            done
      · rw [if_neg h128] at hg
        simp [AK_at, acode_seq, acode_region, acode_draw, acode_cond, ↓CB_t, ↓CB_f, CB_u, acode_block, acode_loop, acode_exit, acode_scope, acode_ret, acode_skip, seqQ_n, seqQ_e, seqQ_r, blockQ_n, blockQ_e, blockQ_r, TK_at, OK_at, SK_at, aops_nil, aops_cons, asch_done, asch_one, asch_two, asch_top, astep, aop_eq, isLoud, aloud, aloud1, isWrite, qv, evS, strip, gof, eget, hget, putO, eput, herase, oks, opnds, gS, afin, afin0, binD, arith, D.cells, takeD, fillD, keep, trim, envOf, Fin, aresl, aresv, resD, argOk, pickV, isP, deq, deqs, boundD, slD, lenD, isT, chunks, mn_min, mx_max, D.cells, splice_one, splice_more, Rbr_at, Rfr_at, frR, frV, frC, flatC, brwR, brwV, brwC, omap, leR, leV, leC, leL, leVL, hlt, ← hc, PB, getD3, h6', hand, ic, i7, hmin, is, hor, h128, ii, h70]
        refine ⟨_, (i + 1, n + c % 128 * 2 ^ (7 * i)), (Gh.ren [] (by simp [hB0]) (by simp [hB0] <;> decide) (by simp [eget, rnS, rnR, rnV, rnC, LtS, LtR, LtV, LtC, lget]) (by simp [hget, rnO, rnC, LtO, LtC, lget]) (.inr rfl)), by omega, rfl, by omega, by omega, by simp only; omega, ?_, hg⟩
        simp only
        rw [show 7 * (i + 1) = 7 * i + 7 by omega, Int.pow_add]
        have : c % 128 * 2 ^ (7 * i) ≤ 127 * 2 ^ (7 * i) := Int.mul_le_mul_of_nonneg_right (by omega) (by omega)
        omega
  · have hie : i = b.length := by omega
    subst hie
    simp [getM] at hg
    simp [AK_at, acode_seq, acode_region, acode_draw, acode_cond, ↓CB_t, ↓CB_f, CB_u, acode_block, acode_loop, acode_exit, acode_scope, acode_ret, acode_skip, seqQ_n, seqQ_e, seqQ_r, blockQ_n, blockQ_e, blockQ_r, TK_at, OK_at, SK_at, aops_nil, aops_cons, asch_done, asch_one, asch_two, asch_top, astep, aop_eq, isLoud, aloud, aloud1, isWrite, qv, evS, strip, gof, eget, hget, putO, eput, herase, oks, opnds, gS, afin, afin0, binD, arith, D.cells, takeD, fillD, keep, trim, envOf, Fin, aresl, aresv, resD, argOk, pickV, isP, deq, deqs, boundD, slD, lenD, isT, chunks, mn_min, mx_max, D.cells, splice_one, splice_more, Rbr_at, Rfr_at, frR, frV, frC, flatC, brwR, brwV, brwC, omap, leR, leV, leC, leL, leVL, getD3, ← hg]
end Go.Proofs.Ytfkeddefajkobaa
