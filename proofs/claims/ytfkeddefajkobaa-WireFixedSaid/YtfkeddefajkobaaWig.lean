/- This text proves what wire's Decode computes. It has no condition of its own. -/
import Derived.Test.YtfkeddefajkobaaWif
set_option linter.unusedSimpArgs false
set_option linter.unusedVariables false
set_option maxRecDepth 100000
set_option maxHeartbeats 4000000
namespace Go.Proofs.Ytfkeddefajkobaa
open Go.RowKit
theorem getM_used : ∀ (r : List Int) (i : Nat) (n v u : Int), (∀ c ∈ r, Byte c) → 0 ≤ n → getM r i n = (v, u, 0) → 0 ≤ v ∧ (i : Int) < u ∧ u ≤ i + r.length
  | [], i, n, v, u, _, _, h => by simp [getM] at h
  | c :: r, i, n, v, u, hb, hn, h => by
    obtain ⟨c0, c1⟩ := hb c (by simp)
    have hp : (0 : Int) < 2 ^ (7 * i) := Int.pow_pos (by omega)
    simp only [getM] at h
    split at h
    · simp at h
    · split at h
      · split at h
        · simp at h
        · simp only [Prod.mk.injEq, and_true] at h
          have : 0 ≤ c * 2 ^ (7 * i) := Int.mul_nonneg (by omega) (by omega)
          simp only [List.length_cons]
          omega
      · have : 0 ≤ c % 128 * 2 ^ (7 * i) := Int.mul_nonneg (by omega) (by omega)
        have := getM_used r (i + 1) _ v u (fun x hx => hb x (List.mem_cons_of_mem _ hx)) (by omega) h
        simp only [List.length_cons]
        omega
def EK.of (k : Int) : Option EK := if k = 1 then some .op else if k = 2 then some .da else if k = 3 then some .cl else if k = 4 then some .an else if k = 5 then some .jo else if k = 6 then some .re else if k = 7 then some .ti else none
theorem EK.of_some {k : Int} {kd : EK} (h : EK.of k = some kd) : k = kd.n := by
  unfold EK.of at h
  repeat' split at h
  all_goals
    simp only [Option.some.injEq, reduceCtorEq] at h
  all_goals
    subst h
    assumption
theorem EK.of_none {k : Int} (h : EK.of k = none) : k < 1 ∨ 7 < k := by
  unfold EK.of at h
  repeat' split at h
  all_goals
    simp only [reduceCtorEq] at h
  omega
theorem EK.of_n (kd : EK) : EK.of kd.n = some kd := by cases kd <;> rfl
def decC (kd : EK) : Nat → Nat → Int → Int → Int → List Int → List D × Int
  | 0, _, x, y, z, r => if r.length = 0 then (kd.cells x y z, 0) else (zeroE, 3)
  | m + 1, i, x, y, z, r => if (getM r 0 0).2.2 = 0 then
      (if (getM r 0 0).1 < kd.lo i ∨ kd.hi i < (getM r 0 0).1 then (zeroE, 2) else
        decC kd m (i + 1) (if i = 0 then (getM r 0 0).1 else x) (if i = 1 then (getM r 0 0).1 else y) (if i = 2 then (getM r 0 0).1 else z) (r.drop (getM r 0 0).2.1.toNat))
      else (zeroE, (getM r 0 0).2.2)
def decM (b : List Int) : List D × Int :=
  if 64 < b.length then (zeroE, 1) else
  match b with
  | [] => (zeroE, 4)
  | k :: r => match EK.of k with
    | none => (zeroE, 5)
    | some kd => decC kd kd.len 0 0 0 0 r
def EK.rwE (e g : Nat) : EK → List (List D)
  | .op => [[.ptr e 1, I 0, I 4294967295]]
  | .da => [[.ptr e 2, I 0, I 39], [.ptr e 3, I 0, I 1048576]]
  | .cl => [[.ptr e 2, I 0, I 39], [.ptr e 3, I 0, I 1048576]]
  | .an => [[.ptr e 2, I 0, I 39], [.ptr e 3, I 0, I 1048576], [.ptr g 0, I 0, I 1]]
  | .jo => [[.ptr e 5, I 0, I 1048576], [.ptr e 6, I 0, I 11], [.ptr e 7, I 1, I 8]]
  | .re => [[.ptr e 5, I 0, I 1048576], [.ptr e 6, I 0, I 11]]
  | .ti => []
def EK.hpE (id e g : Nat) (kd : EK) (H : List (Nat × Ob)) : List (Nat × Ob) :=
  match kd with
  | .ti => H
  | kd => (id, .rowd 3 (kd.rwE e g)) :: H
def EK.zz (kd : EK) (z : Int) : Int :=
  match kd with
  | .an => 0
  | _ => z
def EK.gz (kd : EK) (z : Int) : Int :=
  match kd with
  | .an => z
  | _ => 0
theorem zeroE_eq : zeroE = [I 0, I 0, I 0, I 0, .bool false, I 0, I 0, I 0] := rfl
theorem wdec_code : cfun Try.prog [] 30 = some ⟨(.seq (.region 0 [⟨(some 2), (.alloc [(.int .i64 0), (.int .i64 0), (.int .i64 0), (.int .i64 0), (.bool false), (.int .i64 0), (.int .i64 0), (.int .i64 0)]), none⟩, ⟨(some 3), (.mov (.k (.int .i64 0))), none⟩]) (.seq (.seq (.region 1 [⟨(some 13), (.mov (.t 0)), none⟩, ⟨(some 14), (.len (.t 13)), none⟩, ⟨(some 15), (.bin .gtr (.t 14) (.k (.int .i64 64))), none⟩]) (.cond 15 (.seq (.region 2 [⟨(some 16), (.build [(.int .i64 0), (.int .i64 0), (.int .i64 0), (.int .i64 0), (.bool false), (.int .i64 0), (.int .i64 0), (.int .i64 0)] []), none⟩, ⟨none, (.store 8 (.t 2) (.t 16)), none⟩, ⟨(some 3), (.mov (.k (.int .i64 1))), none⟩]) .ret) .skip)) (.seq (.seq (.region 3 [⟨(some 17), (.mov (.t 0)), none⟩, ⟨(some 18), (.len (.t 17)), none⟩, ⟨(some 19), (.bin .eql (.t 18) (.k (.int .i64 0))), none⟩]) (.cond 19 (.seq (.region 4 [⟨(some 20), (.build [(.int .i64 0), (.int .i64 0), (.int .i64 0), (.int .i64 0), (.bool false), (.int .i64 0), (.int .i64 0), (.int .i64 0)] []), none⟩, ⟨none, (.store 8 (.t 2) (.t 20)), none⟩, ⟨(some 3), (.mov (.k (.int .i64 4))), none⟩]) .ret) .skip)) (.seq (.region 5 [⟨(some 21), (.mov (.t 0)), none⟩, ⟨(some 22), (.iads 1 (.t 21) (.k (.int .i64 0))), none⟩, ⟨(some 23), (.load false 1 (.t 22)), none⟩, ⟨(some 24), (.conv .i64 (.t 23)), none⟩, ⟨(some 25), (.build [(.int .i64 0), (.int .i64 0), (.int .i64 0), (.int .i64 0), (.bool false), (.int .i64 0), (.int .i64 0), (.int .i64 0)] [(0, (1, (.t 24)))]), none⟩, ⟨(some 4), (.alloc [(.int .i64 0), (.int .i64 0), (.int .i64 0), (.int .i64 0), (.bool false), (.int .i64 0), (.int .i64 0), (.int .i64 0)]), none⟩, ⟨none, (.store 8 (.t 4) (.t 25)), none⟩]) (.seq (.region 6 [⟨(some 5), (.alloc [(.int .i64 0)]), none⟩, ⟨none, (.store 1 (.t 5) (.k (.int .i64 0))), none⟩]) (.seq (.region 7 [⟨(some 27), (.call 63 [(.t 4), (.t 5)]), none⟩, ⟨(some 26), (.mov (.t 27)), none⟩, ⟨(some 28), (.ext (.t 26) 0), none⟩, ⟨(some 29), (.ext (.t 26) 1), none⟩, ⟨(some 6), (.mov (.t 28)), none⟩, ⟨(some 7), (.mov (.t 29)), none⟩]) (.seq (.seq (.region 8 [⟨(some 30), (.mov (.t 7)), none⟩, ⟨(some 31), (.not (.t 30)), none⟩]) (.cond 31 (.seq (.region 9 [⟨(some 32), (.build [(.int .i64 0), (.int .i64 0), (.int .i64 0), (.int .i64 0), (.bool false), (.int .i64 0), (.int .i64 0), (.int .i64 0)] []), none⟩, ⟨none, (.store 8 (.t 2) (.t 32)), none⟩, ⟨(some 3), (.mov (.k (.int .i64 5))), none⟩]) .ret) .skip)) (.seq (.region 10 [⟨(some 33), (.mov (.t 0)), none⟩, ⟨(some 34), (.slc 1 (.t 33) (some (.k (.int .i64 1))) none none), none⟩, ⟨(some 0), (.mov (.t 34)), none⟩]) (.seq (.seq (.region 11 [⟨(some 35), (.mov (.t 6)), none⟩, ⟨(some 36), (.len (.t 35)), none⟩, ⟨(some 37), (.mov (.k (.int .i64 0))), none⟩]) (.block 0 (.loop (.seq (.region 12 [⟨(some 38), (.bin .lss (.t 37) (.t 36)), none⟩]) (.seq (.cond 38 .skip (.exit 0)) (.seq (.block 1 (.seq (.region 13 [⟨(some 39), (.iads 3 (.t 35) (.t 37)), none⟩, ⟨(some 40), (.load true 3 (.t 39)), none⟩, ⟨(some 9), (.alloc [.nilp, (.int .i64 0), (.int .i64 0)]), none⟩, ⟨none, (.store 3 (.t 9) (.t 40)), none⟩]) (.seq (.region 14 [⟨(some 42), (.mov (.t 0)), none⟩, ⟨(some 43), (.call 64 [(.t 42)]), none⟩, ⟨(some 41), (.mov (.t 43)), none⟩, ⟨(some 44), (.ext (.t 41) 0), none⟩, ⟨(some 45), (.ext (.t 41) 1), none⟩, ⟨(some 46), (.ext (.t 41) 2), none⟩, ⟨(some 10), (.mov (.t 44)), none⟩, ⟨(some 11), (.mov (.t 45)), none⟩, ⟨(some 12), (.mov (.t 46)), none⟩]) (.seq (.seq (.region 15 [⟨(some 47), (.mov (.t 12)), none⟩, ⟨(some 48), (.bin .neq (.t 47) (.k (.int .i64 0))), none⟩]) (.cond 48 (.seq (.region 16 [⟨(some 49), (.build [(.int .i64 0), (.int .i64 0), (.int .i64 0), (.int .i64 0), (.bool false), (.int .i64 0), (.int .i64 0), (.int .i64 0)] []), none⟩, ⟨(some 50), (.mov (.t 12)), none⟩, ⟨none, (.store 8 (.t 2) (.t 49)), none⟩, ⟨(some 3), (.mov (.t 50)), none⟩]) .ret) .skip)) (.seq (.seq (.region 17 [⟨(some 51), (.mov (.t 10)), none⟩, ⟨(some 52), (.fad 1 (.t 9)), none⟩, ⟨(some 53), (.load false 1 (.t 52)), none⟩, ⟨(some 54), (.bin .lss (.t 51) (.t 53)), none⟩, ⟨(some 55), (.mov (.t 54)), none⟩, ⟨(some 56), (.mov (.t 10)), (some (55, false))⟩, ⟨(some 57), (.fad 2 (.t 9)), (some (55, false))⟩, ⟨(some 58), (.load false 1 (.t 57)), (some (55, false))⟩, ⟨(some 59), (.bin .gtr (.t 56) (.t 58)), (some (55, false))⟩, ⟨(some 60), (.pick (.t 55) (.k (.bool true)) (.t 59)), none⟩]) (.cond 60 (.seq (.region 18 [⟨(some 61), (.build [(.int .i64 0), (.int .i64 0), (.int .i64 0), (.int .i64 0), (.bool false), (.int .i64 0), (.int .i64 0), (.int .i64 0)] []), none⟩, ⟨none, (.store 8 (.t 2) (.t 61)), none⟩, ⟨(some 3), (.mov (.k (.int .i64 2))), none⟩]) .ret) .skip)) (.seq (.region 19 [⟨(some 62), (.fad 0 (.t 9)), none⟩, ⟨(some 63), (.load false 1 (.t 62)), none⟩, ⟨(some 64), (.mov (.t 10)), none⟩, ⟨(some 65), (.nchk (.t 63)), none⟩, ⟨none, (.store 1 (.t 65) (.t 64)), none⟩]) (.region 20 [⟨(some 66), (.mov (.t 0)), none⟩, ⟨(some 67), (.mov (.t 11)), none⟩, ⟨(some 68), (.slc 1 (.t 66) (some (.t 67)) none none), none⟩, ⟨(some 0), (.mov (.t 68)), none⟩]))))))) (.region 21 [⟨(some 69), (.bin .add (.t 37) (.k (.int .i64 1))), none⟩, ⟨(some 37), (.mov (.t 69)), none⟩]))))))) (.seq (.seq (.region 22 [⟨(some 70), (.mov (.t 0)), none⟩, ⟨(some 71), (.len (.t 70)), none⟩, ⟨(some 72), (.bin .gtr (.t 71) (.k (.int .i64 0))), none⟩]) (.cond 72 (.seq (.region 23 [⟨(some 73), (.build [(.int .i64 0), (.int .i64 0), (.int .i64 0), (.int .i64 0), (.bool false), (.int .i64 0), (.int .i64 0), (.int .i64 0)] []), none⟩, ⟨none, (.store 8 (.t 2) (.t 73)), none⟩, ⟨(some 3), (.mov (.k (.int .i64 3))), none⟩]) .ret) .skip)) (.seq (.region 24 [⟨(some 74), (.load false 1 (.t 5)), none⟩, ⟨(some 75), (.bin .eql (.t 74) (.k (.int .i64 1))), none⟩, ⟨(some 76), (.fad 4 (.t 4)), none⟩, ⟨none, (.store 1 (.t 76) (.t 75)), none⟩]) (.seq (.region 25 [⟨(some 77), (.load true 8 (.t 4)), none⟩, ⟨none, (.store 8 (.t 2) (.t 77)), none⟩, ⟨(some 3), (.mov (.k (.int .i64 0))), none⟩]) .ret)))))))))))), [(.c 2 true 8), (.t 3)], 78⟩ := by kernel_rfl
theorem wdec_pf (b : List Int) (hb : ∀ c ∈ b, Byte c) (hl : b.length ≤ Go.maxLen) : PF Try.prog 30 [.rows 1 (b.map PB)] (.tup [.agg (decM b).1, I (decM b).2]) := by
  unfold Go.maxLen at hl
  by_cases h64 : 64 < b.length
  · have hd : decM b = (zeroE, 1) := by unfold decM; rw [if_pos h64]
    have h64' : (64 : Int) < b.length := by omega
    refine PF.of follows_ok wdec_code (by simp) (by simp [argOk]) (by simp [noV, noC]) fun B hBN hB0 => acode_sound [0, 2, 3, 4, 5, 6, 7, 9, 10, 11, 12, 15, 19, 31, 35, 36, 37, 38, 48, 60, 72] [] _ _ _ ?_
    simp [AK_at, acode_seq, acode_region, acode_draw, acode_cond, ↓CB_t, ↓CB_f, CB_u, acode_block, acode_loop, acode_exit, acode_scope, acode_ret, acode_skip, seqQ_n, seqQ_e, seqQ_r, blockQ_n, blockQ_e, blockQ_r, TK_at, OK_at, SK_at, aops_nil, aops_cons, asch_done, asch_one, asch_two, asch_top, astep, aop_eq, isLoud, aloud, aloud1, isWrite, qv, evS, strip, gof, eget, hget, putO, eput, herase, oks, opnds, gS, afin, afin0, binD, arith, D.cells, takeD, fillD, keep, trim, envOf, Fin, aresl, aresv, resD, argOk, pickV, isP, deq, deqs, boundD, slD, lenD, isT, chunks, mn_min, mx_max, D.cells, splice_one, splice_more, Rbr_at, Rfr_at, frR, frV, frC, flatC, brwR, brwV, brwC, omap, leR, leV, leC, leL, leVL, h64', hd, zeroE]
  have h64' : ¬ (64 : Int) < b.length := by omega
  match b with
  | [] =>
    refine PF.of follows_ok wdec_code (by simp) (by simp [argOk]) (by simp [noV, noC]) fun B hBN hB0 => acode_sound [0, 2, 3, 4, 5, 6, 7, 9, 10, 11, 12, 15, 19, 31, 35, 36, 37, 38, 48, 60, 72] [] _ _ _ ?_
    simp [AK_at, acode_seq, acode_region, acode_draw, acode_cond, ↓CB_t, ↓CB_f, CB_u, acode_block, acode_loop, acode_exit, acode_scope, acode_ret, acode_skip, seqQ_n, seqQ_e, seqQ_r, blockQ_n, blockQ_e, blockQ_r, TK_at, OK_at, SK_at, aops_nil, aops_cons, asch_done, asch_one, asch_two, asch_top, astep, aop_eq, isLoud, aloud, aloud1, isWrite, qv, evS, strip, gof, eget, hget, putO, eput, herase, oks, opnds, gS, afin, afin0, binD, arith, D.cells, takeD, fillD, keep, trim, envOf, Fin, aresl, aresv, resD, argOk, pickV, isP, deq, deqs, boundD, slD, lenD, isT, chunks, mn_min, mx_max, D.cells, splice_one, splice_more, Rbr_at, Rfr_at, frR, frV, frC, flatC, brwR, brwV, brwC, omap, leR, leV, leC, leL, leVL, decM, zeroE]
  | k :: r =>
    have hkb := hb k (by simp)
    have hrb : ∀ c ∈ r, Byte c := fun c hc => hb c (List.mem_cons_of_mem _ hc)
    have ik : InR k := inW (by have := hkb.1; omega) (by have := hkb.2; omega)
    have hne : ¬ (r.length : Int) + 1 = 0 := by omega
    have h65 : ¬ (64 : Int) < (r.length : Int) + 1 := by simp only [List.length_cons] at h64; omega
    have hrl : r.length < 1000 := by simp only [List.length_cons] at h64; omega
    have hlen1 : 0 < r.length + 1 := by omega
    have htk : List.take r.length (List.map PB r) = List.map PB r := List.take_of_length_le (by simp)
    cases hkd0 : EK.of k with
    | none =>
      have hd : decM (k :: r) = (zeroE, 5) := by unfold decM; rw [if_neg h64]; simp only [hkd0]
      have hf := wfields_none k 0 0 0 false 0 0 0 0 (EK.of_none hkd0)
      refine PF.of follows_ok wdec_code (by simp) (by simp [argOk]) (by simp [noV, noC]) fun B hBN hB0 => acode_sound [0, 2, 3, 4, 5, 6, 7, 9, 10, 11, 12, 15, 19, 31, 35, 36, 37, 38, 48, 60, 72] [] _ _ _ ?_
      simp [AK_at, acode_seq, acode_region, acode_draw, acode_cond, ↓CB_t, ↓CB_f, CB_u, acode_block, acode_loop, acode_exit, acode_scope, acode_ret, acode_skip, seqQ_n, seqQ_e, seqQ_r, blockQ_n, blockQ_e, blockQ_r, TK_at, OK_at, SK_at, aops_nil, aops_cons, asch_done, asch_one, asch_two, asch_top, astep, aop_eq, isLoud, aloud, aloud1, isWrite, qv, evS, strip, gof, eget, hget, putO, eput, herase, oks, opnds, gS, afin, afin0, binD, arith, D.cells, takeD, fillD, keep, trim, envOf, Fin, aresl, aresv, resD, argOk, pickV, isP, deq, deqs, boundD, slD, lenD, isT, chunks, mn_min, mx_max, D.cells, splice_one, splice_more, Rbr_at, Rfr_at, frR, frV, frC, flatC, brwR, brwV, brwC, omap, leR, leV, leC, leL, leVL, h65, hne, PB, ik]
      refine WCall.hf [1, 2] hf (by simp [oks, opnds, gS, gof, eget]) rfl rfl (by decide) (by simp) (by simp [evS, eget, strip, rnV, rnC, rho]) (by simp [argOk]) (by simp [LtV, LtC]) (by simp [rho, rnO, rnC, hget, LtO, LtC]) ?_
      rintro d H' nx' ⟨rfl, rfl, rfl⟩
      simp [AK_at, acode_seq, acode_region, acode_draw, acode_cond, ↓CB_t, ↓CB_f, CB_u, acode_block, acode_loop, acode_exit, acode_scope, acode_ret, acode_skip, seqQ_n, seqQ_e, seqQ_r, blockQ_n, blockQ_e, blockQ_r, TK_at, OK_at, SK_at, aops_nil, aops_cons, asch_done, asch_one, asch_two, asch_top, astep, aop_eq, isLoud, aloud, aloud1, isWrite, qv, evS, strip, gof, eget, hget, putO, eput, herase, oks, opnds, gS, afin, afin0, binD, arith, D.cells, takeD, fillD, keep, trim, envOf, Fin, aresl, aresv, resD, argOk, pickV, isP, deq, deqs, boundD, slD, lenD, isT, chunks, mn_min, mx_max, D.cells, splice_one, splice_more, Rbr_at, Rfr_at, frR, frV, frC, flatC, brwR, brwV, brwC, omap, leR, leV, leC, leL, leVL, rnR, rnV, rnC, rnO, rho_0, hputs, herases, rho, flowR, askR, hd, zeroE]
    | some kd =>
      have hkn := EK.of_some hkd0
      have hd : decM (k :: r) = decC kd kd.len 0 0 0 0 r := by
        show (if 64 < (k :: r).length then _ else _) = _
        rw [if_neg h64]
        simp only [hkd0]
      obtain ⟨res, hres⟩ : ∃ res, res = decM (k :: r) := ⟨_, rfl⟩
      rw [← hres] at hd ⊢
      cases hkd : kd
      all_goals
        have hfl := wfields_ev kd 0 0 0 0
        rw [hkd] at hfl hkn
        simp [EK.cells] at hfl
        simp only [EK.n] at hkn
        clear hkd0 hres
        subst hkn
        refine PF.of follows_ok wdec_code (by simp) (by simp [argOk]) (by simp [noV, noC]) fun B hBN hB0 => acode_sound [0, 2, 3, 4, 5, 6, 7, 9, 10, 11, 12, 15, 19, 31, 35, 36, 37, 38, 48, 60, 72] [] _ _ _ ?_
        simp [AK_at, acode_seq, acode_region, acode_draw, acode_cond, ↓CB_t, ↓CB_f, CB_u, acode_block, acode_loop, acode_exit, acode_scope, acode_ret, acode_skip, seqQ_n, seqQ_e, seqQ_r, blockQ_n, blockQ_e, blockQ_r, TK_at, OK_at, SK_at, aops_nil, aops_cons, asch_done, asch_one, asch_two, asch_top, astep, aop_eq, isLoud, aloud, aloud1, isWrite, qv, evS, strip, gof, eget, hget, putO, eput, herase, oks, opnds, gS, afin, afin0, binD, arith, D.cells, takeD, fillD, keep, trim, envOf, Fin, aresl, aresv, resD, argOk, pickV, isP, deq, deqs, boundD, slD, lenD, isT, chunks, mn_min, mx_max, D.cells, splice_one, splice_more, Rbr_at, Rfr_at, frR, frV, frC, flatC, brwR, brwV, brwC, omap, leR, leV, leC, leL, leVL, h65, hne, PB, ik]
        refine WCall.hf [1, 2] hfl (by simp [oks, opnds, gS, gof, eget]) rfl rfl (by decide) (by simp) (by simp [evS, eget, strip, rnV, rnC, rho]) (by simp [argOk]) (by simp [LtV, LtC]) (by simp [rho, rnO, rnC, hget, LtO, LtC]) ?_
        rintro d H' nx' ⟨rfl, rfl, rfl⟩
        simp [AK_at, acode_seq, acode_region, acode_draw, acode_cond, ↓CB_t, ↓CB_f, CB_u, acode_block, acode_loop, acode_exit, acode_scope, acode_ret, acode_skip, seqQ_n, seqQ_e, seqQ_r, blockQ_n, blockQ_e, blockQ_r, TK_at, OK_at, SK_at, aops_nil, aops_cons, asch_done, asch_one, asch_two, asch_top, astep, aop_eq, isLoud, aloud, aloud1, isWrite, qv, evS, strip, gof, eget, hget, putO, eput, herase, oks, opnds, gS, afin, afin0, binD, arith, D.cells, takeD, fillD, keep, trim, envOf, Fin, aresl, aresv, resD, argOk, pickV, isP, deq, deqs, boundD, slD, lenD, isT, chunks, mn_min, mx_max, D.cells, splice_one, splice_more, Rbr_at, Rfr_at, frR, frV, frC, flatC, brwR, brwV, brwC, omap, leR, leV, leC, leL, leVL, rnR, rnV, rnC, rnO, rho_0, hputs, herases, rho, EK.fd, EK.fh, EK.fn, EK.rows, flowR, askR, hlen1, htk]
        clear hfl
        refine W.loopS (fun q : Nat × Int × Int × Int × List Int => ⟨[(37, I q.1), (36, I kd.len), (35, kd.sl 3), (5, .ptr 2 0), (4, .ptr 1 0), (2, .ptr 0 0), (0, .rows 1 (q.2.2.2.2.map PB))], kd.hpE 3 1 2 [(2, .cells [I (kd.gz q.2.2.2.1)]), (1, .cells (kd.cells q.2.1 q.2.2.1 (kd.zz q.2.2.2.1))), (0, .cells zeroE)], 4⟩)
          (fun n q => n = kd.len - q.1 ∧ q.1 ≤ kd.len ∧ (∀ c ∈ q.2.2.2.2, Byte c) ∧ q.2.2.2.2.length < 1000 ∧ decC kd (kd.len - q.1) q.1 q.2.1 q.2.2.1 q.2.2.2.1 q.2.2.2.2 = res) ?_ ?_
        · exact ⟨_, (0, 0, 0, 0, r), (Gh.ren [0, 1, 2, kd.fo + 1] (by simp [hB0]) (by simp [hB0] <;> decide) (by simp [eget, rnS, rnR, rnV, rnC, LtS, LtR, LtV, LtC, lget, EK.fo, hkd, EK.cells, EK.len, EK.sl, EK.hpE, EK.rwE, EK.gz, EK.zz, EK.lo, EK.hi, zeroE, PB]) (by simp [hget, rnO, rnC, LtO, LtC, lget, EK.fo, hkd, EK.cells, EK.len, EK.sl, EK.hpE, EK.rwE, EK.gz, EK.zz, EK.lo, EK.hi, zeroE, PB]) (.inl (by simp [lget, EK.fo, hkd, EK.cells, EK.len, EK.sl, EK.hpE, EK.rwE, EK.gz, EK.zz, EK.lo, EK.hi, zeroE, PB]))), rfl, by omega, hrb, hrl, hd.symm⟩
        rintro n ⟨i, x, y, z, r'⟩ ⟨hn, hi, hrb', hrl', hdc⟩
        simp only at hn hi hrb' hrl' hdc
        refine acode_sound [0, 2, 3, 4, 5, 6, 7, 9, 10, 11, 12, 15, 19, 31, 35, 36, 37, 38, 48, 60, 72] [] _ _ _ ?_
        have hi2 := hi
        have hl3 : kd.len ≤ 3 := by cases kd <;> simp [EK.len]
        have i1 : InR 1 := inW (by omega) (by omega)
        have i2 : InR 2 := inW (by omega) (by omega)
        have i3 : InR 3 := inW (by omega) (by omega)
        rw [hkd] at hi2
        have hwg := wget_pf r' hrb' hrl'
        have hgu := fun v u => getM_used r' 0 0 v u hrb' (by omega)
        obtain ⟨v, hv⟩ : ∃ v, v = (getM r' 0 0).1 := ⟨_, rfl⟩
        obtain ⟨u, hu⟩ : ∃ u, u = (getM r' 0 0).2.1 := ⟨_, rfl⟩
        obtain ⟨e, he⟩ : ∃ e, e = (getM r' 0 0).2.2 := ⟨_, rfl⟩
        have hgu := hgu v u
        rw [show getM r' 0 0 = (v, u, e) by rw [hv, hu, he]] at hwg hgu
        simp only [getD3] at hwg
        have hb2 := fun m => (show decC kd (m + 1) i x y z r' = if e = 0 then (if v < kd.lo i ∨ kd.hi i < v then (zeroE, 2) else decC kd m (i + 1) (if i = 0 then v else x) (if i = 1 then v else y) (if i = 2 then v else z) (r'.drop u.toNat)) else (zeroE, e) by rw [hv, hu, he]; rfl)
        clear hv hu he
        rcases len3 kd hi with rfl | rfl | rfl | rfl
        · skip
          all_goals
            by_cases hif : 0 < kd.len
            case' pos =>
              have hq : decC kd (kd.len - 0) 0 x y z r' = (if e = 0 then (if v < kd.lo 0 ∨ kd.hi 0 < v then (zeroE, 2) else decC kd (kd.len - (0 + 1)) (0 + 1) (if 0 = 0 then v else x) (if 0 = 1 then v else y) (if 0 = 2 then v else z) (r'.drop u.toNat)) else (zeroE, e)) := by
                rw [show kd.len - 0 = (kd.len - (0 + 1)) + 1 by omega]
                exact hb2 _
              rw [hdc] at hq
              rw [hkd] at hif hq
              try (exfalso; simp [EK.len] at hif; done)
              all_goals
                simp only [EK.lo, EK.hi] at hq
                have htk2 : List.take r'.length (List.map PB r') = List.map PB r' := List.take_of_length_le (by simp)
                repeat' (first
                  | simp [AK_at, acode_seq, acode_region, acode_draw, acode_cond, ↓CB_t, ↓CB_f, CB_u, acode_block, acode_loop, acode_exit, acode_scope, acode_ret, acode_skip, seqQ_n, seqQ_e, seqQ_r, blockQ_n, blockQ_e, blockQ_r, TK_at, OK_at, SK_at, aops_nil, aops_cons, asch_done, asch_one, asch_two, asch_top, astep, aop_eq, isLoud, aloud, aloud1, isWrite, qv, evS, strip, gof, eget, hget, putO, eput, herase, oks, opnds, gS, afin, afin0, binD, arith, D.cells, takeD, fillD, keep, trim, envOf, Fin, aresl, aresv, resD, argOk, pickV, isP, deq, deqs, boundD, slD, lenD, isT, chunks, mn_min, mx_max, D.cells, splice_one, splice_more, Rbr_at, Rfr_at, frR, frV, frC, flatC, brwR, brwV, brwC, omap, leR, leV, leC, leL, leVL, i1, i2, i3, hkd, EK.cells, EK.len, EK.sl, EK.hpE, EK.rwE, EK.gz, EK.zz, EK.lo, EK.hi]
                  | (refine WCall.pf (hwg) ?_ ?_ ?_ ?_; (focus (simp [oks, opnds, gS, gof, eget]; done)); (focus (simp [omap, brwV, brwC, evS, eget, strip, hget, leVL, leV, leC, leL, i1, i2, i3, hkd, EK.cells, EK.len, EK.sl, EK.hpE, EK.rwE, EK.gz, EK.zz, EK.lo, EK.hi]; done)); (focus (simp [noV, noC, flatR, flatV, flatC, evS, eget, strip, i1, i2, i3, hkd, EK.cells, EK.len, EK.sl, EK.hpE, EK.rwE, EK.gz, EK.zz, EK.lo, EK.hi]; done)))
                  | (refine ⟨WCall.pf (hwg) ?_ ?_ ?_ ?_, ?_⟩; (focus (simp [oks, opnds, gS, gof, eget]; done)); (focus (simp [omap, brwV, brwC, evS, eget, strip, hget, leVL, leV, leC, leL, i1, i2, i3, hkd, EK.cells, EK.len, EK.sl, EK.hpE, EK.rwE, EK.gz, EK.zz, EK.lo, EK.hi]; done)); (focus (simp [noV, noC, flatR, flatV, flatC, evS, eget, strip, i1, i2, i3, hkd, EK.cells, EK.len, EK.sl, EK.hpE, EK.rwE, EK.gz, EK.zz, EK.lo, EK.hi]; done)))
                  | (with_reducible refine And.intro (And.intro ?_ ?_) ?_)
                  | fail)
                refine ⟨fun he => ?_, fun he => ⟨fun hbad => ?_, fun hv1 hv2 => ?_⟩⟩
                · rw [if_neg he] at hq
                  rw [hq]
                  exact ⟨by decide, by simp [zeroE, leL, leC], rfl⟩
                · rw [if_pos he, if_pos hbad] at hq
                  rw [hq]
                  exact ⟨by decide, by simp [zeroE, leL, leC], rfl⟩
                · obtain ⟨v0, u0, u1⟩ := hgu (by rw [he])
                  rw [if_pos he, if_neg (fun hbad => (show ¬ (_ ∨ _) by omega) (show _ ∨ _ from hbad))] at hq
                  exact ⟨⟨by omega, by omega⟩, _, (1, v, y, z, r'.drop u.toNat), (Gh.ren [0, 1, 2, 3] (by simp [hB0]) (by simp [hB0] <;> decide) (by simp [eget, rnS, rnR, rnV, rnC, LtS, LtR, LtV, LtC, lget, hkd, EK.cells, EK.len, EK.sl, EK.hpE, EK.rwE, EK.gz, EK.zz, EK.lo, EK.hi, zeroE, htk2, PB]) (by simp [hget, rnO, rnC, LtO, LtC, lget, hkd, EK.cells, EK.len, EK.sl, EK.hpE, EK.rwE, EK.gz, EK.zz, EK.lo, EK.hi, zeroE, htk2, PB]) (.inl (by simp [lget, hkd, EK.cells, EK.len, EK.sl, EK.hpE, EK.rwE, EK.gz, EK.zz, EK.lo, EK.hi, zeroE, htk2, PB]))), (by simp [hkd, EK.len] at hn; omega), rfl, (by simp [hkd, EK.len]), (fun c hc => hrb' c (List.mem_of_mem_drop hc)), (by simp; omega), hq.symm⟩
            case' neg =>
              have hie : kd.len = 0 := by omega
              rw [hie] at hdc
              simp only [Nat.sub_self, decC] at hdc
              rw [hkd] at hie hdc
              try (exfalso; simp [EK.len] at hie; done)
              all_goals
                by_cases hr0 : r'.length = 0
                · rw [if_pos hr0] at hdc
                  have hr1 : ¬ (0 : Int) < r'.length := by omega
                  simp [AK_at, acode_seq, acode_region, acode_draw, acode_cond, ↓CB_t, ↓CB_f, CB_u, acode_block, acode_loop, acode_exit, acode_scope, acode_ret, acode_skip, seqQ_n, seqQ_e, seqQ_r, blockQ_n, blockQ_e, blockQ_r, TK_at, OK_at, SK_at, aops_nil, aops_cons, asch_done, asch_one, asch_two, asch_top, astep, aop_eq, isLoud, aloud, aloud1, isWrite, qv, evS, strip, gof, eget, hget, putO, eput, herase, oks, opnds, gS, afin, afin0, binD, arith, D.cells, takeD, fillD, keep, trim, envOf, Fin, aresl, aresv, resD, argOk, pickV, isP, deq, deqs, boundD, slD, lenD, isT, chunks, mn_min, mx_max, D.cells, splice_one, splice_more, Rbr_at, Rfr_at, frR, frV, frC, flatC, brwR, brwV, brwC, omap, leR, leV, leC, leL, leVL, i1, i2, i3, hr0, hr1, ← hdc, zeroE, hkd, EK.cells, EK.len, EK.sl, EK.hpE, EK.rwE, EK.gz, EK.zz, EK.lo, EK.hi]
                · rw [if_neg hr0] at hdc
                  have hr1 : (0 : Int) < r'.length := by omega
                  simp [AK_at, acode_seq, acode_region, acode_draw, acode_cond, ↓CB_t, ↓CB_f, CB_u, acode_block, acode_loop, acode_exit, acode_scope, acode_ret, acode_skip, seqQ_n, seqQ_e, seqQ_r, blockQ_n, blockQ_e, blockQ_r, TK_at, OK_at, SK_at, aops_nil, aops_cons, asch_done, asch_one, asch_two, asch_top, astep, aop_eq, isLoud, aloud, aloud1, isWrite, qv, evS, strip, gof, eget, hget, putO, eput, herase, oks, opnds, gS, afin, afin0, binD, arith, D.cells, takeD, fillD, keep, trim, envOf, Fin, aresl, aresv, resD, argOk, pickV, isP, deq, deqs, boundD, slD, lenD, isT, chunks, mn_min, mx_max, D.cells, splice_one, splice_more, Rbr_at, Rfr_at, frR, frV, frC, flatC, brwR, brwV, brwC, omap, leR, leV, leC, leL, leVL, i1, i2, i3, hr0, hr1, ← hdc, zeroE, hkd, EK.cells, EK.len, EK.sl, EK.hpE, EK.rwE, EK.gz, EK.zz, EK.lo, EK.hi]
        · skip
          try (exfalso; simp [EK.len] at hi2; done)
          all_goals
            by_cases hif : 1 < kd.len
            case' pos =>
              have hq : decC kd (kd.len - 1) 1 x y z r' = (if e = 0 then (if v < kd.lo 1 ∨ kd.hi 1 < v then (zeroE, 2) else decC kd (kd.len - (1 + 1)) (1 + 1) (if 1 = 0 then v else x) (if 1 = 1 then v else y) (if 1 = 2 then v else z) (r'.drop u.toNat)) else (zeroE, e)) := by
                rw [show kd.len - 1 = (kd.len - (1 + 1)) + 1 by omega]
                exact hb2 _
              rw [hdc] at hq
              rw [hkd] at hif hq
              try (exfalso; simp [EK.len] at hif; done)
              all_goals
                simp only [EK.lo, EK.hi] at hq
                have htk2 : List.take r'.length (List.map PB r') = List.map PB r' := List.take_of_length_le (by simp)
                repeat' (first
                  | simp [AK_at, acode_seq, acode_region, acode_draw, acode_cond, ↓CB_t, ↓CB_f, CB_u, acode_block, acode_loop, acode_exit, acode_scope, acode_ret, acode_skip, seqQ_n, seqQ_e, seqQ_r, blockQ_n, blockQ_e, blockQ_r, TK_at, OK_at, SK_at, aops_nil, aops_cons, asch_done, asch_one, asch_two, asch_top, astep, aop_eq, isLoud, aloud, aloud1, isWrite, qv, evS, strip, gof, eget, hget, putO, eput, herase, oks, opnds, gS, afin, afin0, binD, arith, D.cells, takeD, fillD, keep, trim, envOf, Fin, aresl, aresv, resD, argOk, pickV, isP, deq, deqs, boundD, slD, lenD, isT, chunks, mn_min, mx_max, D.cells, splice_one, splice_more, Rbr_at, Rfr_at, frR, frV, frC, flatC, brwR, brwV, brwC, omap, leR, leV, leC, leL, leVL, i1, i2, i3, hkd, EK.cells, EK.len, EK.sl, EK.hpE, EK.rwE, EK.gz, EK.zz, EK.lo, EK.hi]
                  | (refine WCall.pf (hwg) ?_ ?_ ?_ ?_; (focus (simp [oks, opnds, gS, gof, eget]; done)); (focus (simp [omap, brwV, brwC, evS, eget, strip, hget, leVL, leV, leC, leL, i1, i2, i3, hkd, EK.cells, EK.len, EK.sl, EK.hpE, EK.rwE, EK.gz, EK.zz, EK.lo, EK.hi]; done)); (focus (simp [noV, noC, flatR, flatV, flatC, evS, eget, strip, i1, i2, i3, hkd, EK.cells, EK.len, EK.sl, EK.hpE, EK.rwE, EK.gz, EK.zz, EK.lo, EK.hi]; done)))
                  | (refine ⟨WCall.pf (hwg) ?_ ?_ ?_ ?_, ?_⟩; (focus (simp [oks, opnds, gS, gof, eget]; done)); (focus (simp [omap, brwV, brwC, evS, eget, strip, hget, leVL, leV, leC, leL, i1, i2, i3, hkd, EK.cells, EK.len, EK.sl, EK.hpE, EK.rwE, EK.gz, EK.zz, EK.lo, EK.hi]; done)); (focus (simp [noV, noC, flatR, flatV, flatC, evS, eget, strip, i1, i2, i3, hkd, EK.cells, EK.len, EK.sl, EK.hpE, EK.rwE, EK.gz, EK.zz, EK.lo, EK.hi]; done)))
                  | (with_reducible refine And.intro (And.intro ?_ ?_) ?_)
                  | fail)
                refine ⟨fun he => ?_, fun he => ⟨fun hbad => ?_, fun hv1 hv2 => ?_⟩⟩
                · rw [if_neg he] at hq
                  rw [hq]
                  exact ⟨by decide, by simp [zeroE, leL, leC], rfl⟩
                · rw [if_pos he, if_pos hbad] at hq
                  rw [hq]
                  exact ⟨by decide, by simp [zeroE, leL, leC], rfl⟩
                · obtain ⟨v0, u0, u1⟩ := hgu (by rw [he])
                  rw [if_pos he, if_neg (fun hbad => (show ¬ (_ ∨ _) by omega) (show _ ∨ _ from hbad))] at hq
                  exact ⟨⟨by omega, by omega⟩, _, (2, x, v, z, r'.drop u.toNat), (Gh.ren [0, 1, 2, 3] (by simp [hB0]) (by simp [hB0] <;> decide) (by simp [eget, rnS, rnR, rnV, rnC, LtS, LtR, LtV, LtC, lget, hkd, EK.cells, EK.len, EK.sl, EK.hpE, EK.rwE, EK.gz, EK.zz, EK.lo, EK.hi, zeroE, htk2, PB]) (by simp [hget, rnO, rnC, LtO, LtC, lget, hkd, EK.cells, EK.len, EK.sl, EK.hpE, EK.rwE, EK.gz, EK.zz, EK.lo, EK.hi, zeroE, htk2, PB]) (.inl (by simp [lget, hkd, EK.cells, EK.len, EK.sl, EK.hpE, EK.rwE, EK.gz, EK.zz, EK.lo, EK.hi, zeroE, htk2, PB]))), (by simp [hkd, EK.len] at hn; omega), rfl, (by simp [hkd, EK.len]), (fun c hc => hrb' c (List.mem_of_mem_drop hc)), (by simp; omega), hq.symm⟩
            case' neg =>
              have hie : kd.len = 1 := by omega
              rw [hie] at hdc
              simp only [Nat.sub_self, decC] at hdc
              rw [hkd] at hie hdc
              try (exfalso; simp [EK.len] at hie; done)
              all_goals
                by_cases hr0 : r'.length = 0
                · rw [if_pos hr0] at hdc
                  have hr1 : ¬ (0 : Int) < r'.length := by omega
                  simp [AK_at, acode_seq, acode_region, acode_draw, acode_cond, ↓CB_t, ↓CB_f, CB_u, acode_block, acode_loop, acode_exit, acode_scope, acode_ret, acode_skip, seqQ_n, seqQ_e, seqQ_r, blockQ_n, blockQ_e, blockQ_r, TK_at, OK_at, SK_at, aops_nil, aops_cons, asch_done, asch_one, asch_two, asch_top, astep, aop_eq, isLoud, aloud, aloud1, isWrite, qv, evS, strip, gof, eget, hget, putO, eput, herase, oks, opnds, gS, afin, afin0, binD, arith, D.cells, takeD, fillD, keep, trim, envOf, Fin, aresl, aresv, resD, argOk, pickV, isP, deq, deqs, boundD, slD, lenD, isT, chunks, mn_min, mx_max, D.cells, splice_one, splice_more, Rbr_at, Rfr_at, frR, frV, frC, flatC, brwR, brwV, brwC, omap, leR, leV, leC, leL, leVL, i1, i2, i3, hr0, hr1, ← hdc, zeroE, hkd, EK.cells, EK.len, EK.sl, EK.hpE, EK.rwE, EK.gz, EK.zz, EK.lo, EK.hi]
                · rw [if_neg hr0] at hdc
                  have hr1 : (0 : Int) < r'.length := by omega
                  simp [AK_at, acode_seq, acode_region, acode_draw, acode_cond, ↓CB_t, ↓CB_f, CB_u, acode_block, acode_loop, acode_exit, acode_scope, acode_ret, acode_skip, seqQ_n, seqQ_e, seqQ_r, blockQ_n, blockQ_e, blockQ_r, TK_at, OK_at, SK_at, aops_nil, aops_cons, asch_done, asch_one, asch_two, asch_top, astep, aop_eq, isLoud, aloud, aloud1, isWrite, qv, evS, strip, gof, eget, hget, putO, eput, herase, oks, opnds, gS, afin, afin0, binD, arith, D.cells, takeD, fillD, keep, trim, envOf, Fin, aresl, aresv, resD, argOk, pickV, isP, deq, deqs, boundD, slD, lenD, isT, chunks, mn_min, mx_max, D.cells, splice_one, splice_more, Rbr_at, Rfr_at, frR, frV, frC, flatC, brwR, brwV, brwC, omap, leR, leV, leC, leL, leVL, i1, i2, i3, hr0, hr1, ← hdc, zeroE, hkd, EK.cells, EK.len, EK.sl, EK.hpE, EK.rwE, EK.gz, EK.zz, EK.lo, EK.hi]
        · skip
          try (exfalso; simp [EK.len] at hi2; done)
          all_goals
            by_cases hif : 2 < kd.len
            case' pos =>
              have hq : decC kd (kd.len - 2) 2 x y z r' = (if e = 0 then (if v < kd.lo 2 ∨ kd.hi 2 < v then (zeroE, 2) else decC kd (kd.len - (2 + 1)) (2 + 1) (if 2 = 0 then v else x) (if 2 = 1 then v else y) (if 2 = 2 then v else z) (r'.drop u.toNat)) else (zeroE, e)) := by
                rw [show kd.len - 2 = (kd.len - (2 + 1)) + 1 by omega]
                exact hb2 _
              rw [hdc] at hq
              rw [hkd] at hif hq
              try (exfalso; simp [EK.len] at hif; done)
              all_goals
                simp only [EK.lo, EK.hi] at hq
                have htk2 : List.take r'.length (List.map PB r') = List.map PB r' := List.take_of_length_le (by simp)
                repeat' (first
                  | simp [AK_at, acode_seq, acode_region, acode_draw, acode_cond, ↓CB_t, ↓CB_f, CB_u, acode_block, acode_loop, acode_exit, acode_scope, acode_ret, acode_skip, seqQ_n, seqQ_e, seqQ_r, blockQ_n, blockQ_e, blockQ_r, TK_at, OK_at, SK_at, aops_nil, aops_cons, asch_done, asch_one, asch_two, asch_top, astep, aop_eq, isLoud, aloud, aloud1, isWrite, qv, evS, strip, gof, eget, hget, putO, eput, herase, oks, opnds, gS, afin, afin0, binD, arith, D.cells, takeD, fillD, keep, trim, envOf, Fin, aresl, aresv, resD, argOk, pickV, isP, deq, deqs, boundD, slD, lenD, isT, chunks, mn_min, mx_max, D.cells, splice_one, splice_more, Rbr_at, Rfr_at, frR, frV, frC, flatC, brwR, brwV, brwC, omap, leR, leV, leC, leL, leVL, i1, i2, i3, hkd, EK.cells, EK.len, EK.sl, EK.hpE, EK.rwE, EK.gz, EK.zz, EK.lo, EK.hi]
                  | (refine WCall.pf (hwg) ?_ ?_ ?_ ?_; (focus (simp [oks, opnds, gS, gof, eget]; done)); (focus (simp [omap, brwV, brwC, evS, eget, strip, hget, leVL, leV, leC, leL, i1, i2, i3, hkd, EK.cells, EK.len, EK.sl, EK.hpE, EK.rwE, EK.gz, EK.zz, EK.lo, EK.hi]; done)); (focus (simp [noV, noC, flatR, flatV, flatC, evS, eget, strip, i1, i2, i3, hkd, EK.cells, EK.len, EK.sl, EK.hpE, EK.rwE, EK.gz, EK.zz, EK.lo, EK.hi]; done)))
                  | (refine ⟨WCall.pf (hwg) ?_ ?_ ?_ ?_, ?_⟩; (focus (simp [oks, opnds, gS, gof, eget]; done)); (focus (simp [omap, brwV, brwC, evS, eget, strip, hget, leVL, leV, leC, leL, i1, i2, i3, hkd, EK.cells, EK.len, EK.sl, EK.hpE, EK.rwE, EK.gz, EK.zz, EK.lo, EK.hi]; done)); (focus (simp [noV, noC, flatR, flatV, flatC, evS, eget, strip, i1, i2, i3, hkd, EK.cells, EK.len, EK.sl, EK.hpE, EK.rwE, EK.gz, EK.zz, EK.lo, EK.hi]; done)))
                  | (with_reducible refine And.intro (And.intro ?_ ?_) ?_)
                  | fail)
                refine ⟨fun he => ?_, fun he => ⟨fun hbad => ?_, fun hv1 hv2 => ?_⟩⟩
                · rw [if_neg he] at hq
                  rw [hq]
                  exact ⟨by decide, by simp [zeroE, leL, leC], rfl⟩
                · rw [if_pos he, if_pos hbad] at hq
                  rw [hq]
                  exact ⟨by decide, by simp [zeroE, leL, leC], rfl⟩
                · obtain ⟨v0, u0, u1⟩ := hgu (by rw [he])
                  rw [if_pos he, if_neg (fun hbad => (show ¬ (_ ∨ _) by omega) (show _ ∨ _ from hbad))] at hq
                  exact ⟨⟨by omega, by omega⟩, _, (3, x, y, v, r'.drop u.toNat), (Gh.ren [0, 1, 2, 3] (by simp [hB0]) (by simp [hB0] <;> decide) (by simp [eget, rnS, rnR, rnV, rnC, LtS, LtR, LtV, LtC, lget, hkd, EK.cells, EK.len, EK.sl, EK.hpE, EK.rwE, EK.gz, EK.zz, EK.lo, EK.hi, zeroE, htk2, PB]) (by simp [hget, rnO, rnC, LtO, LtC, lget, hkd, EK.cells, EK.len, EK.sl, EK.hpE, EK.rwE, EK.gz, EK.zz, EK.lo, EK.hi, zeroE, htk2, PB]) (.inl (by simp [lget, hkd, EK.cells, EK.len, EK.sl, EK.hpE, EK.rwE, EK.gz, EK.zz, EK.lo, EK.hi, zeroE, htk2, PB]))), (by simp [hkd, EK.len] at hn; omega), rfl, (by simp [hkd, EK.len]), (fun c hc => hrb' c (List.mem_of_mem_drop hc)), (by simp; omega), hq.symm⟩
            case' neg =>
              have hie : kd.len = 2 := by omega
              rw [hie] at hdc
              simp only [Nat.sub_self, decC] at hdc
              rw [hkd] at hie hdc
              try (exfalso; simp [EK.len] at hie; done)
              all_goals
                by_cases hr0 : r'.length = 0
                · rw [if_pos hr0] at hdc
                  have hr1 : ¬ (0 : Int) < r'.length := by omega
                  simp [AK_at, acode_seq, acode_region, acode_draw, acode_cond, ↓CB_t, ↓CB_f, CB_u, acode_block, acode_loop, acode_exit, acode_scope, acode_ret, acode_skip, seqQ_n, seqQ_e, seqQ_r, blockQ_n, blockQ_e, blockQ_r, TK_at, OK_at, SK_at, aops_nil, aops_cons, asch_done, asch_one, asch_two, asch_top, astep, aop_eq, isLoud, aloud, aloud1, isWrite, qv, evS, strip, gof, eget, hget, putO, eput, herase, oks, opnds, gS, afin, afin0, binD, arith, D.cells, takeD, fillD, keep, trim, envOf, Fin, aresl, aresv, resD, argOk, pickV, isP, deq, deqs, boundD, slD, lenD, isT, chunks, mn_min, mx_max, D.cells, splice_one, splice_more, Rbr_at, Rfr_at, frR, frV, frC, flatC, brwR, brwV, brwC, omap, leR, leV, leC, leL, leVL, i1, i2, i3, hr0, hr1, ← hdc, zeroE, hkd, EK.cells, EK.len, EK.sl, EK.hpE, EK.rwE, EK.gz, EK.zz, EK.lo, EK.hi]
                · rw [if_neg hr0] at hdc
                  have hr1 : (0 : Int) < r'.length := by omega
                  simp [AK_at, acode_seq, acode_region, acode_draw, acode_cond, ↓CB_t, ↓CB_f, CB_u, acode_block, acode_loop, acode_exit, acode_scope, acode_ret, acode_skip, seqQ_n, seqQ_e, seqQ_r, blockQ_n, blockQ_e, blockQ_r, TK_at, OK_at, SK_at, aops_nil, aops_cons, asch_done, asch_one, asch_two, asch_top, astep, aop_eq, isLoud, aloud, aloud1, isWrite, qv, evS, strip, gof, eget, hget, putO, eput, herase, oks, opnds, gS, afin, afin0, binD, arith, D.cells, takeD, fillD, keep, trim, envOf, Fin, aresl, aresv, resD, argOk, pickV, isP, deq, deqs, boundD, slD, lenD, isT, chunks, mn_min, mx_max, D.cells, splice_one, splice_more, Rbr_at, Rfr_at, frR, frV, frC, flatC, brwR, brwV, brwC, omap, leR, leV, leC, leL, leVL, i1, i2, i3, hr0, hr1, ← hdc, zeroE, hkd, EK.cells, EK.len, EK.sl, EK.hpE, EK.rwE, EK.gz, EK.zz, EK.lo, EK.hi]
        · skip
          try (exfalso; simp [EK.len] at hi2; done)
          all_goals
            by_cases hif : False
            case' pos => exact absurd hif id
            case' neg =>
              have hie : kd.len = 3 := by omega
              rw [hie] at hdc
              simp only [Nat.sub_self, decC] at hdc
              rw [hkd] at hie hdc
              try (exfalso; simp [EK.len] at hie; done)
              all_goals
                by_cases hr0 : r'.length = 0
                · rw [if_pos hr0] at hdc
                  have hr1 : ¬ (0 : Int) < r'.length := by omega
                  simp [AK_at, acode_seq, acode_region, acode_draw, acode_cond, ↓CB_t, ↓CB_f, CB_u, acode_block, acode_loop, acode_exit, acode_scope, acode_ret, acode_skip, seqQ_n, seqQ_e, seqQ_r, blockQ_n, blockQ_e, blockQ_r, TK_at, OK_at, SK_at, aops_nil, aops_cons, asch_done, asch_one, asch_two, asch_top, astep, aop_eq, isLoud, aloud, aloud1, isWrite, qv, evS, strip, gof, eget, hget, putO, eput, herase, oks, opnds, gS, afin, afin0, binD, arith, D.cells, takeD, fillD, keep, trim, envOf, Fin, aresl, aresv, resD, argOk, pickV, isP, deq, deqs, boundD, slD, lenD, isT, chunks, mn_min, mx_max, D.cells, splice_one, splice_more, Rbr_at, Rfr_at, frR, frV, frC, flatC, brwR, brwV, brwC, omap, leR, leV, leC, leL, leVL, i1, i2, i3, hr0, hr1, ← hdc, zeroE, hkd, EK.cells, EK.len, EK.sl, EK.hpE, EK.rwE, EK.gz, EK.zz, EK.lo, EK.hi]
                · rw [if_neg hr0] at hdc
                  have hr1 : (0 : Int) < r'.length := by omega
                  simp [AK_at, acode_seq, acode_region, acode_draw, acode_cond, ↓CB_t, ↓CB_f, CB_u, acode_block, acode_loop, acode_exit, acode_scope, acode_ret, acode_skip, seqQ_n, seqQ_e, seqQ_r, blockQ_n, blockQ_e, blockQ_r, TK_at, OK_at, SK_at, aops_nil, aops_cons, asch_done, asch_one, asch_two, asch_top, astep, aop_eq, isLoud, aloud, aloud1, isWrite, qv, evS, strip, gof, eget, hget, putO, eput, herase, oks, opnds, gS, afin, afin0, binD, arith, D.cells, takeD, fillD, keep, trim, envOf, Fin, aresl, aresv, resD, argOk, pickV, isP, deq, deqs, boundD, slD, lenD, isT, chunks, mn_min, mx_max, D.cells, splice_one, splice_more, Rbr_at, Rfr_at, frR, frV, frC, flatC, brwR, brwV, brwC, omap, leR, leV, leC, leL, leVL, i1, i2, i3, hr0, hr1, ← hdc, zeroE, hkd, EK.cells, EK.len, EK.sl, EK.hpE, EK.rwE, EK.gz, EK.zz, EK.lo, EK.hi]
end Go.Proofs.Ytfkeddefajkobaa
