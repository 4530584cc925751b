/- This text proves what wire's rest and Check compute of an event that may be. It has no condition of its own. -/
import Derived.Test.YtfkeddefajkobaaWic
set_option linter.unusedSimpArgs false
set_option linter.unusedVariables false
set_option maxRecDepth 100000
set_option maxHeartbeats 2000000
namespace Go.Proofs.Ytfkeddefajkobaa
open Go.RowKit
def EK.cells (kd : EK) (x y z : Int) : List D :=
  match kd with
  | .op => [I 1, I x, I 0, I 0, .bool false, I 0, I 0, I 0]
  | .da => [I 2, I 0, I x, I y, .bool false, I 0, I 0, I 0]
  | .cl => [I 3, I 0, I x, I y, .bool false, I 0, I 0, I 0]
  | .an => [I 4, I 0, I x, I y, .bool (decide (z = 1)), I 0, I 0, I 0]
  | .jo => [I 5, I 0, I 0, I 0, .bool false, I x, I y, I z]
  | .re => [I 6, I 0, I 0, I 0, .bool false, I x, I y, I 0]
  | .ti => [I 7, I 0, I 0, I 0, .bool false, I 0, I 0, I 0]
def EK.Ok (kd : EK) (x y z : Int) : Prop :=
  match kd with
  | .op => 0 ≤ x ∧ x ≤ 4294967295
  | .da => (0 ≤ x ∧ x ≤ 39) ∧ 0 ≤ y ∧ y ≤ 1048576
  | .cl => (0 ≤ x ∧ x ≤ 39) ∧ 0 ≤ y ∧ y ≤ 1048576
  | .an => (0 ≤ x ∧ x ≤ 39) ∧ (0 ≤ y ∧ y ≤ 1048576) ∧ 0 ≤ z ∧ z ≤ 1
  | .jo => (0 ≤ x ∧ x ≤ 1048576) ∧ (0 ≤ y ∧ y ≤ 11) ∧ 1 ≤ z ∧ z ≤ 8
  | .re => (0 ≤ x ∧ x ≤ 1048576) ∧ 0 ≤ y ∧ y ≤ 11
  | .ti => True
def EK.len : EK → Nat
  | .op => 1 | .da => 2 | .cl => 2 | .an => 3 | .jo => 3 | .re => 2 | .ti => 0
def EK.sl (id : Nat) : EK → D
  | .ti => .nil0
  | _ => .own id
def EK.fo : EK → Nat
  | .op => 4 | .da => 2 | .cl => 2 | .an => 5 | .jo => 5 | .re => 3 | .ti => 3
def flowG : List (List D) := [[.ptr 0 2, I 0, I 39], [.ptr 0 3, I 0, I 1048576]]
def EK.rw (g : Nat) : EK → List (List D)
  | .op => [[.ptr 0 1, I 0, I 4294967295]]
  | .da => [[.ptr 0 2, I 0, I 39], [.ptr 0 3, I 0, I 1048576]]
  | .cl => [[.ptr 0 2, I 0, I 39], [.ptr 0 3, I 0, I 1048576]]
  | .an => [[.ptr 0 2, I 0, I 39], [.ptr 0 3, I 0, I 1048576], [.ptr g 0, I 0, I 1]]
  | .jo => [[.ptr 0 5, I 0, I 1048576], [.ptr 0 6, I 0, I 11], [.ptr 0 7, I 1, I 8]]
  | .re => [[.ptr 0 5, I 0, I 1048576], [.ptr 0 6, I 0, I 11]]
  | .ti => []
def EK.hp (id g : Nat) (kd : EK) (H : List (Nat × Ob)) : List (Nat × Ob) :=
  match kd with
  | .ti => H
  | kd => (id, .rowd 3 (kd.rw g)) :: H
def zeroE : List D := [I 0, I 0, I 0, I 0, .bool false, I 0, I 0, I 0]
theorem len3 (kd : EK) {i : Nat} (h : i ≤ kd.len) : i = 0 ∨ i = 1 ∨ i = 2 ∨ i = 3 := by
  have : kd.len ≤ 3 := by cases kd <;> simp [EK.len]
  omega
theorem wfields_ev (kd : EK) (x y z g : Int) :
    HF Try.prog 63 [.ptr 0 0, .ptr 1 0] [(1, .cells [I g]), (0, .cells (kd.cells x y z))] 2
      (fun d H' nx' => d = .tup [kd.fd, .bool true] ∧ H' = kd.fh ++ [(1, .cells [I g]), (0, .cells (kd.cells x y z))] ∧ nx' = kd.fn) := by
  cases kd
  · exact wfields_hf .op _ _ _ _ _ _ _ _
  · exact wfields_hf .da _ _ _ _ _ _ _ _
  · exact wfields_hf .cl _ _ _ _ _ _ _ _
  · exact wfields_hf .an _ _ _ _ _ _ _ _
  · exact wfields_hf .jo _ _ _ _ _ _ _ _
  · exact wfields_hf .re _ _ _ _ _ _ _ _
  · exact wfields_hf .ti _ _ _ _ _ _ _ _
def zi (kd : EK) (i : Nat) (z : Int) : Int :=
  match kd with
  | .an => 0
  | _ => if 2 < i then 0 else z
theorem wrest_code : cfun Try.prog [] 95 = some ⟨(.seq (.region 0 [⟨(some 1), (.box (.t 0)), none⟩, ⟨(some 2), (.alloc [(.int .i64 0), (.int .i64 0), (.int .i64 0), (.int .i64 0), (.bool false), (.int .i64 0), (.int .i64 0), (.int .i64 0)]), none⟩]) (.seq (.region 1 [⟨(some 3), (.alloc [(.int .i64 0)]), none⟩, ⟨none, (.store 1 (.t 3) (.k (.int .i64 0))), none⟩]) (.seq (.region 2 [⟨(some 9), (.call 63 [(.t 1), (.t 3)]), none⟩, ⟨(some 8), (.mov (.t 9)), none⟩, ⟨(some 10), (.ext (.t 8) 0), none⟩, ⟨(some 11), (.ext (.t 8) 1), none⟩, ⟨(some 4), (.mov (.t 10)), none⟩, ⟨(some 5), (.mov (.t 11)), none⟩]) (.seq (.seq (.region 3 [⟨(some 12), (.fad 0 (.t 1)), none⟩, ⟨(some 13), (.load false 1 (.t 12)), none⟩, ⟨(some 14), (.bin .eql (.t 13) (.k (.int .i64 4))), none⟩]) (.cond 14 (.region 4 [⟨(some 15), (.fad 4 (.t 1)), none⟩, ⟨none, (.store 1 (.t 15) (.k (.bool false))), none⟩]) .skip)) (.seq (.seq (.region 5 [⟨(some 16), (.mov (.t 4)), none⟩, ⟨(some 17), (.len (.t 16)), none⟩, ⟨(some 18), (.mov (.k (.int .i64 0))), none⟩]) (.block 0 (.loop (.seq (.region 6 [⟨(some 19), (.bin .lss (.t 18) (.t 17)), none⟩]) (.seq (.cond 19 .skip (.exit 0)) (.seq (.block 1 (.seq (.region 7 [⟨(some 20), (.iads 3 (.t 16) (.t 18)), none⟩, ⟨(some 21), (.load true 3 (.t 20)), none⟩, ⟨(some 7), (.alloc [.nilp, (.int .i64 0), (.int .i64 0)]), none⟩, ⟨none, (.store 3 (.t 7) (.t 21)), none⟩]) (.region 8 [⟨(some 22), (.fad 0 (.t 7)), none⟩, ⟨(some 23), (.load false 1 (.t 22)), none⟩, ⟨(some 24), (.nchk (.t 23)), none⟩, ⟨none, (.store 1 (.t 24) (.k (.int .i64 0))), none⟩]))) (.region 9 [⟨(some 25), (.bin .add (.t 18) (.k (.int .i64 1))), none⟩, ⟨(some 18), (.mov (.t 25)), none⟩]))))))) (.seq (.region 10 [⟨(some 26), (.fad 0 (.t 1)), none⟩, ⟨none, (.store 1 (.t 26) (.k (.int .i64 0))), none⟩]) (.seq (.region 11 [⟨(some 27), (.load true 8 (.t 1)), none⟩, ⟨none, (.store 8 (.t 2) (.t 27)), none⟩]) .ret))))))), [(.c 2 true 8)], 28⟩ := by kernel_rfl
theorem wrest_pf (kd : EK) (x y z : Int) : PF Try.prog 95 [.agg (kd.cells x y z)] (.agg zeroE) := by
  cases hkd : kd
  all_goals
    have hfl := wfields_ev kd x y z 0
    rw [hkd] at hfl
    refine PF.of follows_ok wrest_code (by simp) (by simp [argOk]) (by simp [noV, noC, EK.cells]) fun B hBN hB0 => acode_sound [0, 1, 2, 3, 4, 7, 14, 16, 17, 18, 19] [] _ _ _ ?_
    simp [AK_at, acode_seq, acode_region, acode_draw, acode_cond, ↓CB_t, ↓CB_f, CB_u, acode_block, acode_loop, acode_exit, acode_scope, acode_ret, acode_skip, seqQ_n, seqQ_e, seqQ_r, blockQ_n, blockQ_e, blockQ_r, TK_at, OK_at, SK_at, aops_nil, aops_cons, asch_done, asch_one, asch_two, asch_top, astep, aop_eq, isLoud, aloud, aloud1, isWrite, qv, evS, strip, gof, eget, hget, putO, eput, herase, oks, opnds, gS, afin, afin0, binD, arith, D.cells, takeD, fillD, keep, trim, envOf, Fin, aresl, aresv, resD, argOk, pickV, isP, deq, deqs, boundD, slD, lenD, isT, chunks, mn_min, mx_max, D.cells, splice_one, splice_more, Rbr_at, Rfr_at, frR, frV, frC, flatC, brwR, brwV, brwC, omap, leR, leV, leC, leL, leVL, EK.cells]
    refine WCall.hf [0, 2] hfl (by simp [oks, opnds, gS, gof, eget]) rfl rfl (by decide) (by simp) (by simp [evS, eget, strip, rnV, rnC, rho]) (by simp [argOk]) (by simp [LtV, LtC]) (by simp [rho, rnO, rnC, hget, LtO, LtC, EK.cells]) ?_
    rintro d H' nx' ⟨rfl, rfl, rfl⟩
    simp [AK_at, acode_seq, acode_region, acode_draw, acode_cond, ↓CB_t, ↓CB_f, CB_u, acode_block, acode_loop, acode_exit, acode_scope, acode_ret, acode_skip, seqQ_n, seqQ_e, seqQ_r, blockQ_n, blockQ_e, blockQ_r, TK_at, OK_at, SK_at, aops_nil, aops_cons, asch_done, asch_one, asch_two, asch_top, astep, aop_eq, isLoud, aloud, aloud1, isWrite, qv, evS, strip, gof, eget, hget, putO, eput, herase, oks, opnds, gS, afin, afin0, binD, arith, D.cells, takeD, fillD, keep, trim, envOf, Fin, aresl, aresv, resD, argOk, pickV, isP, deq, deqs, boundD, slD, lenD, isT, chunks, mn_min, mx_max, D.cells, splice_one, splice_more, Rbr_at, Rfr_at, frR, frV, frC, flatC, brwR, brwV, brwC, omap, leR, leV, leC, leL, leVL, rnR, rnV, rnC, rnO, rho_0, hputs, herases, rho, EK.cells, EK.fd, EK.fh, EK.fn, EK.rows, flowR, askR]
    refine W.loopS (fun i : Nat => ⟨[(18, I i), (17, I kd.len), (16, kd.sl 3), (3, .ptr 2 0), (2, .ptr 1 0), (1, .ptr 0 0)], kd.hp 3 2 [(2, .cells [I 0]), (1, .cells zeroE), (0, .cells (kd.cells (if 0 < i then 0 else x) (if 1 < i then 0 else y) (zi kd i z)))], 4⟩)
      (fun n i => n = kd.len - i ∧ i ≤ kd.len) ?_ ?_
    · exact ⟨_, 0, (Gh.ren [0, 1, 2, kd.fo + 1] (by simp [hB0]) (by simp [hB0] <;> decide) (by simp [eget, rnS, rnR, rnV, rnC, LtS, LtR, LtV, LtC, lget, EK.fo, hkd, EK.cells, EK.len, EK.sl, EK.hp, EK.rw, zi, zeroE]) (by simp [hget, rnO, rnC, LtO, LtC, lget, EK.fo, hkd, EK.cells, EK.len, EK.sl, EK.hp, EK.rw, zi, zeroE]) (.inl (by simp [lget, EK.fo, hkd, EK.cells, EK.len, EK.sl, EK.hp, EK.rw, zi, zeroE]))), rfl, by omega⟩
    rintro n i ⟨hn, hi⟩
    refine acode_sound [0, 1, 2, 3, 4, 7, 14, 16, 17, 18, 19] [] _ _ _ ?_
    have hi2 := hi
    have i1 : InR 1 := inW (by omega) (by omega)
    have i2 : InR 2 := inW (by omega) (by omega)
    have i3 : InR 3 := inW (by omega) (by omega)
    rw [hkd] at hi2
    rcases len3 kd hi with rfl | rfl | rfl | rfl
    · simp [AK_at, acode_seq, acode_region, acode_draw, acode_cond, ↓CB_t, ↓CB_f, CB_u, acode_block, acode_loop, acode_exit, acode_scope, acode_ret, acode_skip, seqQ_n, seqQ_e, seqQ_r, blockQ_n, blockQ_e, blockQ_r, TK_at, OK_at, SK_at, aops_nil, aops_cons, asch_done, asch_one, asch_two, asch_top, astep, aop_eq, isLoud, aloud, aloud1, isWrite, qv, evS, strip, gof, eget, hget, putO, eput, herase, oks, opnds, gS, afin, afin0, binD, arith, D.cells, takeD, fillD, keep, trim, envOf, Fin, aresl, aresv, resD, argOk, pickV, isP, deq, deqs, boundD, slD, lenD, isT, chunks, mn_min, mx_max, D.cells, splice_one, splice_more, Rbr_at, Rfr_at, frR, frV, frC, flatC, brwR, brwV, brwC, omap, leR, leV, leC, leL, leVL, i1, i2, i3, hkd, EK.cells, EK.len, EK.sl, EK.hp, EK.rw, zi, zeroE]
      try exact ⟨_, 1, (Gh.ren [0, 1, 2, 3] (by simp [hB0]) (by simp [hB0] <;> decide) (by simp [eget, rnS, rnR, rnV, rnC, LtS, LtR, LtV, LtC, lget, hkd, EK.cells, EK.len, EK.sl, EK.hp, EK.rw, zi, zeroE]) (by simp [hget, rnO, rnC, LtO, LtC, lget, hkd, EK.cells, EK.len, EK.sl, EK.hp, EK.rw, zi, zeroE]) (.inl (by simp [lget, hkd, EK.cells, EK.len, EK.sl, EK.hp, EK.rw, zi, zeroE]))), (by simp [hkd, EK.len] at hn; omega), rfl, (by simp [hkd, EK.len])⟩
    · try (exfalso; simp [EK.len] at hi2; done)
      all_goals
        simp [AK_at, acode_seq, acode_region, acode_draw, acode_cond, ↓CB_t, ↓CB_f, CB_u, acode_block, acode_loop, acode_exit, acode_scope, acode_ret, acode_skip, seqQ_n, seqQ_e, seqQ_r, blockQ_n, blockQ_e, blockQ_r, TK_at, OK_at, SK_at, aops_nil, aops_cons, asch_done, asch_one, asch_two, asch_top, astep, aop_eq, isLoud, aloud, aloud1, isWrite, qv, evS, strip, gof, eget, hget, putO, eput, herase, oks, opnds, gS, afin, afin0, binD, arith, D.cells, takeD, fillD, keep, trim, envOf, Fin, aresl, aresv, resD, argOk, pickV, isP, deq, deqs, boundD, slD, lenD, isT, chunks, mn_min, mx_max, D.cells, splice_one, splice_more, Rbr_at, Rfr_at, frR, frV, frC, flatC, brwR, brwV, brwC, omap, leR, leV, leC, leL, leVL, i1, i2, i3, hkd, EK.cells, EK.len, EK.sl, EK.hp, EK.rw, zi, zeroE]
        try exact ⟨_, 2, (Gh.ren [0, 1, 2, 3] (by simp [hB0]) (by simp [hB0] <;> decide) (by simp [eget, rnS, rnR, rnV, rnC, LtS, LtR, LtV, LtC, lget, hkd, EK.cells, EK.len, EK.sl, EK.hp, EK.rw, zi, zeroE]) (by simp [hget, rnO, rnC, LtO, LtC, lget, hkd, EK.cells, EK.len, EK.sl, EK.hp, EK.rw, zi, zeroE]) (.inl (by simp [lget, hkd, EK.cells, EK.len, EK.sl, EK.hp, EK.rw, zi, zeroE]))), (by simp [hkd, EK.len] at hn; omega), rfl, (by simp [hkd, EK.len])⟩
    · try (exfalso; simp [EK.len] at hi2; done)
      all_goals
        simp [AK_at, acode_seq, acode_region, acode_draw, acode_cond, ↓CB_t, ↓CB_f, CB_u, acode_block, acode_loop, acode_exit, acode_scope, acode_ret, acode_skip, seqQ_n, seqQ_e, seqQ_r, blockQ_n, blockQ_e, blockQ_r, TK_at, OK_at, SK_at, aops_nil, aops_cons, asch_done, asch_one, asch_two, asch_top, astep, aop_eq, isLoud, aloud, aloud1, isWrite, qv, evS, strip, gof, eget, hget, putO, eput, herase, oks, opnds, gS, afin, afin0, binD, arith, D.cells, takeD, fillD, keep, trim, envOf, Fin, aresl, aresv, resD, argOk, pickV, isP, deq, deqs, boundD, slD, lenD, isT, chunks, mn_min, mx_max, D.cells, splice_one, splice_more, Rbr_at, Rfr_at, frR, frV, frC, flatC, brwR, brwV, brwC, omap, leR, leV, leC, leL, leVL, i1, i2, i3, hkd, EK.cells, EK.len, EK.sl, EK.hp, EK.rw, zi, zeroE]
        try exact ⟨_, 3, (Gh.ren [0, 1, 2, 3] (by simp [hB0]) (by simp [hB0] <;> decide) (by simp [eget, rnS, rnR, rnV, rnC, LtS, LtR, LtV, LtC, lget, hkd, EK.cells, EK.len, EK.sl, EK.hp, EK.rw, zi, zeroE]) (by simp [hget, rnO, rnC, LtO, LtC, lget, hkd, EK.cells, EK.len, EK.sl, EK.hp, EK.rw, zi, zeroE]) (.inl (by simp [lget, hkd, EK.cells, EK.len, EK.sl, EK.hp, EK.rw, zi, zeroE]))), (by simp [hkd, EK.len] at hn; omega), rfl, (by simp [hkd, EK.len])⟩
    · try (exfalso; simp [EK.len] at hi2; done)
      all_goals
        simp [AK_at, acode_seq, acode_region, acode_draw, acode_cond, ↓CB_t, ↓CB_f, CB_u, acode_block, acode_loop, acode_exit, acode_scope, acode_ret, acode_skip, seqQ_n, seqQ_e, seqQ_r, blockQ_n, blockQ_e, blockQ_r, TK_at, OK_at, SK_at, aops_nil, aops_cons, asch_done, asch_one, asch_two, asch_top, astep, aop_eq, isLoud, aloud, aloud1, isWrite, qv, evS, strip, gof, eget, hget, putO, eput, herase, oks, opnds, gS, afin, afin0, binD, arith, D.cells, takeD, fillD, keep, trim, envOf, Fin, aresl, aresv, resD, argOk, pickV, isP, deq, deqs, boundD, slD, lenD, isT, chunks, mn_min, mx_max, D.cells, splice_one, splice_more, Rbr_at, Rfr_at, frR, frV, frC, flatC, brwR, brwV, brwC, omap, leR, leV, leC, leL, leVL, i1, i2, i3, hkd, EK.cells, EK.len, EK.sl, EK.hp, EK.rw, zi, zeroE]
end Go.Proofs.Ytfkeddefajkobaa
