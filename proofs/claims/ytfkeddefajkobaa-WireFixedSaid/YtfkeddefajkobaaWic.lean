/- This text proves what wire's fields does. It has no condition of its own. -/
import Derived.Test.YtfkeddefajkobaaWib
set_option linter.unusedSimpArgs false
set_option linter.unusedVariables false
set_option maxRecDepth 100000
set_option maxHeartbeats 2000000
namespace Go.Proofs.Ytfkeddefajkobaa
open Go.RowKit
theorem WCall.hf {P : Program} {sb : Bool} {B : Base} {st : St} {K : St → Prop} {f : FuncId} {as_ : List Opd} {ds0 : List D} {dst : Option Nat} {H0 : List (Nat × Ob)} {n0 : Nat} {R : D → List (Nat × Ob) → Nat → Prop} (l : List Nat) (hf : HF P f ds0 H0 n0 R)
    (hok : oks st.env (.call f as_) = true) (hsb : sb = false) (hl : l.length = n0) (hnd : l.Nodup) (hlt : ∀ k ∈ l, k < st.nx)
    (hds : as_.map (evS st.env) = ds0.map (rnV (rho l n0 st.nx))) (hao : ds0.all argOk = true) (hdl : ∀ d ∈ ds0, LtV n0 d)
    (hH0 : ∀ p ∈ H0, p.1 < n0 ∧ LtO n0 p.2 ∧ hget st.heap (rho l n0 st.nx p.1) = some (rnO (rho l n0 st.nx) p.2))
    (hK : ∀ d H' nx', R d H' nx' → K ⟨putO st.env dst (rnR (rho l n0 st.nx) d), hputs (rho l n0 st.nx) H' (herases l st.heap), st.nx + (nx' - n0)⟩) : WCall P sb B (.call f as_) dst st K :=
  WCall.of hok (CallOk.hf hf (fun h => by rw [hsb] at h; cases h) l hl hnd hlt hds hao hdl hH0 fun d H' nx' _ hR => hK d H' nx' hR)
/-- the kinds of events -/
inductive EK where
  | op | da | cl | an | jo | re | ti
def EK.n : EK → Int
  | .op => 1 | .da => 2 | .cl => 3 | .an => 4 | .jo => 5 | .re => 6 | .ti => 7
def flowR : List (List D) := [[.ptr 0 2, I 0, I 39], [.ptr 0 3, I 0, I 1048576]]
def askR : List (List D) := [[.ptr 0 5, I 0, I 1048576], [.ptr 0 6, I 0, I 11]]
def EK.rows : EK → List (List D)
  | .op => [[.ptr 0 1, I 0, I 4294967295]]
  | .da => flowR
  | .cl => flowR
  | .an => flowR ++ [[.ptr 1 0, I 0, I 1]]
  | .jo => askR ++ [[.ptr 0 7, I 1, I 8]]
  | .re => askR
  | .ti => []
def EK.fd : EK → D
  | .op => .own 4 | .da => .own 2 | .cl => .own 2 | .an => .own 5 | .jo => .own 5 | .re => .own 3 | .ti => .nil0
def EK.fn : EK → Nat
  | .op => 5 | .da => 4 | .cl => 4 | .an => 6 | .jo => 6 | .re => 4 | .ti => 4
def EK.fh : EK → List (Nat × Ob)
  | .op => [(4, .rowd 3 (EK.rows .op)), (3, .rowd 3 askR), (2, .rowd 3 flowR)]
  | .da => [(3, .rowd 3 askR), (2, .rowd 3 flowR)]
  | .cl => [(3, .rowd 3 askR), (2, .rowd 3 flowR)]
  | .an => [(5, .rowd 3 (EK.rows .an)), (4, .rowd 3 [[.ptr 1 0, I 0, I 1]]), (3, .rowd 3 askR)]
  | .jo => [(5, .rowd 3 (EK.rows .jo)), (4, .rowd 3 [[.ptr 0 7, I 1, I 8]]), (2, .rowd 3 flowR)]
  | .re => [(3, .rowd 3 askR), (2, .rowd 3 flowR)]
  | .ti => [(3, .rowd 3 askR), (2, .rowd 3 flowR)]
theorem wfields_code : cfun Try.prog [] 63 = some ⟨(.seq (.region 0 [⟨(some 4), (.mov (.k .nil0)), none⟩, ⟨(some 5), (.mov (.k (.bool false))), none⟩]) (.seq (.draw 1 (.one true ⟨(some 8), (.mov (.t 0)), none⟩ (.one true ⟨(some 9), (.nchk (.t 8)), none⟩ (.one true ⟨(some 10), (.fad 2 (.t 9)), none⟩ (.one true ⟨(some 11), (.build [.nilp, (.int .i64 0), (.int .i64 0)] [(0, (1, (.t 10))), (1, (1, (.k (.int .i64 0)))), (2, (1, (.k (.int .i64 39))))]), none⟩ (.one true ⟨(some 12), (.mov (.t 0)), none⟩ (.one true ⟨(some 13), (.nchk (.t 12)), none⟩ (.one true ⟨(some 14), (.fad 3 (.t 13)), none⟩ (.one true ⟨(some 15), (.build [.nilp, (.int .i64 0), (.int .i64 0)] [(0, (1, (.t 14))), (1, (1, (.k (.int .i64 0)))), (2, (1, (.k (.int .i64 1048576))))]), none⟩ (.one true ⟨(some 16), (.bslice 3 2 [.nilp, (.int .i64 0), (.int .i64 0)] [(0, (.t 11)), (1, (.t 15))]), none⟩ (.one true ⟨(some 6), (.mov (.t 16)), none⟩ .done))))))))))) (.seq (.draw 2 (.one true ⟨(some 17), (.mov (.t 0)), none⟩ (.one true ⟨(some 18), (.nchk (.t 17)), none⟩ (.one true ⟨(some 19), (.fad 5 (.t 18)), none⟩ (.one true ⟨(some 20), (.build [.nilp, (.int .i64 0), (.int .i64 0)] [(0, (1, (.t 19))), (1, (1, (.k (.int .i64 0)))), (2, (1, (.k (.int .i64 1048576))))]), none⟩ (.one true ⟨(some 21), (.mov (.t 0)), none⟩ (.one true ⟨(some 22), (.nchk (.t 21)), none⟩ (.one true ⟨(some 23), (.fad 6 (.t 22)), none⟩ (.one true ⟨(some 24), (.build [.nilp, (.int .i64 0), (.int .i64 0)] [(0, (1, (.t 23))), (1, (1, (.k (.int .i64 0)))), (2, (1, (.k (.int .i64 11))))]), none⟩ (.one true ⟨(some 25), (.bslice 3 2 [.nilp, (.int .i64 0), (.int .i64 0)] [(0, (.t 20)), (1, (.t 24))]), none⟩ (.one true ⟨(some 7), (.mov (.t 25)), none⟩ .done))))))))))) (.seq (.seq (.region 3 [⟨(some 26), (.mov (.t 0)), none⟩, ⟨(some 27), (.nchk (.t 26)), none⟩, ⟨(some 28), (.fad 0 (.t 27)), none⟩, ⟨(some 29), (.load false 1 (.t 28)), none⟩]) (.block 0 (.seq (.region 4 [⟨(some 31), (.bin .eql (.t 29) (.k (.int .i64 1))), none⟩, ⟨(some 30), (.mov (.t 31)), none⟩]) (.cond 30 (.seq (.region 5 [⟨(some 32), (.mov (.t 0)), none⟩, ⟨(some 33), (.nchk (.t 32)), none⟩, ⟨(some 34), (.fad 1 (.t 33)), none⟩, ⟨(some 35), (.build [.nilp, (.int .i64 0), (.int .i64 0)] [(0, (1, (.t 34))), (1, (1, (.k (.int .i64 0)))), (2, (1, (.k (.int .i64 4294967295))))]), none⟩, ⟨(some 36), (.bslice 3 1 [.nilp, (.int .i64 0), (.int .i64 0)] [(0, (.t 35))]), none⟩, ⟨(some 4), (.mov (.t 36)), none⟩, ⟨(some 5), (.mov (.k (.bool true))), none⟩]) .ret) (.seq (.seq (.region 6 [⟨(some 38), (.bin .eql (.t 29) (.k (.int .i64 2))), none⟩, ⟨(some 37), (.mov (.t 38)), none⟩]) (.cond 37 .skip (.region 7 [⟨(some 39), (.bin .eql (.t 29) (.k (.int .i64 3))), none⟩, ⟨(some 37), (.mov (.t 39)), none⟩]))) (.cond 37 (.seq (.region 8 [⟨(some 40), (.mov (.t 6)), none⟩, ⟨(some 4), (.mov (.t 40)), none⟩, ⟨(some 5), (.mov (.k (.bool true))), none⟩]) .ret) (.seq (.region 9 [⟨(some 42), (.bin .eql (.t 29) (.k (.int .i64 4))), none⟩, ⟨(some 41), (.mov (.t 42)), none⟩]) (.cond 41 (.seq (.region 10 [⟨(some 43), (.mov (.t 6)), none⟩, ⟨(some 44), (.mov (.t 1)), none⟩, ⟨(some 45), (.build [.nilp, (.int .i64 0), (.int .i64 0)] [(0, (1, (.t 44))), (1, (1, (.k (.int .i64 0)))), (2, (1, (.k (.int .i64 1))))]), none⟩, ⟨(some 46), (.bslice 3 1 [.nilp, (.int .i64 0), (.int .i64 0)] [(0, (.t 45))]), none⟩, ⟨(some 47), (.app 3 24 [.nilp, (.int .i64 0), (.int .i64 0)] (.t 43) (.t 46)), none⟩, ⟨(some 4), (.mov (.t 47)), none⟩, ⟨(some 5), (.mov (.k (.bool true))), none⟩]) .ret) (.seq (.region 11 [⟨(some 49), (.bin .eql (.t 29) (.k (.int .i64 5))), none⟩, ⟨(some 48), (.mov (.t 49)), none⟩]) (.cond 48 (.seq (.region 12 [⟨(some 50), (.mov (.t 7)), none⟩, ⟨(some 51), (.mov (.t 0)), none⟩, ⟨(some 52), (.nchk (.t 51)), none⟩, ⟨(some 53), (.fad 7 (.t 52)), none⟩, ⟨(some 54), (.build [.nilp, (.int .i64 0), (.int .i64 0)] [(0, (1, (.t 53))), (1, (1, (.k (.int .i64 1)))), (2, (1, (.k (.int .i64 8))))]), none⟩, ⟨(some 55), (.bslice 3 1 [.nilp, (.int .i64 0), (.int .i64 0)] [(0, (.t 54))]), none⟩, ⟨(some 56), (.app 3 24 [.nilp, (.int .i64 0), (.int .i64 0)] (.t 50) (.t 55)), none⟩, ⟨(some 4), (.mov (.t 56)), none⟩, ⟨(some 5), (.mov (.k (.bool true))), none⟩]) .ret) (.seq (.region 13 [⟨(some 58), (.bin .eql (.t 29) (.k (.int .i64 6))), none⟩, ⟨(some 57), (.mov (.t 58)), none⟩]) (.cond 57 (.seq (.region 14 [⟨(some 59), (.mov (.t 7)), none⟩, ⟨(some 4), (.mov (.t 59)), none⟩, ⟨(some 5), (.mov (.k (.bool true))), none⟩]) .ret) (.seq (.region 15 [⟨(some 61), (.bin .eql (.t 29) (.k (.int .i64 7))), none⟩, ⟨(some 60), (.mov (.t 61)), none⟩]) (.cond 60 (.seq (.region 16 [⟨(some 4), (.mov (.k .nil0)), none⟩, ⟨(some 5), (.mov (.k (.bool true))), none⟩]) .ret) .skip)))))))))))))) (.seq (.region 17 [⟨(some 4), (.mov (.k .nil0)), none⟩, ⟨(some 5), (.mov (.k (.bool false))), none⟩]) .ret))))), [(.t 4), (.t 5)], 62⟩ := by kernel_rfl
theorem wfields_hf (kd : EK) (c1 c2 c3 : Int) (c4 : Bool) (c5 c6 c7 g : Int) :
    HF Try.prog 63 [.ptr 0 0, .ptr 1 0] [(1, .cells [I g]), (0, .cells [I kd.n, I c1, I c2, I c3, .bool c4, I c5, I c6, I c7])] 2
      (fun d H' nx' => d = .tup [kd.fd, .bool true] ∧ H' = kd.fh ++ [(1, .cells [I g]), (0, .cells [I kd.n, I c1, I c2, I c3, .bool c4, I c5, I c6, I c7])] ∧ nx' = kd.fn) := by
  refine HF.of follows_ok wfields_code (by simp) (by simp [argOk]) (by simp [LtV, LtC]) fun B hBN hB0 => acode_sound [0, 1, 4, 5, 6, 7, 29, 30, 37, 41, 48, 57, 60] [] _ _ _ ?_
  cases kd
  all_goals
    simp [AK_at, acode_seq, acode_region, acode_draw, acode_cond, ↓CB_t, ↓CB_f, CB_u, acode_block, acode_loop, acode_exit, acode_scope, acode_ret, acode_skip, seqQ_n, seqQ_e, seqQ_r, blockQ_n, blockQ_e, blockQ_r, TK_at, OK_at, SK_at, aops_nil, aops_cons, asch_done, asch_one, asch_two, asch_top, astep, aop_eq, isLoud, aloud, aloud1, isWrite, qv, evS, strip, gof, eget, hget, putO, eput, herase, oks, opnds, gS, afin, afin0, binD, arith, D.cells, takeD, fillD, keep, trim, envOf, Fin, aresl, aresv, resD, argOk, pickV, isP, deq, deqs, boundD, slD, lenD, isT, chunks, mn_min, mx_max, D.cells, splice_one, splice_more, Rbr_at, Rfr_at, frR, frV, frC, flatC, brwR, brwV, brwC, omap, leR, leV, leC, leL, leVL, EK.n, EK.fd, EK.fh, EK.fn, EK.rows, flowR, askR]
    done
theorem wfields_none (k c1 c2 c3 : Int) (c4 : Bool) (c5 c6 c7 g : Int) (hk : k < 1 ∨ 7 < k) :
    HF Try.prog 63 [.ptr 0 0, .ptr 1 0] [(1, .cells [I g]), (0, .cells [I k, I c1, I c2, I c3, .bool c4, I c5, I c6, I c7])] 2
      (fun d H' nx' => d = .tup [.nil0, .bool false] ∧ H' = [(3, .rowd 3 askR), (2, .rowd 3 flowR)] ++ [(1, .cells [I g]), (0, .cells [I k, I c1, I c2, I c3, .bool c4, I c5, I c6, I c7])] ∧ nx' = 4) := by
  have k1 : ¬ k = 1 := by omega
  have k2 : ¬ k = 2 := by omega
  have k3 : ¬ k = 3 := by omega
  have k4 : ¬ k = 4 := by omega
  have k5 : ¬ k = 5 := by omega
  have k6 : ¬ k = 6 := by omega
  have k7 : ¬ k = 7 := by omega
  refine HF.of follows_ok wfields_code (by simp) (by simp [argOk]) (by simp [LtV, LtC]) fun B hBN hB0 => acode_sound [0, 1, 4, 5, 6, 7, 29, 30, 37, 41, 48, 57, 60] [] _ _ _ ?_
  simp [AK_at, acode_seq, acode_region, acode_draw, acode_cond, ↓CB_t, ↓CB_f, CB_u, acode_block, acode_loop, acode_exit, acode_scope, acode_ret, acode_skip, seqQ_n, seqQ_e, seqQ_r, blockQ_n, blockQ_e, blockQ_r, TK_at, OK_at, SK_at, aops_nil, aops_cons, asch_done, asch_one, asch_two, asch_top, astep, aop_eq, isLoud, aloud, aloud1, isWrite, qv, evS, strip, gof, eget, hget, putO, eput, herase, oks, opnds, gS, afin, afin0, binD, arith, D.cells, takeD, fillD, keep, trim, envOf, Fin, aresl, aresv, resD, argOk, pickV, isP, deq, deqs, boundD, slD, lenD, isT, chunks, mn_min, mx_max, D.cells, splice_one, splice_more, Rbr_at, Rfr_at, frR, frV, frC, flatC, brwR, brwV, brwC, omap, leR, leV, leC, leL, leVL, flowR, askR, k1, k2, k3, k4, k5, k6, k7]
  done
end Go.Proofs.Ytfkeddefajkobaa
