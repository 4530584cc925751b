/- What the program computes, step by step, and the rules for it. No condition of its own. -/
import Derived.Test.YtbhcfldafpndbaaDoorLac
import Derived.Lib.Split
import Derived.Lib.AtoiAll
import Derived.Lib.ItoaNum
import Derived.Lib.ItoaLen
set_option linter.unusedSimpArgs false
set_option linter.unusedVariables false
set_option maxRecDepth 100000
set_option maxHeartbeats 8000000
namespace Go.Proofs.YtbhcfldafpndbaaDoor
open Go.RowKit
theorem linesA_flat : ∀ (s acc : List UInt8),(linesA acc s).flatten = acc ++ s
 | [],acc => by
  unfold linesA
  split
  ·rename_i h;subst h;rfl
  ·simp
 | c :: r,acc => by
  unfold linesA
  split
  ·rw [List.flatten_cons,linesA_flat r];simp
  ·rw [linesA_flat r];simp
theorem lines_flat (s : List UInt8) : (linesL s).flatten = s := by rw [linesL,linesA_flat];rfl
theorem readL_ok : ∀ (s : List (List UInt8)) (acc l : List Ev) (k : Nat),acc.length ≤ 4000 → (∀ e ∈ acc,e.Ok) → readL acc s = (l,k,0) → k = 0 ∧ (∀ e ∈ l,e.Ok) ∧ l.length ≤ 4000 ∧ showM l = showM acc ++ s.flatten
 | [],acc,l,k,ha,ho,h => by
  simp only [readL] at h
  cases h
  exact ⟨rfl,ho,ha,by simp⟩
 | t :: s,acc,l,k,ha,ho,h => by
  rw [readL] at h
  split at h
  ·cases h
  ·rename_i h1
   split at h
   ·rename_i e he
    obtain ⟨h2,h3,h4,h5⟩ := readL_ok s (acc ++ [e]) l k (by simp;omega) (fun x hx => by
     rw [List.mem_append,List.mem_singleton] at hx
     rcases hx with hx | rfl
     ·exact ho x hx
     ·exact (okM_some he).1) h
    refine ⟨h2,h3,h4,?_⟩
    rw [h5]
    simp [showM,(okM_some he).2]
   ·cases h
theorem readL_bad : ∀ (s : List (List UInt8)) (acc l : List Ev) (k : Nat) (c : Int),acc.length ≤ 4000 → readL acc s = (l,k,c) → c ≠ 0 → l = [] ∧ k ≤ 4000
 | [],acc,l,k,c,_,h,hc => by simp only [readL] at h;cases h;exact absurd rfl hc
 | t :: s,acc,l,k,c,ha,h,hc => by
  rw [readL] at h
  split at h
  ·cases h;exact ⟨rfl,by omega⟩
  ·split at h
   ·exact readL_bad s _ l k c (by simp;omega) h hc
   ·cases h;exact ⟨rfl,ha⟩
theorem read_fixed (s : List UInt8) : (∃ l : List Ev,readM s = (l,0,0) ∧ (∀ e ∈ l,e.Ok) ∧ l.length ≤ 4000 ∧ showM l = s) ∨ (∃ (k : Nat) (c : Int),readM s = ([],k,c) ∧ k ≤ 4000 ∧ c ≠ 0) := by
 obtain ⟨l,k,c,h⟩ : ∃ l k c,readM s = (l,k,c) := ⟨_,_,_,rfl⟩
 unfold readM at h ⊢
 split at h
 ·rename_i hs
  rw [if_pos hs]
  exact .inr ⟨0,1,rfl,by omega,by decide⟩
 ·rename_i hs
  rw [if_neg hs]
  by_cases hc : c = 0
  ·subst hc
   obtain ⟨rfl,h2,h3,h4⟩ := readL_ok _ [] l k (by simp) (by simp) h
   rw [lines_flat] at h4
   exact .inl ⟨l,h,h2,h3,by rw [h4];rfl⟩
  ·obtain ⟨rfl,h2⟩ := readL_bad _ [] l k c (by simp) h hc
   exact .inr ⟨k,c,h,h2,hc⟩
end Go.Proofs.YtbhcfldafpndbaaDoor
namespace Go.Proofs.YtbhcfldafpndbaaDoor
open Go.RowKit
attribute [local simp] AK_at acode_seq acode_region acode_draw acode_cond CB_u acode_block acode_loop acode_exit acode_scope acode_ret acode_skip seqQ_n seqQ_e seqQ_r blockQ_n blockQ_e blockQ_r TK_at OK_at SK_at aops_nil aops_cons asch_done asch_one asch_two asch_top astep aop_eq isLoud aloud aloud1 isWrite qv evS strip gof eget hget putO eput herase oks opnds gS afin afin0 binD arith D.cells takeD fillD keep trim envOf Fin aresl aresv resD argOk pickV isP deq deqs boundD slD lenD isT isSl ptrIds chunks mn_min mx_max splice_one splice_more Rbr_at Rfr_at frR frV frC flatC brwR brwV brwC omap leR leV leC leL leVL rnR rnV rnC rnO rho_0 hputs herases rnS LtS LtR LtV LtC LtO lget noV noC flatR flatV rho
attribute [local simp ↓] CB_t CB_f
theorem lfix_code : cfun Tryd.prog [] 4 = some ⟨(.seq (qR 0 [oX 2 (.mov (.k qF))]) (.seq (qR 1 [oM 10 0,oX 11 (.call 9 [(.t 10)]),oM 9 11,oE 12 9 0,oE 13 9 1,oE 14 9 2,oM 3 12,oM 4 13,oM 5 14]) (.seq (.seq (qR 2 [oM 15 5,oX 16 (.bin .neq (.t 15) (kI 0))]) (.cond 16 (.seq (qR 3 [oM 17 3,oH 18 17,oX 19 (.bin .eql (.t 18) (kI 0)),oM 20 19,oG 21 (.mov (.t 4)) 20 true,oG 22 (.bin .geq (.t 21) (kI 0)) 20 true,oX 23 (.pick (.t 20) (.t 22) (.k qF)),oM 24 23,oG 25 (.mov (.t 4)) 24 true,oG 26 (.bin .leq (.t 25) (kI 4000)) 24 true,oX 27 (.pick (.t 24) (.t 26) (.k qF)),oM 2 27]) .ret) .skip)) (.seq (qR 4 [oM 29 3,oX 30 (.call 8 [(.t 29)]),oM 28 30,oE 31 28 0,oE 32 28 1,oE 33 28 2,oM 6 31,oM 7 32,oM 8 33]) (.seq (qR 5 [oM 34 8,oX 35 (.bin .eql (.t 34) (kI 0)),oM 36 35,oG 37 (.mov (.t 6)) 36 true,oG 38 (.mov (.t 0)) 36 true,oG 39 (.bin .eql (.t 37) (.t 38)) 36 true,oX 40 (.pick (.t 36) (.t 39) (.k qF)),oM 41 40,oG 42 (.mov (.t 4)) 41 true,oG 43 (.bin .eql (.t 42) (kI 0)) 41 true,oX 44 (.pick (.t 41) (.t 43) (.k qF)),oM 45 44,oG 46 (.mov (.t 7)) 45 true,oG 47 (.bin .eql (.t 46) (kI 0)) 45 true,oX 48 (.pick (.t 45) (.t 47) (.k qF)),oM 2 48]) .ret))))),[(.t 2)],49⟩ := by kernel_rfl
theorem lfix_pfg (s : List UInt8) : PFg LnG Tryd.prog 4 [.str (bS s)] (.bool true) := by
 have hr := read_pfg s
 rcases read_fixed s with ⟨l,h,hok,hlen,hs⟩ | ⟨k,c,h,hk,hc⟩
 ·rw [h] at hr
  simp only at hr
  have hw := show_pfg l hok hlen
  rw [hs] at hw
  refine PFg.of lnb follows_ok lfix_code (by simp) (by simp) (by simp) fun B hBN hB0 hG => acode_sound [0,2,3,4,5,6,7,8,16] [] _ _ _ ?_
  simp
  refine WCall.pfng hG hr (by simp) (by simp) ?_
  simp
  refine WCall.pfng hG hw (by simp) (by simp) ?_
  simp
 ·rw [h] at hr
  simp only [List.map_nil] at hr
  refine PFg.of lnb follows_ok lfix_code (by simp) (by simp) (by simp) fun B hBN hB0 hG => acode_sound [0,2,3,4,5,6,7,8,16] [] _ _ _ ?_
  simp
  refine WCall.pfng hG hr (by simp) (by simp) ?_
  have h4 : (k : Int) ≤ 4000 := by omega
  have h0 : (0 : Int) ≤ k := by omega
  simp [hc,h4,h0]
end Go.Proofs.YtbhcfldafpndbaaDoor
