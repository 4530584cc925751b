/- What the program computes, step by step, and the rules for it. No condition of its own. -/
import Derived.Test.YtmdhegbdffbfoaaRab
set_option linter.unusedSimpArgs false
set_option linter.unusedVariables false
set_option maxRecDepth 100000
set_option maxHeartbeats 8000000
namespace Go.Proofs.Ytmdhegbdffbfoaa
open Go.RowKit
attribute [local simp] AK_at acode_seq acode_region acode_draw acode_cond CB_u acode_block acode_loop acode_exit acode_scope acode_ret acode_skip seqQ_n seqQ_e seqQ_r blockQ_n blockQ_e blockQ_r TK_at OK_at SK_at aops_nil aops_cons asch_done asch_one asch_two asch_top astep aop_eq isLoud aloud aloud1 isWrite qv evS strip gof eget hget putO eput herase oks opnds gS afin afin0 binD arith D.cells takeD fillD keep trim envOf Fin aresl aresv resD argOk pickV isP deq deqs boundD slD lenD isT isSl ptrIds chunks mn_min mx_max splice_one splice_more Rbr_at Rfr_at frR frV frC flatC brwR brwV brwC omap leR leV leC leL leVL rnR rnV rnC rnO rho_0 hputs herases rnS LtS LtR LtV LtC LtO lget noV noC flatR flatV rho
attribute [local simp ↓] CB_t CB_f
theorem rgStep_pos (ws : List Nat) (r : List Int) (h : WOk ws) : ∃ b,b < 12 ∧ 0 < (rgStep ws r).getD b 0 := by
 have q := pickedZ_range (r.getD 0 0) 12 (by omega)
 refine ⟨(pickedZ (r.getD 0 0) 12).toNat,by omega,?_⟩
 unfold rgStep
 simp only
 split
 ·assumption
 ·have : (pickedZ (r.getD 0 0) 12).toNat < ws.length := by rw [h.len];omega
  rw [zC,List.getElem?_set_self this]
  show 0 < 1 + (pickedZ (r.getD 1 0) 8).toNat
  omega
theorem rgL_pos (l : List (List Int)) (h : l ≠ []) : 0 < (ringM (rgL l)).length := by
 have hl : 0 < l.length := List.length_pos_iff.2 h
 obtain ⟨i,hi⟩ : ∃ i,min 20 l.length = i + 1 := ⟨min 20 l.length - 1,by omega⟩
 have e : rgL l = rgStep ((l.take i).foldl rgStep rg0) (l[i]'(by omega)) := by
  rw [← rgL_succ l i (by omega)]
  unfold rgL
  by_cases h20 : 20 ≤ l.length
  ·rw [show i + 1 = 20 by omega]
  ·rw [List.take_of_length_le (show l.length ≤ 20 by omega),List.take_of_length_le (show l.length ≤ i + 1 by omega)]
 obtain ⟨b,hb,hp⟩ := rgStep_pos ((l.take i).foldl rgStep rg0) (l[i]'(by omega)) (rgL_inv l i)
 rw [← e] at hp
 have h1 := cnt_ring (rgL l) b hb
 have h2 := List.countP_le_length (p := isB b) (l := ringM (rgL l))
 omega
theorem rchk_code : cfun Try.prog [] 12 = some ⟨(.seq (qR 0 [oB 1 0,oK 2 0]) (.seq (.seq (qR 1 [oA 6 1 1,oX 7 (.call 19 [(.t 6)]),oM 5 7,oE 8 5 0,oE 9 5 1,oX 3 (.alloc [qZ,qZ,qZ,qZ,qZ,qZ,qZ,qZ,qZ,qZ,qZ,qZ]),oS 12 3 8,oM 4 9]) (.seq (qR 2 [oM 10 4,oX 11 (.not (.t 10))]) (.cond 11 (.seq (qR 3 [oK 2 6]) .ret) .skip))) (.seq (qR 4 [oK 2 0]) .ret))),[(.t 2)],12⟩ := by kernel_rfl
theorem rchk_pf (ws : List Nat) (h : WOk ws) : PF Try.prog 12 [.agg [.rows 2 ((ringM ws).map spE)]] (I 0) := by
 have hwe := rwei_pf ws h
 have hl12 := h.len
 have hs0 := spl12 h.len
 have htw : (ws.map fun w : Nat => I (w : Int)).take 12 = ws.map fun w : Nat => I (w : Int) := List.take_of_length_le (by simp [h.len])
 refine pO rchk_code [0,1,2,4,11] [] fun B hBN hB0 => ?_
 repeat' (first
  | simp [hl12,hs0,htw]
  | refine ⟨wcS ?_,?_⟩
  | (refine WCall.pf (hwe) ?_ ?_ ?_ ?_;iterate 3 (solve|simp [hl12,hs0,htw]))
  | with_reducible refine aI ?_ ?_ ?_)
theorem ringM_up (ws : List Nat) (k : Nat) (h : k + 1 < (ringM ws).length) : ¬ (ringM ws)[k + 1].1 < (ringM ws)[k].1 := by
 have := List.pairwise_iff_getElem.1 (sortM_pw (wantM ws 12)) k (k + 1) (by unfold ringM at h;omega) h (by omega)
 rw [ltSp] at this
 simp at this
 unfold ringM
 omega
theorem rpart_code : cfun Try.prog [] 4 = some ⟨(.seq (qR 0 [oX 2 (.mov (.k qF))]) (.seq (qR 1 [oM 11 0,oX 12 (.call 9 [(.t 11)]),oM 10 12,oE 13 10 0,oE 14 10 1,oE 15 10 2,oX 3 (.alloc [.nil0]),oX 4 (.alloc [qZ,qZ,qZ,qZ,qZ,qZ,qZ,qZ,qZ,qZ,qZ,qZ]),oS 1 3 13,oS 12 4 14,oM 5 15]) (.seq (qR 2 [oX 6 (.alloc [qZ,qZ,qZ,qZ,qZ,qZ,qZ,qZ,qZ,qZ,qZ,qZ])]) (.seq (.seq (qR 3 [oK 7 0]) (.block 0 (.loop (.seq (.seq (qR 4 [oM 16 7,oF 17 0 3,oL 18 1 17,oH 19 18,oX 20 (.bin .lss (.t 16) (.t 19))]) (.cond 20 .skip (.exit 0))) (.seq (.block 1 (.seq (qR 6 [oF 23 0 3,oL 24 1 23,oM 25 7,oI 26 2 24 25,oA 27 2 26,oX 8 (.alloc [qZ,qZ]),oS 2 8 27]) (.seq (.seq (.draw 7 (qN (oF 28 1 8) (qN (oL 29 1 28) (qN (oX 30 (.bin .lss (.t 29) (kI 0))) (qN (oM 31 30) (qN (oG 32 (.fad 1 (.t 8)) 31 false) (qN (oG 33 (.load false 1 (.t 32)) 31 false) (qN (oG 34 (.bin .geq (.t 33) (kI 12)) 31 false) (qN (oX 35 (.pick (.t 31) (.k qT) (.t 34))) (qN (oM 36 35) (qN (oG 37 (.mov (.t 7)) 36 false) (qN (oG 38 (.bin .gtr (.t 37) (kI 0)) 36 false) (qN (oG 39 (.mov (.t 38)) 36 false) (qN (oG 40 (.fad 0 (.t 8)) 39 true) (qN (oG 41 (.load false 1 (.t 40)) 39 true) (qN (oG 42 (.fad 0 (.t 3)) 39 true) (qN (oG 43 (.load false 1 (.t 42)) 39 true) (qN (oG 44 (.mov (.t 7)) 39 true) (qN (oG 45 (.bin .sub (.t 44) (kI 1)) 39 true) (qN (oG 46 (.iads 2 (.t 43) (.t 45)) 39 true) (qN (oG 47 (.fad 0 (.t 46)) 39 true) (qN (oG 48 (.load false 1 (.t 47)) 39 true) (qN (oG 49 (.bin .lss (.t 41) (.t 48)) 39 true) (qN (oG 50 (.pick (.t 39) (.t 49) (.k qF)) 36 false) (qN (oX 51 (.pick (.t 36) (.k qT) (.t 50))) .done))))))))))))))))))))))))) (.cond 51 (.seq (qR 8 [oX 2 (.mov (.k qF))]) .ret) .skip)) (qR 9 [oF 52 1 8,oL 53 1 52,oX 54 (.iada 12 1 (.t 6) (.t 53)),oL 55 1 54,oX 56 (.bin .add (.t 55) (kI 1)),oX 57 (.iada 12 1 (.t 6) (.t 53)),oS 1 57 56])))) (qR 5 [oM 21 7,oX 22 (.bin .add (.t 21) (kI 1)),oM 7 22])))))) (.seq (.seq (qR 10 [oK 9 0]) (.block 2 (.loop (.seq (.seq (qR 11 [oM 58 9,oX 59 (.bin .lss (.t 58) (kI 12))]) (.cond 59 .skip (.exit 2))) (.seq (.block 3 (.seq (.draw 13 (qN (oM 62 9) (qN (oX 63 (.iada 12 1 (.t 6) (.t 62))) (qN (oL 64 1 63) (qN (oM 65 9) (qN (oX 66 (.iada 12 1 (.t 4) (.t 65))) (qN (oL 67 1 66) (qN (oX 68 (.bin .mul (kI 4) (.t 67))) (qN (oX 69 (.bin .neq (.t 64) (.t 68))) .done))))))))) (.cond 69 (.seq (qR 14 [oX 2 (.mov (.k qF))]) .ret) .skip))) (qR 12 [oM 60 9,oX 61 (.bin .add (.t 60) (kI 1)),oM 9 61])))))) (.seq (qR 15 [oM 70 5,oM 71 70,oG 72 (.load true 1 (.t 3)) 71 true,oG 73 (.call 12 [(.t 72)]) 71 true,oG 74 (.bin .eql (.t 73) (kI 0)) 71 true,oX 75 (.pick (.t 71) (.t 74) (.k qF)),oM 76 75,oG 77 (.mov (.t 0)) 76 true,oG 78 (.len (.t 77)) 76 true,oG 79 (.bin .eql (.t 78) (kI 0)) 76 true,oG 80 (.mov (.t 79)) 76 true,oG 81 (.fad 0 (.t 3)) 80 false,oG 82 (.load false 1 (.t 81)) 80 false,oG 83 (.len (.t 82)) 80 false,oG 84 (.bin .gtr (.t 83) (kI 0)) 80 false,oG 85 (.pick (.t 80) (.k qT) (.t 84)) 76 true,oX 86 (.pick (.t 76) (.t 85) (.k qF)),oM 2 86]) .ret)))))),[(.t 2)],87⟩ := by kernel_rfl
theorem rpart_pf (l : List (List Int)) (hl : l.length ≤ Go.maxLen) (hr : ∀ r ∈ l,r.length = 2 ∧ ∀ z ∈ r,InR z) : PF Try.prog 4 [.rows 2 (l.map fun r => r.map I)] (.bool true) := by
 have hrg := ringed_pf l hl hr
 have hpos := rgL_pos l
 have hws : WOk (rgL l) := rgL_inv l 20
 generalize rgL l = ws at hrg hpos hws
 have hl12 := hws.len
 have hs0 := spl12 hws.len
 have htw : (ws.map fun w : Nat => I (w : Int)).take 12 = ws.map fun w : Nat => I (w : Int) := List.take_of_length_le (by simp [hl12])
 have hrl := ringM_len ws hws
 have hck := rchk_pf ws hws
 refine pO rpart_code [0,2,3,4,5,6,7,8,9,20,51,59,69] [] fun B hBN hB0 => ?_
 repeat' (first
  | simp [hl12,hs0,htw]
  | refine ⟨wcS ?_,?_⟩
  | (refine WCall.pf (hrg) ?_ ?_ ?_ ?_;iterate 3 (solve|simp [hl12,hs0,htw]))
  | with_reducible refine aI ?_ ?_ ?_)
 refine W.loopS (fun i : Nat => ⟨[(7,I i),(6,.ptr 2 0),(5,.bool true),(4,.ptr 1 0),(3,.ptr 0 0),(2,.bool false),(0,.rows 2 (l.map fun r => r.map I))],[(2,.cells ((cntS ((ringM ws).take i)).map I)),(1,.cells (ws.map fun w : Nat => I (w : Int))),(0,.cells [.rows 2 ((ringM ws).map spE)])],3⟩)
  (fun n i => n = (ringM ws).length - i ∧ i ≤ (ringM ws).length) ?_ ?_
 ·exact ⟨_,0,(gr0 [0,1,2] hB0 (by simp [cntS,List.range_succ,rnN]) (by simp [cntS,List.range_succ,rnN]) (.inl (by simp [cntS,List.range_succ,rnN]))),rfl,by omega⟩
 rintro n i ⟨hn,hi⟩
 refine acode_sound [0,2,3,4,5,6,7,8,9,20,51,59,69] [] _ _ _ ?_
 by_cases hlt : i < (ringM ws).length
 ·obtain ⟨o,ho⟩ : ∃ o,o = (ringM ws)[i] := ⟨_,rfl⟩
  have hm : o ∈ ringM ws := ho ▸ List.getElem_mem hlt
  have hmm := ringM_mem hm
  obtain ⟨b,hb⟩ : ∃ b : Nat,o.2 = b := ⟨o.2.toNat,by omega⟩
  have hb2 : b < 12 := by omega
  have hbd := cntS_bd ((ringM ws).take i) b
  have hll : ((ringM ws).take i).length ≤ 384 := by simp;omega
  have hst := cntS_succ (ringM ws) i hlt b (ho ▸ hb) hb2
  have hlc : (cntS ((ringM ws).take i)).length = 12 := by simp [cntS]
  obtain ⟨c,hc⟩ : ∃ c,c = ((ringM ws).take i).countP (isB b) := ⟨_,rfl⟩
  rw [← hc] at hst hbd
  have hat : (cntS ((ringM ws).take i))[b]? = some (c : Int) := by simp [cntS,hc,List.getElem?_range,hb2]
  have ii : InR ((i : Int) + 1) := inG (by omega) (by omega)
  have ic : InR ((c : Int) + 1) := inG (by omega) (by omega)
  have c1 : ¬ (b : Int) < 0 := by omega
  have c2 : ¬ (12 : Int) ≤ b := by omega
  have hb3 : (b : Int) < 12 := by omega
  have hb4 : b ≤ 11 := by omega
  have hb5 : 0 < 12 - b := by omega
  have hspl := spliceI (cntS ((ringM ws).take i)) b ((c : Int) + 1) (by rw [hlc];exact hb2)
  rw [← hst] at hspl
  cases i with
  | zero =>
   have i1 : InR 1 := inG (by omega) (by omega)
   rw [List.take_zero] at hlc hat hspl
   repeat' (first
    | simp [hlt,← ho,spE,hb,hat,hlc,ii,i1,ic,c1,c2,hspl,hb3,hb4,hb5]
    | refine ⟨wcS ?_,?_⟩
    | (refine WCall.pf (hck) ?_ ?_ ?_ ?_;iterate 3 (solve|simp [hlt,← ho,spE,hb,hat,hlc,ii,i1,ic,c1,c2,hspl,hb3,hb4,hb5]))
    | with_reducible refine aI ?_ ?_ ?_)
   all_goals exact ⟨_,1,(gr0 [0,1,2] hB0 (by simp [rnI,rnN]) (by simp [rnI,rnN]) (.inl (by simp [rnI,rnN]))),by omega,rfl,by omega⟩
  | succ k =>
   have hk : k < (ringM ws).length := by omega
   have hup := ringM_up ws k hlt
   rw [← ho] at hup
   obtain ⟨p,hp⟩ : ∃ p,p = (ringM ws)[k] := ⟨_,rfl⟩
   rw [← hp] at hup
   have ik : InR (k : Int) := inG (by omega) (by omega)
   have i2 : InR ((k : Int) + 1 + 1) := inG (by omega) (by omega)
   have e1 : (k : Int) + 1 - 1 = k := by omega
   have e2 : ((k : Int) + 1).toNat = k + 1 := by omega
   have d4 : (0 : Int) < (k : Int) + 1 := by omega
   have d5 : (0 : Int) ≤ (k : Int) + 1 := by omega
   have d6 : (k : Int) + 1 < (ringM ws).length := by omega
   repeat' (first
    | simp [hlt,hk,← ho,← hp,spE,hb,hat,hlc,ic,c1,c2,hspl,hb3,hb4,hb5,hup,ik,i2,e1,e2,d4,d5,d6]
    | refine ⟨wcS ?_,?_⟩
    | (refine WCall.pf (hck) ?_ ?_ ?_ ?_;iterate 3 (solve|simp [hlt,hk,← ho,← hp,spE,hb,hat,hlc,ic,c1,c2,hspl,hb3,hb4,hb5,hup,ik,i2,e1,e2,d4,d5,d6]))
    | with_reducible refine aI ?_ ?_ ?_)
   all_goals exact ⟨_,k + 1 + 1,(gr0 [0,1,2] hB0 (by simp [rnI,rnN]) (by simp [rnI,rnN]) (.inl (by simp [rnI,rnN]))),by omega,rfl,by omega⟩
 ·obtain rfl : i = (ringM ws).length := by omega
  simp only [List.take_length,cnt_byM]
  simp
  refine W.loopS (fun k : Nat => ⟨[(9,I k),(6,.ptr 2 0),(5,.bool true),(4,.ptr 1 0),(3,.ptr 0 0),(2,.bool false),(0,.rows 2 (l.map fun r => r.map I))],[(2,.cells ((byM ws 0).map I)),(1,.cells (ws.map fun w : Nat => I (w : Int))),(0,.cells [.rows 2 ((ringM ws).map spE)])],3⟩)
   (fun n k => n = 12 - k ∧ k ≤ 12) ?_ ?_
  ·exact ⟨_,0,(gr0 [0,1,2] hB0 (by simp [rnI,rnN]) (by simp [rnI,rnN]) (.inl (by simp [rnI,rnN]))),rfl,by omega⟩
  rintro n k ⟨hn,hk⟩
  refine acode_sound [0,2,3,4,5,6,7,8,9,20,51,59,69] [] _ _ _ ?_
  have hlb : (byM ws 0).length = 12 := by simp [byM]
  by_cases hk12 : k < 12
  ·obtain ⟨w,hw⟩ : ∃ w,w = ws.getD k 0 := ⟨_,rfl⟩
   have hat : ws[k]? = some w := by
    rw [zC,zE (by omega)] at hw
    rw [zE (by omega)]
    simpa using hw.symm
   have hw8 : w ≤ 8 := by
    rw [hw,zC,zE (by omega)]
    exact hws.le _ (List.getElem_mem _)
   have hat0 : (byM ws 0)[k]? = some (4 * (w : Int)) := by simp [byM,List.getElem?_range,hk12,hat]
   have i4 : InR (4 * (w : Int)) := inG (by omega) (by omega)
   have ii : InR ((k : Int) + 1) := inG (by omega) (by omega)
   have hb1 : (k : Int) < 12 := by omega
   have hb2 : k ≤ 11 := by omega
   have hb3 : 0 < 12 - k := by omega
   repeat' (first
    | simp [hl12,hlb,hat,hat0,i4,ii,hb1,hb2,hb3]
    | refine ⟨wcS ?_,?_⟩
    | (refine WCall.pf (hck) ?_ ?_ ?_ ?_;iterate 3 (solve|simp [hl12,hlb,hat,hat0,i4,ii,hb1,hb2,hb3]))
    | with_reducible refine aI ?_ ?_ ?_)
   all_goals exact ⟨_,k + 1,(gr0 [0,1,2] hB0 (by simp [rnI,rnN]) (by simp [rnI,rnN]) (.inl (by simp [rnI,rnN]))),by omega,rfl,by omega⟩
  ·obtain rfl : k = 12 := by omega
   by_cases h0 : l = []
   ·subst h0
    repeat' (first
     | simp
     | refine ⟨wcS ?_,?_⟩
     | (refine WCall.pf (hck) ?_ ?_ ?_ ?_;iterate 3 (solve|simp))
     | with_reducible refine aI ?_ ?_ ?_)
   ·have hp := hpos h0
    have h1 : ¬ l.length = 0 := fun e => h0 (List.eq_nil_of_length_eq_zero e)
    have h2 : ¬ (ringM ws) = [] := fun e => by rw [e] at hp;simp at hp
    repeat' (first
     | simp [h0,h1,h2,hp]
     | refine ⟨wcS ?_,?_⟩
     | (refine WCall.pf (hck) ?_ ?_ ?_ ?_;iterate 3 (solve|simp [h0,h1,h2,hp]))
     | with_reducible refine aI ?_ ?_ ?_)
end Go.Proofs.Ytmdhegbdffbfoaa
