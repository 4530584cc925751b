/- What the program computes, step by step, and the rules for it. No condition of its own. -/
import Derived.Test.YtibemmkfcjlmpaaGreatUae
set_option linter.unusedSimpArgs false
set_option linter.unusedVariables false
set_option maxRecDepth 100000
set_option maxHeartbeats 8000000
namespace Go.Proofs.YtibemmkfcjlmpaaGreat
open Go.RowKit
theorem StpOk.facts {c : Cfg} {s : Stp} {k : Nat} (h : StpOk c s k) : ∃ n,n + 1 ≤ 1000000 ∧ Rest s.before n ∧ Rest (s.before.step s.ev) (n + 1) := by
 obtain ⟨n,hn,hr⟩ := h.ex
 have := h.kk
 exact ⟨n,by omega,hr,hr.step h.ev.ok (by omega)⟩
structure PK (p : Ply) : Prop where
 c : p.c.Ok
 inv : ∃ k,k ≤ 1000 ∧ PV p k
 sl : p.steps.length ≤ 1000
 gl : p.given.length ≤ 2000000
theorem PK.st {p : Ply} (h : PK p) {i : Nat} (hi : i < p.steps.length) : ∃ k,StpOk p.c p.steps[i] k := by
 obtain ⟨k,_,hk⟩ := h.inv
 exact ⟨k,hk.sts _ (List.getElem_mem hi)⟩
theorem top_start (s : List Int) (l : List (List Int)) (hs : s.length = 16 ∧ ∀ z ∈ s,InR z) (hl : l.length ≤ Go.maxLen) (hr : ∀ r ∈ l,r.length = 4 ∧ ∀ z ∈ r,InR z) :
  ∃ p : Ply,PK p ∧ HF Tryz.prog 23 [.agg (s.map I),.rows 4 (l.map fun r => r.map I),I 60] [] 0 (fun d H' nx' => d = .tup [.ptr 0 0,.bool true] ∧ H' = p.H 1 2 ∧ nx' = 3) := by
 obtain ⟨c,hc,_,hpl⟩ := played_hf s l 60 hs hl hr (by omega)
 have hP := deeds_PR (play4_PR hc) (l.take 60) (l.take 60).length (Nat.le_refl _) (by rw [List.length_take];omega)
 rw [List.take_length] at hP
 have hlt : (l.take 60).length ≤ 60 := by rw [List.length_take];omega
 refine ⟨playedM c l 60,⟨?_,⟨_,?_,hP.inv⟩,?_,?_⟩,hpl⟩
 ·have h1 := hP.inv.cfg
  have h2 := hP.inv.rest.mid.c
  rw [h1] at h2;exact h2
 ·omega
 ·have := hP.sl;unfold playedM;omega
 ·have := hP.gl;unfold playedM;omega
end Go.Proofs.YtibemmkfcjlmpaaGreat
namespace Go.Proofs.YtibemmkfcjlmpaaGreat
open Go.RowKit
attribute [local simp] AK_at acode_seq acode_region acode_draw acode_cond CB_u acode_block acode_loop acode_exit acode_scope acode_ret acode_skip seqQ_n seqQ_e seqQ_r blockQ_n blockQ_e blockQ_r TK_at OK_at SK_at aops_nil aops_cons asch_done asch_one asch_two asch_top astep aop_eq isLoud aloud aloud1 isWrite qv evS strip gof eget hget putO eput herase oks opnds gS afin afin0 binD arith D.cells takeD fillD keep trim envOf Fin aresl aresv resD argOk pickV isP deq deqs boundD slD lenD isT isSl ptrIds chunks mn_min mx_max splice_one splice_more Rbr_at Rfr_at frR frV frC flatC brwR brwV brwC omap leR leV leC leL leVL rnR rnV rnC rnO rho_0 hputs herases rnS LtS LtR LtV LtC LtO lget noV noC flatR flatV rho
attribute [local simp ↓] CB_t CB_f
theorem tslo_code : cfun Tryz.prog [] 15 = some ⟨(.seq (qR 0 [oB 2 0,oX 4 (.mov (.k qF))]) (.seq (qR 1 [oA 12 16 2,oM 13 1,oX 14 (.call 23 [(.t 12),(.t 13),(kI 60)]),oM 11 14,oE 15 11 0,oE 16 11 1,oM 5 15,oM 6 16]) (.seq (.seq (qR 2 [oK 7 0]) (.block 0 (.loop (.seq (.seq (qR 3 [oM 17 7,oM 18 5,oN 19 18,oF 20 16 19,oL 21 1 20,oH 22 21,oX 23 (.bin .lss (.t 17) (.t 22))]) (.cond 23 .skip (.exit 0))) (.seq (.block 1 (.seq (qR 5 [oM 26 5,oN 27 26,oF 28 16 27,oL 29 1 28,oM 30 7,oI 31 61 29 30,oA 32 61 31,oX 8 (.alloc [qZ,qZ,qZ,qZ,qF,qZ,qZ,qZ,qZ,qZ,qZ,qZ,qZ,qZ,qZ,qZ,qZ,qZ,qZ,qZ,qZ,qZ,qZ,qZ,qZ,.nil0,.nil0,.nil0,.nil0,.nil0,.nil0,qZ,qZ,.nil0,qZ,qZ,qZ,qZ,qZ,qZ,qZ,qZ,qZ,qZ,qZ,qZ,qZ,qZ,qZ,qZ,qZ,.nil0,.nil0,.nil0,.nil0,.nil0,.nil0,qZ,qZ,.nil0,.nil0]),oS 61 8 32]) (.seq (.seq (qR 6 [oF 33 60 8,oL 34 1 33,oH 35 34,oX 36 (.bin .neq (.t 35) (kI 1)),oM 37 36,oG 38 (.fad 60 (.t 8)) 37 false,oG 39 (.load false 1 (.t 38)) 37 false,oG 40 (.iads 7 (.t 39) (kI 0)) 37 false,oG 41 (.fad 0 (.t 40)) 37 false,oG 42 (.load false 1 (.t 41)) 37 false,oG 43 (.bin .neq (.t 42) (kI 1)) 37 false,oX 44 (.pick (.t 37) (.k qT) (.t 43))]) (.cond 44 (.exit 1) .skip)) (.seq (qR 7 [oF 45 60 8,oL 46 1 45,oX 47 (.iads 7 (.t 46) (kI 0)),oA 48 7 47,oX 9 (.alloc [qZ,qZ,qZ,qZ,qZ,qZ,qZ]),oS 7 9 48]) (.seq (.seq (qR 8 [oK 10 0]) (.block 2 (.loop (.seq (.seq (qR 9 [oM 49 10,oF 50 1 9,oL 51 1 50,oX 52 (.bin .lss (.t 49) (.t 51)),oM 53 52,oG 54 (.mov (.t 10)) 53 true,oG 55 (.fad 8 (.t 8)) 53 true,oG 56 (.fad 17 (.t 55)) 53 true,oG 57 (.fad 0 (.t 56)) 53 true,oG 58 (.load false 1 (.t 57)) 53 true,oG 59 (.len (.t 58)) 53 true,oG 60 (.bin .lss (.t 54) (.t 59)) 53 true,oX 61 (.pick (.t 53) (.t 60) (.k qF))]) (.cond 61 .skip (.exit 2))) (.seq (.block 3 (.seq (qR 11 [oF 64 8 8,oF 65 17 64,oF 66 0 65,oL 67 1 66,oM 68 10,oI 69 4 67 68,oF 70 1 69,oL 71 1 70,oX 72 (.not (.t 71))]) (.cond 72 (.seq (qR 12 [oX 4 (.mov (.k qF))]) .ret) .skip))) (qR 10 [oM 62 10,oX 63 (.bin .add (.t 62) (kI 1)),oM 10 63])))))) (.seq (.draw 13 (qN (oF 73 1 9) (qN (oL 74 1 73) (qN (oF 75 8 8) (qN (oF 76 17 75) (qN (oF 77 0 76) (qN (oL 78 1 77) (qN (oH 79 78) (qN (oX 80 (.bin .geq (.t 74) (.t 79))) (qN (oM 81 80) (qN (oG 82 (.fad 8 (.t 8)) 81 false) (qN (oG 83 (.fad 17 (.t 82)) 81 false) (qN (oG 84 (.fad 0 (.t 83)) 81 false) (qN (oG 85 (.load false 1 (.t 84)) 81 false) (qN (oG 86 (.fad 1 (.t 9)) 81 false) (qN (oG 87 (.load false 1 (.t 86)) 81 false) (qN (oG 88 (.iads 4 (.t 85) (.t 87)) 81 false) (qN (oG 89 (.fad 1 (.t 88)) 81 false) (qN (oG 90 (.load false 1 (.t 89)) 81 false) (qN (oX 91 (.pick (.t 81) (.k qT) (.t 90))) (qN (oM 92 91) (qN (oG 93 (.fad 8 (.t 8)) 92 false) (qN (oG 94 (.fad 17 (.t 93)) 92 false) (qN (oG 95 (.fad 0 (.t 94)) 92 false) (qN (oG 96 (.load false 1 (.t 95)) 92 false) (qN (oG 97 (.fad 1 (.t 9)) 92 false) (qN (oG 98 (.load false 1 (.t 97)) 92 false) (qN (oG 99 (.iads 4 (.t 96) (.t 98)) 92 false) (qN (oG 100 (.fad 0 (.t 99)) 92 false) (qN (oG 101 (.load false 1 (.t 100)) 92 false) (qN (oG 102 (.fad 2 (.t 9)) 92 false) (qN (oG 103 (.load false 1 (.t 102)) 92 false) (qN (oG 104 (.bin .neq (.t 101) (.t 103)) 92 false) (qN (oX 105 (.pick (.t 92) (.k qT) (.t 104))) .done)))))))))))))))))))))))))))))))))) (.cond 105 (.seq (qR 14 [oX 4 (.mov (.k qF))]) .ret) .skip))))))) (qR 4 [oM 24 7,oX 25 (.bin .add (.t 24) (kI 1)),oM 7 25])))))) (.seq (qR 15 [oM 106 6,oM 4 106]) .ret)))),[(.t 4)],107⟩ := by kernel_rfl
theorem tslo_pf (s : List Int) (l : List (List Int)) (hs : s.length = 16 ∧ ∀ z ∈ s,InR z) (hl : l.length ≤ Go.maxLen) (hr : ∀ r ∈ l,r.length = 4 ∧ ∀ z ∈ r,InR z) :
  PF Tryz.prog 15 [.agg (s.map I),.rows 4 (l.map fun r => r.map I)] (.bool true) := by
 obtain ⟨p,hK,hpl⟩ := top_start s l hs hl hr
 obtain ⟨a0,a1,a2,a3,a4,a5,a6,a7,a8,a9,a10,a11,a12,a13,a14,a15,rfl⟩ := sixteen hs.1
 obtain ⟨P,hP⟩ : ∃ P,P = p.P := ⟨_,rfl⟩
 have hP' := hP
 simp only [Ply.P,Ply.cells,Cfg.D,Gt.W,Gt.cells,List.cons_append,List.nil_append] at hP'
 simp only [Ply.H,Ply.cells,Cfg.D,Gt.W,Gt.cells,List.cons_append,List.nil_append] at hpl
 refine pO tslo_code [0,1,2,4,5,6,7,8,9,10,23,44,61,72,105] [2] fun B hBN hB0 => ?_
 simp
 refine WCall.hf0 hpl (by simp) (by simp) (by simp) (by simp) ?_
 rintro d H' nx' ⟨rfl,rfl,rfl⟩
 simp
 refine W.freeze [1,2,3] ?_
 simp [freeze,hkeep,hdrop,fzS,fzR,fzV,fzC,fzO]
 rw [← hP']
 clear hpl hs hr hl
 refine acode_sound [0,1,2,4,5,6,7,8,9,10,23,44,61,72,105] [] _ _ _ ?_
 simp
 refine W.loopS (fun y : Nat => ⟨[(7,I y),(6,.bool true),(5,.pc P)],[],0⟩)
  (fun m i => m = p.steps.length - i ∧ i ≤ p.steps.length) ?_ ?_
 ·exact ⟨_,0,(gr0 [] hB0 (by simp) (by simp) (.inr rfl)),rfl,by omega⟩
 rintro m i ⟨hm,hi⟩
 refine acode_sound [0,1,2,4,5,6,7,8,9,10,23,44,61,72,105] [] _ _ _ ?_
 by_cases hlt : i < p.steps.length
 ·have ii : InR ((i : Int) + 1) := inW (by have := hK.sl;omega) (by have := hK.sl;omega)
  obtain ⟨kk,hst⟩ := hK.st hlt
  obtain ⟨x,hx⟩ : ∃ x,x = p.steps[i] := ⟨_,rfl⟩
  rw [← hx] at hst
  obtain ⟨n,hn,hr1,hr2⟩ := hst.facts
  have hacc := fun o ho hk => P_accept hr1 hst.lo hst.ev.ok hn (o := o) ho hk
  rw [← hst.out] at hacc
  have ht40 := hr1.mid.tok.2.1
  by_cases hone : x.out.length = 1
  ·obtain ⟨o,ho⟩ : ∃ o,x.out = [o] := List.length_eq_one_iff.1 hone
   by_cases hk1 : o.kind = 1
   ·obtain ⟨sn,hsl,y,_,hoe,_,hu,hall,_⟩ := hacc o (by rw [ho];simp) hk1
    have hgs : (x.before.tb.getD sn tzero) = x.before.tb[sn] := getD_at _ hsl
    rw [hgs] at hoe hu
    simp [hP',hlt,← hx,Stp.D,Evt.D,Gt.W,Gt.cells,ho,hk1,Outp.D]
    rw [← hP']
    refine W.loopS (fun y : Nat => ⟨[(10,I y),(9,.ptr 1 0),(8,.ptr 0 0),(7,I i),(6,.bool true),(5,.pc P)],[(1,.cells o.D),(0,.cells x.D)],2⟩)
     (fun m k => m = sn - k ∧ k ≤ sn) ?_ ?_
    ·exact ⟨_,0,(gr0 [0,1] hB0 (by simp [Stp.D,Evt.D,Gt.W,Gt.cells,ho,Outp.D,hk1]) (by simp [Stp.D,Evt.D,Gt.W,Gt.cells,ho,Outp.D,hk1]) (.inl (by simp [Stp.D,Evt.D,Gt.W,Gt.cells,ho,Outp.D,hk1]))),rfl,by omega⟩
    rintro m2 k ⟨hm2,hk⟩
    refine acode_sound [0,1,2,4,5,6,7,8,9,10,23,44,61,72,105] [] _ _ _ ?_
    (try dsimp only)
    obtain ⟨t,ht⟩ : ∃ t,t = x.before.tb[sn] := ⟨_,rfl⟩
    rw [← ht] at hoe hu
    have hos : o.slot = (sn : Int) := by rw [hoe]
    have hog : o.gen = t.gen := by rw [hoe]
    by_cases hlt2 : k < sn
    ·have hkl : k < x.before.tb.length := by omega
     have huk := hall k hlt2
     rw [getD_at _ hkl] at huk
     obtain ⟨v,hv⟩ : ∃ v,v = x.before.tb[k] := ⟨_,rfl⟩
     rw [← hv] at huk
     have ik : InR ((k : Int) + 1) := inW (by omega) (by omega)
     simp [Stp.D,Evt.D,Gt.W,Gt.cells,Outp.D,hos,hlt2,hkl,← hv,TSlot.D,huk,ik]
     exact ⟨_,k + 1,(gr0 [0,1] hB0 (by simp [Stp.D,Evt.D,Gt.W,Gt.cells,Outp.D,hos]) (by simp [Stp.D,Evt.D,Gt.W,Gt.cells,Outp.D,hos]) (.inl (by simp [Stp.D,Evt.D,Gt.W,Gt.cells,Outp.D,hos]))),by omega,rfl,by omega⟩
    ·obtain rfl : k = sn := by omega
     have hnl : ¬ ((x.before.tb.length : Int) ≤ k) := by omega
     simp [Stp.D,Evt.D,Gt.W,Gt.cells,Outp.D,hos,hog,hsl,hnl,← ht,TSlot.D,hu,ii]
     exact ⟨_,i + 1,(gr0 [] hB0 (by simp) (by simp) (.inr rfl)),by omega,rfl,by omega⟩
   ·simp [hP',hlt,← hx,Stp.D,Evt.D,Gt.W,Gt.cells,ho,hk1,Outp.D,ii]
    rw [← hP']
    exact ⟨_,i + 1,(gr0 [] hB0 (by simp) (by simp) (.inr rfl)),by omega,rfl,by omega⟩
  ·rcases hxo : x.out with _ | ⟨o,_ | ⟨o2,r⟩⟩
   ·simp [hP',hlt,← hx,Stp.D,Evt.D,Gt.W,Gt.cells,hxo,ii]
    rw [← hP']
    exact ⟨_,i + 1,(gr0 [] hB0 (by simp) (by simp) (.inr rfl)),by omega,rfl,by omega⟩
   ·rw [hxo] at hone;simp at hone
   ·have hone2 : ¬ ((r.length : Int) + 1 + 1 = 1) := by omega
    simp [hP',hlt,← hx,Stp.D,Evt.D,Gt.W,Gt.cells,hxo,hone2,Outp.D,ii]
    rw [← hP']
    exact ⟨_,i + 1,(gr0 [] hB0 (by simp) (by simp) (.inr rfl)),by omega,rfl,by omega⟩
 ·obtain rfl : i = p.steps.length := by omega
  simp [hP']
end Go.Proofs.YtibemmkfcjlmpaaGreat
