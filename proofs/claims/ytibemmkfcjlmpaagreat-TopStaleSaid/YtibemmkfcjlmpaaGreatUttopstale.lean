/- What the program computes, step by step, and the rules for it. No condition of its own. -/
import Derived.Test.YtibemmkfcjlmpaaGreatUae
set_option linter.unusedSimpArgs false
set_option linter.unusedVariables false
set_option maxRecDepth 100000
set_option maxHeartbeats 8000000
namespace Go.Proofs.YtibemmkfcjlmpaaGreat
open Go.RowKit
theorem P_stale {g : Gt} {n : Nat} (h : Rest g n) (h0 : g.out = []) {e : Evt} (hk : e.kind = 2 ∨ e.kind = 3 ∨ e.kind = 4) (hn : n + 1 ≤ 1000000) :
  ((getM g.tb e.slot e.gen).2 ≠ 0 → (g.step e).out = [⟨10,0,0,0,0,(getM g.tb e.slot e.gen).2,0⟩] ∧ (g.step e).fl = g.fl ∧ (g.step e).tok = g.tok) ∧
  ((getM g.tb e.slot e.gen).2 = 0 → ∀ o,(g.step e).out = [o] → o.kind = 10 → o.code = 7 ∧ (g.step e).fl = g.fl ∧ (g.step e).tok = g.tok) := by
 have hst : g.step e = g.flow e := by unfold Gt.step;rw [if_neg (by omega),if_neg (by omega),if_neg (by omega)]
 rw [hst]
 have hm := h.mid
 unfold Gt.flow
 refine ⟨fun hg => ?_,fun hg o ho hk10 => ?_⟩
 ·rw [if_pos hg]
  exact ⟨by simp [Gt.put,h0],rfl,rfl⟩
 ·rw [if_neg (by rw [hg];simp)] at ho ⊢
  obtain ⟨f,hf,e1,e2⟩ := hm.fs.got hg
  obtain ⟨hi,he,_,hgd⟩ := find_mem hm.fs.so hf
  simp only at ho ⊢
  rw [← e1,← e2] at ho ⊢
  have hdr : ∀ oo : Outp,(oo.kind = 6 ∨ oo.kind = 7) → (g.drop (findF g.fl f.slot).toNat oo).out = [o] → False := fun oo hoo hh => by
   unfold Gt.drop Gt.spared Gt.dropA at hh
   simp only [h0,List.nil_append] at hh
   split at hh
   ·simp at hh
   ·simp at hh;subst hh;simp at hk10;omega
  split at ho
  ·exact absurd ho fun hh => hdr _ (.inr rfl) hh
  ·split at ho
   ·simp only [Gt.put] at ho
    split at ho
    ·simp [Gt.dueA,h0] at ho;subst ho;simp at hk10
    ·simp [h0] at ho;subst ho;simp at hk10
   ·split at ho
    ·rename_i h3 h2 hs
     rw [if_neg h3,if_neg h2,if_pos hs]
     simp [Gt.put,h0] at ho
     subst ho
     exact ⟨rfl,rfl,rfl⟩
    ·split at ho
     ·simp [Gt.put,Gt.dueA,Gt.note,Gt.served,h0] at ho;subst ho;simp at hk10
     ·exfalso
      have hno : (g.note (g.fl.getD (findF g.fl f.slot).toNat default).backend true).out = [] := h0
      have hdr2 : ∀ w,((g.note (g.fl.getD (findF g.fl f.slot).toNat default).backend true).drop (findF g.fl f.slot).toNat (resetO w)).out = [o] → False := fun w hh => by
       unfold Gt.drop Gt.spared Gt.dropA at hh
       simp only [hno,List.nil_append] at hh
       split at hh
       ·simp at hh
       ·simp [resetO] at hh;subst hh;simp at hk10
      unfold Gt.failed at ho
      simp only at ho
      split at ho
      ·exact hdr2 _ ho
      ·split at ho
       ·exact hdr2 _ ho
       ·split at ho
        ·unfold Gt.spared Gt.moved at ho
         simp only [hno,List.nil_append] at ho
         split at ho
         ·simp at ho
         ·simp at ho;subst ho;simp at hk10
        ·unfold Gt.moved at ho
         simp only [hno,List.nil_append] at ho
         simp at ho;subst ho;simp at hk10
theorem StpOk.facts {c : Cfg} {s : Stp} {k : Nat} (h : StpOk c s k) : ∃ n,n + 1 ≤ 1000000 ∧ Rest s.before n ∧ Rest (s.before.step s.ev) (n + 1) := by
 obtain ⟨n,hn,hr⟩ := h.ex
 have := h.kk
 exact ⟨n,by omega,hr,hr.step h.ev.ok (by omega)⟩
structure PK (p : Ply) : Prop where
 c : p.c.Ok
 inv : ∃ k,k ≤ 1000 ∧ PV p k
 sl : p.steps.length ≤ 1000
 gl : p.given.length ≤ 2000000
theorem PK.st {p : Ply} (h : PK p) {i : Nat} (hi : i < p.steps.length) : ∃ k,StpOk p.c p.steps[i] k := by
 obtain ⟨k,_,hk⟩ := h.inv
 exact ⟨k,hk.sts _ (List.getElem_mem hi)⟩
theorem top_start (s : List Int) (l : List (List Int)) (hs : s.length = 16 ∧ ∀ z ∈ s,InR z) (hl : l.length ≤ Go.maxLen) (hr : ∀ r ∈ l,r.length = 4 ∧ ∀ z ∈ r,InR z) :
  ∃ p : Ply,PK p ∧ HF Tryz.prog 23 [.agg (s.map I),.rows 4 (l.map fun r => r.map I),I 60] [] 0 (fun d H' nx' => d = .tup [.ptr 0 0,.bool true] ∧ H' = p.H 1 2 ∧ nx' = 3) := by
 obtain ⟨c,hc,_,hpl⟩ := played_hf s l 60 hs hl hr (by omega)
 have hP := deeds_PR (play4_PR hc) (l.take 60) (l.take 60).length (Nat.le_refl _) (by rw [List.length_take];omega)
 rw [List.take_length] at hP
 have hlt : (l.take 60).length ≤ 60 := by rw [List.length_take];omega
 refine ⟨playedM c l 60,⟨?_,⟨_,?_,hP.inv⟩,?_,?_⟩,hpl⟩
 ·have h1 := hP.inv.cfg
  have h2 := hP.inv.rest.mid.c
  rw [h1] at h2;exact h2
 ·omega
 ·have := hP.sl;unfold playedM;omega
 ·have := hP.gl;unfold playedM;omega
end Go.Proofs.YtibemmkfcjlmpaaGreat
namespace Go.Proofs.YtibemmkfcjlmpaaGreat
open Go.RowKit
attribute [local simp] AK_at acode_seq acode_region acode_draw acode_cond CB_u acode_block acode_loop acode_exit acode_scope acode_ret acode_skip seqQ_n seqQ_e seqQ_r blockQ_n blockQ_e blockQ_r TK_at OK_at SK_at aops_nil aops_cons asch_done asch_one asch_two asch_top astep aop_eq isLoud aloud aloud1 isWrite qv evS strip gof eget hget putO eput herase oks opnds gS afin afin0 binD arith D.cells takeD fillD keep trim envOf Fin aresl aresv resD argOk pickV isP deq deqs boundD slD lenD isT isSl ptrIds chunks mn_min mx_max splice_one splice_more Rbr_at Rfr_at frR frV frC flatC brwR brwV brwC omap leR leV leC leL leVL rnR rnV rnC rnO rho_0 hputs herases rnS LtS LtR LtV LtC LtO lget noV noC flatR flatV rho
attribute [local simp ↓] CB_t CB_f
theorem tsta_code : cfun Tryz.prog [] 10 = some ⟨(.seq (qR 0 [oB 2 0,oX 4 (.mov (.k qF))]) (.seq (qR 1 [oA 13 16 2,oM 14 1,oX 15 (.call 23 [(.t 13),(.t 14),(kI 60)]),oM 12 15,oE 16 12 0,oE 17 12 1,oM 5 16,oM 6 17]) (.seq (.seq (qR 2 [oK 7 0]) (.block 0 (.loop (.seq (.seq (qR 3 [oM 18 7,oM 19 5,oN 20 19,oF 21 16 20,oL 22 1 21,oH 23 22,oX 24 (.bin .lss (.t 18) (.t 23))]) (.cond 24 .skip (.exit 0))) (.seq (.block 1 (.seq (qR 5 [oM 27 5,oN 28 27,oF 29 16 28,oL 30 1 29,oM 31 7,oI 32 61 30 31,oA 33 61 32,oX 8 (.alloc [qZ,qZ,qZ,qZ,qF,qZ,qZ,qZ,qZ,qZ,qZ,qZ,qZ,qZ,qZ,qZ,qZ,qZ,qZ,qZ,qZ,qZ,qZ,qZ,qZ,.nil0,.nil0,.nil0,.nil0,.nil0,.nil0,qZ,qZ,.nil0,qZ,qZ,qZ,qZ,qZ,qZ,qZ,qZ,qZ,qZ,qZ,qZ,qZ,qZ,qZ,qZ,qZ,.nil0,.nil0,.nil0,.nil0,.nil0,.nil0,qZ,qZ,.nil0,.nil0]),oS 61 8 33]) (.seq (.seq (qR 6 [oF 34 0 8,oF 35 0 34,oL 36 1 35,oX 37 (.bin .neq (.t 36) (kI 2)),oM 38 37,oG 39 (.fad 0 (.t 8)) 38 true,oG 40 (.fad 0 (.t 39)) 38 true,oG 41 (.load false 1 (.t 40)) 38 true,oG 42 (.bin .neq (.t 41) (kI 3)) 38 true,oX 43 (.pick (.t 38) (.t 42) (.k qF)),oM 44 43,oG 45 (.fad 0 (.t 8)) 44 true,oG 46 (.fad 0 (.t 45)) 44 true,oG 47 (.load false 1 (.t 46)) 44 true,oG 48 (.bin .neq (.t 47) (kI 4)) 44 true,oX 49 (.pick (.t 44) (.t 48) (.k qF))]) (.cond 49 (.exit 1) .skip)) (.seq (qR 7 [oF 51 8 8,oF 52 17 51,oA 53 1 52,oF 54 0 8,oF 55 2 54,oL 56 1 55,oF 57 0 8,oF 58 3 57,oL 59 1 58,oX 60 (.build [qZ,qZ] [(0,(1,(.t 56))),(1,(1,(.t 59)))]),oX 61 (.call 33 [(.t 53),(.t 60)]),oM 50 61,oE 62 50 0,oE 63 50 1,oX 9 (.alloc [qZ,qF,qZ,qZ]),oS 4 9 62,oM 10 63]) (.seq (qR 8 [oF 64 60 8,oL 65 1 64,oH 66 65,oX 67 (.bin .eql (.t 66) (kI 1)),oM 68 67,oG 69 (.fad 60 (.t 8)) 68 true,oG 70 (.load false 1 (.t 69)) 68 true,oG 71 (.iads 7 (.t 70) (kI 0)) 68 true,oG 72 (.fad 0 (.t 71)) 68 true,oG 73 (.load false 1 (.t 72)) 68 true,oG 74 (.bin .eql (.t 73) (kI 10)) 68 true,oX 75 (.pick (.t 68) (.t 74) (.k qF)),oM 11 75]) (.seq (.seq (qR 9 [oM 76 10,oX 77 (.bin .neq (.t 76) (kI 0)),oM 78 77,oG 79 (.mov (.t 11)) 78 true,oG 80 (.not (.t 79)) 78 true,oG 81 (.mov (.t 80)) 78 true,oG 82 (.fad 60 (.t 8)) 81 false,oG 83 (.load false 1 (.t 82)) 81 false,oG 84 (.iads 7 (.t 83) (kI 0)) 81 false,oG 85 (.fad 5 (.t 84)) 81 false,oG 86 (.load false 1 (.t 85)) 81 false,oG 87 (.mov (.t 10)) 81 false,oG 88 (.bin .neq (.t 86) (.t 87)) 81 false,oG 89 (.pick (.t 81) (.k qT) (.t 88)) 78 true,oX 90 (.pick (.t 78) (.t 89) (.k qF))]) (.cond 90 (.seq (qR 10 [oX 4 (.mov (.k qF))]) .ret) .skip)) (.seq (.seq (qR 11 [oM 91 11,oM 92 91,oG 93 (.fad 34 (.t 8)) 92 true,oG 94 (.fad 18 (.t 93)) 92 true,oG 95 (.load false 1 (.t 94)) 92 true,oG 96 (.len (.t 95)) 92 true,oG 97 (.fad 8 (.t 8)) 92 true,oG 98 (.fad 18 (.t 97)) 92 true,oG 99 (.load false 1 (.t 98)) 92 true,oG 100 (.len (.t 99)) 92 true,oG 101 (.bin .neq (.t 96) (.t 100)) 92 true,oG 102 (.mov (.t 101)) 92 true,oG 103 (.fad 34 (.t 8)) 102 false,oG 104 (.fad 23 (.t 103)) 102 false,oG 105 (.load true 1 (.t 104)) 102 false,oG 106 (.fad 8 (.t 8)) 102 false,oG 107 (.fad 23 (.t 106)) 102 false,oG 108 (.load true 1 (.t 107)) 102 false,oG 109 (.eqa true [.i] (.t 105) (.t 108)) 102 false,oG 110 (.pick (.t 102) (.k qT) (.t 109)) 92 true,oX 111 (.pick (.t 92) (.t 110) (.k qF))]) (.cond 111 (.seq (qR 12 [oX 4 (.mov (.k qF))]) .ret) .skip)) (.seq (qR 13 [oM 112 10,oX 113 (.bin .eql (.t 112) (kI 0)),oM 114 113,oG 115 (.mov (.t 11)) 114 true,oX 116 (.pick (.t 114) (.t 115) (.k qF)),oM 117 116,oG 118 (.fad 60 (.t 8)) 117 true,oG 119 (.load false 1 (.t 118)) 117 true,oG 120 (.iads 7 (.t 119) (kI 0)) 117 true,oG 121 (.fad 5 (.t 120)) 117 true,oG 122 (.load false 1 (.t 121)) 117 true,oG 123 (.bin .neq (.t 122) (kI 7)) 117 true,oX 124 (.pick (.t 117) (.t 123) (.k qF))]) (.cond 124 (.seq (qR 14 [oX 4 (.mov (.k qF))]) .ret) .skip))))))))) (qR 4 [oM 25 7,oX 26 (.bin .add (.t 25) (kI 1)),oM 7 26])))))) (.seq (qR 15 [oM 125 6,oM 4 125]) .ret)))),[(.t 4)],126⟩ := by kernel_rfl
theorem tsta_pf (s : List Int) (l : List (List Int)) (hs : s.length = 16 ∧ ∀ z ∈ s,InR z) (hl : l.length ≤ Go.maxLen) (hr : ∀ r ∈ l,r.length = 4 ∧ ∀ z ∈ r,InR z) :
  PF Tryz.prog 10 [.agg (s.map I),.rows 4 (l.map fun r => r.map I)] (.bool true) := by
 obtain ⟨p,hK,hpl⟩ := top_start s l hs hl hr
 obtain ⟨a0,a1,a2,a3,a4,a5,a6,a7,a8,a9,a10,a11,a12,a13,a14,a15,rfl⟩ := sixteen hs.1
 obtain ⟨P,hP⟩ : ∃ P,P = p.P := ⟨_,rfl⟩
 have hP' := hP
 simp only [Ply.P,Ply.cells,Cfg.D,Gt.W,Gt.cells,List.cons_append,List.nil_append] at hP'
 simp only [Ply.H,Ply.cells,Cfg.D,Gt.W,Gt.cells,List.cons_append,List.nil_append] at hpl
 refine pO tsta_code [0,1,2,4,5,6,7,8,10,11,24,49,90,111,124] [2] fun B hBN hB0 => ?_
 simp
 refine WCall.hf0 hpl (by simp) (by simp) (by simp) (by simp) ?_
 rintro d H' nx' ⟨rfl,rfl,rfl⟩
 simp
 refine W.freeze [1,2,3] ?_
 simp [freeze,hkeep,hdrop,fzS,fzR,fzV,fzC,fzO]
 rw [← hP']
 clear hpl hs hr hl
 refine acode_sound [0,1,2,4,5,6,7,8,10,11,24,49,90,111,124] [] _ _ _ ?_
 simp
 refine W.loopS (fun y : Nat => ⟨[(7,I y),(6,.bool true),(5,.pc P)],[],0⟩)
  (fun m i => m = p.steps.length - i ∧ i ≤ p.steps.length) ?_ ?_
 ·exact ⟨_,0,(gr0 [] hB0 (by simp) (by simp) (.inr rfl)),rfl,by omega⟩
 rintro m i ⟨hm,hi⟩
 refine acode_sound [0,1,2,4,5,6,7,8,10,11,24,49,90,111,124] [] _ _ _ ?_
 by_cases hlt : i < p.steps.length
 ·have ii : InR ((i : Int) + 1) := inW (by have := hK.sl;omega) (by have := hK.sl;omega)
  obtain ⟨kk,hst⟩ := hK.st hlt
  obtain ⟨x,hx⟩ : ∃ x,x = p.steps[i] := ⟨_,rfl⟩
  rw [← hx] at hst
  obtain ⟨n,hn,hr1,hr2⟩ := hst.facts
  by_cases hk : x.ev.kind = 2 ∨ x.ev.kind = 3 ∨ x.ev.kind = 4
  ·obtain ⟨p1,p2⟩ := P_stale hr1 hst.lo hk hn
   rw [← hst.out] at p1 p2
   have hFl : (x.before.step x.ev).fl = x.after.fl := by rw [hst.after];rfl
   have hTk : (x.before.step x.ev).tok = x.after.tok := by rw [hst.after];rfl
   rw [hFl,hTk] at p1 p2
   have hget := tget_pf x.before.tb x.ev.slot x.ev.gen hr1.mid.tok
   generalize getM x.before.tb x.ev.slot x.ev.gen = r at hget p1 p2
   obtain ⟨rs,rc⟩ := r
   simp only at hget p1 p2
   simp only [TSlot.D] at hget
   by_cases hrc : rc = 0
   ·subst hrc
    have p2 := p2 rfl
    rcases hxo : x.out with _ | ⟨o,_ | ⟨o2,t⟩⟩
    ·rcases hk with k | k | k <;>
     ·skip
      repeat' (first
       | simp [hP',hlt,← hx,Stp.D,Evt.D,Gt.W,Gt.cells,k,hxo,ii]
       | refine ⟨wcS ?_,?_⟩
       | (refine WCall.pf (hget) ?_ ?_ ?_ ?_;iterate 3 (solve|simp [hP',hlt,← hx,Stp.D,Evt.D,Gt.W,Gt.cells,k,hxo,ii]))
       | with_reducible refine aI ?_ ?_ ?_)
      all_goals
       rw [← hP']
       exact ⟨_,i + 1,(gr0 [] hB0 (by simp) (by simp) (.inr rfl)),by omega,rfl,by omega⟩
    ·have p2 := p2 o hxo
     by_cases h10 : o.kind = 10
     ·obtain ⟨e1,e2,e3⟩ := p2 h10
      rcases hk with k | k | k <;>
      ·skip
       repeat' (first
        | simp [hP',hlt,← hx,Stp.D,Evt.D,Gt.W,Gt.cells,k,hxo,Outp.D,h10,e1,e2,e3,ii]
        | refine ⟨wcS ?_,?_⟩
        | (refine WCall.pf (hget) ?_ ?_ ?_ ?_;iterate 3 (solve|simp [hP',hlt,← hx,Stp.D,Evt.D,Gt.W,Gt.cells,k,hxo,Outp.D,h10,e1,e2,e3,ii]))
        | with_reducible refine aI ?_ ?_ ?_)
       all_goals
        rw [← hP']
        exact ⟨_,i + 1,(gr0 [] hB0 (by simp) (by simp) (.inr rfl)),by omega,rfl,by omega⟩
     ·rcases hk with k | k | k <;>
      ·skip
       repeat' (first
        | simp [hP',hlt,← hx,Stp.D,Evt.D,Gt.W,Gt.cells,k,hxo,Outp.D,h10,ii]
        | refine ⟨wcS ?_,?_⟩
        | (refine WCall.pf (hget) ?_ ?_ ?_ ?_;iterate 3 (solve|simp [hP',hlt,← hx,Stp.D,Evt.D,Gt.W,Gt.cells,k,hxo,Outp.D,h10,ii]))
        | with_reducible refine aI ?_ ?_ ?_)
       all_goals
        rw [← hP']
        exact ⟨_,i + 1,(gr0 [] hB0 (by simp) (by simp) (.inr rfl)),by omega,rfl,by omega⟩
    ·have h1 : ¬ ((t.length : Int) + 1 + 1 = 1) := by omega
     rcases hk with k | k | k <;>
     ·skip
      repeat' (first
       | simp [hP',hlt,← hx,Stp.D,Evt.D,Gt.W,Gt.cells,k,hxo,Outp.D,h1,ii]
       | refine ⟨wcS ?_,?_⟩
       | (refine WCall.pf (hget) ?_ ?_ ?_ ?_;iterate 3 (solve|simp [hP',hlt,← hx,Stp.D,Evt.D,Gt.W,Gt.cells,k,hxo,Outp.D,h1,ii]))
       | with_reducible refine aI ?_ ?_ ?_)
      all_goals
       rw [← hP']
       exact ⟨_,i + 1,(gr0 [] hB0 (by simp) (by simp) (.inr rfl)),by omega,rfl,by omega⟩
   ·obtain ⟨e1,e2,e3⟩ := p1 hrc
    rcases hk with k | k | k <;>
    ·skip
     repeat' (first
      | simp [hP',hlt,← hx,Stp.D,Evt.D,Gt.W,Gt.cells,k,e1,Outp.D,e2,e3,hrc,ii]
      | refine ⟨wcS ?_,?_⟩
      | (refine WCall.pf (hget) ?_ ?_ ?_ ?_;iterate 3 (solve|simp [hP',hlt,← hx,Stp.D,Evt.D,Gt.W,Gt.cells,k,e1,Outp.D,e2,e3,hrc,ii]))
      | with_reducible refine aI ?_ ?_ ?_)
     all_goals
      rw [← hP']
      exact ⟨_,i + 1,(gr0 [] hB0 (by simp) (by simp) (.inr rfl)),by omega,rfl,by omega⟩
  ·have k2 : ¬ x.ev.kind = 2 := fun h => hk (.inl h)
   have k3 : ¬ x.ev.kind = 3 := fun h => hk (.inr (.inl h))
   have k4 : ¬ x.ev.kind = 4 := fun h => hk (.inr (.inr h))
   simp [hP',hlt,← hx,Stp.D,Evt.D,Gt.W,Gt.cells,k2,k3,k4,ii]
   rw [← hP']
   exact ⟨_,i + 1,(gr0 [] hB0 (by simp) (by simp) (.inr rfl)),by omega,rfl,by omega⟩
 ·obtain rfl : i = p.steps.length := by omega
  simp [hP']
end Go.Proofs.YtibemmkfcjlmpaaGreat
