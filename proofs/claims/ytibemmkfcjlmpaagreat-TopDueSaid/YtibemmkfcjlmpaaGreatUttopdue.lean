/- What the program computes, step by step, and the rules for it. No condition of its own. -/
import Derived.Test.YtibemmkfcjlmpaaGreatUae
set_option linter.unusedSimpArgs false
set_option linter.unusedVariables false
set_option maxRecDepth 100000
set_option maxHeartbeats 8000000
namespace Go.Proofs.YtibemmkfcjlmpaaGreat
open Go.RowKit
theorem StpOk.facts {c : Cfg} {s : Stp} {k : Nat} (h : StpOk c s k) : ∃ n,n + 1 ≤ 1000000 ∧ Rest s.before n ∧ Rest (s.before.step s.ev) (n + 1) := by
 obtain ⟨n,hn,hr⟩ := h.ex
 have := h.kk
 exact ⟨n,by omega,hr,hr.step h.ev.ok (by omega)⟩
theorem StpOk.due {c : Cfg} {s : Stp} {k : Nat} (h : StpOk c s k) : ∀ f ∈ s.after.fl,s.after.now < f.due ∧ f.due ≤ s.after.now + (if f.serving = true then c.c6 else c.c7) ∧ f.tries ≤ c.c8 := by
 obtain ⟨n,hn,hr,hr2⟩ := h.facts
 have hc : (s.before.step s.ev).c = c := by rw [step_c hr h.ev.ok hn,h.cfg]
 rw [h.after]
 intro f hf
 have h1 := hr2.late f hf
 have h2 := hr2.mid.fe f hf
 rw [hc] at h2
 exact ⟨h1,h2.2.2.2.1,h2.2.1⟩
structure PK (p : Ply) : Prop where
 c : p.c.Ok
 inv : ∃ k,k ≤ 1000 ∧ PV p k
 sl : p.steps.length ≤ 1000
 gl : p.given.length ≤ 2000000
theorem PK.st {p : Ply} (h : PK p) {i : Nat} (hi : i < p.steps.length) : ∃ k,StpOk p.c p.steps[i] k := by
 obtain ⟨k,_,hk⟩ := h.inv
 exact ⟨k,hk.sts _ (List.getElem_mem hi)⟩
theorem top_start (s : List Int) (l : List (List Int)) (hs : s.length = 16 ∧ ∀ z ∈ s,InR z) (hl : l.length ≤ Go.maxLen) (hr : ∀ r ∈ l,r.length = 4 ∧ ∀ z ∈ r,InR z) :
  ∃ p : Ply,PK p ∧ HF Tryz.prog 23 [.agg (s.map I),.rows 4 (l.map fun r => r.map I),I 60] [] 0 (fun d H' nx' => d = .tup [.ptr 0 0,.bool true] ∧ H' = p.H 1 2 ∧ nx' = 3) := by
 obtain ⟨c,hc,_,hpl⟩ := played_hf s l 60 hs hl hr (by omega)
 have hP := deeds_PR (play4_PR hc) (l.take 60) (l.take 60).length (Nat.le_refl _) (by rw [List.length_take];omega)
 rw [List.take_length] at hP
 have hlt : (l.take 60).length ≤ 60 := by rw [List.length_take];omega
 refine ⟨playedM c l 60,⟨?_,⟨_,?_,hP.inv⟩,?_,?_⟩,hpl⟩
 ·have h1 := hP.inv.cfg
  have h2 := hP.inv.rest.mid.c
  rw [h1] at h2;exact h2
 ·omega
 ·have := hP.sl;unfold playedM;omega
 ·have := hP.gl;unfold playedM;omega
end Go.Proofs.YtibemmkfcjlmpaaGreat
namespace Go.Proofs.YtibemmkfcjlmpaaGreat
open Go.RowKit
attribute [local simp] AK_at acode_seq acode_region acode_draw acode_cond CB_u acode_block acode_loop acode_exit acode_scope acode_ret acode_skip seqQ_n seqQ_e seqQ_r blockQ_n blockQ_e blockQ_r TK_at OK_at SK_at aops_nil aops_cons asch_done asch_one asch_two asch_top astep aop_eq isLoud aloud aloud1 isWrite qv evS strip gof eget hget putO eput herase oks opnds gS afin afin0 binD arith D.cells takeD fillD keep trim envOf Fin aresl aresv resD argOk pickV isP deq deqs boundD slD lenD isT isSl ptrIds chunks mn_min mx_max splice_one splice_more Rbr_at Rfr_at frR frV frC flatC brwR brwV brwC omap leR leV leC leL leVL rnR rnV rnC rnO rho_0 hputs herases rnS LtS LtR LtV LtC LtO lget noV noC flatR flatV rho
attribute [local simp ↓] CB_t CB_f
theorem tdue_code : cfun Tryz.prog [] 11 = some ⟨(.seq (qR 0 [oB 2 0,oX 4 (.mov (.k qF))]) (.seq (qR 1 [oA 13 16 2,oM 14 1,oX 15 (.call 23 [(.t 13),(.t 14),(kI 60)]),oM 12 15,oE 16 12 0,oE 17 12 1,oM 5 16,oM 6 17]) (.seq (.seq (qR 2 [oK 7 0]) (.block 0 (.loop (.seq (.seq (qR 3 [oM 18 7,oM 19 5,oN 20 19,oF 21 16 20,oL 22 1 21,oH 23 22,oX 24 (.bin .lss (.t 18) (.t 23))]) (.cond 24 .skip (.exit 0))) (.seq (.block 1 (.seq (qR 5 [oM 27 5,oN 28 27,oF 29 16 28,oL 30 1 29,oM 31 7,oI 32 61 30 31,oF 33 34 32,oA 34 26 33,oX 8 (.alloc [qZ,qZ,qZ,qZ,qZ,qZ,qZ,qZ,qZ,qZ,qZ,qZ,qZ,qZ,qZ,qZ,qZ,.nil0,.nil0,.nil0,.nil0,.nil0,.nil0,qZ,qZ,.nil0]),oS 26 8 34]) (.seq (qR 6 [oK 9 0]) (.block 2 (.loop (.seq (.seq (qR 7 [oM 35 9,oF 36 18 8,oL 37 1 36,oH 38 37,oX 39 (.bin .lss (.t 35) (.t 38))]) (.cond 39 .skip (.exit 2))) (.seq (.block 3 (.seq (qR 9 [oF 42 18 8,oL 43 1 42,oM 44 9,oI 45 7 43 44,oA 46 7 45,oX 10 (.alloc [qZ,qZ,qZ,qZ,qF,qZ,qZ]),oS 7 10 46]) (.seq (qR 10 [oM 47 5,oN 48 47,oF 49 0 48,oF 50 7 49,oL 51 1 50,oM 11 51]) (.seq (.seq (qR 11 [oF 52 4 10,oL 53 1 52]) (.cond 53 (qR 12 [oM 54 5,oN 55 54,oF 56 0 55,oF 57 6 56,oL 58 1 57,oM 11 58]) .skip)) (.seq (.draw 13 (qN (oF 59 6 10) (qN (oL 60 1 59) (qN (oF 61 16 8) (qN (oL 62 1 61) (qN (oX 63 (.bin .leq (.t 60) (.t 62))) (qN (oM 64 63) (qN (oG 65 (.fad 6 (.t 10)) 64 false) (qN (oG 66 (.load false 1 (.t 65)) 64 false) (qN (oG 67 (.fad 16 (.t 8)) 64 false) (qN (oG 68 (.load false 1 (.t 67)) 64 false) (qN (oG 69 (.mov (.t 11)) 64 false) (qN (oG 70 (.bin .add (.t 68) (.t 69)) 64 false) (qN (oG 71 (.bin .gtr (.t 66) (.t 70)) 64 false) (qN (oX 72 (.pick (.t 64) (.k qT) (.t 71))) (qN (oM 73 72) (qN (oG 74 (.fad 5 (.t 10)) 73 false) (qN (oG 75 (.load false 1 (.t 74)) 73 false) (qN (oG 76 (.mov (.t 5)) 73 false) (qN (oG 77 (.nchk (.t 76)) 73 false) (qN (oG 78 (.fad 0 (.t 77)) 73 false) (qN (oG 79 (.fad 8 (.t 78)) 73 false) (qN (oG 80 (.load false 1 (.t 79)) 73 false) (qN (oG 81 (.bin .gtr (.t 75) (.t 80)) 73 false) (qN (oX 82 (.pick (.t 73) (.k qT) (.t 81))) .done))))))))))))))))))))))))) (.cond 82 (.seq (qR 14 [oX 4 (.mov (.k qF))]) .ret) .skip)))))) (qR 8 [oM 40 9,oX 41 (.bin .add (.t 40) (kI 1)),oM 9 41])))))))) (qR 4 [oM 25 7,oX 26 (.bin .add (.t 25) (kI 1)),oM 7 26])))))) (.seq (qR 15 [oM 83 6,oM 4 83]) .ret)))),[(.t 4)],84⟩ := by kernel_rfl
theorem tdue_pf (s : List Int) (l : List (List Int)) (hs : s.length = 16 ∧ ∀ z ∈ s,InR z) (hl : l.length ≤ Go.maxLen) (hr : ∀ r ∈ l,r.length = 4 ∧ ∀ z ∈ r,InR z) :
  PF Tryz.prog 11 [.agg (s.map I),.rows 4 (l.map fun r => r.map I)] (.bool true) := by
 obtain ⟨p,hK,hpl⟩ := top_start s l hs hl hr
 obtain ⟨a0,a1,a2,a3,a4,a5,a6,a7,a8,a9,a10,a11,a12,a13,a14,a15,rfl⟩ := sixteen hs.1
 obtain ⟨P,hP⟩ : ∃ P,P = p.P := ⟨_,rfl⟩
 have hP' := hP
 simp only [Ply.P,Ply.cells,Cfg.D,Gt.W,Gt.cells,List.cons_append,List.nil_append] at hP'
 simp only [Ply.H,Ply.cells,Cfg.D,Gt.W,Gt.cells,List.cons_append,List.nil_append] at hpl
 refine pO tdue_code [0,1,2,4,5,6,7,8,9,10,11,24,39,53,82] [2] fun B hBN hB0 => ?_
 simp
 refine WCall.hf0 hpl (by simp) (by simp) (by simp) (by simp) ?_
 rintro d H' nx' ⟨rfl,rfl,rfl⟩
 simp
 refine W.freeze [1,2,3] ?_
 simp [freeze,hkeep,hdrop,fzS,fzR,fzV,fzC,fzO]
 rw [← hP']
 clear hpl hs hr hl
 refine acode_sound [0,1,2,4,5,6,7,8,9,10,11,24,39,53,82] [] _ _ _ ?_
 simp
 refine W.loopS (fun y : Nat => ⟨[(7,I y),(6,.bool true),(5,.pc P)],[],0⟩)
  (fun m i => m = p.steps.length - i ∧ i ≤ p.steps.length) ?_ ?_
 ·exact ⟨_,0,(gr0 [] hB0 (by simp) (by simp) (.inr rfl)),rfl,by omega⟩
 rintro m i ⟨hm,hi⟩
 refine acode_sound [0,1,2,4,5,6,7,8,9,10,11,24,39,53,82] [] _ _ _ ?_
 by_cases hlt : i < p.steps.length
 ·have ii : InR ((i : Int) + 1) := inW (by have := hK.sl;omega) (by have := hK.sl;omega)
  obtain ⟨kk,hst⟩ := hK.st hlt
  obtain ⟨x,hx⟩ : ∃ x,x = p.steps[i] := ⟨_,rfl⟩
  rw [← hx] at hst
  obtain ⟨n,hn,hr1,hr2⟩ := hst.facts
  have hdue := hst.due
  have hfl40 : x.after.fl.length ≤ 1000000 := by
   rw [hst.after]
   have := fl_le hr2.mid.fs
   have := hr2.mid.tok.2.1
   show (x.before.step x.ev).fl.length ≤ _
   omega
  have hnow : 0 ≤ x.after.now ∧ x.after.now ≤ 1000000 := by
   rw [hst.after]
   have h1 := hr2.mid.n0
   have h2 := hr2.mid.n1
   have h3 := hr2.mid.nn
   show 0 ≤ (x.before.step x.ev).now ∧ (x.before.step x.ev).now ≤ _
   omega
  have w6 := hK.c.w6
  have w7 := hK.c.w7
  simp [hP',hlt,← hx,Stp.D,Evt.D,Gt.W,Gt.cells]
  rw [← hP']
  refine W.loopS (fun y : Nat => ⟨[(9,I y),(8,.ptr 0 0),(7,I i),(6,.bool true),(5,.pc P)],[(0,.cells x.after.W)],1⟩)
   (fun m k => m = x.after.fl.length - k ∧ k ≤ x.after.fl.length) ?_ ?_
  ·exact ⟨_,0,(gr0 [0] hB0 (by simp [Gt.W,Gt.cells]) (by simp [Gt.W,Gt.cells]) (.inl (by simp [Gt.W,Gt.cells]))),rfl,by omega⟩
  rintro m2 k ⟨hm2,hk⟩
  refine acode_sound [0,1,2,4,5,6,7,8,9,10,11,24,39,53,82] [] _ _ _ ?_
  (try dsimp only)
  by_cases hlt2 : k < x.after.fl.length
  ·have hd := hdue _ (List.getElem_mem hlt2)
   obtain ⟨f,hf⟩ : ∃ f,f = x.after.fl[k] := ⟨_,rfl⟩
   rw [← hf] at hd
   obtain ⟨d1,d2,d3⟩ := hd
   have ik : InR ((k : Int) + 1) := inW (by omega) (by omega)
   have n1 : ¬ f.due ≤ x.after.now := by omega
   have n3 : ¬ p.c.c8 < f.tries := by omega
   cases hsv : f.serving with
   | true =>
    rw [hsv,if_pos rfl] at d2
    have n2 : ¬ x.after.now + p.c.c6 < f.due := by omega
    have is : InR (x.after.now + p.c.c6) := inW (by omega) (by omega)
    simp [hP',hlt2,← hf,Flw.D,Gt.W,Gt.cells,hsv,n1,n2,n3,is,ik]
    rw [← hP']
    exact ⟨_,k + 1,(gr0 [0] hB0 (by simp [Gt.W,Gt.cells]) (by simp [Gt.W,Gt.cells]) (.inl (by simp [Gt.W,Gt.cells]))),by omega,rfl,by omega⟩
   | false =>
    rw [hsv,if_neg (by simp)] at d2
    have n2 : ¬ x.after.now + p.c.c7 < f.due := by omega
    have is : InR (x.after.now + p.c.c7) := inW (by omega) (by omega)
    simp [hP',hlt2,← hf,Flw.D,Gt.W,Gt.cells,hsv,n1,n2,n3,is,ik]
    rw [← hP']
    exact ⟨_,k + 1,(gr0 [0] hB0 (by simp [Gt.W,Gt.cells]) (by simp [Gt.W,Gt.cells]) (.inl (by simp [Gt.W,Gt.cells]))),by omega,rfl,by omega⟩
  ·obtain rfl : k = x.after.fl.length := by omega
   simp [Gt.W,Gt.cells,ii]
   exact ⟨_,i + 1,(gr0 [] hB0 (by simp) (by simp) (.inr rfl)),by omega,rfl,by omega⟩
 ·obtain rfl : i = p.steps.length := by omega
  simp [hP']
end Go.Proofs.YtibemmkfcjlmpaaGreat
