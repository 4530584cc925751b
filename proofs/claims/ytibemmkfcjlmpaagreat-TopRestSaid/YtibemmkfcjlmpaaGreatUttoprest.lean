/- What the program computes, step by step, and the rules for it. No condition of its own. -/
import Derived.Test.YtibemmkfcjlmpaaGreatUae
set_option linter.unusedSimpArgs false
set_option linter.unusedVariables false
set_option maxRecDepth 100000
set_option maxHeartbeats 8000000
namespace Go.Proofs.YtibemmkfcjlmpaaGreat
open Go.RowKit
theorem P_rest {g : Gt} {n : Nat} (h : Rest g n) (h0 : g.out = []) {e : Evt} (hk : e.kind = 7) (hn : n + 1 ≤ 1000000) :
  ((∃ f ∈ g.fl,f.due = g.now + 1) ∨ (∃ x ∈ g.L,x.state = 3 ∧ x.til = g.now + 1)) ↔ (g.step e).out ≠ [] := by
 have hst : g.step e = g.tick := by unfold Gt.step;rw [if_neg (by omega),if_neg (by omega),if_pos hk]
 rw [hst]
 obtain ⟨o,h1,h2⟩ := tick_mv h hn
 rw [h1,h2.out]
 show _ ↔ g.out ++ o ≠ []
 rw [h0];rfl
theorem StpOk.facts {c : Cfg} {s : Stp} {k : Nat} (h : StpOk c s k) : ∃ n,n + 1 ≤ 1000000 ∧ Rest s.before n ∧ Rest (s.before.step s.ev) (n + 1) := by
 obtain ⟨n,hn,hr⟩ := h.ex
 have := h.kk
 exact ⟨n,by omega,hr,hr.step h.ev.ok (by omega)⟩
structure PK (p : Ply) : Prop where
 c : p.c.Ok
 inv : ∃ k,k ≤ 1000 ∧ PV p k
 sl : p.steps.length ≤ 1000
 gl : p.given.length ≤ 2000000
theorem PK.st {p : Ply} (h : PK p) {i : Nat} (hi : i < p.steps.length) : ∃ k,StpOk p.c p.steps[i] k := by
 obtain ⟨k,_,hk⟩ := h.inv
 exact ⟨k,hk.sts _ (List.getElem_mem hi)⟩
theorem top_start (s : List Int) (l : List (List Int)) (hs : s.length = 16 ∧ ∀ z ∈ s,InR z) (hl : l.length ≤ Go.maxLen) (hr : ∀ r ∈ l,r.length = 4 ∧ ∀ z ∈ r,InR z) :
  ∃ p : Ply,PK p ∧ HF Tryz.prog 23 [.agg (s.map I),.rows 4 (l.map fun r => r.map I),I 60] [] 0 (fun d H' nx' => d = .tup [.ptr 0 0,.bool true] ∧ H' = p.H 1 2 ∧ nx' = 3) := by
 obtain ⟨c,hc,_,hpl⟩ := played_hf s l 60 hs hl hr (by omega)
 have hP := deeds_PR (play4_PR hc) (l.take 60) (l.take 60).length (Nat.le_refl _) (by rw [List.length_take];omega)
 rw [List.take_length] at hP
 have hlt : (l.take 60).length ≤ 60 := by rw [List.length_take];omega
 refine ⟨playedM c l 60,⟨?_,⟨_,?_,hP.inv⟩,?_,?_⟩,hpl⟩
 ·have h1 := hP.inv.cfg
  have h2 := hP.inv.rest.mid.c
  rw [h1] at h2;exact h2
 ·omega
 ·have := hP.sl;unfold playedM;omega
 ·have := hP.gl;unfold playedM;omega
end Go.Proofs.YtibemmkfcjlmpaaGreat
namespace Go.Proofs.YtibemmkfcjlmpaaGreat
open Go.RowKit
attribute [local simp] AK_at acode_seq acode_region acode_draw acode_cond CB_u acode_block acode_loop acode_exit acode_scope acode_ret acode_skip seqQ_n seqQ_e seqQ_r blockQ_n blockQ_e blockQ_r TK_at OK_at SK_at aops_nil aops_cons asch_done asch_one asch_two asch_top astep aop_eq isLoud aloud aloud1 isWrite qv evS strip gof eget hget putO eput herase oks opnds gS afin afin0 binD arith D.cells takeD fillD keep trim envOf Fin aresl aresv resD argOk pickV isP deq deqs boundD slD lenD isT isSl ptrIds chunks mn_min mx_max splice_one splice_more Rbr_at Rfr_at frR frV frC flatC brwR brwV brwC omap leR leV leC leL leVL rnR rnV rnC rnO rho_0 hputs herases rnS LtS LtR LtV LtC LtO lget noV noC flatR flatV rho
attribute [local simp ↓] CB_t CB_f
def dueF (fl : List Flw) (nw : Int) (k : Nat) : Bool := (fl.take k).any fun f => decide (f.due = nw)
def dueL (L : List Lif) (nw : Int) (k : Nat) : Bool := (L.take k).any fun x => decide (x.state = 3 ∧ x.til = nw)
theorem dueF_s (fl : List Flw) (nw : Int) (k : Nat) (h : k < fl.length) : dueF fl nw (k + 1) = (dueF fl nw k || decide (fl[k].due = nw)) := by
 unfold dueF;rw [List.take_succ_eq_append_getElem h,List.any_append];simp
theorem dueL_s (L : List Lif) (nw : Int) (k : Nat) (h : k < L.length) : dueL L nw (k + 1) = (dueL L nw k || decide (L[k].state = 3 ∧ L[k].til = nw)) := by
 unfold dueL;rw [List.take_succ_eq_append_getElem h,List.any_append];simp
theorem due_all (fl : List Flw) (L : List Lif) (nw : Int) : (dueF fl nw fl.length || dueL L nw L.length) = decide ((∃ f ∈ fl,f.due = nw) ∨ ∃ y ∈ L,y.state = 3 ∧ y.til = nw) := by
 unfold dueF dueL
 rw [List.take_length,List.take_length,Bool.eq_iff_iff]
 simp [List.any_eq_true]
theorem tres_code : cfun Tryz.prog [] 13 = some ⟨(.seq (qR 0 [oB 2 0,oX 4 (.mov (.k qF))]) (.seq (qR 1 [oA 14 16 2,oM 15 1,oX 16 (.call 23 [(.t 14),(.t 15),(kI 60)]),oM 13 16,oE 17 13 0,oE 18 13 1,oM 5 17,oM 6 18]) (.seq (.seq (qR 2 [oK 7 0]) (.block 0 (.loop (.seq (.seq (qR 3 [oM 19 7,oM 20 5,oN 21 20,oF 22 16 21,oL 23 1 22,oH 24 23,oX 25 (.bin .lss (.t 19) (.t 24))]) (.cond 25 .skip (.exit 0))) (.seq (.block 1 (.seq (qR 5 [oM 28 5,oN 29 28,oF 30 16 29,oL 31 1 30,oM 32 7,oI 33 61 31 32,oA 34 61 33,oX 8 (.alloc [qZ,qZ,qZ,qZ,qF,qZ,qZ,qZ,qZ,qZ,qZ,qZ,qZ,qZ,qZ,qZ,qZ,qZ,qZ,qZ,qZ,qZ,qZ,qZ,qZ,.nil0,.nil0,.nil0,.nil0,.nil0,.nil0,qZ,qZ,.nil0,qZ,qZ,qZ,qZ,qZ,qZ,qZ,qZ,qZ,qZ,qZ,qZ,qZ,qZ,qZ,qZ,qZ,.nil0,.nil0,.nil0,.nil0,.nil0,.nil0,qZ,qZ,.nil0,.nil0]),oS 61 8 34]) (.seq (.seq (qR 6 [oF 35 0 8,oF 36 0 35,oL 37 1 36,oX 38 (.bin .neq (.t 37) (kI 7))]) (.cond 38 (.exit 1) .skip)) (.seq (qR 7 [oX 9 (.mov (.k qF))]) (.seq (.seq (qR 8 [oK 10 0]) (.block 2 (.loop (.seq (.seq (qR 9 [oM 39 10,oF 40 8 8,oF 41 18 40,oL 42 1 41,oH 43 42,oX 44 (.bin .lss (.t 39) (.t 43))]) (.cond 44 .skip (.exit 2))) (.seq (.block 3 (.draw 11 (qN (oM 47 9) (qN (oM 48 47) (qN (oG 49 (.fad 8 (.t 8)) 48 false) (qN (oG 50 (.fad 18 (.t 49)) 48 false) (qN (oG 51 (.load false 1 (.t 50)) 48 false) (qN (oG 52 (.mov (.t 10)) 48 false) (qN (oG 53 (.iads 7 (.t 51) (.t 52)) 48 false) (qN (oG 54 (.fad 6 (.t 53)) 48 false) (qN (oG 55 (.load false 1 (.t 54)) 48 false) (qN (oG 56 (.fad 34 (.t 8)) 48 false) (qN (oG 57 (.fad 16 (.t 56)) 48 false) (qN (oG 58 (.load false 1 (.t 57)) 48 false) (qN (oG 59 (.bin .eql (.t 55) (.t 58)) 48 false) (qN (oX 60 (.pick (.t 48) (.k qT) (.t 59))) (qN (oM 9 60) .done))))))))))))))))) (qR 10 [oM 45 10,oX 46 (.bin .add (.t 45) (kI 1)),oM 10 46])))))) (.seq (.seq (qR 12 [oK 11 0]) (.block 4 (.loop (.seq (.seq (qR 13 [oM 61 11,oF 62 8 8,oF 63 19 62,oF 64 0 63,oL 65 1 64,oH 66 65,oX 67 (.bin .lss (.t 61) (.t 66))]) (.cond 67 .skip (.exit 4))) (.seq (.block 5 (.seq (qR 15 [oF 70 8 8,oF 71 19 70,oF 72 0 71,oL 73 1 72,oM 74 11,oI 75 6 73 74,oA 76 6 75,oX 12 (.alloc [qZ,qZ,qZ,qZ,qZ,qZ]),oS 6 12 76]) (qR 16 [oM 77 9,oM 78 77,oG 79 (.fad 1 (.t 12)) 78 false,oG 80 (.load false 1 (.t 79)) 78 false,oG 81 (.bin .eql (.t 80) (kI 3)) 78 false,oG 82 (.mov (.t 81)) 78 false,oG 83 (.fad 4 (.t 12)) 82 true,oG 84 (.load false 1 (.t 83)) 82 true,oG 85 (.fad 34 (.t 8)) 82 true,oG 86 (.fad 16 (.t 85)) 82 true,oG 87 (.load false 1 (.t 86)) 82 true,oG 88 (.bin .eql (.t 84) (.t 87)) 82 true,oG 89 (.pick (.t 82) (.t 88) (.k qF)) 78 false,oX 90 (.pick (.t 78) (.k qT) (.t 89)),oM 9 90]))) (qR 14 [oM 68 11,oX 69 (.bin .add (.t 68) (kI 1)),oM 11 69])))))) (.seq (qR 17 [oM 91 9,oF 92 60 8,oL 93 1 92,oH 94 93,oX 95 (.bin .gtr (.t 94) (kI 0)),oX 96 (.eqb true (.t 91) (.t 95))]) (.cond 96 (.seq (qR 18 [oX 4 (.mov (.k qF))]) .ret) .skip)))))))) (qR 4 [oM 26 7,oX 27 (.bin .add (.t 26) (kI 1)),oM 7 27])))))) (.seq (qR 19 [oM 97 6,oM 4 97]) .ret)))),[(.t 4)],98⟩ := by kernel_rfl
theorem tres_pf (s : List Int) (l : List (List Int)) (hs : s.length = 16 ∧ ∀ z ∈ s,InR z) (hl : l.length ≤ Go.maxLen) (hr : ∀ r ∈ l,r.length = 4 ∧ ∀ z ∈ r,InR z) :
  PF Tryz.prog 13 [.agg (s.map I),.rows 4 (l.map fun r => r.map I)] (.bool true) := by
 obtain ⟨p,hK,hpl⟩ := top_start s l hs hl hr
 obtain ⟨a0,a1,a2,a3,a4,a5,a6,a7,a8,a9,a10,a11,a12,a13,a14,a15,rfl⟩ := sixteen hs.1
 obtain ⟨P,hP⟩ : ∃ P,P = p.P := ⟨_,rfl⟩
 have hP' := hP
 simp only [Ply.P,Ply.cells,Cfg.D,Gt.W,Gt.cells,List.cons_append,List.nil_append] at hP'
 simp only [Ply.H,Ply.cells,Cfg.D,Gt.W,Gt.cells,List.cons_append,List.nil_append] at hpl
 refine pO tres_code [0,1,2,4,5,6,7,8,9,10,11,12,25,38,44,67,96] [2] fun B hBN hB0 => ?_
 simp
 refine WCall.hf0 hpl (by simp) (by simp) (by simp) (by simp) ?_
 rintro d H' nx' ⟨rfl,rfl,rfl⟩
 simp
 refine W.freeze [1,2,3] ?_
 simp [freeze,hkeep,hdrop,fzS,fzR,fzV,fzC,fzO]
 rw [← hP']
 clear hpl hs hr hl
 refine acode_sound [0,1,2,4,5,6,7,8,9,10,11,12,25,38,44,67,96] [] _ _ _ ?_
 simp
 refine W.loopS (fun y : Nat => ⟨[(7,I y),(6,.bool true),(5,.pc P)],[],0⟩)
  (fun m i => m = p.steps.length - i ∧ i ≤ p.steps.length) ?_ ?_
 ·exact ⟨_,0,(gr0 [] hB0 (by simp) (by simp) (.inr rfl)),rfl,by omega⟩
 rintro m i ⟨hm,hi⟩
 refine acode_sound [0,1,2,4,5,6,7,8,9,10,11,12,25,38,44,67,96] [] _ _ _ ?_
 by_cases hlt : i < p.steps.length
 ·have ii : InR ((i : Int) + 1) := inW (by have := hK.sl;omega) (by have := hK.sl;omega)
  obtain ⟨kk,hst⟩ := hK.st hlt
  obtain ⟨x,hx⟩ : ∃ x,x = p.steps[i] := ⟨_,rfl⟩
  rw [← hx] at hst
  obtain ⟨n,hn,hr1,hr2⟩ := hst.facts
  have hll := hr1.mid.bk.ll
  have hfl40 : x.before.fl.length ≤ 1000000 := by have := fl_le hr1.mid.fs;have := hr1.mid.tok.2.1;omega
  by_cases k7 : x.ev.kind = 7
  ·have hrest := P_rest hr1 hst.lo k7 hn
   rw [← hst.out] at hrest
   have hnow : x.after.now = x.before.now + 1 := by
    rw [hst.after]
    have e2 : x.before.step x.ev = x.before.tick := by unfold Gt.step;rw [if_neg (by omega),if_neg (by omega),if_pos k7]
    show (x.before.step x.ev).now = _
    rw [e2]
    obtain ⟨_,_,hmv⟩ := tick_mv hr1 hn
    exact hmv.now
   rw [← hnow] at hrest
   obtain ⟨nw,hnw⟩ : ∃ nw,nw = x.after.now := ⟨_,rfl⟩
   rw [← hnw] at hrest
   simp [hP',hlt,← hx,Stp.D,Evt.D,Gt.W,Gt.cells,k7]
   rw [← hP']
   refine W.loopS (fun y : Nat => ⟨[(10,I y),(9,.bool (dueF x.before.fl nw y)),(8,.ptr 0 0),(7,I i),(6,.bool true),(5,.pc P)],[(0,.cells x.D)],1⟩)
    (fun m k => m = x.before.fl.length - k ∧ k ≤ x.before.fl.length) ?_ ?_
   ·exact ⟨_,0,(gr0 [0] hB0 (by simp [Stp.D,Evt.D,Gt.W,Gt.cells,k7,dueF]) (by simp [Stp.D,Evt.D,Gt.W,Gt.cells,k7,dueF]) (.inl (by simp [Stp.D,Evt.D,Gt.W,Gt.cells,k7,dueF]))),rfl,by omega⟩
   rintro m2 k ⟨hm2,hk⟩
   refine acode_sound [0,1,2,4,5,6,7,8,9,10,11,12,25,38,44,67,96] [] _ _ _ ?_
   (try dsimp only)
   by_cases hlt2 : k < x.before.fl.length
   ·have hs := dueF_s x.before.fl nw k hlt2
    obtain ⟨f,hf⟩ : ∃ f,f = x.before.fl[k] := ⟨_,rfl⟩
    rw [← hf] at hs
    have ik : InR ((k : Int) + 1) := inW (by omega) (by omega)
    cases hd : dueF x.before.fl nw k with
    | true =>
     rw [hd,Bool.true_or] at hs
     simp [hlt2,← hf,Flw.D,Stp.D,Evt.D,Gt.W,Gt.cells,ik,← hnw]
     exact ⟨_,k + 1,(gr0 [0] hB0 (by simp [Stp.D,Evt.D,Gt.W,Gt.cells,hs,← hnw]) (by simp [Stp.D,Evt.D,Gt.W,Gt.cells,hs,← hnw]) (.inl (by simp [Stp.D,Evt.D,Gt.W,Gt.cells,hs,← hnw]))),by omega,rfl,by omega⟩
    | false =>
     rw [hd,Bool.false_or] at hs
     simp [hlt2,← hf,Flw.D,Stp.D,Evt.D,Gt.W,Gt.cells,ik,← hnw]
     exact ⟨_,k + 1,(gr0 [0] hB0 (by simp [Stp.D,Evt.D,Gt.W,Gt.cells,hs,← hnw]) (by simp [Stp.D,Evt.D,Gt.W,Gt.cells,hs,← hnw]) (.inl (by simp [Stp.D,Evt.D,Gt.W,Gt.cells,hs,← hnw]))),by omega,rfl,by omega⟩
   obtain rfl : k = x.before.fl.length := by omega
   simp [Stp.D,Evt.D,Gt.W,Gt.cells]
   refine W.loopS (fun y : Nat => ⟨[(11,I y),(9,.bool (dueF x.before.fl nw x.before.fl.length || dueL x.before.L nw y)),(8,.ptr 0 0),(7,I i),(6,.bool true),(5,.pc P)],[(0,.cells x.D)],1⟩)
    (fun m k => m = x.before.L.length - k ∧ k ≤ x.before.L.length) ?_ ?_
   ·exact ⟨_,0,(gr0 [0] hB0 (by simp [Stp.D,Evt.D,Gt.W,Gt.cells,dueL]) (by simp [Stp.D,Evt.D,Gt.W,Gt.cells,dueL]) (.inl (by simp [Stp.D,Evt.D,Gt.W,Gt.cells,dueL]))),rfl,by omega⟩
   clear hm2 hk hlt2 m2
   rintro m2 k ⟨hm2,hk⟩
   refine acode_sound [0,1,2,4,5,6,7,8,9,10,11,12,25,38,44,67,96] [] _ _ _ ?_
   (try dsimp only)
   by_cases hlt2 : k < x.before.L.length
   ·have hs := dueL_s x.before.L nw k hlt2
    obtain ⟨f,hf⟩ : ∃ f,f = x.before.L[k] := ⟨_,rfl⟩
    rw [← hf] at hs
    have ik : InR ((k : Int) + 1) := inW (by omega) (by omega)
    generalize dueF x.before.fl nw x.before.fl.length = B1
    cases hd : (B1 || dueL x.before.L nw k) with
    | true =>
     have hs2 : (B1 || dueL x.before.L nw (k + 1)) = true := by rw [hs,← Bool.or_assoc,hd];rfl
     simp [hlt2,← hf,Lif.D,Stp.D,Evt.D,Gt.W,Gt.cells,ik,← hnw]
     exact ⟨_,k + 1,(gr0 [0] hB0 (by simp [Stp.D,Evt.D,Gt.W,Gt.cells,hs2,← hnw]) (by simp [Stp.D,Evt.D,Gt.W,Gt.cells,hs2,← hnw]) (.inl (by simp [Stp.D,Evt.D,Gt.W,Gt.cells,hs2,← hnw]))),by omega,rfl,by omega⟩
    | false =>
     have hs2 : (B1 || dueL x.before.L nw (k + 1)) = decide (f.state = 3 ∧ f.til = nw) := by rw [hs,← Bool.or_assoc,hd,Bool.false_or]
     by_cases s3 : f.state = 3
     ·have hs3 : (B1 || dueL x.before.L nw (k + 1)) = decide (f.til = nw) := by rw [hs2];simp [s3]
      simp [hlt2,← hf,Lif.D,Stp.D,Evt.D,Gt.W,Gt.cells,s3,ik,← hnw]
      exact ⟨_,k + 1,(gr0 [0] hB0 (by simp [Stp.D,Evt.D,Gt.W,Gt.cells,hs3,← hnw]) (by simp [Stp.D,Evt.D,Gt.W,Gt.cells,hs3,← hnw]) (.inl (by simp [Stp.D,Evt.D,Gt.W,Gt.cells,hs3,← hnw]))),by omega,rfl,by omega⟩
     ·have hs3 : (B1 || dueL x.before.L nw (k + 1)) = false := by rw [hs2];simp [s3]
      simp [hlt2,← hf,Lif.D,Stp.D,Evt.D,Gt.W,Gt.cells,s3,ik,← hnw]
      exact ⟨_,k + 1,(gr0 [0] hB0 (by simp [Stp.D,Evt.D,Gt.W,Gt.cells,hs3,← hnw]) (by simp [Stp.D,Evt.D,Gt.W,Gt.cells,hs3,← hnw]) (.inl (by simp [Stp.D,Evt.D,Gt.W,Gt.cells,hs3,← hnw]))),by omega,rfl,by omega⟩
   obtain rfl : k = x.before.L.length := by omega
   have hB : (dueF x.before.fl nw x.before.fl.length || dueL x.before.L nw x.before.L.length) = decide (0 < x.out.length) := by
    rw [due_all]
    by_cases ho : x.out = []
    ·have h1 : ¬ ((∃ f ∈ x.before.fl,f.due = nw) ∨ ∃ y ∈ x.before.L,y.state = 3 ∧ y.til = nw) := fun h => (hrest.1 h) ho
     rw [decide_eq_false h1,ho];rfl
    ·rw [decide_eq_true (hrest.2 ho),decide_eq_true (List.length_pos_iff.2 ho)]
   rw [hB]
   simp [Stp.D,Evt.D,Gt.W,Gt.cells,ii]
   exact ⟨_,i + 1,(gr0 [] hB0 (by simp) (by simp) (.inr rfl)),by omega,rfl,by omega⟩
  ·simp [hP',hlt,← hx,Stp.D,Evt.D,Gt.W,Gt.cells,k7,ii]
   rw [← hP']
   exact ⟨_,i + 1,(gr0 [] hB0 (by simp) (by simp) (.inr rfl)),by omega,rfl,by omega⟩
 ·obtain rfl : i = p.steps.length := by omega
  simp [hP']
end Go.Proofs.YtibemmkfcjlmpaaGreat
