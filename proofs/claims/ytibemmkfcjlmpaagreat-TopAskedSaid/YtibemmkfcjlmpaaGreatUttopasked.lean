/- What the program computes, step by step, and the rules for it. No condition of its own. -/
import Derived.Test.YtibemmkfcjlmpaaGreatUae
set_option linter.unusedSimpArgs false
set_option linter.unusedVariables false
set_option maxRecDepth 100000
set_option maxHeartbeats 8000000
namespace Go.Proofs.YtibemmkfcjlmpaaGreat
open Go.RowKit
theorem P_asked {g : Gt} {n : Nat} (h : Rest g n) (h0 : g.out = []) {e : Evt} (he : EvtOk e) (hk : e.kind = 5 ∨ e.kind = 6) :
  ∃ c t,(g.step e).out = ⟨8,0,0,0,e.req,c,0⟩ :: t ∧ ((g.step e).R.length ≠ g.R.length →
   c = (if e.kind = 5 then (if stateM g.L e.backend ≠ 0 ∧ stateM g.L e.backend ≠ 4 then 7 else 0) else if stateM g.L e.backend = 0 ∨ stateM g.L e.backend = 4 then 8 else if stateM g.L e.backend = 3 then 12 else 0) ∧
   (c ≠ 0 → stateM (g.step e).L e.backend = stateM g.L e.backend)) := by
 have hst : g.step e = g.ask e := by unfold Gt.step;rw [if_neg (by omega),if_pos hk]
 rw [hst]
 have hb := h.mid.bk
 have hw := he.2.2.2.2.2.2.2.2
 have hb0 := he.2.2.2.2.2.2.1
 have hb1 := he.2.2.2.2.2.2.2.1
 have hR : (g.ask e).R = (askM g.L g.R (reqOf e) g.now g.c.c5).R := by
  unfold Gt.ask
  simp only
  split
  ·rfl
  ·split
   ·rfl
   ·unfold Gt.spared;split <;> rfl
 have hO : ∃ t,(g.ask e).out = ⟨8,0,0,0,e.req,(askM g.L g.R (reqOf e) g.now g.c.c5).answer,0⟩ :: t := by
  unfold Gt.ask
  simp only [h0,List.nil_append]
  split
  ·exact ⟨_,rfl⟩
  ·split
   ·exact ⟨_,rfl⟩
   ·unfold Gt.spared;split <;> exact ⟨_,rfl⟩
 have hL : (askM g.L g.R (reqOf e) g.now g.c.c5).answer ≠ 0 → (g.ask e).L = (askM g.L g.R (reqOf e) g.now g.c.c5).L := fun ha => by
  unfold Gt.ask
  simp only
  rw [if_pos (.inr (.inl ha))]
 obtain ⟨t,ht⟩ := hO
 refine ⟨_,t,ht,?_⟩
 rw [hR]
 intro hne
 have hstate : findM g.L e.backend < 0 → stateM g.L e.backend = 0 := fun hf => by
  have hn := findM_neg hf
  rcases life_cases g.L e.backend with ⟨y,hy,e1,_⟩ | ⟨_,e1⟩
  ·exact absurd e1 (hn y hy)
  ·unfold stateM;rw [e1];rfl
 have hfound : ¬ findM g.L e.backend < 0 → g.L.getD (findM g.L e.backend).toNat default = lifeM g.L e.backend ∧ 1 ≤ stateM g.L e.backend ∧ stateM g.L e.backend ≤ 4 := fun hf => by
  obtain ⟨h1,h2,h3⟩ := findM_at (by omega : 0 ≤ findM g.L e.backend)
  have hlm : lifeM g.L e.backend = g.L[(findM g.L e.backend).toNat] := (congrArg (lifeM g.L) h2.symm).trans (life_mem hb.sorted (List.getElem_mem h1))
  have := (hb.lok _ (List.getElem_mem h1)).st
  refine ⟨by rw [h3,hlm],?_⟩
  unfold stateM
  rw [hlm];omega
 have hkey : (askM g.L g.R (reqOf e) g.now g.c.c5).answer = (if e.kind = 5 then (if stateM g.L e.backend ≠ 0 ∧ stateM g.L e.backend ≠ 4 then 7 else 0) else if stateM g.L e.backend = 0 ∨ stateM g.L e.backend = 4 then 8 else if stateM g.L e.backend = 3 then 12 else 0) ∧
   ((askM g.L g.R (reqOf e) g.now g.c.c5).answer ≠ 0 → (askM g.L g.R (reqOf e) g.now g.c.c5).L = g.L) := by
  unfold askM at hne ⊢
  have hreq : (reqOf e).backend = e.backend := rfl
  have hreqw : (reqOf e).weight = e.weight := rfl
  have hreqk : (reqOf e).kind = if e.kind = 6 then 2 else 1 := rfl
  split at hne
  ·exact absurd rfl hne
  ·rename_i q1
   rw [if_neg q1]
   split at hne
   ·exact absurd rfl hne
   ·rename_i q2
    rw [if_neg q2]
    rcases hk with h5 | h6
    ·have hww := hw h5
     rw [if_pos (by rw [hreqk,if_neg (by omega)]),if_pos h5]
     unfold joinM
     rw [if_neg (by rw [hreq,hreqw];omega),hreq]
     by_cases hf : findM g.L e.backend < 0
     ·rw [if_neg (by omega),hstate hf]
      simp
     ·obtain ⟨f1,f2,f3⟩ := hfound hf
      rw [if_pos (by omega),f1]
      show (if (lifeM g.L e.backend).state = 4 then _ else _ : List Lif × Int).2 = _ ∧ _
      unfold stateM at f2 ⊢
      by_cases h4 : (lifeM g.L e.backend).state = 4
      ·simp [h4]
      ·have hc : (lifeM g.L e.backend).state ≠ 0 ∧ (lifeM g.L e.backend).state ≠ 4 := ⟨by omega,h4⟩
       rw [if_neg h4,if_pos hc]
       simp
    ·rw [if_neg (by rw [hreqk,if_pos h6];omega),if_neg (by omega)]
     unfold retireM
     simp only [hreq]
     by_cases hf : findM g.L e.backend < 0
     ·rw [if_pos hf,hstate hf]
      simp
     ·obtain ⟨f1,f2,f3⟩ := hfound hf
      rw [if_neg hf,f1]
      unfold stateM at f2 ⊢
      by_cases h4 : (lifeM g.L e.backend).state = 4
      ·simp [h4]
      ·by_cases h3 : (lifeM g.L e.backend).state = 3
       ·simp [h3]
       ·have hc : ¬ ((lifeM g.L e.backend).state = 0 ∨ (lifeM g.L e.backend).state = 4) := by omega
        rw [if_neg h4,if_neg h3,if_neg hc,if_neg h3]
        simp
 exact ⟨hkey.1,fun hc => by rw [hL hc,hkey.2 hc]⟩
end Go.Proofs.YtibemmkfcjlmpaaGreat
namespace Go.Proofs.YtibemmkfcjlmpaaGreat
open Go.RowKit
attribute [local simp] AK_at acode_seq acode_region acode_draw acode_cond CB_u acode_block acode_loop acode_exit acode_scope acode_ret acode_skip seqQ_n seqQ_e seqQ_r blockQ_n blockQ_e blockQ_r TK_at OK_at SK_at aops_nil aops_cons asch_done asch_one asch_two asch_top astep aop_eq isLoud aloud aloud1 isWrite qv evS strip gof eget hget putO eput herase oks opnds gS afin afin0 binD arith D.cells takeD fillD keep trim envOf Fin aresl aresv resD argOk pickV isP deq deqs boundD slD lenD isT isSl ptrIds chunks mn_min mx_max splice_one splice_more Rbr_at Rfr_at frR frV frC flatC brwR brwV brwC omap leR leV leC leL leVL rnR rnV rnC rnO rho_0 hputs herases rnS LtS LtR LtV LtC LtO lget noV noC flatR flatV rho
attribute [local simp ↓] CB_t CB_f
theorem life_idx (L : List Lif) (b : Int) (i : Nat) (h : i < L.length) (hb : ∀ j (hj : j < i),(L[j]'(by omega)).backend ≠ b) (e : L[i].backend = b) : lifeM L b = L[i] := by
 unfold lifeM ofM findM
 rw [idxZ_at (qB b) L i h (fun j hj => by simpa [qB] using hb j hj) (by simp [qB,e])]
 rw [if_neg (by omega)]
 simp [zC,h]
theorem life_none (L : List Lif) (b : Int) (hb : ∀ x ∈ L,x.backend ≠ b) : lifeM L b = default := by
 rcases life_cases L b with ⟨x,hx,e,_⟩ | ⟨_,h⟩
 ·exact absurd e (hb x hx)
 ·exact h
theorem ustate_code : cfun Tryz.prog [] 28 = some ⟨(.seq (qR 0 [oB 2 0,oK 4 0]) (.seq (.seq (qR 1 [oK 5 0]) (.block 0 (.loop (.seq (.seq (qR 2 [oM 6 5,oF 7 19 2,oF 8 0 7,oL 9 1 8,oH 10 9,oX 11 (.bin .lss (.t 6) (.t 10))]) (.cond 11 .skip (.exit 0))) (.seq (.block 1 (.seq (qR 4 [oF 14 19 2,oF 15 0 14,oL 16 1 15,oM 17 5,oI 18 6 16 17,oF 19 0 18,oL 20 1 19,oM 21 1,oX 22 (.bin .eql (.t 20) (.t 21))]) (.cond 22 (.seq (qR 5 [oF 23 19 2,oF 24 0 23,oL 25 1 24,oM 26 5,oI 27 6 25 26,oF 28 1 27,oL 29 1 28,oM 4 29]) .ret) .skip))) (qR 3 [oM 12 5,oX 13 (.bin .add (.t 12) (kI 1)),oM 5 13])))))) (.seq (qR 6 [oK 4 0]) .ret))),[(.t 4)],30⟩ := by kernel_rfl
theorem ustate_pf (g : Gt) (b : Int) (hl : g.L.length ≤ 12) : PF Tryz.prog 28 [.agg g.W,I b] (I (stateM g.L b)) := by
 refine pO (h3 := by simp [Gt.W,Gt.cells]) ustate_code [0,1,2,4,5,11,22] [] fun B hBN hB0 => ?_
 simp [Gt.W,Gt.cells]
 refine W.loopS (fun y : Nat => ⟨[(5,I y),(2,.ptr 0 0),(1,I b)],[(0,.cells g.W)],1⟩)
  (fun m i => m = g.L.length - i ∧ i ≤ g.L.length ∧ ∀ j (hj : j < g.L.length),j < i → g.L[j].backend ≠ b) ?_ ?_
 ·exact ⟨_,0,(gr0 [0] hB0 (by simp [Gt.W,Gt.cells]) (by simp [Gt.W,Gt.cells]) (.inl (by simp [Gt.W,Gt.cells]))),rfl,by omega,fun j _ h => by omega⟩
 rintro m i ⟨hm,hi,hb⟩
 refine acode_sound [0,1,2,4,5,11,22] [] _ _ _ ?_
 (try dsimp only)
 by_cases hlt : i < g.L.length
 ·have hid := fun e => life_idx g.L b i hlt (fun j hj => hb j (by omega) hj) e
  obtain ⟨x,hx⟩ : ∃ x,x = g.L[i] := ⟨_,rfl⟩
  rw [← hx] at hid
  have ii : InR ((i : Int) + 1) := inW (by omega) (by omega)
  by_cases e : x.backend = b
  ·have hs : stateM g.L b = x.state := by unfold stateM;rw [hid e]
   simp [Gt.W,Gt.cells,hlt,← hx,Lif.D,e,hs]
  ·simp [Gt.W,Gt.cells,hlt,← hx,Lif.D,e,ii]
   exact ⟨_,i + 1,(gr0 [0] hB0 (by simp [Gt.W,Gt.cells]) (by simp [Gt.W,Gt.cells]) (.inl (by simp [Gt.W,Gt.cells]))),by omega,rfl,by omega,fun j hj h => by
    by_cases hji : j = i
    ·subst hji;rw [← hx];exact e
    ·exact hb j hj (by omega)⟩
 ·have hn := life_none g.L b fun x hx => by
   obtain ⟨j,hj⟩ := zF hx
   obtain ⟨hj2,rfl⟩ := zB.1 hj
   exact hb j hj2 (by omega)
  have hs : stateM g.L b = 0 := by unfold stateM;rw [hn];rfl
  obtain rfl : i = g.L.length := by omega
  simp [Gt.W,Gt.cells,hs]
end Go.Proofs.YtibemmkfcjlmpaaGreat
namespace Go.Proofs.YtibemmkfcjlmpaaGreat
open Go.RowKit
theorem StpOk.facts {c : Cfg} {s : Stp} {k : Nat} (h : StpOk c s k) : ∃ n,n + 1 ≤ 1000000 ∧ Rest s.before n ∧ Rest (s.before.step s.ev) (n + 1) := by
 obtain ⟨n,hn,hr⟩ := h.ex
 have := h.kk
 exact ⟨n,by omega,hr,hr.step h.ev.ok (by omega)⟩
structure PK (p : Ply) : Prop where
 c : p.c.Ok
 inv : ∃ k,k ≤ 1000 ∧ PV p k
 sl : p.steps.length ≤ 1000
 gl : p.given.length ≤ 2000000
theorem PK.st {p : Ply} (h : PK p) {i : Nat} (hi : i < p.steps.length) : ∃ k,StpOk p.c p.steps[i] k := by
 obtain ⟨k,_,hk⟩ := h.inv
 exact ⟨k,hk.sts _ (List.getElem_mem hi)⟩
theorem top_start (s : List Int) (l : List (List Int)) (hs : s.length = 16 ∧ ∀ z ∈ s,InR z) (hl : l.length ≤ Go.maxLen) (hr : ∀ r ∈ l,r.length = 4 ∧ ∀ z ∈ r,InR z) :
  ∃ p : Ply,PK p ∧ HF Tryz.prog 23 [.agg (s.map I),.rows 4 (l.map fun r => r.map I),I 60] [] 0 (fun d H' nx' => d = .tup [.ptr 0 0,.bool true] ∧ H' = p.H 1 2 ∧ nx' = 3) := by
 obtain ⟨c,hc,_,hpl⟩ := played_hf s l 60 hs hl hr (by omega)
 have hP := deeds_PR (play4_PR hc) (l.take 60) (l.take 60).length (Nat.le_refl _) (by rw [List.length_take];omega)
 rw [List.take_length] at hP
 have hlt : (l.take 60).length ≤ 60 := by rw [List.length_take];omega
 refine ⟨playedM c l 60,⟨?_,⟨_,?_,hP.inv⟩,?_,?_⟩,hpl⟩
 ·have h1 := hP.inv.cfg
  have h2 := hP.inv.rest.mid.c
  rw [h1] at h2;exact h2
 ·omega
 ·have := hP.sl;unfold playedM;omega
 ·have := hP.gl;unfold playedM;omega
end Go.Proofs.YtibemmkfcjlmpaaGreat
namespace Go.Proofs.YtibemmkfcjlmpaaGreat
open Go.RowKit
attribute [local simp] AK_at acode_seq acode_region acode_draw acode_cond CB_u acode_block acode_loop acode_exit acode_scope acode_ret acode_skip seqQ_n seqQ_e seqQ_r blockQ_n blockQ_e blockQ_r TK_at OK_at SK_at aops_nil aops_cons asch_done asch_one asch_two asch_top astep aop_eq isLoud aloud aloud1 isWrite qv evS strip gof eget hget putO eput herase oks opnds gS afin afin0 binD arith D.cells takeD fillD keep trim envOf Fin aresl aresv resD argOk pickV isP deq deqs boundD slD lenD isT isSl ptrIds chunks mn_min mx_max splice_one splice_more Rbr_at Rfr_at frR frV frC flatC brwR brwV brwC omap leR leV leC leL leVL rnR rnV rnC rnO rho_0 hputs herases rnS LtS LtR LtV LtC LtO lget noV noC flatR flatV rho
attribute [local simp ↓] CB_t CB_f
theorem task_code : cfun Tryz.prog [] 9 = some ⟨(.seq (qR 0 [oB 2 0,oX 4 (.mov (.k qF))]) (.seq (qR 1 [oA 12 16 2,oM 13 1,oX 14 (.call 23 [(.t 12),(.t 13),(kI 60)]),oM 11 14,oE 15 11 0,oE 16 11 1,oM 5 15,oM 6 16]) (.seq (.seq (qR 2 [oK 7 0]) (.block 0 (.loop (.seq (.seq (qR 3 [oM 17 7,oM 18 5,oN 19 18,oF 20 16 19,oL 21 1 20,oH 22 21,oX 23 (.bin .lss (.t 17) (.t 22))]) (.cond 23 .skip (.exit 0))) (.seq (.block 1 (.seq (qR 5 [oM 26 5,oN 27 26,oF 28 16 27,oL 29 1 28,oM 30 7,oI 31 61 29 30,oA 32 61 31,oX 8 (.alloc [qZ,qZ,qZ,qZ,qF,qZ,qZ,qZ,qZ,qZ,qZ,qZ,qZ,qZ,qZ,qZ,qZ,qZ,qZ,qZ,qZ,qZ,qZ,qZ,qZ,.nil0,.nil0,.nil0,.nil0,.nil0,.nil0,qZ,qZ,.nil0,qZ,qZ,qZ,qZ,qZ,qZ,qZ,qZ,qZ,qZ,qZ,qZ,qZ,qZ,qZ,qZ,qZ,.nil0,.nil0,.nil0,.nil0,.nil0,.nil0,qZ,qZ,.nil0,.nil0]),oS 61 8 32]) (.seq (.seq (qR 6 [oF 33 0 8,oF 34 0 33,oL 35 1 34,oX 36 (.bin .neq (.t 35) (kI 5)),oM 37 36,oG 38 (.fad 0 (.t 8)) 37 true,oG 39 (.fad 0 (.t 38)) 37 true,oG 40 (.load false 1 (.t 39)) 37 true,oG 41 (.bin .neq (.t 40) (kI 6)) 37 true,oX 42 (.pick (.t 37) (.t 41) (.k qF)),oM 43 42,oG 44 (.fad 34 (.t 8)) 43 false,oG 45 (.fad 19 (.t 44)) 43 false,oG 46 (.fad 1 (.t 45)) 43 false,oG 47 (.load false 1 (.t 46)) 43 false,oG 48 (.len (.t 47)) 43 false,oG 49 (.fad 8 (.t 8)) 43 false,oG 50 (.fad 19 (.t 49)) 43 false,oG 51 (.fad 1 (.t 50)) 43 false,oG 52 (.load false 1 (.t 51)) 43 false,oG 53 (.len (.t 52)) 43 false,oG 54 (.bin .eql (.t 48) (.t 53)) 43 false,oX 55 (.pick (.t 43) (.k qT) (.t 54))]) (.cond 55 (.exit 1) .skip)) (.seq (qR 7 [oF 56 8 8,oA 57 26 56,oF 58 0 8,oF 59 6 58,oL 60 1 59,oX 61 (.call 28 [(.t 57),(.t 60)]),oM 9 61]) (.seq (qR 8 [oK 10 0]) (.seq (.seq (qR 9 [oF 62 0 8,oF 63 0 62,oL 64 1 63,oX 65 (.bin .eql (.t 64) (kI 5)),oM 66 65,oG 67 (.mov (.t 9)) 66 true,oG 68 (.bin .neq (.t 67) (kI 0)) 66 true,oX 69 (.pick (.t 66) (.t 68) (.k qF)),oM 70 69,oG 71 (.mov (.t 9)) 70 true,oG 72 (.bin .neq (.t 71) (kI 4)) 70 true,oX 73 (.pick (.t 70) (.t 72) (.k qF))]) (.cond 73 (qR 10 [oK 10 7]) .skip)) (.seq (.seq (qR 11 [oF 74 0 8,oF 75 0 74,oL 76 1 75,oX 77 (.bin .eql (.t 76) (kI 6)),oM 78 77,oG 79 (.mov (.t 9)) 78 true,oG 80 (.bin .eql (.t 79) (kI 0)) 78 true,oG 81 (.mov (.t 80)) 78 true,oG 82 (.mov (.t 9)) 81 false,oG 83 (.bin .eql (.t 82) (kI 4)) 81 false,oG 84 (.pick (.t 81) (.k qT) (.t 83)) 78 true,oX 85 (.pick (.t 78) (.t 84) (.k qF))]) (.cond 85 (qR 12 [oK 10 8]) .skip)) (.seq (.seq (qR 13 [oF 86 0 8,oF 87 0 86,oL 88 1 87,oX 89 (.bin .eql (.t 88) (kI 6)),oM 90 89,oG 91 (.mov (.t 9)) 90 true,oG 92 (.bin .eql (.t 91) (kI 3)) 90 true,oX 93 (.pick (.t 90) (.t 92) (.k qF))]) (.cond 93 (qR 14 [oK 10 12]) .skip)) (.seq (.seq (qR 15 [oF 94 60 8,oL 95 1 94,oH 96 95,oX 97 (.bin .eql (.t 96) (kI 0)),oM 98 97,oG 99 (.fad 60 (.t 8)) 98 false,oG 100 (.load false 1 (.t 99)) 98 false,oG 101 (.iads 7 (.t 100) (kI 0)) 98 false,oG 102 (.fad 5 (.t 101)) 98 false,oG 103 (.load false 1 (.t 102)) 98 false,oG 104 (.mov (.t 10)) 98 false,oG 105 (.bin .neq (.t 103) (.t 104)) 98 false,oX 106 (.pick (.t 98) (.k qT) (.t 105))]) (.cond 106 (.seq (qR 16 [oX 4 (.mov (.k qF))]) .ret) .skip)) (.seq (qR 17 [oM 107 10,oX 108 (.bin .neq (.t 107) (kI 0)),oM 109 108,oG 110 (.fad 34 (.t 8)) 109 true,oG 111 (.load true 26 (.t 110)) 109 true,oG 112 (.fad 0 (.t 8)) 109 true,oG 113 (.fad 6 (.t 112)) 109 true,oG 114 (.load false 1 (.t 113)) 109 true,oG 115 (.call 28 [(.t 111),(.t 114)]) 109 true,oG 116 (.mov (.t 9)) 109 true,oG 117 (.bin .neq (.t 115) (.t 116)) 109 true,oX 118 (.pick (.t 109) (.t 117) (.k qF))]) (.cond 118 (.seq (qR 18 [oX 4 (.mov (.k qF))]) .ret) .skip))))))))))) (qR 4 [oM 24 7,oX 25 (.bin .add (.t 24) (kI 1)),oM 7 25])))))) (.seq (qR 19 [oM 119 6,oM 4 119]) .ret)))),[(.t 4)],120⟩ := by kernel_rfl
theorem task_pf (s : List Int) (l : List (List Int)) (hs : s.length = 16 ∧ ∀ z ∈ s,InR z) (hl : l.length ≤ Go.maxLen) (hr : ∀ r ∈ l,r.length = 4 ∧ ∀ z ∈ r,InR z) :
  PF Tryz.prog 9 [.agg (s.map I),.rows 4 (l.map fun r => r.map I)] (.bool true) := by
 obtain ⟨p,hK,hpl⟩ := top_start s l hs hl hr
 obtain ⟨a0,a1,a2,a3,a4,a5,a6,a7,a8,a9,a10,a11,a12,a13,a14,a15,rfl⟩ := sixteen hs.1
 obtain ⟨P,hP⟩ : ∃ P,P = p.P := ⟨_,rfl⟩
 have hP' := hP
 simp only [Ply.P,Ply.cells,Cfg.D,Gt.W,Gt.cells,List.cons_append,List.nil_append] at hP'
 simp only [Ply.H,Ply.cells,Cfg.D,Gt.W,Gt.cells,List.cons_append,List.nil_append] at hpl
 refine pO task_code [0,1,2,4,5,6,7,8,9,10,23,55,73,85,93,106,118] [2] fun B hBN hB0 => ?_
 simp
 refine WCall.hf0 hpl (by simp) (by simp) (by simp) (by simp) ?_
 rintro d H' nx' ⟨rfl,rfl,rfl⟩
 simp
 refine W.freeze [1,2,3] ?_
 simp [freeze,hkeep,hdrop,fzS,fzR,fzV,fzC,fzO]
 rw [← hP']
 clear hpl hs hr hl
 refine acode_sound [0,1,2,4,5,6,7,8,9,10,23,55,73,85,93,106,118] [] _ _ _ ?_
 simp
 refine W.loopS (fun y : Nat => ⟨[(7,I y),(6,.bool true),(5,.pc P)],[],0⟩)
  (fun m i => m = p.steps.length - i ∧ i ≤ p.steps.length) ?_ ?_
 ·exact ⟨_,0,(gr0 [] hB0 (by simp) (by simp) (.inr rfl)),rfl,by omega⟩
 rintro m i ⟨hm,hi⟩
 refine acode_sound [0,1,2,4,5,6,7,8,9,10,23,55,73,85,93,106,118] [] _ _ _ ?_
 by_cases hlt : i < p.steps.length
 ·have ii : InR ((i : Int) + 1) := inW (by have := hK.sl;omega) (by have := hK.sl;omega)
  obtain ⟨kk,hst⟩ := hK.st hlt
  obtain ⟨x,hx⟩ : ∃ x,x = p.steps[i] := ⟨_,rfl⟩
  rw [← hx] at hst
  obtain ⟨n,hn,hr1,hr2⟩ := hst.facts
  have hb12 : x.before.L.length ≤ 12 := hr1.mid.bk.ll
  have ha12 : x.after.L.length ≤ 12 := by rw [hst.after];exact hr2.mid.bk.ll
  by_cases hk56 : x.ev.kind = 5 ∨ x.ev.kind = 6
  ·obtain ⟨c,t,ho,hc⟩ := P_asked hr1 hst.lo hst.ev.ok hk56
   rw [← hst.out] at ho
   have hRl : (x.before.step x.ev).R = x.after.R := by rw [hst.after];rfl
   have hLl : (x.before.step x.ev).L = x.after.L := by rw [hst.after];rfl
   rw [hRl,hLl] at hc
   by_cases hRe : x.after.R.length = x.before.R.length
   ·rcases hk56 with k5 | k6
    ·simp [hP',hlt,← hx,Stp.D,Evt.D,Gt.W,Gt.cells,k5,hRe,ii]
     rw [← hP']
     exact ⟨_,i + 1,(gr0 [] hB0 (by simp) (by simp) (.inr rfl)),by omega,rfl,by omega⟩
    ·simp [hP',hlt,← hx,Stp.D,Evt.D,Gt.W,Gt.cells,k6,hRe,ii]
     rw [← hP']
     exact ⟨_,i + 1,(gr0 [] hB0 (by simp) (by simp) (.inr rfl)),by omega,rfl,by omega⟩
   ·have htl0 : ¬ ((t.length : Int) + 1 = 0) := by omega
    obtain ⟨hc1,hc2⟩ := hc hRe
    have hRi : ¬ ((x.after.R.length : Int) = x.before.R.length) := by omega
    have s1 := ustate_pf x.before x.ev.backend hb12
    have s2 := ustate_pf x.after x.ev.backend ha12
    simp only [Gt.W,Gt.cells] at s1 s2
    generalize stateM x.before.L x.ev.backend = st at s1 hc1 hc2
    generalize stateM x.after.L x.ev.backend = sa at s2 hc2
    rcases hk56 with k5 | k6
    ·rw [if_pos k5] at hc1
     by_cases z0 : st = 0
     ·rw [if_neg (fun h => h.1 z0)] at hc1
      repeat' (first
       | simp [hP',hlt,← hx,Stp.D,Evt.D,Gt.W,Gt.cells,k5,hRe,hRi,htl0,z0,ho,hc1,Outp.D,ii]
       | refine ⟨wcS ?_,?_⟩
       | (refine WCall.pf (s1) ?_ ?_ ?_ ?_;iterate 3 (solve|simp [hP',hlt,← hx,Stp.D,Evt.D,Gt.W,Gt.cells,k5,hRe,hRi,htl0,z0,ho,hc1,Outp.D,ii]))
       | (refine WCall.pf (s2) ?_ ?_ ?_ ?_;iterate 3 (solve|simp [hP',hlt,← hx,Stp.D,Evt.D,Gt.W,Gt.cells,k5,hRe,hRi,htl0,z0,ho,hc1,Outp.D,ii]))
       | with_reducible refine aI ?_ ?_ ?_)
      all_goals
       rw [← hP']
       exact ⟨_,i + 1,(gr0 [] hB0 (by simp) (by simp) (.inr rfl)),by omega,rfl,by omega⟩
     by_cases z4 : st = 4
     ·rw [if_neg (fun h => h.2 z4)] at hc1
      repeat' (first
       | simp [hP',hlt,← hx,Stp.D,Evt.D,Gt.W,Gt.cells,k5,hRe,hRi,htl0,z4,ho,hc1,Outp.D,ii]
       | refine ⟨wcS ?_,?_⟩
       | (refine WCall.pf (s1) ?_ ?_ ?_ ?_;iterate 3 (solve|simp [hP',hlt,← hx,Stp.D,Evt.D,Gt.W,Gt.cells,k5,hRe,hRi,htl0,z4,ho,hc1,Outp.D,ii]))
       | (refine WCall.pf (s2) ?_ ?_ ?_ ?_;iterate 3 (solve|simp [hP',hlt,← hx,Stp.D,Evt.D,Gt.W,Gt.cells,k5,hRe,hRi,htl0,z4,ho,hc1,Outp.D,ii]))
       | with_reducible refine aI ?_ ?_ ?_)
      all_goals
       rw [← hP']
       exact ⟨_,i + 1,(gr0 [] hB0 (by simp) (by simp) (.inr rfl)),by omega,rfl,by omega⟩
     ·rw [if_pos ⟨z0,z4⟩] at hc1
      have hsa := hc2 (by omega)
      repeat' (first
       | simp [hP',hlt,← hx,Stp.D,Evt.D,Gt.W,Gt.cells,k5,hRe,hRi,htl0,z0,z4,ho,hc1,hsa,Outp.D,ii]
       | refine ⟨wcS ?_,?_⟩
       | (refine WCall.pf (s1) ?_ ?_ ?_ ?_;iterate 3 (solve|simp [hP',hlt,← hx,Stp.D,Evt.D,Gt.W,Gt.cells,k5,hRe,hRi,htl0,z0,z4,ho,hc1,hsa,Outp.D,ii]))
       | (refine WCall.pf (s2) ?_ ?_ ?_ ?_;iterate 3 (solve|simp [hP',hlt,← hx,Stp.D,Evt.D,Gt.W,Gt.cells,k5,hRe,hRi,htl0,z0,z4,ho,hc1,hsa,Outp.D,ii]))
       | with_reducible refine aI ?_ ?_ ?_)
      all_goals
       rw [← hP']
       exact ⟨_,i + 1,(gr0 [] hB0 (by simp) (by simp) (.inr rfl)),by omega,rfl,by omega⟩
    ·rw [if_neg (by omega)] at hc1
     by_cases z0 : st = 0
     ·rw [if_pos (.inl z0)] at hc1
      have hsa := hc2 (by omega)
      rw [z0] at hsa
      repeat' (first
       | simp [hP',hlt,← hx,Stp.D,Evt.D,Gt.W,Gt.cells,k6,hRe,hRi,htl0,z0,ho,hc1,hsa,Outp.D,ii]
       | refine ⟨wcS ?_,?_⟩
       | (refine WCall.pf (s1) ?_ ?_ ?_ ?_;iterate 3 (solve|simp [hP',hlt,← hx,Stp.D,Evt.D,Gt.W,Gt.cells,k6,hRe,hRi,htl0,z0,ho,hc1,hsa,Outp.D,ii]))
       | (refine WCall.pf (s2) ?_ ?_ ?_ ?_;iterate 3 (solve|simp [hP',hlt,← hx,Stp.D,Evt.D,Gt.W,Gt.cells,k6,hRe,hRi,htl0,z0,ho,hc1,hsa,Outp.D,ii]))
       | with_reducible refine aI ?_ ?_ ?_)
      all_goals
       rw [← hP']
       exact ⟨_,i + 1,(gr0 [] hB0 (by simp) (by simp) (.inr rfl)),by omega,rfl,by omega⟩
     by_cases z4 : st = 4
     ·rw [if_pos (.inr z4)] at hc1
      have hsa := hc2 (by omega)
      rw [z4] at hsa
      repeat' (first
       | simp [hP',hlt,← hx,Stp.D,Evt.D,Gt.W,Gt.cells,k6,hRe,hRi,htl0,z4,ho,hc1,hsa,Outp.D,ii]
       | refine ⟨wcS ?_,?_⟩
       | (refine WCall.pf (s1) ?_ ?_ ?_ ?_;iterate 3 (solve|simp [hP',hlt,← hx,Stp.D,Evt.D,Gt.W,Gt.cells,k6,hRe,hRi,htl0,z4,ho,hc1,hsa,Outp.D,ii]))
       | (refine WCall.pf (s2) ?_ ?_ ?_ ?_;iterate 3 (solve|simp [hP',hlt,← hx,Stp.D,Evt.D,Gt.W,Gt.cells,k6,hRe,hRi,htl0,z4,ho,hc1,hsa,Outp.D,ii]))
       | with_reducible refine aI ?_ ?_ ?_)
      all_goals
       rw [← hP']
       exact ⟨_,i + 1,(gr0 [] hB0 (by simp) (by simp) (.inr rfl)),by omega,rfl,by omega⟩
     rw [if_neg (by omega)] at hc1
     by_cases z3 : st = 3
     ·rw [if_pos z3] at hc1
      have hsa := hc2 (by omega)
      rw [z3] at hsa
      repeat' (first
       | simp [hP',hlt,← hx,Stp.D,Evt.D,Gt.W,Gt.cells,k6,hRe,hRi,htl0,z3,ho,hc1,hsa,Outp.D,ii]
       | refine ⟨wcS ?_,?_⟩
       | (refine WCall.pf (s1) ?_ ?_ ?_ ?_;iterate 3 (solve|simp [hP',hlt,← hx,Stp.D,Evt.D,Gt.W,Gt.cells,k6,hRe,hRi,htl0,z3,ho,hc1,hsa,Outp.D,ii]))
       | (refine WCall.pf (s2) ?_ ?_ ?_ ?_;iterate 3 (solve|simp [hP',hlt,← hx,Stp.D,Evt.D,Gt.W,Gt.cells,k6,hRe,hRi,htl0,z3,ho,hc1,hsa,Outp.D,ii]))
       | with_reducible refine aI ?_ ?_ ?_)
      all_goals
       rw [← hP']
       exact ⟨_,i + 1,(gr0 [] hB0 (by simp) (by simp) (.inr rfl)),by omega,rfl,by omega⟩
     ·rw [if_neg z3] at hc1
      repeat' (first
       | simp [hP',hlt,← hx,Stp.D,Evt.D,Gt.W,Gt.cells,k6,hRe,hRi,htl0,z0,z4,z3,ho,hc1,Outp.D,ii]
       | refine ⟨wcS ?_,?_⟩
       | (refine WCall.pf (s1) ?_ ?_ ?_ ?_;iterate 3 (solve|simp [hP',hlt,← hx,Stp.D,Evt.D,Gt.W,Gt.cells,k6,hRe,hRi,htl0,z0,z4,z3,ho,hc1,Outp.D,ii]))
       | (refine WCall.pf (s2) ?_ ?_ ?_ ?_;iterate 3 (solve|simp [hP',hlt,← hx,Stp.D,Evt.D,Gt.W,Gt.cells,k6,hRe,hRi,htl0,z0,z4,z3,ho,hc1,Outp.D,ii]))
       | with_reducible refine aI ?_ ?_ ?_)
      all_goals
       rw [← hP']
       exact ⟨_,i + 1,(gr0 [] hB0 (by simp) (by simp) (.inr rfl)),by omega,rfl,by omega⟩
  ·have k5 : ¬ x.ev.kind = 5 := fun h => hk56 (.inl h)
   have k6 : ¬ x.ev.kind = 6 := fun h => hk56 (.inr h)
   simp [hP',hlt,← hx,Stp.D,Evt.D,Gt.W,Gt.cells,k5,k6,ii]
   rw [← hP']
   exact ⟨_,i + 1,(gr0 [] hB0 (by simp) (by simp) (.inr rfl)),by omega,rfl,by omega⟩
 ·obtain rfl : i = p.steps.length := by omega
  simp [hP']
end Go.Proofs.YtibemmkfcjlmpaaGreat
