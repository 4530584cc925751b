/- What the program computes, step by step, and the rules for it. No condition of its own. -/
import Derived.Test.YtibemmkfcjlmpaaGreatUae
set_option linter.unusedSimpArgs false
set_option linter.unusedVariables false
set_option maxRecDepth 100000
set_option maxHeartbeats 8000000
namespace Go.Proofs.YtibemmkfcjlmpaaGreat
open Go.RowKit
theorem P_never {g : Gt} {n : Nat} (h : Rest g n) (h0 : g.out = []) {e : Evt} (he : EvtOk e) (hn : n + 1 ≤ 1000000) :
  ∀ x ∈ (g.step e).out,x.kind = 1 ∨ x.kind = 5 → stateM (g.step e).L x.backend = 2 ∧ (e.kind = 7 ∨ stateM g.L x.backend = 2) ∧ (x.kind = 1 → isOut g.hl x.backend = false) := by
 intro x hx hk
 have hs := step_kd h e hn
 generalize g.step e = g' at hx hs ⊢
 cases hs with
 | full _ _ h => rw [h] at hx;simp [Gt.put,h0] at hx;subst hx;simp at hk
 | busy _ _ _ h => rw [h] at hx;simp [Gt.put,h0] at hx;subst hx;simp at hk
 | taken _ hf hp h2 =>
  rw [h2] at hx ⊢
  simp [Gt.taken,h0] at hx
  subst hx
  have hpk := h.mid.pickedB (.inl (by omega)) hp
  obtain ⟨y,hy,_,e1,e2,_⟩ := h.mid.picked (.inl (by omega)) hp
  exact ⟨hpk.1,.inr hpk.1,fun _ => by rw [e1] at e2;exact e2⟩
 | ask _ h2 =>
  obtain ⟨a1,a2,a3,a4,a5,_,_,l,a6,a7⟩ := ask_same h.mid he
  rw [h2,a6,h0,List.nil_append] at hx
  have := a7 x hx
  omega
 | tick o h7 h1 h2 =>
  have e1 : g'.out = o := by rw [h2.out];show g.out ++ o = o;rw [h0];rfl
  rw [e1] at hx
  have h3 := h2.kd x hx
  have h4 := h2.ag x hx (hk.resolve_left h3)
  refine ⟨?_,.inl h7,fun h => absurd h h3⟩
  rcases h2.st x.backend with h5 | h5 <;> omega
 | flow l _ _ h2 =>
  have e1 : g'.out = l := by rw [h2.out,h0];rfl
  rw [e1] at hx
  have h3 := h2.kd x hx
  have h4 := h2.ag x hx (hk.resolve_left h3)
  refine ⟨?_,.inr h4,fun h => absurd h h3⟩
  rcases h2.st x.backend with h5 | h5 <;> omega
end Go.Proofs.YtibemmkfcjlmpaaGreat
namespace Go.Proofs.YtibemmkfcjlmpaaGreat
open Go.RowKit
attribute [local simp] AK_at acode_seq acode_region acode_draw acode_cond CB_u acode_block acode_loop acode_exit acode_scope acode_ret acode_skip seqQ_n seqQ_e seqQ_r blockQ_n blockQ_e blockQ_r TK_at OK_at SK_at aops_nil aops_cons asch_done asch_one asch_two asch_top astep aop_eq isLoud aloud aloud1 isWrite qv evS strip gof eget hget putO eput herase oks opnds gS afin afin0 binD arith D.cells takeD fillD keep trim envOf Fin aresl aresv resD argOk pickV isP deq deqs boundD slD lenD isT isSl ptrIds chunks mn_min mx_max splice_one splice_more Rbr_at Rfr_at frR frV frC flatC brwR brwV brwC omap leR leV leC leL leVL rnR rnV rnC rnO rho_0 hputs herases rnS LtS LtR LtV LtC LtO lget noV noC flatR flatV rho
attribute [local simp ↓] CB_t CB_f
theorem life_idx (L : List Lif) (b : Int) (i : Nat) (h : i < L.length) (hb : ∀ j (hj : j < i),(L[j]'(by omega)).backend ≠ b) (e : L[i].backend = b) : lifeM L b = L[i] := by
 unfold lifeM ofM findM
 rw [idxZ_at (qB b) L i h (fun j hj => by simpa [qB] using hb j hj) (by simp [qB,e])]
 rw [if_neg (by omega)]
 simp [zC,h]
theorem life_none (L : List Lif) (b : Int) (hb : ∀ x ∈ L,x.backend ≠ b) : lifeM L b = default := by
 rcases life_cases L b with ⟨x,hx,e,_⟩ | ⟨_,h⟩
 ·exact absurd e (hb x hx)
 ·exact h
theorem ustate_code : cfun Tryz.prog [] 28 = some ⟨(.seq (qR 0 [oB 2 0,oK 4 0]) (.seq (.seq (qR 1 [oK 5 0]) (.block 0 (.loop (.seq (.seq (qR 2 [oM 6 5,oF 7 19 2,oF 8 0 7,oL 9 1 8,oH 10 9,oX 11 (.bin .lss (.t 6) (.t 10))]) (.cond 11 .skip (.exit 0))) (.seq (.block 1 (.seq (qR 4 [oF 14 19 2,oF 15 0 14,oL 16 1 15,oM 17 5,oI 18 6 16 17,oF 19 0 18,oL 20 1 19,oM 21 1,oX 22 (.bin .eql (.t 20) (.t 21))]) (.cond 22 (.seq (qR 5 [oF 23 19 2,oF 24 0 23,oL 25 1 24,oM 26 5,oI 27 6 25 26,oF 28 1 27,oL 29 1 28,oM 4 29]) .ret) .skip))) (qR 3 [oM 12 5,oX 13 (.bin .add (.t 12) (kI 1)),oM 5 13])))))) (.seq (qR 6 [oK 4 0]) .ret))),[(.t 4)],30⟩ := by kernel_rfl
theorem ustate_pf (g : Gt) (b : Int) (hl : g.L.length ≤ 12) : PF Tryz.prog 28 [.agg g.W,I b] (I (stateM g.L b)) := by
 refine pO (h3 := by simp [Gt.W,Gt.cells]) ustate_code [0,1,2,4,5,11,22] [] fun B hBN hB0 => ?_
 simp [Gt.W,Gt.cells]
 refine W.loopS (fun y : Nat => ⟨[(5,I y),(2,.ptr 0 0),(1,I b)],[(0,.cells g.W)],1⟩)
  (fun m i => m = g.L.length - i ∧ i ≤ g.L.length ∧ ∀ j (hj : j < g.L.length),j < i → g.L[j].backend ≠ b) ?_ ?_
 ·exact ⟨_,0,(gr0 [0] hB0 (by simp [Gt.W,Gt.cells]) (by simp [Gt.W,Gt.cells]) (.inl (by simp [Gt.W,Gt.cells]))),rfl,by omega,fun j _ h => by omega⟩
 rintro m i ⟨hm,hi,hb⟩
 refine acode_sound [0,1,2,4,5,11,22] [] _ _ _ ?_
 (try dsimp only)
 by_cases hlt : i < g.L.length
 ·have hid := fun e => life_idx g.L b i hlt (fun j hj => hb j (by omega) hj) e
  obtain ⟨x,hx⟩ : ∃ x,x = g.L[i] := ⟨_,rfl⟩
  rw [← hx] at hid
  have ii : InR ((i : Int) + 1) := inW (by omega) (by omega)
  by_cases e : x.backend = b
  ·have hs : stateM g.L b = x.state := by unfold stateM;rw [hid e]
   simp [Gt.W,Gt.cells,hlt,← hx,Lif.D,e,hs]
  ·simp [Gt.W,Gt.cells,hlt,← hx,Lif.D,e,ii]
   exact ⟨_,i + 1,(gr0 [0] hB0 (by simp [Gt.W,Gt.cells]) (by simp [Gt.W,Gt.cells]) (.inl (by simp [Gt.W,Gt.cells]))),by omega,rfl,by omega,fun j hj h => by
    by_cases hji : j = i
    ·subst hji;rw [← hx];exact e
    ·exact hb j hj (by omega)⟩
 ·have hn := life_none g.L b fun x hx => by
   obtain ⟨j,hj⟩ := zF hx
   obtain ⟨hj2,rfl⟩ := zB.1 hj
   exact hb j hj2 (by omega)
  have hs : stateM g.L b = 0 := by unfold stateM;rw [hn];rfl
  obtain rfl : i = g.L.length := by omega
  simp [Gt.W,Gt.cells,hs]
end Go.Proofs.YtibemmkfcjlmpaaGreat
namespace Go.Proofs.YtibemmkfcjlmpaaGreat
open Go.RowKit
theorem StpOk.facts {c : Cfg} {s : Stp} {k : Nat} (h : StpOk c s k) : ∃ n,n + 1 ≤ 1000000 ∧ Rest s.before n ∧ Rest (s.before.step s.ev) (n + 1) := by
 obtain ⟨n,hn,hr⟩ := h.ex
 have := h.kk
 exact ⟨n,by omega,hr,hr.step h.ev.ok (by omega)⟩
structure PK (p : Ply) : Prop where
 c : p.c.Ok
 inv : ∃ k,k ≤ 1000 ∧ PV p k
 sl : p.steps.length ≤ 1000
 gl : p.given.length ≤ 2000000
theorem PK.st {p : Ply} (h : PK p) {i : Nat} (hi : i < p.steps.length) : ∃ k,StpOk p.c p.steps[i] k := by
 obtain ⟨k,_,hk⟩ := h.inv
 exact ⟨k,hk.sts _ (List.getElem_mem hi)⟩
theorem top_start (s : List Int) (l : List (List Int)) (hs : s.length = 16 ∧ ∀ z ∈ s,InR z) (hl : l.length ≤ Go.maxLen) (hr : ∀ r ∈ l,r.length = 4 ∧ ∀ z ∈ r,InR z) :
  ∃ p : Ply,PK p ∧ HF Tryz.prog 23 [.agg (s.map I),.rows 4 (l.map fun r => r.map I),I 60] [] 0 (fun d H' nx' => d = .tup [.ptr 0 0,.bool true] ∧ H' = p.H 1 2 ∧ nx' = 3) := by
 obtain ⟨c,hc,_,hpl⟩ := played_hf s l 60 hs hl hr (by omega)
 have hP := deeds_PR (play4_PR hc) (l.take 60) (l.take 60).length (Nat.le_refl _) (by rw [List.length_take];omega)
 rw [List.take_length] at hP
 have hlt : (l.take 60).length ≤ 60 := by rw [List.length_take];omega
 refine ⟨playedM c l 60,⟨?_,⟨_,?_,hP.inv⟩,?_,?_⟩,hpl⟩
 ·have h1 := hP.inv.cfg
  have h2 := hP.inv.rest.mid.c
  rw [h1] at h2;exact h2
 ·omega
 ·have := hP.sl;unfold playedM;omega
 ·have := hP.gl;unfold playedM;omega
end Go.Proofs.YtibemmkfcjlmpaaGreat
namespace Go.Proofs.YtibemmkfcjlmpaaGreat
open Go.RowKit
attribute [local simp] AK_at acode_seq acode_region acode_draw acode_cond CB_u acode_block acode_loop acode_exit acode_scope acode_ret acode_skip seqQ_n seqQ_e seqQ_r blockQ_n blockQ_e blockQ_r TK_at OK_at SK_at aops_nil aops_cons asch_done asch_one asch_two asch_top astep aop_eq isLoud aloud aloud1 isWrite qv evS strip gof eget hget putO eput herase oks opnds gS afin afin0 binD arith D.cells takeD fillD keep trim envOf Fin aresl aresv resD argOk pickV isP deq deqs boundD slD lenD isT isSl ptrIds chunks mn_min mx_max splice_one splice_more Rbr_at Rfr_at frR frV frC flatC brwR brwV brwC omap leR leV leC leL leVL rnR rnV rnC rnO rho_0 hputs herases rnS LtS LtR LtV LtC LtO lget noV noC flatR flatV rho
attribute [local simp ↓] CB_t CB_f
theorem tnev_code : cfun Tryz.prog [] 4 = some ⟨(.seq (qR 0 [oB 2 0,oX 4 (.mov (.k qF))]) (.seq (qR 1 [oA 12 16 2,oM 13 1,oX 14 (.call 23 [(.t 12),(.t 13),(kI 60)]),oM 11 14,oE 15 11 0,oE 16 11 1,oM 5 15,oM 6 16]) (.seq (.seq (qR 2 [oK 7 0]) (.block 0 (.loop (.seq (.seq (qR 3 [oM 17 7,oM 18 5,oN 19 18,oF 20 16 19,oL 21 1 20,oH 22 21,oX 23 (.bin .lss (.t 17) (.t 22))]) (.cond 23 .skip (.exit 0))) (.seq (.block 1 (.seq (qR 5 [oM 26 5,oN 27 26,oF 28 16 27,oL 29 1 28,oM 30 7,oI 31 61 29 30,oA 32 61 31,oX 8 (.alloc [qZ,qZ,qZ,qZ,qF,qZ,qZ,qZ,qZ,qZ,qZ,qZ,qZ,qZ,qZ,qZ,qZ,qZ,qZ,qZ,qZ,qZ,qZ,qZ,qZ,.nil0,.nil0,.nil0,.nil0,.nil0,.nil0,qZ,qZ,.nil0,qZ,qZ,qZ,qZ,qZ,qZ,qZ,qZ,qZ,qZ,qZ,qZ,qZ,qZ,qZ,qZ,qZ,.nil0,.nil0,.nil0,.nil0,.nil0,.nil0,qZ,qZ,.nil0,.nil0]),oS 61 8 32]) (.seq (qR 6 [oK 9 0]) (.block 2 (.loop (.seq (.seq (qR 7 [oM 33 9,oF 34 60 8,oL 35 1 34,oH 36 35,oX 37 (.bin .lss (.t 33) (.t 36))]) (.cond 37 .skip (.exit 2))) (.seq (.block 3 (.seq (qR 9 [oF 40 60 8,oL 41 1 40,oM 42 9,oI 43 7 41 42,oA 44 7 43,oX 10 (.alloc [qZ,qZ,qZ,qZ,qZ,qZ,qZ]),oS 7 10 44]) (.seq (.seq (qR 10 [oF 45 0 10,oL 46 1 45,oX 47 (.bin .neq (.t 46) (kI 1)),oM 48 47,oG 49 (.fad 0 (.t 10)) 48 true,oG 50 (.load false 1 (.t 49)) 48 true,oG 51 (.bin .neq (.t 50) (kI 5)) 48 true,oX 52 (.pick (.t 48) (.t 51) (.k qF))]) (.cond 52 (.exit 3) .skip)) (.seq (.seq (qR 11 [oF 53 34 8,oA 54 26 53,oF 55 3 10,oL 56 1 55,oX 57 (.call 28 [(.t 54),(.t 56)]),oX 58 (.bin .neq (.t 57) (kI 2)),oM 59 58,oG 60 (.fad 8 (.t 8)) 59 false,oG 61 (.load true 26 (.t 60)) 59 false,oG 62 (.fad 3 (.t 10)) 59 false,oG 63 (.load false 1 (.t 62)) 59 false,oG 64 (.call 28 [(.t 61),(.t 63)]) 59 false,oG 65 (.bin .neq (.t 64) (kI 2)) 59 false,oG 66 (.mov (.t 65)) 59 false,oG 67 (.fad 0 (.t 8)) 66 true,oG 68 (.fad 0 (.t 67)) 66 true,oG 69 (.load false 1 (.t 68)) 66 true,oG 70 (.bin .neq (.t 69) (kI 7)) 66 true,oG 71 (.pick (.t 66) (.t 70) (.k qF)) 59 false,oX 72 (.pick (.t 59) (.k qT) (.t 71))]) (.cond 72 (.seq (qR 12 [oX 4 (.mov (.k qF))]) .ret) .skip)) (.seq (qR 13 [oF 73 0 10,oL 74 1 73,oX 75 (.bin .eql (.t 74) (kI 1)),oM 76 75,oG 77 (.fad 8 (.t 8)) 76 true,oG 78 (.fad 22 (.t 77)) 76 true,oG 79 (.load false 1 (.t 78)) 76 true,oG 80 (.fad 3 (.t 10)) 76 true,oG 81 (.load false 1 (.t 80)) 76 true,oG 82 (.iads 4 (.t 79) (.t 81)) 76 true,oG 83 (.fad 1 (.t 82)) 76 true,oG 84 (.load false 1 (.t 83)) 76 true,oX 85 (.pick (.t 76) (.t 84) (.k qF))]) (.cond 85 (.seq (qR 14 [oX 4 (.mov (.k qF))]) .ret) .skip)))))) (qR 8 [oM 38 9,oX 39 (.bin .add (.t 38) (kI 1)),oM 9 39])))))))) (qR 4 [oM 24 7,oX 25 (.bin .add (.t 24) (kI 1)),oM 7 25])))))) (.seq (qR 15 [oM 86 6,oM 4 86]) .ret)))),[(.t 4)],87⟩ := by kernel_rfl
theorem tnev_pf (s : List Int) (l : List (List Int)) (hs : s.length = 16 ∧ ∀ z ∈ s,InR z) (hl : l.length ≤ Go.maxLen) (hr : ∀ r ∈ l,r.length = 4 ∧ ∀ z ∈ r,InR z) :
  PF Tryz.prog 4 [.agg (s.map I),.rows 4 (l.map fun r => r.map I)] (.bool true) := by
 obtain ⟨p,hK,hpl⟩ := top_start s l hs hl hr
 obtain ⟨a0,a1,a2,a3,a4,a5,a6,a7,a8,a9,a10,a11,a12,a13,a14,a15,rfl⟩ := sixteen hs.1
 obtain ⟨P,hP⟩ : ∃ P,P = p.P := ⟨_,rfl⟩
 have hP' := hP
 simp only [Ply.P,Ply.cells,Cfg.D,Gt.W,Gt.cells,List.cons_append,List.nil_append] at hP'
 simp only [Ply.H,Ply.cells,Cfg.D,Gt.W,Gt.cells,List.cons_append,List.nil_append] at hpl
 refine pO tnev_code [0,1,2,4,5,6,7,8,9,10,23,37,52,72,85] [2] fun B hBN hB0 => ?_
 simp
 refine WCall.hf0 hpl (by simp) (by simp) (by simp) (by simp) ?_
 rintro d H' nx' ⟨rfl,rfl,rfl⟩
 simp
 refine W.freeze [1,2,3] ?_
 simp [freeze,hkeep,hdrop,fzS,fzR,fzV,fzC,fzO]
 rw [← hP']
 clear hpl hs hr hl
 refine acode_sound [0,1,2,4,5,6,7,8,9,10,23,37,52,72,85] [] _ _ _ ?_
 simp
 refine W.loopS (fun y : Nat => ⟨[(7,I y),(6,.bool true),(5,.pc P)],[],0⟩)
  (fun m i => m = p.steps.length - i ∧ i ≤ p.steps.length) ?_ ?_
 ·exact ⟨_,0,(gr0 [] hB0 (by simp) (by simp) (.inr rfl)),rfl,by omega⟩
 rintro m i ⟨hm,hi⟩
 refine acode_sound [0,1,2,4,5,6,7,8,9,10,23,37,52,72,85] [] _ _ _ ?_
 by_cases hlt : i < p.steps.length
 ·have ii : InR ((i : Int) + 1) := inW (by have := hK.sl;omega) (by have := hK.sl;omega)
  obtain ⟨kk,hst⟩ := hK.st hlt
  obtain ⟨x,hx⟩ : ∃ x,x = p.steps[i] := ⟨_,rfl⟩
  rw [← hx] at hst
  obtain ⟨n,hn,hr1,hr2⟩ := hst.facts
  have hnv := P_never hr1 hst.lo hst.ev.ok hn
  have hol := step_out hr1 hst.lo hn x.ev
  rw [← hst.out] at hnv hol
  have hb12 : x.before.L.length ≤ 12 := hr1.mid.bk.ll
  have ha12 : x.after.L.length ≤ 12 := by rw [hst.after];exact hr2.mid.bk.ll
  have hhn := hr1.mid.hn
  simp [hP',hlt,← hx,Stp.D,Evt.D,Gt.W,Gt.cells]
  rw [← hP']
  refine W.loopS (fun y : Nat => ⟨[(9,I y),(8,.ptr 0 0),(7,I i),(6,.bool true),(5,.pc P)],[(0,.cells x.D)],1⟩)
   (fun m k => m = x.out.length - k ∧ k ≤ x.out.length) ?_ ?_
  ·exact ⟨_,0,(gr0 [0] hB0 (by simp [Stp.D,Evt.D,Gt.W,Gt.cells]) (by simp [Stp.D,Evt.D,Gt.W,Gt.cells]) (.inl (by simp [Stp.D,Evt.D,Gt.W,Gt.cells]))),rfl,by omega⟩
  rintro m2 k ⟨hm2,hk⟩
  refine acode_sound [0,1,2,4,5,6,7,8,9,10,23,37,52,72,85] [] _ _ _ ?_
  (try dsimp only)
  by_cases hlt2 : k < x.out.length
  ·have hno := hnv _ (List.getElem_mem hlt2)
   obtain ⟨o,ho⟩ : ∃ o,o = x.out[k] := ⟨_,rfl⟩
   rw [← ho] at hno
   have ik : InR ((k : Int) + 1) := inW (by omega) (by omega)
   by_cases hkd : o.kind = 1 ∨ o.kind = 5
   ·obtain ⟨q1,q2,q3⟩ := hno hkd
    have q1 : stateM x.after.L o.backend = 2 := by rw [hst.after];exact q1
    have s1 := ustate_pf x.before o.backend hb12
    have s2 := ustate_pf x.after o.backend ha12
    rw [q1] at s2
    have hlo : 0 ≤ o.backend ∧ o.backend < 12 := by
     obtain ⟨h1,h2⟩ := state_mem (L := x.after.L) (b := o.backend) (by omega)
     have h3 : LifOk (lifeM x.after.L o.backend) := by
      rw [hst.after] at h1 ⊢
      exact hr2.mid.bk.lok _ h1
     have := h3.b0
     have := h3.b1
     omega
    obtain ⟨b,hb⟩ : ∃ b : Nat,o.backend = b := ⟨o.backend.toNat,by omega⟩
    have hbl : b < x.before.hl.length := by omega
    have hio : isOut x.before.hl o.backend = x.before.hl[b].out := by unfold isOut;rw [hb];simp [zC,hbl]
    obtain ⟨q,hq⟩ : ∃ q,q = x.before.hl[b] := ⟨_,rfl⟩
    rw [hio,← hq] at q3
    simp only [Gt.W,Gt.cells] at s1 s2
    rcases hkd with k1 | k5
    ·have q3 := q3 k1
     rcases q2 with q2 | q2
     ·by_cases sb2 : stateM x.before.L o.backend = 2
      ·rw [sb2] at s1
       repeat' (first
        | simp [hlt2,Stp.D,Evt.D,Gt.W,Gt.cells,← ho,Outp.D,k1,q2,hb,hbl,← hq,Hlth.D,q3,ik]
        | refine ⟨wcS ?_,?_⟩
        | (refine WCall.pf (s1) ?_ ?_ ?_ ?_;iterate 3 (solve|simp [hlt2,Stp.D,Evt.D,Gt.W,Gt.cells,← ho,Outp.D,k1,q2,hb,hbl,← hq,Hlth.D,q3,ik]))
        | (refine WCall.pf (s2) ?_ ?_ ?_ ?_;iterate 3 (solve|simp [hlt2,Stp.D,Evt.D,Gt.W,Gt.cells,← ho,Outp.D,k1,q2,hb,hbl,← hq,Hlth.D,q3,ik]))
        | with_reducible refine aI ?_ ?_ ?_)
       all_goals exact ⟨_,k + 1,(gr0 [0] hB0 (by simp [Stp.D,Evt.D,Gt.W,Gt.cells]) (by simp [Stp.D,Evt.D,Gt.W,Gt.cells]) (.inl (by simp [Stp.D,Evt.D,Gt.W,Gt.cells]))),by omega,rfl,by omega⟩
      ·skip
       repeat' (first
        | simp [hlt2,Stp.D,Evt.D,Gt.W,Gt.cells,← ho,Outp.D,k1,q2,sb2,hb,hbl,← hq,Hlth.D,q3,ik]
        | refine ⟨wcS ?_,?_⟩
        | (refine WCall.pf (s1) ?_ ?_ ?_ ?_;iterate 3 (solve|simp [hlt2,Stp.D,Evt.D,Gt.W,Gt.cells,← ho,Outp.D,k1,q2,sb2,hb,hbl,← hq,Hlth.D,q3,ik]))
        | (refine WCall.pf (s2) ?_ ?_ ?_ ?_;iterate 3 (solve|simp [hlt2,Stp.D,Evt.D,Gt.W,Gt.cells,← ho,Outp.D,k1,q2,sb2,hb,hbl,← hq,Hlth.D,q3,ik]))
        | with_reducible refine aI ?_ ?_ ?_)
       all_goals exact ⟨_,k + 1,(gr0 [0] hB0 (by simp [Stp.D,Evt.D,Gt.W,Gt.cells]) (by simp [Stp.D,Evt.D,Gt.W,Gt.cells]) (.inl (by simp [Stp.D,Evt.D,Gt.W,Gt.cells]))),by omega,rfl,by omega⟩
     ·rw [q2] at s1
      repeat' (first
       | simp [hlt2,Stp.D,Evt.D,Gt.W,Gt.cells,← ho,Outp.D,k1,hb,hbl,← hq,Hlth.D,q3,ik]
       | refine ⟨wcS ?_,?_⟩
       | (refine WCall.pf (s1) ?_ ?_ ?_ ?_;iterate 3 (solve|simp [hlt2,Stp.D,Evt.D,Gt.W,Gt.cells,← ho,Outp.D,k1,hb,hbl,← hq,Hlth.D,q3,ik]))
       | (refine WCall.pf (s2) ?_ ?_ ?_ ?_;iterate 3 (solve|simp [hlt2,Stp.D,Evt.D,Gt.W,Gt.cells,← ho,Outp.D,k1,hb,hbl,← hq,Hlth.D,q3,ik]))
       | with_reducible refine aI ?_ ?_ ?_)
      all_goals exact ⟨_,k + 1,(gr0 [0] hB0 (by simp [Stp.D,Evt.D,Gt.W,Gt.cells]) (by simp [Stp.D,Evt.D,Gt.W,Gt.cells]) (.inl (by simp [Stp.D,Evt.D,Gt.W,Gt.cells]))),by omega,rfl,by omega⟩
    ·rcases q2 with q2 | q2
     ·by_cases sb2 : stateM x.before.L o.backend = 2
      ·rw [sb2] at s1
       repeat' (first
        | simp [hlt2,Stp.D,Evt.D,Gt.W,Gt.cells,← ho,Outp.D,k5,q2,hb,hbl,← hq,Hlth.D,ik]
        | refine ⟨wcS ?_,?_⟩
        | (refine WCall.pf (s1) ?_ ?_ ?_ ?_;iterate 3 (solve|simp [hlt2,Stp.D,Evt.D,Gt.W,Gt.cells,← ho,Outp.D,k5,q2,hb,hbl,← hq,Hlth.D,ik]))
        | (refine WCall.pf (s2) ?_ ?_ ?_ ?_;iterate 3 (solve|simp [hlt2,Stp.D,Evt.D,Gt.W,Gt.cells,← ho,Outp.D,k5,q2,hb,hbl,← hq,Hlth.D,ik]))
        | with_reducible refine aI ?_ ?_ ?_)
       all_goals exact ⟨_,k + 1,(gr0 [0] hB0 (by simp [Stp.D,Evt.D,Gt.W,Gt.cells]) (by simp [Stp.D,Evt.D,Gt.W,Gt.cells]) (.inl (by simp [Stp.D,Evt.D,Gt.W,Gt.cells]))),by omega,rfl,by omega⟩
      ·skip
       repeat' (first
        | simp [hlt2,Stp.D,Evt.D,Gt.W,Gt.cells,← ho,Outp.D,k5,q2,sb2,hb,hbl,← hq,Hlth.D,ik]
        | refine ⟨wcS ?_,?_⟩
        | (refine WCall.pf (s1) ?_ ?_ ?_ ?_;iterate 3 (solve|simp [hlt2,Stp.D,Evt.D,Gt.W,Gt.cells,← ho,Outp.D,k5,q2,sb2,hb,hbl,← hq,Hlth.D,ik]))
        | (refine WCall.pf (s2) ?_ ?_ ?_ ?_;iterate 3 (solve|simp [hlt2,Stp.D,Evt.D,Gt.W,Gt.cells,← ho,Outp.D,k5,q2,sb2,hb,hbl,← hq,Hlth.D,ik]))
        | with_reducible refine aI ?_ ?_ ?_)
       all_goals exact ⟨_,k + 1,(gr0 [0] hB0 (by simp [Stp.D,Evt.D,Gt.W,Gt.cells]) (by simp [Stp.D,Evt.D,Gt.W,Gt.cells]) (.inl (by simp [Stp.D,Evt.D,Gt.W,Gt.cells]))),by omega,rfl,by omega⟩
     ·rw [q2] at s1
      repeat' (first
       | simp [hlt2,Stp.D,Evt.D,Gt.W,Gt.cells,← ho,Outp.D,k5,hb,hbl,← hq,Hlth.D,ik]
       | refine ⟨wcS ?_,?_⟩
       | (refine WCall.pf (s1) ?_ ?_ ?_ ?_;iterate 3 (solve|simp [hlt2,Stp.D,Evt.D,Gt.W,Gt.cells,← ho,Outp.D,k5,hb,hbl,← hq,Hlth.D,ik]))
       | (refine WCall.pf (s2) ?_ ?_ ?_ ?_;iterate 3 (solve|simp [hlt2,Stp.D,Evt.D,Gt.W,Gt.cells,← ho,Outp.D,k5,hb,hbl,← hq,Hlth.D,ik]))
       | with_reducible refine aI ?_ ?_ ?_)
      all_goals exact ⟨_,k + 1,(gr0 [0] hB0 (by simp [Stp.D,Evt.D,Gt.W,Gt.cells]) (by simp [Stp.D,Evt.D,Gt.W,Gt.cells]) (.inl (by simp [Stp.D,Evt.D,Gt.W,Gt.cells]))),by omega,rfl,by omega⟩
   ·have k1 : ¬ o.kind = 1 := fun h => hkd (.inl h)
    have k5 : ¬ o.kind = 5 := fun h => hkd (.inr h)
    simp [hlt2,Stp.D,Evt.D,Gt.W,Gt.cells,← ho,Outp.D,k1,k5,ik]
    exact ⟨_,k + 1,(gr0 [0] hB0 (by simp [Stp.D,Evt.D,Gt.W,Gt.cells]) (by simp [Stp.D,Evt.D,Gt.W,Gt.cells]) (.inl (by simp [Stp.D,Evt.D,Gt.W,Gt.cells]))),by omega,rfl,by omega⟩
  ·obtain rfl : k = x.out.length := by omega
   simp [Stp.D,Evt.D,Gt.W,Gt.cells,ii]
   exact ⟨_,i + 1,(gr0 [] hB0 (by simp) (by simp) (.inr rfl)),by omega,rfl,by omega⟩
 ·obtain rfl : i = p.steps.length := by omega
  simp [hP']
end Go.Proofs.YtibemmkfcjlmpaaGreat
