/- What the program computes, step by step, and the rules for it. No condition of its own. -/
import Derived.Test.YtibemmkfcjlmpaaGreatUae
set_option linter.unusedSimpArgs false
set_option linter.unusedVariables false
set_option maxRecDepth 100000
set_option maxHeartbeats 8000000
namespace Go.Proofs.YtibemmkfcjlmpaaGreat
open Go.RowKit
theorem Mid.none {g : Gt} {n : Nat} (h : Mid g n (-1)) (b : Int) : (stateM g.L b = 3 → 0 < flowsM g.fl b) ∧ (stateM g.L b ≠ 2 → stateM g.L b ≠ 3 → flowsM g.fl b = 0) := by
 refine ⟨fun h3 => ?_,fun h2 h3 => ?_⟩
 ·obtain ⟨m1,m2⟩ := state_mem (L := g.L) (b := b) (by omega)
  have := (h.dr _ m1 h3).2.2 (by have := (h.bk.lok _ m1).b0;omega)
  rw [h.fs.cnt,m2] at this
  exact this
 ·refine List.countP_eq_zero.2 fun f hf hb => ?_
  have := (h.fe f hf).2.2.2.2
  have hb : f.backend = b := by simpa using hb
  rw [hb] at this
  omega
theorem P_draining {g : Gt} {n : Nat} (h : Rest g n) {e : Evt} (he : EvtOk e) (hn : n + 1 ≤ 1000000) (b : Int) :
  (stateM g.L b = 3 → flowsM (g.step e).fl b ≤ flowsM g.fl b) := by
 intro h3
 have hs := step_kd h e hn
 generalize g.step e = g' at hs ⊢
 cases hs with
 | full _ _ h => rw [h];exact Nat.le_refl _
 | busy _ _ _ h => rw [h];exact Nat.le_refl _
 | taken _ hf hp h2 =>
  have hpk := h.mid.pickedB (.inl (by omega)) hp
  rw [h2]
  show flowsM (insF g.fl _) b ≤ _
  unfold flowsM
  rw [insF_cnt,if_neg]
  ·omega
  ·simp;intro e;rw [e] at hpk;omega
 | ask _ h2 => rw [h2,(ask_same h.mid he).1];exact Nat.le_refl _
 | tick o h7 h1 h2 =>
  refine h2.fw b ?_
  show stateM (wakeM g.L (g.now + 1)) b ≠ 2
  unfold stateM at h3 ⊢
  rw [wake_life]
  unfold wakeX
  rw [if_neg (by omega),h3];omega
 | flow l _ _ h2 => exact h2.fw b (by omega)
end Go.Proofs.YtibemmkfcjlmpaaGreat
namespace Go.Proofs.YtibemmkfcjlmpaaGreat
open Go.RowKit
attribute [local simp] AK_at acode_seq acode_region acode_draw acode_cond CB_u acode_block acode_loop acode_exit acode_scope acode_ret acode_skip seqQ_n seqQ_e seqQ_r blockQ_n blockQ_e blockQ_r TK_at OK_at SK_at aops_nil aops_cons asch_done asch_one asch_two asch_top astep aop_eq isLoud aloud aloud1 isWrite qv evS strip gof eget hget putO eput herase oks opnds gS afin afin0 binD arith D.cells takeD fillD keep trim envOf Fin aresl aresv resD argOk pickV isP deq deqs boundD slD lenD isT isSl ptrIds chunks mn_min mx_max splice_one splice_more Rbr_at Rfr_at frR frV frC flatC brwR brwV brwC omap leR leV leC leL leVL rnR rnV rnC rnO rho_0 hputs herases rnS LtS LtR LtV LtC LtO lget noV noC flatR flatV rho
attribute [local simp ↓] CB_t CB_f
theorem life_idx (L : List Lif) (b : Int) (i : Nat) (h : i < L.length) (hb : ∀ j (hj : j < i),(L[j]'(by omega)).backend ≠ b) (e : L[i].backend = b) : lifeM L b = L[i] := by
 unfold lifeM ofM findM
 rw [idxZ_at (qB b) L i h (fun j hj => by simpa [qB] using hb j hj) (by simp [qB,e])]
 rw [if_neg (by omega)]
 simp [zC,h]
theorem life_none (L : List Lif) (b : Int) (hb : ∀ x ∈ L,x.backend ≠ b) : lifeM L b = default := by
 rcases life_cases L b with ⟨x,hx,e,_⟩ | ⟨_,h⟩
 ·exact absurd e (hb x hx)
 ·exact h
theorem ustate_code : cfun Tryz.prog [] 28 = some ⟨(.seq (qR 0 [oB 2 0,oK 4 0]) (.seq (.seq (qR 1 [oK 5 0]) (.block 0 (.loop (.seq (.seq (qR 2 [oM 6 5,oF 7 19 2,oF 8 0 7,oL 9 1 8,oH 10 9,oX 11 (.bin .lss (.t 6) (.t 10))]) (.cond 11 .skip (.exit 0))) (.seq (.block 1 (.seq (qR 4 [oF 14 19 2,oF 15 0 14,oL 16 1 15,oM 17 5,oI 18 6 16 17,oF 19 0 18,oL 20 1 19,oM 21 1,oX 22 (.bin .eql (.t 20) (.t 21))]) (.cond 22 (.seq (qR 5 [oF 23 19 2,oF 24 0 23,oL 25 1 24,oM 26 5,oI 27 6 25 26,oF 28 1 27,oL 29 1 28,oM 4 29]) .ret) .skip))) (qR 3 [oM 12 5,oX 13 (.bin .add (.t 12) (kI 1)),oM 5 13])))))) (.seq (qR 6 [oK 4 0]) .ret))),[(.t 4)],30⟩ := by kernel_rfl
theorem ustate_pf (g : Gt) (b : Int) (hl : g.L.length ≤ 12) : PF Tryz.prog 28 [.agg g.W,I b] (I (stateM g.L b)) := by
 refine pO (h3 := by simp [Gt.W,Gt.cells]) ustate_code [0,1,2,4,5,11,22] [] fun B hBN hB0 => ?_
 simp [Gt.W,Gt.cells]
 refine W.loopS (fun y : Nat => ⟨[(5,I y),(2,.ptr 0 0),(1,I b)],[(0,.cells g.W)],1⟩)
  (fun m i => m = g.L.length - i ∧ i ≤ g.L.length ∧ ∀ j (hj : j < g.L.length),j < i → g.L[j].backend ≠ b) ?_ ?_
 ·exact ⟨_,0,(gr0 [0] hB0 (by simp [Gt.W,Gt.cells]) (by simp [Gt.W,Gt.cells]) (.inl (by simp [Gt.W,Gt.cells]))),rfl,by omega,fun j _ h => by omega⟩
 rintro m i ⟨hm,hi,hb⟩
 refine acode_sound [0,1,2,4,5,11,22] [] _ _ _ ?_
 (try dsimp only)
 by_cases hlt : i < g.L.length
 ·have hid := fun e => life_idx g.L b i hlt (fun j hj => hb j (by omega) hj) e
  obtain ⟨x,hx⟩ : ∃ x,x = g.L[i] := ⟨_,rfl⟩
  rw [← hx] at hid
  have ii : InR ((i : Int) + 1) := inW (by omega) (by omega)
  by_cases e : x.backend = b
  ·have hs : stateM g.L b = x.state := by unfold stateM;rw [hid e]
   simp [Gt.W,Gt.cells,hlt,← hx,Lif.D,e,hs]
  ·simp [Gt.W,Gt.cells,hlt,← hx,Lif.D,e,ii]
   exact ⟨_,i + 1,(gr0 [0] hB0 (by simp [Gt.W,Gt.cells]) (by simp [Gt.W,Gt.cells]) (.inl (by simp [Gt.W,Gt.cells]))),by omega,rfl,by omega,fun j hj h => by
    by_cases hji : j = i
    ·subst hji;rw [← hx];exact e
    ·exact hb j hj (by omega)⟩
 ·have hn := life_none g.L b fun x hx => by
   obtain ⟨j,hj⟩ := zF hx
   obtain ⟨hj2,rfl⟩ := zB.1 hj
   exact hb j hj2 (by omega)
  have hs : stateM g.L b = 0 := by unfold stateM;rw [hn];rfl
  obtain rfl : i = g.L.length := by omega
  simp [Gt.W,Gt.cells,hs]
def flowsN (fl : List Flw) (b : Int) : Nat := fl.countP fun f => decide (f.backend = b)
theorem flows_take (fl : List Flw) (b : Int) (i : Nat) (h : i < fl.length) : ((flowsN (fl.take (i + 1)) b : Nat) : Int) = (flowsN (fl.take i) b : Nat) + if fl[i].backend = b then 1 else 0 := by
 unfold flowsN
 rw [List.take_succ_eq_append_getElem h,List.countP_append,List.countP_cons,List.countP_nil]
 split <;> simp_all
theorem uflows_code : cfun Tryz.prog [] 27 = some ⟨(.seq (qR 0 [oB 2 0,oK 4 0]) (.seq (qR 1 [oK 5 0]) (.seq (.seq (qR 2 [oK 6 0]) (.block 0 (.loop (.seq (.seq (qR 3 [oM 7 6,oF 8 18 2,oL 9 1 8,oH 10 9,oX 11 (.bin .lss (.t 7) (.t 10))]) (.cond 11 .skip (.exit 0))) (.seq (.block 1 (.seq (qR 5 [oF 14 18 2,oL 15 1 14,oM 16 6,oI 17 7 15 16,oF 18 3 17,oL 19 1 18,oM 20 1,oX 21 (.bin .eql (.t 19) (.t 20))]) (.cond 21 (qR 6 [oM 22 5,oX 23 (.bin .add (.t 22) (kI 1)),oM 5 23]) .skip))) (qR 4 [oM 12 6,oX 13 (.bin .add (.t 12) (kI 1)),oM 6 13])))))) (.seq (qR 7 [oM 24 5,oM 4 24]) .ret)))),[(.t 4)],25⟩ := by kernel_rfl
theorem uflows_pf (g : Gt) (b : Int) (hl : g.fl.length ≤ 1000000) : PF Tryz.prog 27 [.agg g.W,I b] (I (flowsN g.fl b : Nat)) := by
 refine pO (h3 := by simp [Gt.W,Gt.cells]) uflows_code [0,1,2,4,5,6,11,21] [] fun B hBN hB0 => ?_
 simp [Gt.W,Gt.cells]
 refine W.loopS (fun y : Nat => ⟨[(6,I y),(5,I (flowsN (g.fl.take y) b : Nat)),(2,.ptr 0 0),(1,I b)],[(0,.cells g.W)],1⟩)
  (fun m i => m = g.fl.length - i ∧ i ≤ g.fl.length) ?_ ?_
 ·exact ⟨_,0,(gr0 [0] hB0 (by simp [Gt.W,Gt.cells,flowsN]) (by simp [Gt.W,Gt.cells,flowsN]) (.inl (by simp [Gt.W,Gt.cells,flowsN]))),rfl,by omega⟩
 rintro m i ⟨hm,hi⟩
 refine acode_sound [0,1,2,4,5,6,11,21] [] _ _ _ ?_
 (try dsimp only)
 by_cases hlt : i < g.fl.length
 ·have ht := flows_take g.fl b i hlt
  have hle : flowsN (g.fl.take i) b ≤ (g.fl.take i).length := List.countP_le_length
  rw [List.length_take] at hle
  obtain ⟨x,hx⟩ : ∃ x,x = g.fl[i] := ⟨_,rfl⟩
  rw [← hx] at ht
  have ii : InR ((i : Int) + 1) := inW (by omega) (by omega)
  have ic : InR ((flowsN (g.fl.take i) b : Int) + 1) := inW (by omega) (by omega)
  by_cases e : x.backend = b
  ·rw [if_pos e] at ht
   simp [Gt.W,Gt.cells,hlt,← hx,Flw.D,e,ii,ic]
   exact ⟨_,i + 1,(gr0 [0] hB0 (by simp [Gt.W,Gt.cells,ht]) (by simp [Gt.W,Gt.cells,ht]) (.inl (by simp [Gt.W,Gt.cells,ht]))),by omega,rfl,by omega⟩
  ·rw [if_neg e,Int.add_zero] at ht
   simp [Gt.W,Gt.cells,hlt,← hx,Flw.D,e,ii]
   exact ⟨_,i + 1,(gr0 [0] hB0 (by simp [Gt.W,Gt.cells,ht]) (by simp [Gt.W,Gt.cells,ht]) (.inl (by simp [Gt.W,Gt.cells,ht]))),by omega,rfl,by omega⟩
 ·obtain rfl : i = g.fl.length := by omega
  rw [List.take_length]
  simp [Gt.W,Gt.cells]
end Go.Proofs.YtibemmkfcjlmpaaGreat
namespace Go.Proofs.YtibemmkfcjlmpaaGreat
open Go.RowKit
theorem StpOk.facts {c : Cfg} {s : Stp} {k : Nat} (h : StpOk c s k) : ∃ n,n + 1 ≤ 1000000 ∧ Rest s.before n ∧ Rest (s.before.step s.ev) (n + 1) := by
 obtain ⟨n,hn,hr⟩ := h.ex
 have := h.kk
 exact ⟨n,by omega,hr,hr.step h.ev.ok (by omega)⟩
theorem StpOk.draining {c : Cfg} {s : Stp} {k : Nat} (h : StpOk c s k) (b : Int) : (stateM s.before.L b = 3 → flowsM s.after.fl b ≤ flowsM s.before.fl b) ∧ (stateM s.after.L b = 3 → 0 < flowsM s.after.fl b) ∧
  (stateM s.after.L b ≠ 2 → stateM s.after.L b ≠ 3 → flowsM s.after.fl b = 0) := by
 obtain ⟨n,hn,hr,hr2⟩ := h.facts
 rw [h.after]
 exact ⟨P_draining hr h.ev.ok hn b,(hr2.mid.none b).1,(hr2.mid.none b).2⟩
structure PK (p : Ply) : Prop where
 c : p.c.Ok
 inv : ∃ k,k ≤ 1000 ∧ PV p k
 sl : p.steps.length ≤ 1000
 gl : p.given.length ≤ 2000000
theorem PK.st {p : Ply} (h : PK p) {i : Nat} (hi : i < p.steps.length) : ∃ k,StpOk p.c p.steps[i] k := by
 obtain ⟨k,_,hk⟩ := h.inv
 exact ⟨k,hk.sts _ (List.getElem_mem hi)⟩
theorem top_start (s : List Int) (l : List (List Int)) (hs : s.length = 16 ∧ ∀ z ∈ s,InR z) (hl : l.length ≤ Go.maxLen) (hr : ∀ r ∈ l,r.length = 4 ∧ ∀ z ∈ r,InR z) :
  ∃ p : Ply,PK p ∧ HF Tryz.prog 23 [.agg (s.map I),.rows 4 (l.map fun r => r.map I),I 60] [] 0 (fun d H' nx' => d = .tup [.ptr 0 0,.bool true] ∧ H' = p.H 1 2 ∧ nx' = 3) := by
 obtain ⟨c,hc,_,hpl⟩ := played_hf s l 60 hs hl hr (by omega)
 have hP := deeds_PR (play4_PR hc) (l.take 60) (l.take 60).length (Nat.le_refl _) (by rw [List.length_take];omega)
 rw [List.take_length] at hP
 have hlt : (l.take 60).length ≤ 60 := by rw [List.length_take];omega
 refine ⟨playedM c l 60,⟨?_,⟨_,?_,hP.inv⟩,?_,?_⟩,hpl⟩
 ·have h1 := hP.inv.cfg
  have h2 := hP.inv.rest.mid.c
  rw [h1] at h2;exact h2
 ·omega
 ·have := hP.sl;unfold playedM;omega
 ·have := hP.gl;unfold playedM;omega
theorem flows_eq (fl : List Flw) (b : Int) : flowsN fl b = flowsM fl b := rfl
end Go.Proofs.YtibemmkfcjlmpaaGreat
namespace Go.Proofs.YtibemmkfcjlmpaaGreat
open Go.RowKit
attribute [local simp] AK_at acode_seq acode_region acode_draw acode_cond CB_u acode_block acode_loop acode_exit acode_scope acode_ret acode_skip seqQ_n seqQ_e seqQ_r blockQ_n blockQ_e blockQ_r TK_at OK_at SK_at aops_nil aops_cons asch_done asch_one asch_two asch_top astep aop_eq isLoud aloud aloud1 isWrite qv evS strip gof eget hget putO eput herase oks opnds gS afin afin0 binD arith D.cells takeD fillD keep trim envOf Fin aresl aresv resD argOk pickV isP deq deqs boundD slD lenD isT isSl ptrIds chunks mn_min mx_max splice_one splice_more Rbr_at Rfr_at frR frV frC flatC brwR brwV brwC omap leR leV leC leL leVL rnR rnV rnC rnO rho_0 hputs herases rnS LtS LtR LtV LtC LtO lget noV noC flatR flatV rho
attribute [local simp ↓] CB_t CB_f
theorem tdra_code : cfun Tryz.prog [] 8 = some ⟨(.seq (qR 0 [oB 2 0,oX 4 (.mov (.k qF))]) (.seq (qR 1 [oA 11 16 2,oM 12 1,oX 13 (.call 23 [(.t 11),(.t 12),(kI 60)]),oM 10 13,oE 14 10 0,oE 15 10 1,oM 5 14,oM 6 15]) (.seq (.seq (qR 2 [oK 7 0]) (.block 0 (.loop (.seq (.seq (qR 3 [oM 16 7,oM 17 5,oN 18 17,oF 19 16 18,oL 20 1 19,oH 21 20,oX 22 (.bin .lss (.t 16) (.t 21))]) (.cond 22 .skip (.exit 0))) (.seq (.block 1 (.seq (qR 5 [oM 25 5,oN 26 25,oF 27 16 26,oL 28 1 27,oM 29 7,oI 30 61 28 29,oA 31 61 30,oX 8 (.alloc [qZ,qZ,qZ,qZ,qF,qZ,qZ,qZ,qZ,qZ,qZ,qZ,qZ,qZ,qZ,qZ,qZ,qZ,qZ,qZ,qZ,qZ,qZ,qZ,qZ,.nil0,.nil0,.nil0,.nil0,.nil0,.nil0,qZ,qZ,.nil0,qZ,qZ,qZ,qZ,qZ,qZ,qZ,qZ,qZ,qZ,qZ,qZ,qZ,qZ,qZ,qZ,qZ,.nil0,.nil0,.nil0,.nil0,.nil0,.nil0,qZ,qZ,.nil0,.nil0]),oS 61 8 31]) (.seq (qR 6 [oK 9 0]) (.block 2 (.loop (.seq (.seq (qR 7 [oM 32 9,oX 33 (.bin .lss (.t 32) (kI 12))]) (.cond 33 .skip (.exit 2))) (.seq (.block 3 (.seq (.seq (.draw 9 (qN (oF 36 8 8) (qN (oA 37 26 36) (qN (oM 38 9) (qN (oX 39 (.call 28 [(.t 37),(.t 38)])) (qN (oX 40 (.bin .eql (.t 39) (kI 3))) (qN (oM 41 40) (qN (oG 42 (.fad 34 (.t 8)) 41 true) (qN (oG 43 (.load true 26 (.t 42)) 41 true) (qN (oG 44 (.mov (.t 9)) 41 true) (qN (oG 46 (.fad 8 (.t 8)) 41 true) (qN (oG 47 (.load true 26 (.t 46)) 41 true) (qN (oG 48 (.mov (.t 9)) 41 true) (qN (oG 45 (.call 27 [(.t 43),(.t 44)]) 41 true) (qN (oG 49 (.call 27 [(.t 47),(.t 48)]) 41 true) (qN (oG 50 (.bin .gtr (.t 45) (.t 49)) 41 true) (qN (oX 51 (.pick (.t 41) (.t 50) (.k qF))) (qN (oM 52 51) (qN (oG 53 (.fad 34 (.t 8)) 52 true) (qN (oG 54 (.load true 26 (.t 53)) 52 true) (qN (oG 55 (.mov (.t 9)) 52 true) (qN (oG 56 (.call 28 [(.t 54),(.t 55)]) 52 true) (qN (oG 57 (.bin .neq (.t 56) (kI 2)) 52 true) (qN (oX 58 (.pick (.t 52) (.t 57) (.k qF))) .done)))))))))))))))))))))))) (.cond 58 (.seq (qR 10 [oX 4 (.mov (.k qF))]) .ret) .skip)) (.seq (.seq (qR 11 [oF 59 34 8,oA 60 26 59,oM 61 9,oX 62 (.call 28 [(.t 60),(.t 61)]),oX 63 (.bin .eql (.t 62) (kI 3)),oM 64 63,oG 65 (.fad 34 (.t 8)) 64 true,oG 66 (.load true 26 (.t 65)) 64 true,oG 67 (.mov (.t 9)) 64 true,oG 68 (.call 27 [(.t 66),(.t 67)]) 64 true,oG 69 (.bin .eql (.t 68) (kI 0)) 64 true,oX 70 (.pick (.t 64) (.t 69) (.k qF))]) (.cond 70 (.seq (qR 12 [oX 4 (.mov (.k qF))]) .ret) .skip)) (.seq (qR 13 [oF 71 34 8,oA 72 26 71,oM 73 9,oX 74 (.call 28 [(.t 72),(.t 73)]),oX 75 (.bin .eql (.t 74) (kI 4)),oM 76 75,oG 77 (.fad 34 (.t 8)) 76 false,oG 78 (.load true 26 (.t 77)) 76 false,oG 79 (.mov (.t 9)) 76 false,oG 80 (.call 28 [(.t 78),(.t 79)]) 76 false,oG 81 (.bin .eql (.t 80) (kI 0)) 76 false,oX 82 (.pick (.t 76) (.k qT) (.t 81)),oM 83 82,oG 84 (.fad 34 (.t 8)) 83 true,oG 85 (.load true 26 (.t 84)) 83 true,oG 86 (.mov (.t 9)) 83 true,oG 87 (.call 27 [(.t 85),(.t 86)]) 83 true,oG 88 (.bin .neq (.t 87) (kI 0)) 83 true,oX 89 (.pick (.t 83) (.t 88) (.k qF))]) (.cond 89 (.seq (qR 14 [oX 4 (.mov (.k qF))]) .ret) .skip))))) (qR 8 [oM 34 9,oX 35 (.bin .add (.t 34) (kI 1)),oM 9 35])))))))) (qR 4 [oM 23 7,oX 24 (.bin .add (.t 23) (kI 1)),oM 7 24])))))) (.seq (qR 15 [oM 90 6,oM 4 90]) .ret)))),[(.t 4)],91⟩ := by kernel_rfl
theorem tdra_pf (s : List Int) (l : List (List Int)) (hs : s.length = 16 ∧ ∀ z ∈ s,InR z) (hl : l.length ≤ Go.maxLen) (hr : ∀ r ∈ l,r.length = 4 ∧ ∀ z ∈ r,InR z) :
  PF Tryz.prog 8 [.agg (s.map I),.rows 4 (l.map fun r => r.map I)] (.bool true) := by
 obtain ⟨p,hK,hpl⟩ := top_start s l hs hl hr
 obtain ⟨a0,a1,a2,a3,a4,a5,a6,a7,a8,a9,a10,a11,a12,a13,a14,a15,rfl⟩ := sixteen hs.1
 obtain ⟨P,hP⟩ : ∃ P,P = p.P := ⟨_,rfl⟩
 have hP' := hP
 simp only [Ply.P,Ply.cells,Cfg.D,Gt.W,Gt.cells,List.cons_append,List.nil_append] at hP'
 simp only [Ply.H,Ply.cells,Cfg.D,Gt.W,Gt.cells,List.cons_append,List.nil_append] at hpl
 refine pO tdra_code [0,1,2,4,5,6,7,8,9,22,33,58,70,89] [2] fun B hBN hB0 => ?_
 simp
 refine WCall.hf0 hpl (by simp) (by simp) (by simp) (by simp) ?_
 rintro d H' nx' ⟨rfl,rfl,rfl⟩
 simp
 refine W.freeze [1,2,3] ?_
 simp [freeze,hkeep,hdrop,fzS,fzR,fzV,fzC,fzO]
 rw [← hP']
 clear hpl hs hr hl
 refine acode_sound [0,1,2,4,5,6,7,8,9,22,33,58,70,89] [] _ _ _ ?_
 simp
 refine W.loopS (fun y : Nat => ⟨[(7,I y),(6,.bool true),(5,.pc P)],[],0⟩)
  (fun m i => m = p.steps.length - i ∧ i ≤ p.steps.length) ?_ ?_
 ·exact ⟨_,0,(gr0 [] hB0 (by simp) (by simp) (.inr rfl)),rfl,by omega⟩
 rintro m i ⟨hm,hi⟩
 refine acode_sound [0,1,2,4,5,6,7,8,9,22,33,58,70,89] [] _ _ _ ?_
 by_cases hlt : i < p.steps.length
 ·have ii : InR ((i : Int) + 1) := inW (by have := hK.sl;omega) (by have := hK.sl;omega)
  obtain ⟨kk,hst⟩ := hK.st hlt
  obtain ⟨x,hx⟩ : ∃ x,x = p.steps[i] := ⟨_,rfl⟩
  rw [← hx] at hst
  obtain ⟨n,hn,hr1,hr2⟩ := hst.facts
  have hdr := hst.draining
  have hb12 : x.before.L.length ≤ 12 := hr1.mid.bk.ll
  have ha12 : x.after.L.length ≤ 12 := by rw [hst.after];exact hr2.mid.bk.ll
  have hbf : x.before.fl.length ≤ 1000000 := by have := fl_le hr1.mid.fs;have := hr1.mid.tok.2.1;omega
  have haf : x.after.fl.length ≤ 1000000 := by
   rw [hst.after]
   have := fl_le hr2.mid.fs
   have := hr2.mid.tok.2.1
   show (x.before.step x.ev).fl.length ≤ _
   omega
  simp [hP',hlt,← hx,Stp.D,Evt.D,Gt.W,Gt.cells]
  rw [← hP']
  refine W.loopS (fun y : Nat => ⟨[(9,I y),(8,.ptr 0 0),(7,I i),(6,.bool true),(5,.pc P)],[(0,.cells x.D)],1⟩)
   (fun m k => m = 12 - k ∧ k ≤ 12) ?_ ?_
  ·exact ⟨_,0,(gr0 [0] hB0 (by simp [Stp.D,Evt.D,Gt.W,Gt.cells]) (by simp [Stp.D,Evt.D,Gt.W,Gt.cells]) (.inl (by simp [Stp.D,Evt.D,Gt.W,Gt.cells]))),rfl,by omega⟩
  rintro m2 k ⟨hm2,hk⟩
  refine acode_sound [0,1,2,4,5,6,7,8,9,22,33,58,70,89] [] _ _ _ ?_
  (try dsimp only)
  by_cases hlt2 : k < 12
  ·obtain ⟨e1,e2,e3⟩ := hdr (k : Int)
   have s1 := ustate_pf x.before (k : Int) hb12
   have s2 := ustate_pf x.after (k : Int) ha12
   have f1 := uflows_pf x.before (k : Int) hbf
   have f2 := uflows_pf x.after (k : Int) haf
   rw [flows_eq] at f1 f2
   have ik : InR ((k : Int) + 1) := inW (by omega) (by omega)
   have hltI : (k : Int) < 12 := by omega
   simp only [Gt.W,Gt.cells] at s1 s2 f1 f2
   generalize stateM x.before.L (k : Int) = sb at s1 e1
   generalize stateM x.after.L (k : Int) = sa at s2 e2 e3
   generalize flowsM x.before.fl (k : Int) = fb at f1 e1
   generalize flowsM x.after.fl (k : Int) = fa at f2 e1 e2 e3
   by_cases b3 : sb = 3
   ·have g1 : ¬ ((fb : Int) < fa) := by have := e1 b3;omega
    by_cases a3 : sa = 3
    ·have g2 : ¬ ((fa : Int) = 0) := by have := e2 a3;omega
     have g3 : ¬ (fa = 0) := by omega
     repeat' (first
      | simp [hltI,Stp.D,Evt.D,Gt.W,Gt.cells,b3,a3,g1,g2,g3,ik]
      | refine ⟨wcS ?_,?_⟩
      | (refine WCall.pf (s1) ?_ ?_ ?_ ?_;iterate 3 (solve|simp [hltI,Stp.D,Evt.D,Gt.W,Gt.cells,b3,a3,g1,g2,g3,ik]))
      | (refine WCall.pf (s2) ?_ ?_ ?_ ?_;iterate 3 (solve|simp [hltI,Stp.D,Evt.D,Gt.W,Gt.cells,b3,a3,g1,g2,g3,ik]))
      | (refine WCall.pf (f1) ?_ ?_ ?_ ?_;iterate 3 (solve|simp [hltI,Stp.D,Evt.D,Gt.W,Gt.cells,b3,a3,g1,g2,g3,ik]))
      | (refine WCall.pf (f2) ?_ ?_ ?_ ?_;iterate 3 (solve|simp [hltI,Stp.D,Evt.D,Gt.W,Gt.cells,b3,a3,g1,g2,g3,ik]))
      | with_reducible refine aI ?_ ?_ ?_)
     all_goals exact ⟨_,k + 1,(gr0 [0] hB0 (by simp [Stp.D,Evt.D,Gt.W,Gt.cells]) (by simp [Stp.D,Evt.D,Gt.W,Gt.cells]) (.inl (by simp [Stp.D,Evt.D,Gt.W,Gt.cells]))),by omega,rfl,by omega⟩
    ·by_cases a2 : sa = 2
     ·skip
      repeat' (first
       | simp [hltI,Stp.D,Evt.D,Gt.W,Gt.cells,b3,a2,g1,ik]
       | refine ⟨wcS ?_,?_⟩
       | (refine WCall.pf (s1) ?_ ?_ ?_ ?_;iterate 3 (solve|simp [hltI,Stp.D,Evt.D,Gt.W,Gt.cells,b3,a2,g1,ik]))
       | (refine WCall.pf (s2) ?_ ?_ ?_ ?_;iterate 3 (solve|simp [hltI,Stp.D,Evt.D,Gt.W,Gt.cells,b3,a2,g1,ik]))
       | (refine WCall.pf (f1) ?_ ?_ ?_ ?_;iterate 3 (solve|simp [hltI,Stp.D,Evt.D,Gt.W,Gt.cells,b3,a2,g1,ik]))
       | (refine WCall.pf (f2) ?_ ?_ ?_ ?_;iterate 3 (solve|simp [hltI,Stp.D,Evt.D,Gt.W,Gt.cells,b3,a2,g1,ik]))
       | with_reducible refine aI ?_ ?_ ?_)
      all_goals exact ⟨_,k + 1,(gr0 [0] hB0 (by simp [Stp.D,Evt.D,Gt.W,Gt.cells]) (by simp [Stp.D,Evt.D,Gt.W,Gt.cells]) (.inl (by simp [Stp.D,Evt.D,Gt.W,Gt.cells]))),by omega,rfl,by omega⟩
     ·have g2 : fa = 0 := e3 a2 a3
      have g2i : (fa : Int) = 0 := by omega
      have g0 : ¬ ((fb : Int) < 0) := by omega
      by_cases a4 : sa = 4
      ·skip
       repeat' (first
        | simp [hltI,Stp.D,Evt.D,Gt.W,Gt.cells,b3,a4,g1,ik,g2,g2i,g0]
        | refine ⟨wcS ?_,?_⟩
        | (refine WCall.pf (s1) ?_ ?_ ?_ ?_;iterate 3 (solve|simp [hltI,Stp.D,Evt.D,Gt.W,Gt.cells,b3,a4,g1,ik,g2,g2i,g0]))
        | (refine WCall.pf (s2) ?_ ?_ ?_ ?_;iterate 3 (solve|simp [hltI,Stp.D,Evt.D,Gt.W,Gt.cells,b3,a4,g1,ik,g2,g2i,g0]))
        | (refine WCall.pf (f1) ?_ ?_ ?_ ?_;iterate 3 (solve|simp [hltI,Stp.D,Evt.D,Gt.W,Gt.cells,b3,a4,g1,ik,g2,g2i,g0]))
        | (refine WCall.pf (f2) ?_ ?_ ?_ ?_;iterate 3 (solve|simp [hltI,Stp.D,Evt.D,Gt.W,Gt.cells,b3,a4,g1,ik,g2,g2i,g0]))
        | with_reducible refine aI ?_ ?_ ?_)
       all_goals exact ⟨_,k + 1,(gr0 [0] hB0 (by simp [Stp.D,Evt.D,Gt.W,Gt.cells]) (by simp [Stp.D,Evt.D,Gt.W,Gt.cells]) (.inl (by simp [Stp.D,Evt.D,Gt.W,Gt.cells]))),by omega,rfl,by omega⟩
      by_cases a0 : sa = 0
      ·skip
       repeat' (first
        | simp [hltI,Stp.D,Evt.D,Gt.W,Gt.cells,b3,a0,g1,ik,g2,g2i,g0]
        | refine ⟨wcS ?_,?_⟩
        | (refine WCall.pf (s1) ?_ ?_ ?_ ?_;iterate 3 (solve|simp [hltI,Stp.D,Evt.D,Gt.W,Gt.cells,b3,a0,g1,ik,g2,g2i,g0]))
        | (refine WCall.pf (s2) ?_ ?_ ?_ ?_;iterate 3 (solve|simp [hltI,Stp.D,Evt.D,Gt.W,Gt.cells,b3,a0,g1,ik,g2,g2i,g0]))
        | (refine WCall.pf (f1) ?_ ?_ ?_ ?_;iterate 3 (solve|simp [hltI,Stp.D,Evt.D,Gt.W,Gt.cells,b3,a0,g1,ik,g2,g2i,g0]))
        | (refine WCall.pf (f2) ?_ ?_ ?_ ?_;iterate 3 (solve|simp [hltI,Stp.D,Evt.D,Gt.W,Gt.cells,b3,a0,g1,ik,g2,g2i,g0]))
        | with_reducible refine aI ?_ ?_ ?_)
       all_goals exact ⟨_,k + 1,(gr0 [0] hB0 (by simp [Stp.D,Evt.D,Gt.W,Gt.cells]) (by simp [Stp.D,Evt.D,Gt.W,Gt.cells]) (.inl (by simp [Stp.D,Evt.D,Gt.W,Gt.cells]))),by omega,rfl,by omega⟩
      ·skip
       repeat' (first
        | simp [hltI,Stp.D,Evt.D,Gt.W,Gt.cells,b3,a3,a4,a0,g1,ik,g2,g2i,g0]
        | refine ⟨wcS ?_,?_⟩
        | (refine WCall.pf (s1) ?_ ?_ ?_ ?_;iterate 3 (solve|simp [hltI,Stp.D,Evt.D,Gt.W,Gt.cells,b3,a3,a4,a0,g1,ik,g2,g2i,g0]))
        | (refine WCall.pf (s2) ?_ ?_ ?_ ?_;iterate 3 (solve|simp [hltI,Stp.D,Evt.D,Gt.W,Gt.cells,b3,a3,a4,a0,g1,ik,g2,g2i,g0]))
        | (refine WCall.pf (f1) ?_ ?_ ?_ ?_;iterate 3 (solve|simp [hltI,Stp.D,Evt.D,Gt.W,Gt.cells,b3,a3,a4,a0,g1,ik,g2,g2i,g0]))
        | (refine WCall.pf (f2) ?_ ?_ ?_ ?_;iterate 3 (solve|simp [hltI,Stp.D,Evt.D,Gt.W,Gt.cells,b3,a3,a4,a0,g1,ik,g2,g2i,g0]))
        | with_reducible refine aI ?_ ?_ ?_)
       all_goals exact ⟨_,k + 1,(gr0 [0] hB0 (by simp [Stp.D,Evt.D,Gt.W,Gt.cells]) (by simp [Stp.D,Evt.D,Gt.W,Gt.cells]) (.inl (by simp [Stp.D,Evt.D,Gt.W,Gt.cells]))),by omega,rfl,by omega⟩
   ·by_cases a3 : sa = 3
    ·have g2 : ¬ ((fa : Int) = 0) := by have := e2 a3;omega
     have g3 : ¬ (fa = 0) := by omega
     repeat' (first
      | simp [hltI,Stp.D,Evt.D,Gt.W,Gt.cells,b3,a3,g2,g3,ik]
      | refine ⟨wcS ?_,?_⟩
      | (refine WCall.pf (s1) ?_ ?_ ?_ ?_;iterate 3 (solve|simp [hltI,Stp.D,Evt.D,Gt.W,Gt.cells,b3,a3,g2,g3,ik]))
      | (refine WCall.pf (s2) ?_ ?_ ?_ ?_;iterate 3 (solve|simp [hltI,Stp.D,Evt.D,Gt.W,Gt.cells,b3,a3,g2,g3,ik]))
      | (refine WCall.pf (f1) ?_ ?_ ?_ ?_;iterate 3 (solve|simp [hltI,Stp.D,Evt.D,Gt.W,Gt.cells,b3,a3,g2,g3,ik]))
      | (refine WCall.pf (f2) ?_ ?_ ?_ ?_;iterate 3 (solve|simp [hltI,Stp.D,Evt.D,Gt.W,Gt.cells,b3,a3,g2,g3,ik]))
      | with_reducible refine aI ?_ ?_ ?_)
     all_goals exact ⟨_,k + 1,(gr0 [0] hB0 (by simp [Stp.D,Evt.D,Gt.W,Gt.cells]) (by simp [Stp.D,Evt.D,Gt.W,Gt.cells]) (.inl (by simp [Stp.D,Evt.D,Gt.W,Gt.cells]))),by omega,rfl,by omega⟩
    ·by_cases a2 : sa = 2
     ·skip
      repeat' (first
       | simp [hltI,Stp.D,Evt.D,Gt.W,Gt.cells,b3,a2,ik]
       | refine ⟨wcS ?_,?_⟩
       | (refine WCall.pf (s1) ?_ ?_ ?_ ?_;iterate 3 (solve|simp [hltI,Stp.D,Evt.D,Gt.W,Gt.cells,b3,a2,ik]))
       | (refine WCall.pf (s2) ?_ ?_ ?_ ?_;iterate 3 (solve|simp [hltI,Stp.D,Evt.D,Gt.W,Gt.cells,b3,a2,ik]))
       | (refine WCall.pf (f1) ?_ ?_ ?_ ?_;iterate 3 (solve|simp [hltI,Stp.D,Evt.D,Gt.W,Gt.cells,b3,a2,ik]))
       | (refine WCall.pf (f2) ?_ ?_ ?_ ?_;iterate 3 (solve|simp [hltI,Stp.D,Evt.D,Gt.W,Gt.cells,b3,a2,ik]))
       | with_reducible refine aI ?_ ?_ ?_)
      all_goals exact ⟨_,k + 1,(gr0 [0] hB0 (by simp [Stp.D,Evt.D,Gt.W,Gt.cells]) (by simp [Stp.D,Evt.D,Gt.W,Gt.cells]) (.inl (by simp [Stp.D,Evt.D,Gt.W,Gt.cells]))),by omega,rfl,by omega⟩
     ·have g2 : fa = 0 := e3 a2 a3
      have g2i : (fa : Int) = 0 := by omega
      have g0 : ¬ ((fb : Int) < 0) := by omega
      by_cases a4 : sa = 4
      ·skip
       repeat' (first
        | simp [hltI,Stp.D,Evt.D,Gt.W,Gt.cells,b3,a4,ik,g2,g2i,g0]
        | refine ⟨wcS ?_,?_⟩
        | (refine WCall.pf (s1) ?_ ?_ ?_ ?_;iterate 3 (solve|simp [hltI,Stp.D,Evt.D,Gt.W,Gt.cells,b3,a4,ik,g2,g2i,g0]))
        | (refine WCall.pf (s2) ?_ ?_ ?_ ?_;iterate 3 (solve|simp [hltI,Stp.D,Evt.D,Gt.W,Gt.cells,b3,a4,ik,g2,g2i,g0]))
        | (refine WCall.pf (f1) ?_ ?_ ?_ ?_;iterate 3 (solve|simp [hltI,Stp.D,Evt.D,Gt.W,Gt.cells,b3,a4,ik,g2,g2i,g0]))
        | (refine WCall.pf (f2) ?_ ?_ ?_ ?_;iterate 3 (solve|simp [hltI,Stp.D,Evt.D,Gt.W,Gt.cells,b3,a4,ik,g2,g2i,g0]))
        | with_reducible refine aI ?_ ?_ ?_)
       all_goals exact ⟨_,k + 1,(gr0 [0] hB0 (by simp [Stp.D,Evt.D,Gt.W,Gt.cells]) (by simp [Stp.D,Evt.D,Gt.W,Gt.cells]) (.inl (by simp [Stp.D,Evt.D,Gt.W,Gt.cells]))),by omega,rfl,by omega⟩
      by_cases a0 : sa = 0
      ·skip
       repeat' (first
        | simp [hltI,Stp.D,Evt.D,Gt.W,Gt.cells,b3,a0,ik,g2,g2i,g0]
        | refine ⟨wcS ?_,?_⟩
        | (refine WCall.pf (s1) ?_ ?_ ?_ ?_;iterate 3 (solve|simp [hltI,Stp.D,Evt.D,Gt.W,Gt.cells,b3,a0,ik,g2,g2i,g0]))
        | (refine WCall.pf (s2) ?_ ?_ ?_ ?_;iterate 3 (solve|simp [hltI,Stp.D,Evt.D,Gt.W,Gt.cells,b3,a0,ik,g2,g2i,g0]))
        | (refine WCall.pf (f1) ?_ ?_ ?_ ?_;iterate 3 (solve|simp [hltI,Stp.D,Evt.D,Gt.W,Gt.cells,b3,a0,ik,g2,g2i,g0]))
        | (refine WCall.pf (f2) ?_ ?_ ?_ ?_;iterate 3 (solve|simp [hltI,Stp.D,Evt.D,Gt.W,Gt.cells,b3,a0,ik,g2,g2i,g0]))
        | with_reducible refine aI ?_ ?_ ?_)
       all_goals exact ⟨_,k + 1,(gr0 [0] hB0 (by simp [Stp.D,Evt.D,Gt.W,Gt.cells]) (by simp [Stp.D,Evt.D,Gt.W,Gt.cells]) (.inl (by simp [Stp.D,Evt.D,Gt.W,Gt.cells]))),by omega,rfl,by omega⟩
      ·skip
       repeat' (first
        | simp [hltI,Stp.D,Evt.D,Gt.W,Gt.cells,b3,a3,a4,a0,ik,g2,g2i,g0]
        | refine ⟨wcS ?_,?_⟩
        | (refine WCall.pf (s1) ?_ ?_ ?_ ?_;iterate 3 (solve|simp [hltI,Stp.D,Evt.D,Gt.W,Gt.cells,b3,a3,a4,a0,ik,g2,g2i,g0]))
        | (refine WCall.pf (s2) ?_ ?_ ?_ ?_;iterate 3 (solve|simp [hltI,Stp.D,Evt.D,Gt.W,Gt.cells,b3,a3,a4,a0,ik,g2,g2i,g0]))
        | (refine WCall.pf (f1) ?_ ?_ ?_ ?_;iterate 3 (solve|simp [hltI,Stp.D,Evt.D,Gt.W,Gt.cells,b3,a3,a4,a0,ik,g2,g2i,g0]))
        | (refine WCall.pf (f2) ?_ ?_ ?_ ?_;iterate 3 (solve|simp [hltI,Stp.D,Evt.D,Gt.W,Gt.cells,b3,a3,a4,a0,ik,g2,g2i,g0]))
        | with_reducible refine aI ?_ ?_ ?_)
       all_goals exact ⟨_,k + 1,(gr0 [0] hB0 (by simp [Stp.D,Evt.D,Gt.W,Gt.cells]) (by simp [Stp.D,Evt.D,Gt.W,Gt.cells]) (.inl (by simp [Stp.D,Evt.D,Gt.W,Gt.cells]))),by omega,rfl,by omega⟩
  ·obtain rfl : k = 12 := by omega
   simp [ii]
   exact ⟨_,i + 1,(gr0 [] hB0 (by simp) (by simp) (.inr rfl)),by omega,rfl,by omega⟩
 ·obtain rfl : i = p.steps.length := by omega
  simp [hP']
end Go.Proofs.YtibemmkfcjlmpaaGreat
