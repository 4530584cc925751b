/- What the program computes, step by step, and the rules for it. No condition of its own. -/
import Derived.Test.YtibemmkfcjlmpaaGreatUae
set_option linter.unusedSimpArgs false
set_option linter.unusedVariables false
set_option maxRecDepth 100000
set_option maxHeartbeats 8000000
namespace Go.Proofs.YtibemmkfcjlmpaaGreat
open Go.RowKit
attribute [local simp] AK_at acode_seq acode_region acode_draw acode_cond CB_u acode_block acode_loop acode_exit acode_scope acode_ret acode_skip seqQ_n seqQ_e seqQ_r blockQ_n blockQ_e blockQ_r TK_at OK_at SK_at aops_nil aops_cons asch_done asch_one asch_two asch_top astep aop_eq isLoud aloud aloud1 isWrite qv evS strip gof eget hget putO eput herase oks opnds gS afin afin0 binD arith D.cells takeD fillD keep trim envOf Fin aresl aresv resD argOk pickV isP deq deqs boundD slD lenD isT isSl ptrIds chunks mn_min mx_max splice_one splice_more Rbr_at Rfr_at frR frV frC flatC brwR brwV brwC omap leR leV leC leL leVL rnR rnV rnC rnO rho_0 hputs herases rnS LtS LtR LtV LtC LtO lget noV noC flatR flatV rho
attribute [local simp ↓] CB_t CB_f
theorem noteH_may (w : Wtch) (h : Hlth) (failed : Bool) (now : Int) : noteH w h failed now false = (⟨pushM w.window.toNat h.marks failed,h.out,h.til,h.times⟩,false) := by simp [noteH]
end Go.Proofs.YtibemmkfcjlmpaaGreat
namespace Go.Proofs.YtibemmkfcjlmpaaGreat
open Go.RowKit
def QH (g : Gt) : Prop := g.c.c9 = 0 ∧ ∀ h ∈ g.hl,h.out = false ∧ h.times = 0
theorem QH.same {g g' : Gt} (h : QH g) (hc : g'.c = g.c) (hl : g'.hl = g.hl) : QH g' := by unfold QH;rw [hc,hl];exact h
theorem QH.note {g : Gt} (h : QH g) (b : Int) (failed : Bool) : QH (g.note b failed) := by
 refine ⟨h.1,fun x hx => ?_⟩
 rcases List.mem_or_eq_of_mem_set hx with hx | rfl
 ·exact h.2 x hx
 ·have h0 : (g.hl.getD b.toNat hzero).out = false ∧ (g.hl.getD b.toNat hzero).times = 0 := by
   rcases Nat.lt_or_ge b.toNat g.hl.length with hl | hl
   ·exact h.2 _ (getD_mem _ hl)
   ·rw [zC,List.getElem?_eq_none hl];exact ⟨rfl,rfl⟩
  have ha : allowM (outN g.L g.hl) (actN g.L) g.c.c9 = false := by
   unfold allowM
   rw [h.1]
   simp;omega
  rw [ha,Bool.false_and,noteH_may]
  exact h0
theorem QH.spared {g : Gt} (h : QH g) (b : Int) : QH (g.spared b) := by unfold Gt.spared;split <;> exact h.same rfl rfl
theorem QH.drop {g : Gt} (h : QH g) (i : Nat) (o : Outp) : QH (g.drop i o) := QH.spared (g := g.dropA i o) (h.same rfl rfl) _
theorem QH.failed {g : Gt} (h : QH g) (i : Nat) (why : Int) : QH (g.failed i why) := by
 have hn := h.note (g.fl.getD i default).backend true
 unfold Gt.failed
 simp only
 split
 ·exact hn.drop _ _
 ·split
  ·exact hn.drop _ _
  ·split
   ·apply QH.spared;exact hn.same rfl rfl
   ·exact hn.same rfl rfl
theorem QH.offs : ∀ (l : List Int) {g : Gt},QH g → QH (g.offs l)
 | [],g,h => h
 | s :: l,g,h => by
  refine QH.offs l (g := g.off1 s) ?_
  unfold Gt.off1
  simp only
  split
  ·exact h.drop _ _
  ·exact h.failed _ _
theorem QH.cut1 : ∀ (l : List Hnd) {g : Gt},QH g → QH (g.cut1 l)
 | [],g,h => h
 | s :: l,g,h => QH.cut1 l (h.drop _ _)
theorem QH.cuts : ∀ (l : List Lif) {g : Gt},QH g → QH (g.cuts l)
 | [],g,h => h
 | x :: l,g,h => by
  unfold Gt.cuts
  split
  ·exact QH.cuts l h
  ·exact QH.cuts l (h.cut1 _)
theorem QH.opened {g : Gt} (h : QH g) (key : Int) : QH (g.opened key) := by
 unfold Gt.opened
 split
 ·exact h.same rfl rfl
 ·split
  ·exact h.same rfl rfl
  ·exact h.same rfl rfl
theorem QH.ask {g : Gt} (h : QH g) (e : Evt) : QH (g.ask e) := by
 unfold Gt.ask
 simp only
 split
 ·exact h.same rfl rfl
 ·split
  ·exact h.same rfl rfl
  ·apply QH.spared;exact h.same rfl rfl
theorem QH.tick0 {g : Gt} (h : QH g) : QH g.tick0 := by
 refine ⟨h.1,fun x hx => ?_⟩
 obtain ⟨y,hy,rfl⟩ := List.mem_map.1 hx
 have h1 : y.out = false ∧ y.times = 0 := by
  rcases wokenH_mem _ _ _ hy with h1 | rfl
  ·exact h.2 y h1
  ·exact ⟨rfl,rfl⟩
 unfold backH
 rw [if_neg (by rw [h1.1];simp)]
 exact h1
theorem QH.tick {g : Gt} (h : QH g) : QH g.tick := by
 unfold Gt.tick
 exact QH.cuts _ (QH.offs _ h.tick0)
theorem QH.served {g : Gt} (h : QH g) (i : Nat) : QH (g.served i) := h.same rfl rfl
theorem QH.dueA {g : Gt} (h : QH g) (i : Nat) (z : Int) : QH (g.dueA i z) := h.same rfl rfl
theorem QH.put {g : Gt} (h : QH g) (o : Outp) : QH (g.put o) := h.same rfl rfl
theorem QH.flow {g : Gt} (h : QH g) (e : Evt) : QH (g.flow e) := by
 unfold Gt.flow
 split
 ·exact h.put _
 ·simp only
  split
  ·exact h.drop _ _
  ·split
   ·apply QH.put
    split
    ·exact h.dueA _ _
    ·exact h
   ·split
    ·exact h.put _
    ·split
     ·exact (((h.served _).note _ _).dueA _ _).put _
     ·exact h.failed _ _
theorem QH.step {g : Gt} (h : QH g) (e : Evt) : QH (g.step e) := by
 unfold Gt.step
 split
 ·exact h.opened _
 ·split
  ·exact h.ask _
  ·split
   ·exact h.tick
   ·exact h.flow _
theorem QH.act {p : Ply} (h : QH p.last) (e : Evt) : QH (p.act e).last := QH.same (h.step e) rfl rfl
theorem QH.deeds : ∀ (l : List (List Int)) {p : Ply},QH p.last → QH (deedsM p l).last
 | [],p,h => h
 | d :: l,p,h => QH.deeds l (h.act _)
theorem played_healthy {c : Cfg} (h : c.c9 = 0) (l : List (List Int)) (most : Nat) : ∀ x ∈ (playedM c l most).last.hl,x.out = false ∧ x.times = 0 := by
 have h0 : QH (play0 c).last := ⟨h,fun x hx => by rw [(List.mem_replicate.1 hx).2];exact ⟨rfl,rfl⟩⟩
 exact (QH.deeds (l.take most) ((((h0.act _).act _).act _).act _)).2
end Go.Proofs.YtibemmkfcjlmpaaGreat
namespace Go.Proofs.YtibemmkfcjlmpaaGreat
open Go.RowKit
attribute [local simp] AK_at acode_seq acode_region acode_draw acode_cond CB_u acode_block acode_loop acode_exit acode_scope acode_ret acode_skip seqQ_n seqQ_e seqQ_r blockQ_n blockQ_e blockQ_r TK_at OK_at SK_at aops_nil aops_cons asch_done asch_one asch_two asch_top astep aop_eq isLoud aloud aloud1 isWrite qv evS strip gof eget hget putO eput herase oks opnds gS afin afin0 binD arith D.cells takeD fillD keep trim envOf Fin aresl aresv resD argOk pickV isP deq deqs boundD slD lenD isT isSl ptrIds chunks mn_min mx_max splice_one splice_more Rbr_at Rfr_at frR frV frC flatC brwR brwV brwC omap leR leV leC leL leVL rnR rnV rnC rnO rho_0 hputs herases rnS LtS LtR LtV LtC LtO lget noV noC flatR flatV rho
attribute [local simp ↓] CB_t CB_f
theorem thea_code : cfun Tryz.prog [] 12 = some ⟨(.seq (qR 0 [oB 2 0,oX 4 (.mov (.k qF))]) (.seq (qR 1 [oF 8 9 2,oY (.store 1 (.t 8) (kI 0))]) (.seq (qR 2 [oA 10 16 2,oM 11 1,oX 12 (.call 23 [(.t 10),(.t 11),(kI 60)]),oM 9 12,oE 13 9 0,oE 14 9 1,oM 5 13,oM 6 14]) (.seq (.seq (qR 3 [oK 7 0]) (.block 0 (.loop (.seq (.seq (qR 4 [oM 15 7,oM 16 5,oN 17 16,oF 18 17 17,oF 19 22 18,oL 20 1 19,oH 21 20,oX 22 (.bin .lss (.t 15) (.t 21))]) (.cond 22 .skip (.exit 0))) (.seq (.block 1 (.seq (qR 6 [oM 25 5,oN 26 25,oF 27 17 26,oF 28 22 27,oL 29 1 28,oM 30 7,oI 31 4 29 30,oF 32 1 31,oL 33 1 32,oM 34 33,oG 35 (.mov (.t 5)) 34 false,oG 36 (.nchk (.t 35)) 34 false,oG 37 (.fad 17 (.t 36)) 34 false,oG 38 (.fad 22 (.t 37)) 34 false,oG 39 (.load false 1 (.t 38)) 34 false,oG 40 (.mov (.t 7)) 34 false,oG 41 (.iads 4 (.t 39) (.t 40)) 34 false,oG 42 (.fad 3 (.t 41)) 34 false,oG 43 (.load false 1 (.t 42)) 34 false,oG 44 (.bin .gtr (.t 43) (kI 0)) 34 false,oX 45 (.pick (.t 34) (.k qT) (.t 44))]) (.cond 45 (.seq (qR 7 [oX 4 (.mov (.k qF))]) .ret) .skip))) (qR 5 [oM 23 7,oX 24 (.bin .add (.t 23) (kI 1)),oM 7 24])))))) (.seq (qR 8 [oM 46 6,oM 47 46,oG 48 (.mov (.t 5)) 47 true,oG 49 (.nchk (.t 48)) 47 true,oG 50 (.fad 17 (.t 49)) 47 true,oG 51 (.fad 22 (.t 50)) 47 true,oG 52 (.load false 1 (.t 51)) 47 true,oG 53 (.len (.t 52)) 47 true,oG 54 (.bin .eql (.t 53) (kI 12)) 47 true,oX 55 (.pick (.t 47) (.t 54) (.k qF)),oM 4 55]) .ret))))),[(.t 4)],56⟩ := by kernel_rfl
theorem thea_pf (s : List Int) (l : List (List Int)) (hs : s.length = 16 ∧ ∀ z ∈ s,InR z) (hl : l.length ≤ Go.maxLen) (hr : ∀ r ∈ l,r.length = 4 ∧ ∀ z ∈ r,InR z) :
  PF Tryz.prog 12 [.agg (s.map I),.rows 4 (l.map fun r => r.map I)] (.bool true) := by
 obtain ⟨a0,a1,a2,a3,a4,a5,a6,a7,a8,a9,a10,a11,a12,a13,a14,a15,rfl⟩ := sixteen hs.1
 obtain ⟨c,hc,h9,hpl⟩ := played_hf [a0,a1,a2,a3,a4,a5,a6,a7,a8,0,a10,a11,a12,a13,a14,a15] l 60 ⟨rfl,by
  have h := hs.2
  simp only [List.mem_cons,List.not_mem_nil,or_false] at h ⊢
  rintro z (rfl | rfl | rfl | rfl | rfl | rfl | rfl | rfl | rfl | rfl | rfl | rfl | rfl | rfl | rfl | rfl)
  all_goals first | exact inW (by omega) (by omega) | exact h _ (by simp)⟩ hl hr (by omega)
 have hq := played_healthy (h9 rfl) l 60
 have hn : (playedM c l 60).last.hl.length = 12 := by
  have hP := deeds_PR (play4_PR hc) (l.take 60) (l.take 60).length (Nat.le_refl _) (by rw [List.length_take];omega)
  rw [List.take_length] at hP
  exact hP.inv.rest.mid.hn
 generalize playedM c l 60 = p at hpl hq hn
 obtain ⟨P,hP⟩ : ∃ P,P = p.P := ⟨_,rfl⟩
 have hP' := hP
 simp only [Ply.P,Ply.cells,Cfg.D,Gt.W,Gt.cells,List.cons_append,List.nil_append] at hP'
 simp only [Ply.H,Ply.cells,Cfg.D,Gt.W,Gt.cells,List.cons_append,List.nil_append] at hpl
 refine pO thea_code [0,1,2,4,5,6,7,22,45] [3] fun B hBN hB0 => ?_
 simp
 refine WCall.hf0 hpl (by simp) (by simp) (by simp) (by simp) ?_
 rintro d H' nx' ⟨rfl,rfl,rfl⟩
 simp
 refine W.freeze [1,2,3] ?_
 simp [freeze,hkeep,hdrop,fzS,fzR,fzV,fzC,fzO]
 rw [← hP']
 clear hpl hs hr hl
 refine acode_sound [0,1,2,4,5,6,7,22,45] [] _ _ _ ?_
 simp
 refine W.loopS (fun y : Nat => ⟨[(7,I y),(6,.bool true),(5,.pc P)],[],0⟩)
  (fun m i => m = p.last.hl.length - i ∧ i ≤ p.last.hl.length) ?_ ?_
 ·exact ⟨_,0,(gr0 [] hB0 (by simp) (by simp) (.inr rfl)),rfl,by omega⟩
 rintro m i ⟨hm,hi⟩
 refine acode_sound [0,1,2,4,5,6,7,22,45] [] _ _ _ ?_
 by_cases hlt : i < p.last.hl.length
 ·have ii : InR ((i : Int) + 1) := inW (by omega) (by omega)
  have hx := hq _ (List.getElem_mem hlt)
  obtain ⟨x,hxe⟩ : ∃ x,x = p.last.hl[i] := ⟨_,rfl⟩
  rw [← hxe] at hx
  obtain ⟨x1,x2⟩ := hx
  simp [hP',hlt,← hxe,Hlth.D,x1,x2,ii]
  rw [← hP']
  exact ⟨_,i + 1,(gr0 [] hB0 (by simp) (by simp) (.inr rfl)),by omega,rfl,by omega⟩
 ·obtain rfl : i = p.last.hl.length := by omega
  simp [hP',hn]
end Go.Proofs.YtibemmkfcjlmpaaGreat
