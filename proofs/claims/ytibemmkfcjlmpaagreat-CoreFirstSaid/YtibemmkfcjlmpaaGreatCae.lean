/- What the program computes, step by step, and the rules for it. No condition of its own. -/
import Derived.Test.YtibemmkfcjlmpaaGreatCad
set_option linter.unusedSimpArgs false
set_option linter.unusedVariables false
set_option maxRecDepth 100000
set_option maxHeartbeats 8000000
namespace Go.Proofs.YtibemmkfcjlmpaaGreat
open Go.RowKit
attribute [local simp] AK_at acode_seq acode_region acode_draw acode_cond CB_u acode_block acode_loop acode_exit acode_scope acode_ret acode_skip seqQ_n seqQ_e seqQ_r blockQ_n blockQ_e blockQ_r TK_at OK_at SK_at aops_nil aops_cons asch_done asch_one asch_two asch_top astep aop_eq isLoud aloud aloud1 isWrite qv evS strip gof eget hget putO eput herase oks opnds gS afin afin0 binD arith D.cells takeD fillD keep trim envOf Fin aresl aresv resD argOk pickV isP deq deqs boundD slD lenD isT isSl ptrIds chunks mn_min mx_max splice_one splice_more Rbr_at Rfr_at frR frV frC flatC brwR brwV brwC omap leR leV leC leL leVL rnR rnV rnC rnO rho_0 hputs herases rnS LtS LtR LtV LtC LtO lget noV noC flatR flatV rho
attribute [local simp ↓] CB_t CB_f
theorem spared_out (g : Gt) (b : Int) : (g.spared b).out.length ≤ g.out.length + 1 := by
 unfold Gt.spared
 split <;> simp
theorem get_flow {g : Gt} {n : Nat} {ex : Int} (h : Mid g n ex) {f : Flw} (hf : f ∈ g.fl) : getM g.tb f.slot f.gen = (⟨f.gen,true,f.key,f.backend⟩,0) := by
 obtain ⟨h0,h1,h2,_⟩ := h.flow hf
 unfold getM
 rw [if_neg (by omega),h2,if_pos ⟨rfl,rfl⟩]
theorem gdrop_code : cfun Tryz.prog [] 96 = some ⟨(.seq (qR 0 [oB 5 2]) (.seq (qR 1 [oM 9 0,oN 10 9,oF 11 0 10,oF 12 18 11,oL 13 1 12,oM 14 1,oI 15 7 13 14,oA 16 7 15,oX 6 (.alloc [qZ,qZ,qZ,qZ,qF,qZ,qZ]),oS 7 6 16]) (.seq (qR 2 [oM 17 0,oM 18 0,oN 19 18,oF 20 0 19,oF 21 18 20,oL 22 1 21,oM 23 1,oM 24 1,oX 25 (.bin .add (.t 24) (kI 1)),oX 26 (.call 139 [(.t 22),(.t 23),(.t 25)]),oN 27 17,oF 28 0 27,oF 29 18 28,oS 1 29 26]) (.seq (.draw 3 (qN (oM 31 0) (qN (oM 32 0) (qN (oN 33 32) (qN (oF 34 0 33) (qN (oF 35 17 34) (qN (oA 36 1 35) (qN (oF 37 0 6) (qN (oA 38 2 37) (qN (oX 39 (.call 140 [(.t 36),(.t 38)])) (qN (oM 30 39) (qN (oE 40 30 0) (qN (oE 41 30 1) (qN (oN 42 31) (qN (oF 43 0 42) (qN (oF 44 17 43) (.one false (oS 1 44 40) .done))))))))))))))))) (.seq (.seq (.draw 4 (qN (oM 46 0) (qN (oN 47 46) (qN (oF 48 0 47) (qN (oF 49 24 48) (qN (oA 50 2 49) (qN (oF 51 0 6) (qN (oF 52 0 51) (qN (oL 53 1 52) (.two (qN (oX 54 (.call 67 [(.t 50),(.t 53)])) (qN (oM 45 54) (qN (oE 55 45 0) (qN (oE 56 45 1) (qN (oX 7 (.alloc [qZ,.nil0])) (.one false (oS 2 7 55) (qN (oM 8 56) .done))))))) (.two (qN (oX 7 (.alloc [qZ,.nil0])) (qN (oX 54 (.call 67 [(.t 50),(.t 53)])) (qN (oM 45 54) (qN (oE 55 45 0) (qN (oE 56 45 1) (.one false (oS 2 7 55) (qN (oM 8 56) .done))))))) .top))))))))))) (.seq (qR 5 [oM 57 8,oX 58 (.bin .eql (.t 57) (kI 0))]) (.cond 58 (qR 6 [oM 59 0,oA 60 2 7,oN 61 59,oF 62 0 61,oF 63 24 62,oS 2 63 60]) .skip))) (.seq (.draw 7 (qN (oF 64 0 6) (qN (oF 65 0 64) (qN (oL 66 1 65) (qN (oF 67 0 6) (qN (oF 68 1 67) (qN (oF 70 3 6) (qN (oF 72 1 5) (.two (qN (oL 69 1 68) (.two (qN (oL 71 1 70) (.one false (oS 1 72 66) (qN (oF 73 2 5) (.one false (oS 1 73 69) (qN (oF 74 3 5) (.one false (oS 1 74 71) .done)))))) (.two (.one false (oS 1 72 66) (qN (oF 73 2 5) (.two (qN (oL 71 1 70) (.one false (oS 1 73 69) (qN (oF 74 3 5) (.one false (oS 1 74 71) .done)))) (.two (.one false (oS 1 73 69) (qN (oL 71 1 70) (qN (oF 74 3 5) (.one false (oS 1 74 71) .done)))) .top)))) .top))) (.two (qN (oL 71 1 70) (.two (qN (oL 69 1 68) (.one false (oS 1 72 66) (qN (oF 73 2 5) (.one false (oS 1 73 69) (qN (oF 74 3 5) (.one false (oS 1 74 71) .done)))))) (.two (.one false (oS 1 72 66) (qN (oL 69 1 68) (qN (oF 73 2 5) (.one false (oS 1 73 69) (qN (oF 74 3 5) (.one false (oS 1 74 71) .done)))))) .top))) (.two (.one false (oS 1 72 66) (qN (oL 69 1 68) (qN (oF 73 2 5) (.two (qN (oL 71 1 70) (.one false (oS 1 73 69) (qN (oF 74 3 5) (.one false (oS 1 74 71) .done)))) (.two (.one false (oS 1 73 69) (qN (oL 71 1 70) (qN (oF 74 3 5) (.one false (oS 1 74 71) .done)))) .top))))) .top))))))))))) (.seq (qR 8 [oM 75 0,oA 76 7 5,oX 77 (.call 82 [(.t 75),(.t 76)])]) (qR 9 [oM 78 0,oF 79 3 6,oL 80 1 79,oX 81 (.call 90 [(.t 78),(.t 80)])])))))))),[],82⟩ := by kernel_rfl
theorem gdrop_mf (g : Gt) (n : Nat) (i : Nat) (o : Outp) (h : Mid g n (-1)) (hi : i < g.fl.length) (ho : g.out.length < 999999) :
  MF Tryz.prog 96 [I i,.agg o.D] g (g.drop i o) := by
 have hm := List.getElem_mem hi
 obtain ⟨f,hf⟩ : ∃ f,f = g.fl[i] := ⟨_,rfl⟩
 have hget := get_flow h hm
 obtain ⟨s0,s1,_⟩ := h.flow hm
 have hA : g.dropA i o = { g with fl := g.fl.eraseIdx i,tb := g.tb.set f.slot.toNat ⟨f.gen + 1,false,0,0⟩,tm := rmT g.tm f.slot,out := g.out ++ [⟨o.kind,f.slot,f.gen,f.backend,o.request,o.code,o.why⟩] } := by
  unfold Gt.dropA;rw [getD_at _ hi,← hf]
 have hsp := gspar_mo (g.dropA i o) n f.backend (by have := h.dropA hi o;rw [getD_at _ hi,← hf] at this;exact this) (by rw [hA];simp;omega)
 have hD : (g.dropA i o).spared f.backend = g.drop i o := by unfold Gt.drop;rw [getD_at _ hi,← hf]
 rw [hD,hA] at hsp
 have hput := gput_mo { g with fl := g.fl.eraseIdx i,tb := g.tb.set f.slot.toNat ⟨f.gen + 1,false,0,0⟩,tm := rmT g.tm f.slot } ⟨o.kind,f.slot,f.gen,f.backend,o.request,o.code,o.why⟩ (by show g.out.length ≤ _;omega)
 have hl40 : g.fl.length < 1000000 := by have := fl_le h.fs;have := h.tok.2.1;omega
 have hdel := fdel_hf (g.fl.map Flw.D) i (by simpa using hi) (by simpa using hl40) (els_flw g.fl).rows (els_flw g.fl).isT
 have e1 : (g.fl.map Flw.D).take i ++ (g.fl.map Flw.D).drop (i + 1) = (g.fl.eraseIdx i).map Flw.D := by
  rw [List.eraseIdx_eq_take_drop_succ,List.map_append,List.map_take,List.map_drop]
 rw [e1] at hdel
 have htd := tdrop_pf g.tb f.slot f.gen h.tok
 rw [← hf] at hget s0 s1
 have e2 : dropM g.tb f.slot f.gen = (g.tb.set f.slot.toNat ⟨f.gen + 1,false,0,0⟩,0) := by unfold dropM;rw [hget];rfl
 rw [e2] at htd
 have ii : InR ((i : Int) + 1) := inW (by omega) (by omega)
 refine MF.of ?_
 generalize g.drop i o = G at hsp ⊢
 generalize g.fl.eraseIdx i = FL at hsp hput hdel
 generalize g.tb.set f.slot.toNat ⟨f.gen + 1,false,0,0⟩ = TB at hsp hput htd
 simp only [MO,Gt.H,Gt.cells,Gt.put,Outp.D,List.map_append,List.map_cons,List.map_nil,List.cons_append,List.nil_append] at hput hsp
 have hwn := h.wn
 unfold Gt.H Gt.cells
 by_cases hx : ∃ x ∈ g.tm,x.2 = f.slot
 ·have hc := wcanM g.now g.tm h.wh f.slot hx
  have e3 : (g.tm.filter fun t => decide (t.2 ≠ f.slot)) = rmT g.tm f.slot := rfl
  rw [e3] at hc
  simp only [whM_def] at hc
  generalize rmT g.tm f.slot = TM at hsp hput hc
  refine hO (h3 := by simp [Outp.D]) gdrop_code [0,1,2,5,6,7,8,58] [] fun B hBN hB0 => ?_
  simp [hi,← hf,Flw.D,Outp.D,ii]
  refine wH [1] (hdel) ?_
  rintro d H' nx' ⟨rfl,rfl,rfl⟩
  repeat' (first
   | simp [hwn]
   | refine ⟨wcS ?_,?_⟩
   | (refine WCall.pf (htd) ?_ ?_ ?_ ?_;iterate 3 (solve|simp [hwn]))
   | (refine WCall.pf (hc) ?_ ?_ ?_ ?_;iterate 3 (solve|simp [hwn]))
   | with_reducible refine aI ?_ ?_ ?_)
  all_goals
   refine WCall.hf [0,6,2,3] (hput) (by simp) rfl rfl (by decide) (by simp) (by simp [hwn]) (by simp [hwn]) (by simp [hwn]) (by simp [hwn]) ?_
   rintro d H' nx' ⟨rfl,rfl,rfl⟩
   simp
   refine WCall.hf [0,6,2,8] (hsp) (by simp) rfl rfl (by decide) (by simp) (by simp [hwn]) (by simp [hwn]) (by simp [hwn]) (by simp [hwn]) ?_
   rintro d H' nx' ⟨rfl,rfl,rfl⟩
   simp
   exact ⟨9,by simp,6,by simp⟩
 ·have hx2 : ∀ x ∈ g.tm,x.2 ≠ f.slot := fun x hx3 e => hx ⟨x,hx3,e⟩
  have hc := wcan0M g.now g.tm h.wh f.slot hx2
  rw [rm_none hx2] at hsp hput
  simp only [whM_def] at hc
  refine hO (h3 := by simp [Outp.D]) gdrop_code [0,1,2,5,6,7,8,58] [] fun B hBN hB0 => ?_
  simp [hi,← hf,Flw.D,Outp.D,ii]
  refine wH [1] (hdel) ?_
  rintro d H' nx' ⟨rfl,rfl,rfl⟩
  repeat' (first
   | simp [hwn]
   | refine ⟨wcS ?_,?_⟩
   | (refine WCall.pf (htd) ?_ ?_ ?_ ?_;iterate 3 (solve|simp [hwn]))
   | (refine WCall.pf (hc) ?_ ?_ ?_ ?_;iterate 3 (solve|simp [hwn]))
   | with_reducible refine aI ?_ ?_ ?_)
  all_goals
   refine WCall.hf [0,6,2,3] (hput) (by simp) rfl rfl (by decide) (by simp) (by simp [hwn]) (by simp [hwn]) (by simp [hwn]) (by simp [hwn]) ?_
   rintro d H' nx' ⟨rfl,rfl,rfl⟩
   simp
   refine WCall.hf [0,6,2,8] (hsp) (by simp) rfl rfl (by decide) (by simp) (by simp [hwn]) (by simp [hwn]) (by simp [hwn]) (by simp [hwn]) ?_
   rintro d H' nx' ⟨rfl,rfl,rfl⟩
   simp
   exact ⟨9,by simp,6,by simp⟩
theorem act_take (L : List Lif) (i : Nat) (h : i < L.length) : ((actN (L.take (i + 1)) : Nat) : Int) = (actN (L.take i) : Int) + if L[i].state = 2 then 1 else 0 := by
 unfold actN
 rw [List.take_succ_eq_append_getElem h,List.countP_append,List.countP_cons,List.countP_nil]
 split <;> simp_all
theorem out_take (L : List Lif) (hl : List Hlth) (i : Nat) (h : i < L.length) : ((outN (L.take (i + 1)) hl : Nat) : Int) = (outN (L.take i) hl : Int) + if L[i].state = 2 ∧ isOut hl L[i].backend = true then 1 else 0 := by
 unfold outN
 rw [List.take_succ_eq_append_getElem h,List.countP_append,List.countP_cons,List.countP_nil]
 by_cases h1 : L[i].state = 2 <;> cases h2 : isOut hl L[i].backend <;> simp [h1,h2]
theorem out_le (L : List Lif) (hl : List Hlth) : outN L hl ≤ actN L := by
 unfold outN actN
 exact List.countP_mono_left fun x _ hx => by simp only [Bool.and_eq_true] at hx;exact hx.1
theorem gnote_code : cfun Tryz.prog [] 99 = some ⟨(.seq (qR 0 [oK 6 0,oK 7 0]) (.seq (.seq (qR 1 [oM 15 0,oN 16 15,oF 17 0 16,oF 18 19 17,oF 19 0 18,oL 20 1 19,oH 21 20,oK 22 0]) (.block 0 (.loop (.seq (qR 2 [oX 23 (.bin .lss (.t 22) (.t 21))]) (.seq (.cond 23 .skip (.exit 0)) (.seq (.block 1 (.seq (qR 3 [oI 24 6 20 22,oA 25 6 24,oX 9 (.alloc [qZ,qZ,qZ,qZ,qZ,qZ]),oS 6 9 25]) (.seq (.seq (qR 4 [oF 26 1 9,oL 27 1 26,oX 28 (.bin .neq (.t 27) (kI 2))]) (.cond 28 (.exit 1) .skip)) (.seq (qR 5 [oM 29 7,oX 30 (.bin .add (.t 29) (kI 1)),oM 7 30]) (.seq (.draw 6 (qN (oM 31 0) (qN (oN 32 31) (qN (oF 33 0 32) (qN (oF 34 22 33) (qN (oL 35 1 34) (qN (oF 36 0 9) (qN (oL 37 1 36) (qN (oI 38 4 35 37) (qN (oF 39 1 38) (qN (oL 40 1 39) .done))))))))))) (.cond 40 (qR 7 [oM 41 6,oX 42 (.bin .add (.t 41) (kI 1)),oM 6 42]) .skip)))))) (qR 8 [oX 43 (.bin .add (.t 22) (kI 1)),oM 22 43]))))))) (.seq (qR 9 [oM 45 6,oM 46 7,oM 47 0,oN 48 47,oF 49 0 48,oF 50 0 49,oF 51 9 50,oL 52 1 51,oX 53 (.call 143 [(.t 45),(.t 46),(.t 52)]),oM 44 53,oE 54 44 0,oE 55 44 1,oM 10 54,oM 11 55]) (.seq (.draw 10 (qN (oM 57 0) (qN (oN 58 57) (qN (oF 59 0 58) (qN (oF 60 0 59) (qN (oF 61 13 60) (qN (oA 62 3 61) (qN (oM 63 0) (qN (oN 64 63) (qN (oF 65 0 64) (qN (oF 66 22 65) (qN (oL 67 1 66) (qN (oM 68 1) (qN (oI 69 4 67 68) (qN (oA 70 4 69) (qN (oM 71 2) (qN (oM 72 0) (qN (oN 73 72) (qN (oF 74 0 73) (qN (oF 75 16 74) (qN (oL 76 1 75) (qN (oM 77 10) (qN (oM 78 77) (qN (oG 79 (.mov (.t 0)) 78 true) (qN (oG 80 (.mov (.t 1)) 78 true) (.two (qN (oG 81 (.call 87 [(.t 79),(.t 80)]) 78 true) (qN (oG 82 (.bin .eql (.t 81) (kI 2)) 78 true) (qN (oX 83 (.pick (.t 78) (.t 82) (.k qF))) (.two (qN (oX 84 (.call 144 [(.t 62),(.t 70),(.t 71),(.t 76),(.t 83)])) (qN (oM 56 84) (qN (oE 85 56 0) (qN (oE 86 56 1) (qN (oE 87 56 2) (qN (oX 12 (.alloc [.nil0,qF,qZ,qZ])) (.one false (oS 4 12 85) (qN (oM 13 86) (qN (oM 14 87) .done))))))))) (.two (qN (oX 12 (.alloc [.nil0,qF,qZ,qZ])) (qN (oX 84 (.call 144 [(.t 62),(.t 70),(.t 71),(.t 76),(.t 83)])) (qN (oM 56 84) (qN (oE 85 56 0) (qN (oE 86 56 1) (qN (oE 87 56 2) (.one false (oS 4 12 85) (qN (oM 13 86) (qN (oM 14 87) .done))))))))) .top))))) (.two (qN (oX 12 (.alloc [.nil0,qF,qZ,qZ])) (qN (oG 81 (.call 87 [(.t 79),(.t 80)]) 78 true) (qN (oG 82 (.bin .eql (.t 81) (kI 2)) 78 true) (qN (oX 83 (.pick (.t 78) (.t 82) (.k qF))) (qN (oX 84 (.call 144 [(.t 62),(.t 70),(.t 71),(.t 76),(.t 83)])) (qN (oM 56 84) (qN (oE 85 56 0) (qN (oE 86 56 1) (qN (oE 87 56 2) (.one false (oS 4 12 85) (qN (oM 13 86) (qN (oM 14 87) .done)))))))))))) .top))))))))))))))))))))))))))) (.draw 11 (qN (oM 88 0) (qN (oN 89 88) (qN (oF 90 0 89) (qN (oF 91 22 90) (qN (oL 92 1 91) (qN (oM 93 1) (qN (oA 94 4 12) (qN (oI 95 4 92 93) (.one false (oS 4 95 94) .done)))))))))))))),[],96⟩ := by kernel_rfl
theorem gnote_mk (g : Gt) (n : Nat) (ex : Int) (fl' : List Flw) (b : Int) (failed : Bool) (h : Mid g n ex) (b0 : 0 ≤ b) (b1 : b < 12) :
    MK Tryz.prog 99 [I b, .bool failed] { g with fl := fl' } ({ g with fl := fl' }.note b failed) := by
  have hst := gstate_pf { g with fl := fl' } b h.bk
  have hll := h.bk.ll
  have hhn := h.hn
  have hb12 : b.toNat < g.hl.length := by omega
  have hm : g.hl.getD b.toNat hzero ∈ g.hl := getD_mem _ hb12
  have ho := h.hok _ hm
  have hale := out_le g.L g.hl
  have hale2 : actN g.L ≤ g.L.length := List.countP_le_length
  have hal := allw_pf (outN g.L g.hl) (actN g.L) g.c.c9 (by omega) (by omega) (by omega) h.c.w9.1 h.c.w9.2
  have hno := fun may => hnote_pf g.c.wat (g.hl.getD b.toNat hzero) failed may g.now h.c.w ho.1 h.n0 (by have := h.n1; have := h.nn; omega)
  obtain ⟨k, hk⟩ : ∃ k : Nat, b = k := ⟨b.toNat, by omega⟩
  have hgd : g.hl.getD b.toNat hzero = g.hl[k]'(by omega) := by subst hk; exact getD_at _ (by omega)
  have hkl : k < g.hl.length := by omega
  have hN : { g with fl := fl' }.note b failed = { g with fl := fl', hl := g.hl.set k (noteH g.c.wat g.hl[k] failed g.now (allowM (outN g.L g.hl) (actN g.L) g.c.c9 && decide (stateM g.L b = 2))).1 } := by
    unfold Gt.note; simp only; rw [hgd]; subst hk; rfl
  rw [hN]
  rw [hgd] at hno
  have hno1 := hno (allowM (outN g.L g.hl) (actN g.L) g.c.c9 && decide (stateM g.L b = 2))
  clear hno hN
  refine MK.of ?_
  generalize noteH g.c.wat g.hl[k] failed g.now (allowM (outN g.L g.hl) (actN g.L) g.c.c9 && decide (stateM g.L b = 2)) = NH at hno1
  obtain ⟨nh, nb⟩ := NH
  simp only at hno1
  simp only [Gt.P, Gt.W, Gt.cells, List.cons_append, List.nil_append] at hst
  unfold Gt.H Gt.cells
  subst hk
  simp only [Wtch.D] at hno1
  refine hO gnote_code [0, 1, 2, 6, 7, 9, 10, 12, 20, 21, 22, 23, 28, 40] [] fun B hBN hB0 => ?_
  simp
  refine W.loopS (fun y : Nat => ⟨[(22, I y), (21, I g.L.length), (20, .rows 6 (g.L.map Lif.D)), (7, I (actN (g.L.take y))), (6, I (outN (g.L.take y) g.hl)), (2, .bool failed), (1, I k), (0, .ptr 0 0)],
      [(3, .row 7 (g.out.map Outp.D)), (2, .row 4 (g.hl.map Hlth.D)), (1, .row 7 (fl'.map Flw.D)), (0, .cells [I g.c.slots, I g.c.num, I g.c.den, I g.c.tries, I g.c.c4, I g.c.c5, I g.c.c6, I g.c.c7, I g.c.c8, I g.c.c9, I g.c.bud.num, I g.c.bud.den, I g.c.bud.burst, I g.c.wat.window, I g.c.wat.fails, I g.c.wat.hold,
   I g.now, .rows 4 (g.tb.map TSlot.D), .own 1, .rows 6 (g.L.map Lif.D), .rows 5 (g.R.map Rqs.D), .rows 2 ((ringM g.ws).map spE), .own 2, I g.tok, I g.wn, .rows 1 (lrT g.wn g.tm), .own 3])], 4⟩)
    (fun n i => n = g.L.length - i ∧ i ≤ g.L.length) ?_ ?_
  · exact ⟨_, 0, (Gh.ren [0, 1, 2, 3] (by simp [hB0]) (by simp [hB0] <;> decide) (by simp [actN, outN]) (by simp [actN, outN]) (.inl (by simp [actN, outN]))), rfl, by omega⟩
  rintro n i ⟨hn, hi⟩
  refine acode_sound [0, 1, 2, 6, 7, 9, 10, 12, 20, 21, 22, 23, 28, 40] [] _ _ _ ?_
  by_cases hlt : i < g.L.length
  · have ha := act_take g.L i hlt
    have hou := out_take g.L g.hl i hlt
    have hlo := h.bk.lok _ (List.getElem_mem hlt)
    obtain ⟨x, hx⟩ : ∃ x, x = g.L[i] := ⟨_, rfl⟩
    rw [← hx] at ha hou hlo
    have ii : InR ((i : Int) + 1) := inW (by omega) (by omega)
    have hle1 : actN (g.L.take i) ≤ (g.L.take i).length := List.countP_le_length
    have hle2 := out_le (g.L.take i) g.hl
    rw [List.length_take] at hle1
    have ia : InR ((actN (g.L.take i) : Int) + 1) := inW (by omega) (by omega)
    have io : InR ((outN (g.L.take i) g.hl : Int) + 1) := inW (by omega) (by omega)
    by_cases s2 : x.state = 2
    · obtain ⟨m, hmm⟩ : ∃ m : Nat, x.backend = m := ⟨x.backend.toNat, by have := hlo.b0; omega⟩
      have hml : m < g.hl.length := by have := hlo.b1; omega
      have hio : isOut g.hl x.backend = g.hl[m].out := by unfold isOut; rw [hmm]; simp [zC, hml]
      obtain ⟨q, hq⟩ : ∃ q, q = g.hl[m] := ⟨_, rfl⟩
      rw [hio, ← hq] at hou
      cases hqo : q.out with
      | true =>
        simp [s2, hqo] at ha hou
        simp [hlt, ← hx, Lif.D, s2, ii, ia, io, hmm, hml, ← hq, Hlth.D, hqo]
        exact ⟨_, i + 1, (Gh.ren [0, 1, 2, 3] (by simp [hB0]) (by simp [hB0] <;> decide) (by simp [ha, hou]) (by simp [ha, hou]) (.inl (by simp [ha, hou]))), by omega, rfl, by omega⟩
      | false =>
        simp [s2, hqo] at ha hou
        simp [hlt, ← hx, Lif.D, s2, ii, ia, io, hmm, hml, ← hq, Hlth.D, hqo]
        exact ⟨_, i + 1, (Gh.ren [0, 1, 2, 3] (by simp [hB0]) (by simp [hB0] <;> decide) (by simp [ha, hou]) (by simp [ha, hou]) (.inl (by simp [ha, hou]))), by omega, rfl, by omega⟩
    · simp [s2] at ha hou
      simp [hlt, ← hx, Lif.D, s2, ii]
      exact ⟨_, i + 1, (Gh.ren [0, 1, 2, 3] (by simp [hB0]) (by simp [hB0] <;> decide) (by simp [ha, hou]) (by simp [ha, hou]) (.inl (by simp [ha, hou]))), by omega, rfl, by omega⟩
  · obtain rfl : i = g.L.length := by omega
    rw [List.take_length]
    obtain ⟨q, hq⟩ : ∃ q, q = g.hl[k] := ⟨_, rfl⟩
    rw [← hq] at hno1
    simp only [Hlth.D] at hno1
    cases hcl : allowM (outN g.L g.hl) (actN g.L) g.c.c9 with
    | true =>
      rw [hcl] at hal hno1
      by_cases hs2 : stateM g.L k = 2
      · simp [hs2] at hno1
        repeat' (first
          | simp [hcl, hkl, ← hq, Hlth.D, hs2]
          | refine ⟨wcS ?_, ?_⟩
          | (refine WCall.pf (hal) ?_ ?_ ?_ ?_; iterate 3 (solve|simp [hcl, hkl, ← hq, Hlth.D, hs2]))
          | (refine WCall.pf (hst) ?_ ?_ ?_ ?_; iterate 3 (solve|simp [hcl, hkl, ← hq, Hlth.D, hs2]))
          | (refine WCall.pf (hno1) ?_ ?_ ?_ ?_; iterate 3 (solve|simp [hcl, hkl, ← hq, Hlth.D, hs2]))
          | with_reducible refine aI ?_ ?_ ?_)
        all_goals done
      · simp [hs2] at hno1
        repeat' (first
          | simp [hcl, hkl, ← hq, Hlth.D, hs2]
          | refine ⟨wcS ?_, ?_⟩
          | (refine WCall.pf (hal) ?_ ?_ ?_ ?_; iterate 3 (solve|simp [hcl, hkl, ← hq, Hlth.D, hs2]))
          | (refine WCall.pf (hst) ?_ ?_ ?_ ?_; iterate 3 (solve|simp [hcl, hkl, ← hq, Hlth.D, hs2]))
          | (refine WCall.pf (hno1) ?_ ?_ ?_ ?_; iterate 3 (solve|simp [hcl, hkl, ← hq, Hlth.D, hs2]))
          | with_reducible refine aI ?_ ?_ ?_)
        all_goals done
    | false =>
      rw [hcl] at hal hno1
      simp at hno1
      repeat' (first
        | simp [hcl, hkl, ← hq, Hlth.D]
        | refine ⟨wcS ?_, ?_⟩
        | (refine WCall.pf (hal) ?_ ?_ ?_ ?_; iterate 3 (solve|simp [hcl, hkl, ← hq, Hlth.D]))
        | (refine WCall.pf (hst) ?_ ?_ ?_ ?_; iterate 3 (solve|simp [hcl, hkl, ← hq, Hlth.D]))
        | (refine WCall.pf (hno1) ?_ ?_ ?_ ?_; iterate 3 (solve|simp [hcl, hkl, ← hq, Hlth.D]))
        | with_reducible refine aI ?_ ?_ ?_)
      all_goals done
def lds (g : Gt) (but : Int) (i : Nat) : List Load := ((g.L.take i).filter fun x => decide (x.state = 2)).map (loadOf g but)
theorem loads_take (g : Gt) (but : Int) (i : Nat) (h : i < g.L.length) : lds g but (i + 1) = lds g but i ++ if g.L[i].state = 2 then [loadOf g but g.L[i]] else [] := by
 unfold lds
 rw [List.take_succ_eq_append_getElem h,List.filter_append,List.map_append]
 split
 ·rename_i hs;simp [hs]
 ·rename_i hs;simp [hs]
theorem lds_len (g : Gt) (but : Int) (i : Nat) (h : i ≤ g.L.length) : (lds g but i).length ≤ i := by
 unfold lds
 rw [List.length_map]
 refine Nat.le_trans (List.length_filter_le ..) ?_
 rw [List.length_take];omega
theorem lds_0 (g : Gt) (but : Int) : lds g but 0 = [] := rfl
theorem lds_all (g : Gt) (but : Int) : lds g but g.L.length = loadsM g but := by unfold lds loadsM;rw [List.take_length]
theorem gloads_code : cfun Tryz.prog [] 117 = some ⟨(.seq (qR 0 [oX 4 (.mov (.k .nil0))]) (.seq (qR 1 [oM 12 0,oN 13 12,oF 14 0 13,oF 15 17 14,oA 16 1 15,oX 17 (.call 39 [(.t 16)]),oM 11 17,oE 18 11 0,oE 19 11 1,oM 5 18,oM 6 19]) (.seq (qR 2 [oX 7 (.mov (.k .nil0))]) (.seq (.seq (qR 3 [oM 20 0,oN 21 20,oF 22 0 21,oF 23 19 22,oF 24 0 23,oL 25 1 24,oH 26 25,oK 27 0]) (.block 0 (.loop (.seq (qR 4 [oX 28 (.bin .lss (.t 27) (.t 26))]) (.seq (.cond 28 .skip (.exit 0)) (.seq (.block 1 (.seq (qR 5 [oI 29 6 25 27,oA 30 6 29,oX 9 (.alloc [qZ,qZ,qZ,qZ,qZ,qZ]),oS 6 9 30]) (.seq (.seq (qR 6 [oF 31 1 9,oL 32 1 31,oX 33 (.bin .neq (.t 32) (kI 2))]) (.cond 33 (.exit 1) .skip)) (.seq (.draw 7 (qN (oF 34 0 9) (qN (oL 35 1 34) (qN (oM 36 5) (qN (oF 37 0 9) (qN (oL 38 1 37) (qN (oI 39 1 36 38) (qN (oL 40 1 39) (qN (oX 41 (.build [qZ,qZ,qZ] [(0,(1,(.t 35))),(2,(1,(.t 40)))])) (qN (oX 10 (.alloc [qZ,qZ,qZ])) (.one false (oS 3 10 41) .done))))))))))) (.seq (.seq (.draw 8 (qN (oM 42 1) (qN (oX 43 (.bin .geq (.t 42) (kI 0))) (qN (oM 44 43) (qN (oG 45 (.mov (.t 0)) 44 true) (qN (oG 46 (.nchk (.t 45)) 44 true) (qN (oG 47 (.fad 0 (.t 46)) 44 true) (qN (oG 48 (.fad 17 (.t 47)) 44 true) (qN (oG 49 (.fad 0 (.t 48)) 44 true) (qN (oG 50 (.load false 1 (.t 49)) 44 true) (qN (oG 51 (.mov (.t 1)) 44 true) (qN (oG 52 (.iads 4 (.t 50) (.t 51)) 44 true) (qN (oG 53 (.fad 3 (.t 52)) 44 true) (qN (oG 54 (.load false 1 (.t 53)) 44 true) (qN (oG 55 (.fad 0 (.t 9)) 44 true) (qN (oG 56 (.load false 1 (.t 55)) 44 true) (qN (oG 57 (.bin .eql (.t 54) (.t 56)) 44 true) (qN (oX 58 (.pick (.t 44) (.t 57) (.k qF))) .done)))))))))))))))))) (.cond 58 (qR 9 [oF 59 2 10,oL 60 1 59,oX 61 (.bin .sub (.t 60) (kI 1)),oF 62 2 10,oS 1 62 61]) .skip)) (.seq (.seq (.draw 10 (qN (oM 63 0) (qN (oN 64 63) (qN (oF 65 0 64) (qN (oF 66 22 65) (qN (oL 67 1 66) (qN (oF 68 0 9) (qN (oL 69 1 68) (qN (oI 70 4 67 69) (qN (oF 71 1 70) (qN (oL 72 1 71) (qN (oX 73 (.not (.t 72))) .done)))))))))))) (.cond 73 (.draw 11 (qN (oF 75 2 9) (qN (oL 76 1 75) (qN (oF 77 3 9) (qN (oL 78 1 77) (qN (oM 79 0) (qN (oN 80 79) (qN (oF 81 0 80) (qN (oF 82 16 81) (qN (oL 83 1 82) (qN (oM 84 0) (qN (oN 85 84) (qN (oF 86 0 85) (qN (oF 87 0 86) (qN (oF 88 4 87) (qN (oL 89 1 88) (qN (oX 90 (.call 43 [(.t 76),(.t 78),(.t 83),(.t 89)])) (qN (oM 74 90) (qN (oE 91 74 0) (qN (oE 92 74 1) (qN (oF 93 1 10) (.one false (oS 1 93 91) .done)))))))))))))))))))))) .skip)) (qR 12 [oM 94 7,oA 95 3 10,oX 96 (.bslice 3 1 [qZ,qZ,qZ] [(0,(.t 95))]),oX 97 (.app 3 24 [qZ,qZ,qZ] (.t 94) (.t 96)),oM 7 97]))))))) (qR 13 [oX 98 (.bin .add (.t 27) (kI 1)),oM 27 98]))))))) (.seq (qR 14 [oM 99 7,oM 4 99]) .ret))))),[(.t 4)],100⟩ := by kernel_rfl
theorem gloads_pf (g : Gt) (n : Nat) (ex : Int) (but : Int) (h : Mid g n ex) (hb : ButOk g but) : PF Tryz.prog 117 [.pc g.P,I but] (.rows 3 ((loadsM g but).map Load.D)) := by
 have hcn := tcounts_pf g.tb h.tok
 have hll := h.bk.ll
 have hhn := h.hn
 have hcl : (countsL g.tb).length = 12 := by simp [countsL]
 obtain ⟨P,hP⟩ : ∃ P,P = g.P := ⟨_,rfl⟩
 rw [← hP]
 have hP' := hP
 simp only [Gt.P,Gt.W,Gt.cells,List.cons_append,List.nil_append] at hP'
 refine pO gloads_code [0,1,4,5,7,9,10,25,26,27,28,33,58,73] [] fun B hBN hB0 => ?_
 repeat' (first
  | simp [hP']
  | refine ⟨wcS ?_,?_⟩
  | (refine WCall.pf (hcn) ?_ ?_ ?_ ?_;iterate 3 (solve|simp [hP']))
  | with_reducible refine aI ?_ ?_ ?_)
 refine W.loopS (fun y : Nat => ⟨[(27,I y),(26,I g.L.length),(25,.rows 6 (g.L.map Lif.D)),(7,.own 0),(5,.rows 1 ((countsL g.tb).map GI)),(1,I but),(0,.pc P)],
   [(0,.row 3 ((lds g but y).map Load.D))],1⟩)
  (fun n i => n = g.L.length - i ∧ i ≤ g.L.length) ?_ ?_
 ·refine ⟨_,0,(Gh.adopt 7 3 (by omega) (by simp)).trans ?_,rfl,by omega⟩
  simp
  exact (gr0 [0] hB0 (by simp [hP',lds_0]) (by simp [hP',lds_0]) (.inl (by simp [hP',lds_0])))
 rintro n' i ⟨hn,hi⟩
 refine acode_sound [0,1,4,5,7,9,10,25,26,27,28,33,58,73] [] _ _ _ ?_
 by_cases hlt : i < g.L.length
 ·have hlt2 := loads_take g but i hlt
  have hln := lds_len g but i hi
  have hlo := h.bk.lok _ (List.getElem_mem hlt)
  have hsi := h.since _ (List.getElem_mem hlt)
  have hmem := List.getElem_mem hlt
  obtain ⟨x,hx⟩ : ∃ x,x = g.L[i] := ⟨_,rfl⟩
  rw [← hx] at hlt2 hlo hsi hmem
  have ii : InR ((i : Int) + 1) := inW (by omega) (by omega)
  by_cases s2 : x.state = 2
  ·rw [if_pos s2] at hlt2
   generalize lds g but i = acc at hlt2 hln ⊢
   have hcap : (acc.length + 1) * 24 ≤ 140737488355328 := by omega
   obtain ⟨m,hmm⟩ : ∃ m : Nat,x.backend = m := ⟨x.backend.toNat,by have := hlo.b0;omega⟩
   have hm12 : m < 12 := by have := hlo.b1;omega
   have hml : m < g.hl.length := by omega
   have hmc : m < (countsL g.tb).length := by omega
   have hcg := countsL_get g.tb m hm12
   have hio : isOut g.hl x.backend = g.hl[m].out := by unfold isOut;rw [hmm];simp [zC,hml]
   have hrw := rampw_pf x.weight x.since g.now g.c.c4 hlo.w0 hlo.w1 hlo.s0 hsi (by have := h.n1;have := h.nn;omega) h.c.w4.1 h.c.w4.2
   obtain ⟨q,hq⟩ : ∃ q,q = g.hl[m] := ⟨_,rfl⟩
   rw [← hq] at hio
   have hcle := cntB_le g.tb (m : Int)
   have ht40 := h.tok.2.1
   have ic : InR ((cntB g.tb (m : Int) : Int) - 1) := inW (by omega) (by omega)
   have hld : loadOf g but x = ⟨x.backend,if isOut g.hl x.backend = true then 0 else rampM x.weight x.since g.now g.c.c4,(cntB g.tb x.backend : Int) - if 0 ≤ but ∧ (g.tb.getD but.toNat tzero).backend = x.backend then 1 else 0⟩ := rfl
   rw [hio,hmm] at hld
   by_cases b0 : 0 ≤ but
   ·obtain ⟨j,hj⟩ : ∃ j : Nat,but = j := ⟨but.toNat,by omega⟩
    have hjl : j < g.tb.length := by
     rcases hb with hb | ⟨f,hf,e⟩
     ·omega
     ·have := (h.flow hf).2.1;omega
    have hgj : g.tb.getD but.toNat tzero = g.tb[j] := by subst hj;exact getD_at _ hjl
    obtain ⟨t,ht⟩ : ∃ t,t = g.tb[j] := ⟨_,rfl⟩
    rw [hgj,← ht] at hld
    subst hj
    by_cases hbe : t.backend = x.backend
    ·rw [hmm] at hbe
     cases hqo : q.out with
     | true =>
      simp [hbe,hqo] at hld
      repeat' (first
       | simp [hP',hlt,← hx,Lif.D,s2,ii,hmm,hml,hmc,hcg,GI,← hq,Hlth.D,hqo,hjl,← ht,TSlot.D,hbe,ic,hcap]
       | refine ⟨wcS ?_,?_⟩
       | (refine WCall.pf (hrw) ?_ ?_ ?_ ?_;iterate 3 (solve|simp [hP',hlt,← hx,Lif.D,s2,ii,hmm,hml,hmc,hcg,GI,← hq,Hlth.D,hqo,hjl,← ht,TSlot.D,hbe,ic,hcap]))
       | with_reducible refine aI ?_ ?_ ?_)
      exact ⟨_,i + 1,(gr0 [4] hB0 (by simp [hP',hlt2,hld,Load.D]) (by simp [hP',hlt2,hld,Load.D]) (.inl (by simp [hP',hlt2,hld,Load.D]))),by omega,rfl,by omega⟩
     | false =>
      simp [hbe,hqo] at hld
      repeat' (first
       | simp [hP',hlt,← hx,Lif.D,s2,ii,hmm,hml,hmc,hcg,GI,← hq,Hlth.D,hqo,hjl,← ht,TSlot.D,hbe,ic,hcap]
       | refine ⟨wcS ?_,?_⟩
       | (refine WCall.pf (hrw) ?_ ?_ ?_ ?_;iterate 3 (solve|simp [hP',hlt,← hx,Lif.D,s2,ii,hmm,hml,hmc,hcg,GI,← hq,Hlth.D,hqo,hjl,← ht,TSlot.D,hbe,ic,hcap]))
       | with_reducible refine aI ?_ ?_ ?_)
      exact ⟨_,i + 1,(gr0 [4] hB0 (by simp [hP',hlt2,hld,Load.D]) (by simp [hP',hlt2,hld,Load.D]) (.inl (by simp [hP',hlt2,hld,Load.D]))),by omega,rfl,by omega⟩
    ·rw [hmm] at hbe
     cases hqo : q.out with
     | true =>
      simp [hbe,hqo] at hld
      repeat' (first
       | simp [hP',hlt,← hx,Lif.D,s2,ii,hmm,hml,hmc,hcg,GI,← hq,Hlth.D,hqo,hjl,← ht,TSlot.D,hbe,ic,hcap]
       | refine ⟨wcS ?_,?_⟩
       | (refine WCall.pf (hrw) ?_ ?_ ?_ ?_;iterate 3 (solve|simp [hP',hlt,← hx,Lif.D,s2,ii,hmm,hml,hmc,hcg,GI,← hq,Hlth.D,hqo,hjl,← ht,TSlot.D,hbe,ic,hcap]))
       | with_reducible refine aI ?_ ?_ ?_)
      exact ⟨_,i + 1,(gr0 [4] hB0 (by simp [hP',hlt2,hld,Load.D]) (by simp [hP',hlt2,hld,Load.D]) (.inl (by simp [hP',hlt2,hld,Load.D]))),by omega,rfl,by omega⟩
     | false =>
      simp [hbe,hqo] at hld
      repeat' (first
       | simp [hP',hlt,← hx,Lif.D,s2,ii,hmm,hml,hmc,hcg,GI,← hq,Hlth.D,hqo,hjl,← ht,TSlot.D,hbe,ic,hcap]
       | refine ⟨wcS ?_,?_⟩
       | (refine WCall.pf (hrw) ?_ ?_ ?_ ?_;iterate 3 (solve|simp [hP',hlt,← hx,Lif.D,s2,ii,hmm,hml,hmc,hcg,GI,← hq,Hlth.D,hqo,hjl,← ht,TSlot.D,hbe,ic,hcap]))
       | with_reducible refine aI ?_ ?_ ?_)
      exact ⟨_,i + 1,(gr0 [4] hB0 (by simp [hP',hlt2,hld,Load.D]) (by simp [hP',hlt2,hld,Load.D]) (.inl (by simp [hP',hlt2,hld,Load.D]))),by omega,rfl,by omega⟩
   ·have hbn : but.toNat = 0 := by omega
    obtain ⟨t0,ht0⟩ : ∃ t0,g.tb[0]? = some t0 := ⟨_,zE (by have := h.tok.1;omega)⟩
    cases hqo : q.out with
    | true =>
     simp [b0,hqo] at hld
     repeat' (first
      | simp [hP',hlt,← hx,Lif.D,s2,ii,hmm,hml,hmc,hcg,GI,← hq,Hlth.D,hqo,b0,hbn,ht0,TSlot.D,hcap]
      | refine ⟨wcS ?_,?_⟩
      | (refine WCall.pf (hrw) ?_ ?_ ?_ ?_;iterate 3 (solve|simp [hP',hlt,← hx,Lif.D,s2,ii,hmm,hml,hmc,hcg,GI,← hq,Hlth.D,hqo,b0,hbn,ht0,TSlot.D,hcap]))
      | with_reducible refine aI ?_ ?_ ?_)
     exact ⟨_,i + 1,(gr0 [4] hB0 (by simp [hP',hlt2,hld,Load.D]) (by simp [hP',hlt2,hld,Load.D]) (.inl (by simp [hP',hlt2,hld,Load.D]))),by omega,rfl,by omega⟩
    | false =>
     simp [b0,hqo] at hld
     repeat' (first
      | simp [hP',hlt,← hx,Lif.D,s2,ii,hmm,hml,hmc,hcg,GI,← hq,Hlth.D,hqo,b0,hbn,ht0,TSlot.D,hcap]
      | refine ⟨wcS ?_,?_⟩
      | (refine WCall.pf (hrw) ?_ ?_ ?_ ?_;iterate 3 (solve|simp [hP',hlt,← hx,Lif.D,s2,ii,hmm,hml,hmc,hcg,GI,← hq,Hlth.D,hqo,b0,hbn,ht0,TSlot.D,hcap]))
      | with_reducible refine aI ?_ ?_ ?_)
     exact ⟨_,i + 1,(gr0 [4] hB0 (by simp [hP',hlt2,hld,Load.D]) (by simp [hP',hlt2,hld,Load.D]) (.inl (by simp [hP',hlt2,hld,Load.D]))),by omega,rfl,by omega⟩
  ·rw [if_neg s2,List.append_nil] at hlt2
   simp [hP',hlt,← hx,Lif.D,s2,ii]
   exact ⟨_,i + 1,(gr0 [0] hB0 (by simp [hP',hlt2]) (by simp [hP',hlt2]) (.inl (by simp [hP',hlt2]))),by omega,rfl,by omega⟩
 ·obtain rfl : i = g.L.length := by omega
  simp [hP',lds_all]
  done
theorem nodup_len : ∀ (n : Nat) (l : List Int),l.Nodup → (∀ z ∈ l,0 ≤ z ∧ z < n) → l.length ≤ n
 | 0,l,_,h => by
  cases l with
  | nil => simp
  | cons a t => have := h a (by simp);omega
 | n + 1,l,hn,h => by
  have ih := nodup_len n (l.filter fun z => decide (z ≠ (n : Int))) (hn.filter _) (fun z hz => by
   have h1 := List.mem_filter.1 hz
   have h2 := h z h1.1
   have h3 := h1.2
   simp at h3;omega)
  have hc := List.length_eq_countP_add_countP (fun z : Int => decide (z ≠ (n : Int))) (l := l)
  rw [List.countP_eq_length_filter] at hc
  have h1 : List.countP (fun z => !decide (z ≠ (n : Int))) l ≤ 1 := by
   have h2 := hn.count (a := (n : Int))
   have h3 : List.countP (fun z => !decide (z ≠ (n : Int))) l = l.count (n : Int) := by
    unfold List.count
    refine List.countP_congr fun z _ => ?_
    simp
   rw [h3,h2]
   split <;> omega
  simp only [Bool.not_eq_true,Bool.decide_eq_false] at hc
  omega
theorem gpick_code : cfun Tryz.prog [] 83 = some ⟨(.seq (qR 0 [oK 6 0,oK 7 0]) (.seq (qR 1 [oM 12 0,oN 13 12,oF 14 0 13,oF 15 21 14,oA 16 1 15,oM 17 1,oX 18 (.call 115 [(.t 16),(.t 17)]),oM 11 18,oE 19 11 0,oE 20 11 1,oM 8 19,oM 9 20]) (.seq (qR 2 [oM 21 0,oN 22 21,oF 23 0 22,oF 24 18 23,oL 25 1 24,oH 26 25,oM 10 26]) (.seq (.seq (qR 3 [oM 27 2,oX 28 (.bin .geq (.t 27) (kI 0))]) (.cond 28 (qR 4 [oM 29 10,oX 30 (.bin .sub (.t 29) (kI 1)),oM 10 30]) .skip)) (.seq (.draw 5 (qN (oM 31 8) (qN (oM 32 0) (qN (oM 33 2) (qN (oM 35 0) (qN (oN 36 35) (qN (oF 37 0 36) (qN (oF 38 0 37) (qN (oF 39 1 38) (qN (oL 40 1 39) (qN (oM 41 0) (qN (oN 42 41) (qN (oF 43 0 42) (qN (oF 44 0 43) (qN (oF 45 2 44) (qN (oL 46 1 45) (qN (oM 47 10) (qN (oM 48 0) (qN (oN 49 48) (qN (oF 50 0 49) (qN (oF 51 0 50) (qN (oF 52 3 51) (qN (oL 53 1 52) (qN (oX 34 (.call 117 [(.t 32),(.t 33)])) (qN (oX 54 (.call 116 [(.t 31),(.t 34),(.t 40),(.t 46),(.t 47),(.t 53)])) (qN (oE 55 54 0) (qN (oE 56 54 1) (qN (oM 6 55) (qN (oM 7 56) .done))))))))))))))))))))))))))))) .ret))))),[(.t 6),(.t 7)],57⟩ := by kernel_rfl
theorem gpick_pf (g : Gt) (n : Nat) (ex : Int) (key but : Int) (h : Mid g n ex) (hb : ButOk g but) (k0 : 0 ≤ key) (k1 : key ≤ 4294967295) : PF Tryz.prog 83 [.pc g.P,I key,I but] (.tup [I (pickG g key but).1,I (pickG g key but).2]) := by
 have hlo := gloads_pf g n ex but h hb
 have hws : WOk g.ws := by rw [h.ws];exact wsOf_ok h.bk.lok
 have hwk := (rwalk_pfn g.ws hws key k0 (by omega)).pf
 obtain ⟨l1,l2,l3⟩ := h.loads hb
 have hf40 := fl_le h.fs
 have ht40 := h.tok.2.1
 have hwl : (walkK g.ws key).length ≤ 12 := nodup_len 12 _ (walkM_nodup _ _) fun z hz => walkM_bd _ _ _ hz
 have hpk := fun nf f0 f1 => pick_pf (walkK g.ws key) (loadsM g but) g.c.num g.c.den nf g.c.tries l2 l1 h.c.f f0 f1 h.c.w3.1 h.c.w3.2 hwl
 have hwe : walkM g.ws ((keyN key.toNat : Nat) : Int) = walkK g.ws key := rfl
 rw [hwe] at hwk
 have hfl1 : 0 ≤ but → 1 ≤ g.fl.length := fun h0 => by
  rcases hb with hb | ⟨f,hf,_⟩
  ·omega
  ·exact List.length_pos_of_mem hf
 obtain ⟨P,hP⟩ : ∃ P,P = g.P := ⟨_,rfl⟩
 rw [← hP] at hlo ⊢
 have hP' := hP
 simp only [Gt.P,Gt.W,Gt.cells,List.cons_append,List.nil_append] at hP'
 have hPI : (fun z : Int => [I z]) = PI := rfl
 rw [hPI] at hwk
 unfold pickG
 generalize walkK g.ws key = wk at hwk hpk ⊢
 generalize loadsM g but = ls at hlo hpk ⊢
 refine pO gpick_code [0,1,2,6,7,8,10,28] [] fun B hBN hB0 => ?_
 by_cases b0 : 0 ≤ but
 ·have i1 : InR ((g.fl.length : Int) - 1) := inW (by omega) (by omega)
  have hpk := hpk ((g.fl.length : Int) - 1) (by have := hfl1 b0;omega) (by omega)
  rw [if_pos b0]
  repeat' (first
   | simp [hP',b0,i1]
   | refine ⟨wcS ?_,?_⟩
   | (refine WCall.pf (hwk) ?_ ?_ ?_ ?_;iterate 3 (solve|simp [hP',b0,i1]))
   | (refine WCall.pf (hlo) ?_ ?_ ?_ ?_;iterate 3 (solve|simp [hP',b0,i1]))
   | (refine WCall.pf (hpk) ?_ ?_ ?_ ?_;iterate 3 (solve|simp [hP',b0,i1]))
   | with_reducible refine aI ?_ ?_ ?_)
  all_goals done
 ·have hpk := hpk (g.fl.length : Int) (by omega) (by omega)
  rw [if_neg b0,Int.sub_zero]
  repeat' (first
   | simp [hP',b0]
   | refine ⟨wcS ?_,?_⟩
   | (refine WCall.pf (hwk) ?_ ?_ ?_ ?_;iterate 3 (solve|simp [hP',b0]))
   | (refine WCall.pf (hlo) ?_ ?_ ?_ ?_;iterate 3 (solve|simp [hP',b0]))
   | (refine WCall.pf (hpk) ?_ ?_ ?_ ?_;iterate 3 (solve|simp [hP',b0]))
   | with_reducible refine aI ?_ ?_ ?_)
  all_goals done
theorem gduel_code : cfun Tryz.prog [] 85 = some ⟨(.seq (.seq (.draw 0 (qN (oM 9 0) (qN (oN 10 9) (qN (oF 11 0 10) (qN (oF 12 24 11) (qN (oA 13 2 12) (qN (oM 14 1) (qN (oN 15 14) (qN (oF 16 0 15) (qN (oF 17 0 16) (qN (oL 18 1 17) (.two (qN (oX 19 (.call 67 [(.t 13),(.t 18)])) (qN (oM 8 19) (qN (oE 20 8 0) (qN (oE 21 8 1) (qN (oX 6 (.alloc [qZ,.nil0])) (.one false (oS 2 6 20) (qN (oM 7 21) .done))))))) (.two (qN (oX 6 (.alloc [qZ,.nil0])) (qN (oX 19 (.call 67 [(.t 13),(.t 18)])) (qN (oM 8 19) (qN (oE 20 8 0) (qN (oE 21 8 1) (.one false (oS 2 6 20) (qN (oM 7 21) .done))))))) .top))))))))))))) (.seq (qR 1 [oM 22 7,oX 23 (.bin .eql (.t 22) (kI 0))]) (.cond 23 (qR 2 [oM 24 0,oA 25 2 6,oN 26 24,oF 27 0 26,oF 28 24 27,oS 2 28 25]) .skip))) (.seq (qR 3 [oM 29 1,oM 30 0,oN 31 30,oF 32 0 31,oF 33 16 32,oL 34 1 33,oM 35 2,oX 36 (.bin .add (.t 34) (.t 35)),oN 37 29,oF 38 6 37,oS 1 38 36]) (.draw 4 (qN (oM 40 0) (qN (oM 41 0) (qN (oN 42 41) (qN (oF 43 0 42) (qN (oF 44 24 43) (qN (oA 45 2 44) (qN (oM 46 1) (qN (oN 47 46) (qN (oF 48 0 47) (qN (oF 49 0 48) (qN (oL 50 1 49) (qN (oM 51 1) (qN (oN 52 51) (qN (oF 53 6 52) (qN (oL 54 1 53) (qN (oX 55 (.call 120 [(.t 45),(.t 50),(.t 54)])) (qN (oM 39 55) (qN (oE 56 39 0) (qN (oE 57 39 1) (qN (oN 58 40) (qN (oF 59 0 58) (qN (oF 60 24 59) (.one false (oS 2 60 56) .done)))))))))))))))))))))))))),[],61⟩ := by kernel_rfl
theorem gdueL_hf (g : Gt) (f : Flw) (span : Int) (h : DueOk g.now g.wn g.tm f.slot span) :
  HF Tryz.prog 85 [.ptr 0 0,.ptr 4 0,I span] ((4,.cells f.D) :: g.H 3) 5 (fun e H' nx' => e = .tup [] ∧ H' = (4,.cells { f with due := g.now + span }.D) :: { g with tm := armT g.tm f.slot (g.now + span) }.H 3 ∧ nx' = 5) := by
 obtain ⟨hw,hwn,n0,n1,s0,s1,p0,p1⟩ := h
 refine HF.tidy (by omega) (by simp) (by simp) (by simp [Gt.H,Gt.cells,Flw.D]) ?_
 have hr := hw.sub (fun t => decide (t.2 ≠ f.slot))
 have harm := warmM g.now (rmT g.tm f.slot) hr (g.now + span,f.slot) (by simp only;omega) (fun x hx => rm_no _ _ x hx)
 have ii : InR (g.now + span) := inW (by omega) (by omega)
 simp only [whM_def] at harm
 unfold armT
 by_cases hx : ∃ x ∈ g.tm,x.2 = f.slot
 ·have hc := wcanM g.now g.tm hw f.slot hx
  have hrm : (g.tm.filter fun t => decide (t.2 ≠ f.slot)) = rmT g.tm f.slot := rfl
  rw [hrm] at hc
  simp only [whM_def] at hc
  unfold Gt.H Gt.cells
  refine hO (h3 := by simp [Flw.D]) gduel_code [0,1,2,6,7,23] [] fun B hBN hB0 => ?_
  repeat' (first
   | simp [Flw.D,ii,hwn]
   | refine ⟨wcS ?_,?_⟩
   | (refine WCall.pf (hc) ?_ ?_ ?_ ?_;iterate 3 (solve|simp [Flw.D,ii,hwn]))
   | (refine WCall.pf (harm) ?_ ?_ ?_ ?_;iterate 3 (solve|simp [Flw.D,ii,hwn]))
   | with_reducible refine aI ?_ ?_ ?_)
  all_goals done
 ·have hx2 : ∀ x ∈ g.tm,x.2 ≠ f.slot := fun x hx3 e => hx ⟨x,hx3,e⟩
  have hc := wcan0M g.now g.tm hw f.slot hx2
  rw [rm_none hx2] at harm ⊢
  simp only [whM_def] at hc
  unfold Gt.H Gt.cells
  refine hO (h3 := by simp [Flw.D]) gduel_code [0,1,2,6,7,23] [] fun B hBN hB0 => ?_
  repeat' (first
   | simp [Flw.D,ii,hwn]
   | refine ⟨wcS ?_,?_⟩
   | (refine WCall.pf (hc) ?_ ?_ ?_ ?_;iterate 3 (solve|simp [Flw.D,ii,hwn]))
   | (refine WCall.pf (harm) ?_ ?_ ?_ ?_;iterate 3 (solve|simp [Flw.D,ii,hwn]))
   | with_reducible refine aI ?_ ?_ ?_)
  all_goals done
theorem gopen1_code : cfun Tryz.prog [] 81 = some ⟨(.seq (qR 0 [oB 1 0,oX 2 (.mov (.k qF))]) (.seq (qR 1 [oF 3 1 1,oL 4 1 3,oX 5 (.not (.t 4)),oM 6 5,oG 7 (.fad 0 (.t 1)) 6 true,oG 8 (.load false 1 (.t 7)) 6 true,oG 9 (.bin .lss (.t 8) (kI 1048576)) 6 true,oX 10 (.pick (.t 6) (.t 9) (.k qF)),oM 2 10]) .ret)),[(.t 2)],11⟩ := by kernel_rfl
theorem gopen1_pf (s : TSlot) : PF Tryz.prog 81 [.agg s.D] (.bool (tfree s)) := by
 refine pO (h3 := by simp [TSlot.D]) gopen1_code [0,1,2] [] fun B hBN hB0 => ?_
 cases hu : s.used with
 | true => simp [TSlot.D,tfree,hu]
 | false => simp [TSlot.D,tfree,hu]
theorem gopen_code : cfun Tryz.prog [82,86] 53 = some ⟨(.seq (.seq (qR 0 [oM 11 0,oN 12 11,oF 13 0 12,oF 14 17 13,oF 15 0 14,oL 16 1 15,oX 17 (.call 80 [(.t 16),(.k (.fn 81 []))]),oX 18 (.not (.t 17))]) (.cond 18 (.seq (qR 1 [oM 19 0,oX 20 (.build [qZ,qZ,qZ,qZ,qZ,qZ,qZ] [(0,(1,(kI 2))),(5,(1,(kI 9)))]),oX 21 (.call 82 [(.t 19),(.t 20)])]) .ret) .skip)) (.seq (qR 2 [oM 23 0,oM 24 1,oX 25 (.call 83 [(.t 23),(.t 24),(kI (-1))]),oM 22 25,oE 26 22 0,oE 27 22 1,oM 4 26,oM 5 27]) (.seq (.seq (qR 3 [oM 28 5,oX 29 (.bin .neq (.t 28) (kI 0))]) (.cond 29 (.seq (qR 4 [oM 30 0,oX 31 (.build [qZ,qZ,qZ,qZ,qZ,qZ,qZ] [(0,(1,(kI 2))),(5,(1,(kI 11)))]),oX 32 (.call 82 [(.t 30),(.t 31)])]) .ret) .skip)) (.seq (qR 5 [oM 34 0,oN 35 34,oF 36 0 35,oF 37 17 36,oA 38 1 37,oM 39 1,oM 40 4,oX 41 (.call 84 [(.t 38),(.t 39),(.t 40)]),oM 33 41,oE 42 33 0,oE 43 33 1,oE 44 33 2,oX 6 (.alloc [.nil0]),oX 7 (.alloc [qZ,qZ]),oS 1 6 42,oS 2 7 43,oM 8 44]) (.seq (qR 6 [oM 45 0,oA 46 1 6,oN 47 45,oF 48 0 47,oF 49 17 48,oS 1 49 46]) (.seq (qR 7 [oA 50 2 7,oM 51 1,oM 52 4,oX 53 (.build [qZ,qZ,qZ,qZ,qF,qZ,qZ] [(0,(2,(.t 50))),(2,(1,(.t 51))),(3,(1,(.t 52)))]),oX 9 (.alloc [qZ,qZ,qZ,qZ,qF,qZ,qZ]),oS 7 9 53]) (.seq (qR 8 [oM 54 0,oM 55 0,oN 56 55,oF 57 0 56,oF 58 0 57,oF 59 7 58,oL 60 1 59,oX 61 (.call 85 [(.t 54),(.t 9),(.t 60)])]) (.seq (qR 9 [oK 10 0]) (.seq (.block 0 (.loop (.seq (.seq (.draw 10 (qN (oM 62 10) (qN (oM 63 0) (qN (oN 64 63) (qN (oF 65 0 64) (qN (oF 66 18 65) (qN (oL 67 1 66) (qN (oH 68 67) (qN (oX 69 (.bin .lss (.t 62) (.t 68))) (qN (oM 70 69) (qN (oG 71 (.mov (.t 0)) 70 true) (qN (oG 72 (.nchk (.t 71)) 70 true) (qN (oG 73 (.fad 0 (.t 72)) 70 true) (qN (oG 74 (.fad 18 (.t 73)) 70 true) (qN (oG 75 (.load false 1 (.t 74)) 70 true) (qN (oG 76 (.mov (.t 10)) 70 true) (qN (oG 77 (.iads 7 (.t 75) (.t 76)) 70 true) (qN (oG 78 (.fad 0 (.t 77)) 70 true) (qN (oG 79 (.fad 0 (.t 78)) 70 true) (qN (oG 80 (.load false 1 (.t 79)) 70 true) (qN (oG 81 (.fad 0 (.t 7)) 70 true) (qN (oG 82 (.load false 1 (.t 81)) 70 true) (qN (oG 83 (.bin .lss (.t 80) (.t 82)) 70 true) (qN (oX 84 (.pick (.t 70) (.t 83) (.k qF))) .done)))))))))))))))))))))))) (.cond 84 .skip (.exit 0))) (.block 1 (qR 11 [oM 85 10,oX 86 (.bin .add (.t 85) (kI 1)),oM 10 86]))))) (.seq (.draw 12 (qN (oM 87 0) (qN (oM 88 0) (qN (oN 89 88) (qN (oF 90 0 89) (qN (oF 91 18 90) (qN (oL 92 1 91) (qN (oM 93 10) (qN (oA 94 7 9) (qN (oX 95 (.bslice 7 1 [qZ,qZ,qZ,qZ,qF,qZ,qZ] [(0,(.t 94))])) (.one false (oX 96 (.call 86 [(.t 92),(.t 93),(.t 95)])) (qN (oN 97 87) (qN (oF 98 0 97) (qN (oF 99 18 98) (.one false (oS 1 99 96) .done))))))))))))))) (.seq (.draw 13 (qN (oM 101 0) (qN (oM 102 0) (qN (oN 103 102) (qN (oF 104 0 103) (qN (oF 105 0 104) (qN (oF 106 10 105) (qN (oA 107 3 106) (qN (oM 108 0) (qN (oN 109 108) (qN (oF 110 0 109) (qN (oF 111 23 110) (qN (oA 112 1 111) (qN (oX 113 (.call 66 [(.t 107),(.t 112)])) (qN (oM 100 113) (qN (oE 114 100 0) (qN (oE 115 100 1) (qN (oN 116 101) (qN (oF 117 0 116) (qN (oF 118 23 117) (.one false (oS 1 118 114) .done))))))))))))))))))))) (qR 14 [oM 119 0,oF 120 0 7,oL 121 1 120,oF 122 1 7,oL 123 1 122,oM 124 4,oX 125 (.build [qZ,qZ,qZ,qZ,qZ,qZ,qZ] [(0,(1,(kI 1))),(1,(1,(.t 121))),(2,(1,(.t 123))),(3,(1,(.t 124)))]),oX 126 (.call 82 [(.t 119),(.t 125)])])))))))))))),[],127⟩ := by kernel_rfl
theorem gopen_mf (g : Gt) (n : Nat) (key : Int) (h : Mid g n (-1)) (hn1 : n + 1 ≤ 1000000) (k0 : 0 ≤ key) (k1 : key ≤ 4294967295) (ho : g.out.length < 999998) : MF Tryz.prog 53 [I key] g (g.opened key) := by
  have hf40 := fl_le h.fs
  have ht40 := h.tok.2.1
  have hcf := tcf_pf g.tb 81 tfree (by omega) fun s _ => gopen1_pf s
  have hfz : idxZ tfree g.tb = freeZ g.tb := rfl
  rw [hfz] at hcf
  unfold Gt.opened
  by_cases c1 : freeZ g.tb < 0
  · rw [if_pos c1]
    have hput := gput_mo g ⟨2, 0, 0, 0, 0, 9, 0⟩ (by omega)
    simp only [MO, Gt.put, Gt.H, Gt.cells, Outp.D, List.map_append, List.map_cons, List.map_nil, List.cons_append, List.nil_append] at hput
    rw [decide_eq_false (by omega)] at hcf
    refine MF.of ?_
    unfold Gt.H Gt.cells
    refine hO gopen_code [0, 1, 4, 5, 6, 7, 9, 10, 18, 29, 84] [] fun B hBN hB0 => ?_
    repeat' (first
      | simp
      | refine ⟨wcS ?_, ?_⟩
      | (refine WCall.pf (hcf) ?_ ?_ ?_ ?_; iterate 3 (solve|simp))
      | with_reducible refine aI ?_ ?_ ?_)
    refine wH [0, 1, 2, 3] (hput) ?_
    rintro d H' nx' ⟨rfl, rfl, rfl⟩
    simp [Gt.put, Outp.D, Gt.cells]
    exact ⟨4, by simp, 1, by simp⟩
  rw [if_neg c1]
  rw [decide_eq_true (by omega)] at hcf
  have hbut : ButOk g (-1) := .inl (by omega)
  have hpk := gpick_pf g n (-1) key (-1) h hbut k0 k1
  have hpB := fun hp => h.pickedB (key := key) (but := -1) hbut hp
  simp only [Gt.P, Gt.W, Gt.cells, List.cons_append, List.nil_append] at hpk
  by_cases p0 : (pickG g key (-1)).2 = 0
  · rw [if_neg (fun hh => hh p0)]
    obtain ⟨q2, q0, q1⟩ := hpB p0
    rw [p0] at hpk
    generalize (pickG g key (-1)).1 = pb at hpk q2 q0 q1 ⊢
    clear hpB p0
    obtain ⟨f1, f2, _⟩ := free_at c1
    have hput0 := tput_pf g.tb key pb h.tok k0 k1 q0 q1
    have hpe : putM g.tb key pb = (g.tb.set (freeZ g.tb).toNat ⟨(g.tb.getD (freeZ g.tb).toNat tzero).gen, true, key, pb⟩, freeZ g.tb, (g.tb.getD (freeZ g.tb).toNat tzero).gen, 0) := by
      unfold putM; rw [hfz, if_neg c1]
    rw [hpe] at hput0
    obtain ⟨s, hs⟩ : ∃ s : Nat, freeZ g.tb = s := ⟨(freeZ g.tb).toNat, by omega⟩
    rw [hs, Int.toNat_natCast] at hput0
    rw [hs, Int.toNat_natCast] at f1 f2 ⊢
    clear hpe hfz hcf
    have hcf := tcf_pf g.tb 81 tfree (by omega) fun s _ => gopen1_pf s
    rw [decide_eq_true (show 0 ≤ idxZ tfree g.tb by show 0 ≤ freeZ g.tb; omega)] at hcf
    unfold Gt.taken
    obtain ⟨gen, hgen⟩ : ∃ gen, gen = (g.tb.getD s tzero).gen := ⟨_, rfl⟩
    simp only [← hgen] at hput0 ⊢
    have hd0 := gdueL_hf { g with tb := g.tb.set s ⟨gen, true, key, pb⟩ } ⟨s, gen, key, pb, false, 0, 0⟩ g.c.c7 ⟨h.wh, h.wn, h.n0, by have := h.n1; have := h.nn; show g.now ≤ _; omega, by simp, by show (s : Int) < 200; omega, h.c.w7.1, h.c.w7.2⟩
    have hp2 := gput_mo { g with tb := g.tb.set s ⟨gen, true, key, pb⟩, fl := insF g.fl ⟨s, gen, key, pb, false, 0, g.now + g.c.c7⟩, tm := armT g.tm s (g.now + g.c.c7), tok := min (g.tok + g.c.bud.num) g.c.bud.full } ⟨1, s, gen, pb, 0, 0, 0⟩ (by show g.out.length ≤ _; omega)
    have hern := bearn_pf g.c.bud g.tok h.c.b h.tk0 h.tk1
    simp only [Budget.D] at hern
    simp only [Gt.H, Gt.cells, List.cons_append, List.nil_append] at hd0
    simp only [MO, Gt.put, Gt.H, Gt.cells, Outp.D, List.map_append, List.map_cons, List.map_nil, List.cons_append, List.nil_append] at hp2
    obtain ⟨p, hp⟩ : ∃ p, p = posF g.fl (s : Int) := ⟨_, rfl⟩
    have hple : p ≤ g.fl.length := hp ▸ lowB_le _ _
    have hplt : ∀ j (hj : j < g.fl.length), j < p → g.fl[j].slot < s := fun j hj hjp => by
      have := lowB_lt (fun f : Flw => decide (f.slot < (s : Int))) g.fl j hj (by rw [hp] at hjp; exact hjp)
      simpa using this
    have hpge : ∀ (hj : p < g.fl.length), ¬ g.fl[p].slot < s := fun hj => by
      subst hp
      exact of_decide_eq_false (lowB_ge (fun f : Flw => decide (f.slot < (s : Int))) g.fl hj)
    have hins := fins_hf (g.fl.map Flw.D) p [I s, I gen, I key, I pb, .bool false, I 0, I (g.now + g.c.c7)] (by simpa using hple) (by simp; omega) rfl (els_flw g.fl).rows (els_flw g.fl).isT (by simp)
    have hie : (g.fl.map Flw.D).take p ++ [[I s, I gen, I key, I pb, .bool false, I 0, I (g.now + g.c.c7)]] ++ (g.fl.map Flw.D).drop p = (insF g.fl ⟨s, gen, key, pb, false, 0, g.now + g.c.c7⟩).map Flw.D := by
      unfold insF; simp only [← hp, List.map_append, List.map_take, List.map_drop]; rfl
    rw [hie] at hins
    clear hie
    refine MF.of ?_
    generalize insF g.fl ⟨s, gen, key, pb, false, 0, g.now + g.c.c7⟩ = FL at hins hp2 ⊢
    generalize g.tb.set s ⟨gen, true, key, pb⟩ = TB at hput0 hd0 hp2 ⊢
    generalize armT g.tm s (g.now + g.c.c7) = TM at hd0 hp2 ⊢
    generalize min (g.tok + g.c.bud.num) g.c.bud.full = TK at hern hp2 ⊢
    simp only [Flw.D] at hd0
    unfold Gt.H Gt.cells
    refine hO gopen_code [0, 1, 4, 5, 6, 7, 9, 10, 18, 29, 84] [] fun B hBN hB0 => ?_
    repeat' (first
      | simp
      | refine ⟨wcS ?_, ?_⟩
      | (refine WCall.pf (hcf) ?_ ?_ ?_ ?_; iterate 3 (solve|simp))
      | (refine WCall.pf (hpk) ?_ ?_ ?_ ?_; iterate 3 (solve|simp))
      | (refine WCall.pf (hput0) ?_ ?_ ?_ ?_; iterate 3 (solve|simp))
      | with_reducible refine aI ?_ ?_ ?_)
    refine wH [0, 1, 2, 3, 6] (hd0) ?_
    rintro d H' nx' ⟨rfl, rfl, rfl⟩
    simp
    refine W.loopS (fun y : Nat => ⟨[(10, I y), (9, .ptr 5 0), (7, .ptr 4 0), (4, I pb), (0, .ptr 0 0)],
      [(5, .cells [I s, I gen, I key, I pb, .bool false, I 0, I (g.now + g.c.c7)]), (4, .cells [I s, I gen]), (3, .row 7 (g.out.map Outp.D)), (2, .row 4 (g.hl.map Hlth.D)), (1, .row 7 (g.fl.map Flw.D)),
       (0, .cells [I g.c.slots, I g.c.num, I g.c.den, I g.c.tries, I g.c.c4, I g.c.c5, I g.c.c6, I g.c.c7, I g.c.c8, I g.c.c9, I g.c.bud.num, I g.c.bud.den, I g.c.bud.burst, I g.c.wat.window, I g.c.wat.fails, I g.c.wat.hold,
   I g.now, .rows 4 (TB.map TSlot.D), .own 1, .rows 6 (g.L.map Lif.D), .rows 5 (g.R.map Rqs.D), .rows 2 ((ringM g.ws).map spE), .own 2, I g.tok, I g.wn, .rows 1 (lrT g.wn TM), .own 3])], 6⟩)
      (fun m i => m = p - i ∧ i ≤ p) ?_ ?_
    · exact ⟨_, 0, (Gh.ren [0, 1, 2, 3, 5, 6] (by simp [hB0]) (by simp [hB0] <;> decide) (by simp) (by simp) (.inl (by simp))), rfl, by omega⟩
    rintro m i ⟨hm, hi⟩
    refine acode_sound [0, 1, 4, 5, 6, 7, 9, 10, 18, 29, 84] [] _ _ _ ?_
    by_cases hlt : i < p
    · have hil : i < g.fl.length := by omega
      have hsl := hplt i hil hlt
      obtain ⟨x, hx⟩ : ∃ x, x = g.fl[i] := ⟨_, rfl⟩
      rw [← hx] at hsl
      have ii : InR ((i : Int) + 1) := inW (by omega) (by omega)
      simp [hil, ← hx, Flw.D, hsl, ii]
      exact ⟨_, i + 1, (Gh.ren [0, 1, 2, 3, 4, 5] (by simp [hB0]) (by simp [hB0] <;> decide) (by simp) (by simp) (.inl (by simp))), by omega, rfl, by omega⟩
    · obtain rfl : i = p := by omega
      by_cases hil : i < g.fl.length
      · have hsl := hpge hil
        obtain ⟨x, hx⟩ : ∃ x, x = g.fl[i] := ⟨_, rfl⟩
        rw [← hx] at hsl
        simp [hil, ← hx, Flw.D, hsl]
        refine wH [1, 6] (hins) ?_
        rintro d H' nx' ⟨rfl, rfl, rfl⟩
        repeat' (first
          | simp
          | refine ⟨wcS ?_, ?_⟩
          | (refine WCall.pf (hern) ?_ ?_ ?_ ?_; iterate 3 (solve|simp))
          | with_reducible refine aI ?_ ?_ ?_)
        refine wH [0, 7, 2, 3] (hp2) ?_
        rintro d H' nx' ⟨rfl, rfl, rfl⟩
        simp
        exact ⟨8, by simp [Outp.D], 7, by simp⟩
      · have hz : i = g.fl.length := by omega
        have hnn : g.fl[i]? = none := List.getElem?_eq_none (by omega)
        simp [hil, hnn]
        refine wH [1, 6] (hins) ?_
        rintro d H' nx' ⟨rfl, rfl, rfl⟩
        repeat' (first
          | simp
          | refine ⟨wcS ?_, ?_⟩
          | (refine WCall.pf (hern) ?_ ?_ ?_ ?_; iterate 3 (solve|simp))
          | with_reducible refine aI ?_ ?_ ?_)
        refine wH [0, 7, 2, 3] (hp2) ?_
        rintro d H' nx' ⟨rfl, rfl, rfl⟩
        simp
        exact ⟨8, by simp [Outp.D], 7, by simp⟩
  · rw [if_pos p0]
    have hput := gput_mo g ⟨2, 0, 0, 0, 0, 11, 0⟩ (by omega)
    simp only [MO, Gt.put, Gt.H, Gt.cells, Outp.D, List.map_append, List.map_cons, List.map_nil, List.cons_append, List.nil_append] at hput
    generalize pickG g key (-1) = pk at hpk p0
    obtain ⟨pb, pe⟩ := pk
    simp only at hpk p0
    refine MF.of ?_
    unfold Gt.H Gt.cells
    refine hO gopen_code [0, 1, 4, 5, 6, 7, 9, 10, 18, 29, 84] [] fun B hBN hB0 => ?_
    repeat' (first
      | simp [p0]
      | refine ⟨wcS ?_, ?_⟩
      | (refine WCall.pf (hcf) ?_ ?_ ?_ ?_; iterate 3 (solve|simp [p0]))
      | (refine WCall.pf (hpk) ?_ ?_ ?_ ?_; iterate 3 (solve|simp [p0]))
      | with_reducible refine aI ?_ ?_ ?_)
    refine wH [0, 1, 2, 3] (hput) ?_
    rintro d H' nx' ⟨rfl, rfl, rfl⟩
    simp [Gt.put, Outp.D, Gt.cells]
    exact ⟨4, by simp, 1, by simp⟩
theorem due_set (g : Gt) (i : Nat) (hi : i < g.fl.length) (F : Flw) (z : Int) : Gt.dueA { g with fl := g.fl.set i F } i z = { g with fl := g.fl.set i { F with due := z },tm := armT g.tm F.slot z } := by
 unfold Gt.dueA
 simp only [getD_set,hi,and_self,if_true,List.set_set]
theorem gfailed_code : cfun Tryz.prog [82] 97 = some ⟨(.seq (qR 0 [oM 11 0,oN 12 11,oF 13 0 12,oF 14 18 13,oL 15 1 14,oM 16 1,oI 17 7 15 16,oM 6 17]) (.seq (qR 1 [oM 18 0,oM 19 6,oN 20 19,oF 21 3 20,oL 22 1 21,oX 23 (.call 99 [(.t 18),(.t 22),(.k qT)])]) (.seq (.draw 2 (qN (oM 25 0) (qN (oN 26 25) (qN (oF 27 0 26) (qN (oF 28 0 27) (qN (oF 29 10 28) (qN (oA 30 3 29) (qN (oM 31 0) (qN (oN 32 31) (qN (oF 33 0 32) (qN (oF 34 23 33) (qN (oA 35 1 34) (.two (qN (oX 36 (.call 141 [(.t 30),(.t 35)])) (qN (oM 24 36) (qN (oE 37 24 0) (qN (oE 38 24 1) (qN (oX 7 (.alloc [qZ])) (.one false (oS 1 7 37) (qN (oM 8 38) .done))))))) (.two (qN (oX 7 (.alloc [qZ])) (qN (oX 36 (.call 141 [(.t 30),(.t 35)])) (qN (oM 24 36) (qN (oE 37 24 0) (qN (oE 38 24 1) (.one false (oS 1 7 37) (qN (oM 8 38) .done))))))) .top)))))))))))))) (.seq (.seq (.draw 3 (qN (oM 39 6) (qN (oN 40 39) (qN (oF 41 5 40) (qN (oL 42 1 41) (qN (oM 43 0) (qN (oN 44 43) (qN (oF 45 0 44) (qN (oF 46 0 45) (qN (oF 47 8 46) (qN (oL 48 1 47) (qN (oX 49 (.bin .eql (.t 42) (.t 48))) (qN (oM 50 49) (qN (oG 51 (.mov (.t 8)) 50 false) (qN (oG 52 (.bin .neq (.t 51) (kI 0)) 50 false) (qN (oX 53 (.pick (.t 50) (.k qT) (.t 52))) .done)))))))))))))))) (.cond 53 (.seq (qR 4 [oM 54 0,oM 55 1,oM 56 2,oX 57 (.build [qZ,qZ,qZ,qZ,qZ,qZ,qZ] [(0,(1,(kI 6))),(6,(1,(.t 56)))]),oX 58 (.call 96 [(.t 54),(.t 55),(.t 57)])]) .ret) .skip)) (.seq (.draw 5 (qN (oM 60 0) (qN (oM 61 6) (qN (oN 62 61) (qN (oF 63 2 62) (qN (oL 64 1 63) (qN (oM 65 6) (qN (oN 66 65) (qN (oF 67 0 66) (qN (oF 68 0 67) (qN (oL 69 1 68) (qN (oX 70 (.call 83 [(.t 60),(.t 64),(.t 69)])) (qN (oM 59 70) (qN (oE 71 59 0) (qN (oE 72 59 1) (qN (oM 9 71) (qN (oM 8 72) .done))))))))))))))))) (.seq (.seq (qR 6 [oM 73 8,oX 74 (.bin .neq (.t 73) (kI 0))]) (.cond 74 (.seq (qR 7 [oM 75 0,oM 76 1,oX 77 (.build [qZ,qZ,qZ,qZ,qZ,qZ,qZ] [(0,(1,(kI 6))),(6,(1,(kI 4)))]),oX 78 (.call 96 [(.t 75),(.t 76),(.t 77)])]) .ret) .skip)) (.seq (qR 8 [oM 79 6,oN 80 79,oF 81 3 80,oL 82 1 81,oM 10 82]) (.seq (qR 9 [oM 83 0,oA 84 1 7,oN 85 83,oF 86 0 85,oF 87 23 86,oS 1 87 84]) (.seq (.draw 10 (qN (oM 89 0) (qN (oM 90 0) (qN (oN 91 90) (qN (oF 92 0 91) (qN (oF 93 17 92) (qN (oA 94 1 93) (qN (oM 95 6) (qN (oN 96 95) (qN (oF 97 0 96) (qN (oA 98 2 97) (qN (oM 99 9) (qN (oX 100 (.call 142 [(.t 94),(.t 98),(.t 99)])) (qN (oM 88 100) (qN (oE 101 88 0) (qN (oE 102 88 1) (qN (oN 103 89) (qN (oF 104 0 103) (qN (oF 105 17 104) (.one false (oS 1 105 101) .done)))))))))))))))))))) (.seq (qR 11 [oM 106 6,oM 107 9,oN 108 106,oF 109 3 108,oS 1 109 107]) (.seq (qR 12 [oM 110 6,oN 111 110,oF 112 5 111,oL 113 1 112,oX 114 (.bin .add (.t 113) (kI 1)),oN 115 110,oF 116 5 115,oS 1 116 114]) (.seq (qR 13 [oM 117 0,oM 118 6,oM 119 0,oN 120 119,oF 121 0 120,oF 122 0 121,oF 123 7 122,oL 124 1 123,oX 125 (.call 85 [(.t 117),(.t 118),(.t 124)])]) (.seq (.draw 14 (qN (oM 126 0) (qN (oM 127 6) (qN (oN 128 127) (qN (oF 129 0 128) (qN (oF 130 0 129) (qN (oL 131 1 130) (qN (oM 132 6) (qN (oN 133 132) (qN (oF 134 0 133) (qN (oF 135 1 134) (qN (oL 136 1 135) (qN (oM 137 9) (qN (oX 138 (.build [qZ,qZ,qZ,qZ,qZ,qZ,qZ] [(0,(1,(kI 5))),(1,(1,(.t 131))),(2,(1,(.t 136))),(3,(1,(.t 137)))])) (.one false (oX 139 (.call 82 [(.t 126),(.t 138)])) .done))))))))))))))) (.seq (qR 15 [oM 140 10,oM 141 9,oX 142 (.bin .neq (.t 140) (.t 141))]) (.cond 142 (qR 16 [oM 143 0,oM 144 10,oX 145 (.call 90 [(.t 143),(.t 144)])]) .skip))))))))))))))),[],146⟩ := by kernel_rfl
theorem gfailed_mf (g : Gt) (n : Nat) (i : Nat) (why : Int) (h : Mid g n (-1)) (hi : i < g.fl.length) (hsv : g.fl[i].serving = false) (ho : g.out.length < 999998) :
  MF Tryz.prog 97 [I i,I why] g (g.failed i why) := by
 have hm := List.getElem_mem hi
 have hfl := h.flow hm
 have hg := getD_at (default : Flw) hi
 have hfe := h.fe _ hm
 have hgf := get_flow h hm
 obtain ⟨f,hf⟩ : ∃ f,f = g.fl[i] := ⟨_,rfl⟩
 rw [← hf] at hfl hg hfe hsv hgf hm
 have hnote : MK Tryz.prog 99 [I f.backend,.bool true] g (g.note f.backend true) := gnote_mk g n (-1) g.fl f.backend true h (by omega) (by omega)
 have hM1 := h.note f.backend (by omega) true
 obtain ⟨HL,hHL⟩ : ∃ HL,g.note f.backend true = { g with hl := HL } := ⟨_,rfl⟩
 have hF : g.failed i why = if f.tries = g.c.c8 ∨ g.tok < g.c.bud.den then Gt.drop { g with hl := HL } i (resetO why) else if (pickG { g with hl := HL } f.key f.slot).2 ≠ 0 then Gt.drop { g with hl := HL } i (resetO 4)
   else if f.backend ≠ (pickG { g with hl := HL } f.key f.slot).1 then (Gt.moved { g with hl := HL } i (pickG { g with hl := HL } f.key f.slot).1 (g.tok - g.c.bud.den)).spared f.backend else Gt.moved { g with hl := HL } i (pickG { g with hl := HL } f.key f.slot).1 (g.tok - g.c.bud.den) := by
  unfold Gt.failed;simp only [hg,hHL]
 rw [hF]
 clear hF
 rw [hHL] at hnote hM1
 clear hHL
 have hspd := bspend_pf g.c.bud g.tok h.c.b h.tk0 h.tk1
 unfold bspendE at hspd
 simp only [Budget.D] at hspd
 simp only [MK,Gt.H,Gt.cells,List.cons_append,List.nil_append] at hnote
 by_cases t1 : g.tok < g.c.bud.den
 ·rw [if_pos (.inr t1)]
  rw [if_pos t1] at hspd
  have hdrop := gdrop_mf { g with hl := HL } n i (resetO why) hM1 hi (by show g.out.length < _;omega)
  refine MF.of ?_
  generalize Gt.drop { g with hl := HL } i (resetO why) = G at hdrop ⊢
  simp only [MF,Gt.H5,Gt.H,Gt.cells,resetO,Outp.D,List.cons_append,List.nil_append] at hdrop
  unfold Gt.H Gt.cells
  refine hO gfailed_code [0,1,2,6,7,8,9,10,53,74,142] [] fun B hBN hB0 => ?_
  simp [hi,← hf,Flw.D]
  refine wH [0,1,2,3] (hnote) ?_
  rintro d H' nx' ⟨rfl,rfl,rfl⟩
  by_cases t2 : f.tries = g.c.c8
  ·skip
   repeat' (first
    | simp [hi,← hf,Flw.D,t2]
    | refine ⟨wcS ?_,?_⟩
    | (refine WCall.pf (hspd) ?_ ?_ ?_ ?_;iterate 3 (solve|simp [hi,← hf,Flw.D,t2]))
    | with_reducible refine aI ?_ ?_ ?_)
   all_goals
    refine wH [0,1,2,3] (hdrop) ?_
    rintro d H' nx' ⟨rfl,rfl,rfl⟩
    simp
    exact ⟨6,by simp,5,by simp⟩
  ·skip
   repeat' (first
    | simp [hi,← hf,Flw.D,t2]
    | refine ⟨wcS ?_,?_⟩
    | (refine WCall.pf (hspd) ?_ ?_ ?_ ?_;iterate 3 (solve|simp [hi,← hf,Flw.D,t2]))
    | with_reducible refine aI ?_ ?_ ?_)
   all_goals
    refine wH [0,1,2,3] (hdrop) ?_
    rintro d H' nx' ⟨rfl,rfl,rfl⟩
    simp
    exact ⟨6,by simp,5,by simp⟩
 rw [if_neg t1] at hspd
 by_cases t2 : f.tries = g.c.c8
 ·rw [if_pos (.inl t2)]
  have hdrop := gdrop_mf { g with hl := HL } n i (resetO why) hM1 hi (by show g.out.length < _;omega)
  refine MF.of ?_
  generalize Gt.drop { g with hl := HL } i (resetO why) = G at hdrop ⊢
  simp only [MF,Gt.H5,Gt.H,Gt.cells,resetO,Outp.D,List.cons_append,List.nil_append] at hdrop
  unfold Gt.H Gt.cells
  refine hO gfailed_code [0,1,2,6,7,8,9,10,53,74,142] [] fun B hBN hB0 => ?_
  simp [hi,← hf,Flw.D]
  refine wH [0,1,2,3] (hnote) ?_
  rintro d H' nx' ⟨rfl,rfl,rfl⟩
  repeat' (first
   | simp [hi,← hf,Flw.D,t2]
   | refine ⟨wcS ?_,?_⟩
   | (refine WCall.pf (hspd) ?_ ?_ ?_ ?_;iterate 3 (solve|simp [hi,← hf,Flw.D,t2]))
   | with_reducible refine aI ?_ ?_ ?_)
  all_goals
   refine wH [0,1,2,3] (hdrop) ?_
   rintro d H' nx' ⟨rfl,rfl,rfl⟩
   simp
   exact ⟨6,by simp,5,by simp⟩
 rw [if_neg (by omega)]
 have hpk := gpick_pf { g with hl := HL } n (-1) f.key f.slot hM1 (.inr ⟨f,hm,rfl⟩) (by omega) (by omega)
 have hpB := fun hp => hM1.pickedB (key := f.key) (but := f.slot) (.inr ⟨f,hm,rfl⟩) hp
 simp only [Gt.P,Gt.W,Gt.cells,List.cons_append,List.nil_append] at hpk
 by_cases p0 : (pickG { g with hl := HL } f.key f.slot).2 = 0
 ·rw [if_neg (fun hh => hh p0)]
  obtain ⟨q2,q0,q1⟩ := hpB p0
  rw [p0] at hpk
  generalize (pickG { g with hl := HL } f.key f.slot).1 = pb at hpk q2 q0 q1 ⊢
  clear hpB p0
  have htk : 0 ≤ g.tok - g.c.bud.den := by omega
  have hbd := h.c.b
  unfold Budget.Ok at hbd
  have hk1 := h.tk1
  have hmv := hM1.moved (i := i) (b := pb) (tok := g.tok - g.c.bud.den) hi q2 q0 q1 htk (by show g.tok - g.c.bud.den ≤ g.c.bud.full;omega) (by rw [hg];exact t2) (by rw [hg];exact hsv)
  rw [hg] at hmv
  have htm := tmove_pf g.tb f.slot f.gen pb h.tok q0 q1
  have e2 : moveM g.tb f.slot f.gen pb = (g.tb.set f.slot.toNat ⟨f.gen,true,f.key,pb⟩,0) := by unfold moveM;rw [hgf];rfl
  rw [e2] at htm
  have hd0 := gdue_mk { g with hl := HL,tok := g.tok - g.c.bud.den,tb := g.tb.set f.slot.toNat ⟨f.gen,true,f.key,pb⟩,fl := g.fl.set i { f with backend := pb,tries := f.tries + 1 } } i g.c.c7 (by simpa using hi)
   ⟨h.wh,h.wn,h.n0,by have := h.n1;have := h.nn;show g.now ≤ _;omega,by simp;omega,by simp;have := h.tok.2.1;omega,h.c.w7.1,h.c.w7.2⟩
  have e3 := due_set { g with hl := HL,tok := g.tok - g.c.bud.den,tb := g.tb.set f.slot.toNat ⟨f.gen,true,f.key,pb⟩ } i hi { f with backend := pb,tries := f.tries + 1 } (g.now + g.c.c7)
  simp only at e3 hd0
  rw [e3] at hd0
  have hput := gput_mo { g with hl := HL,tok := g.tok - g.c.bud.den,tb := g.tb.set f.slot.toNat ⟨f.gen,true,f.key,pb⟩,fl := g.fl.set i { f with backend := pb,tries := f.tries + 1,due := g.now + g.c.c7 },tm := armT g.tm f.slot (g.now + g.c.c7) } ⟨5,f.slot,f.gen,pb,0,0,0⟩ (by show g.out.length ≤ _;omega)
  have eM : Gt.moved { g with hl := HL } i pb (g.tok - g.c.bud.den) = { g with hl := HL,tok := g.tok - g.c.bud.den,tb := g.tb.set f.slot.toNat ⟨f.gen,true,f.key,pb⟩,fl := g.fl.set i { f with backend := pb,tries := f.tries + 1,due := g.now + g.c.c7 },tm := armT g.tm f.slot (g.now + g.c.c7),out := g.out ++ [⟨5,f.slot,f.gen,pb,0,0,0⟩] } := by
   unfold Gt.moved;simp only [hg]
  have hsp := gspar_mo _ n f.backend hmv (by rw [eM];simp;omega)
  rw [eM] at hsp ⊢
  have it : InR (f.tries + 1) := inW (by omega) (by have := h.c.w8;omega)
  clear hmv eM e3 e2 hM1 q2
  generalize g.tb.set f.slot.toNat ⟨f.gen,true,f.key,pb⟩ = TB at *
  generalize armT g.tm f.slot (g.now + g.c.c7) = TM at *
  by_cases hne : f.backend = pb
  ·rw [if_neg (fun hh => hh hne)]
   clear hsp
   refine MF.of ?_
   simp only [MK,MO,Gt.put,Gt.H,Gt.cells,Outp.D,List.map_append,List.map_cons,List.map_nil,List.map_set,List.cons_append,List.nil_append,Flw.D] at hd0 hput
   unfold Gt.H Gt.cells
   refine hO gfailed_code [0,1,2,6,7,8,9,10,53,74,142] [] fun B hBN hB0 => ?_
   simp [hi,← hf,Flw.D]
   refine wH [0,1,2,3] (hnote) ?_
   rintro d H' nx' ⟨rfl,rfl,rfl⟩
   repeat' (first
    | simp [hi,← hf,Flw.D,t2,it]
    | refine ⟨wcS ?_,?_⟩
    | (refine WCall.pf (hspd) ?_ ?_ ?_ ?_;iterate 3 (solve|simp [hi,← hf,Flw.D,t2,it]))
    | (refine WCall.pf (hpk) ?_ ?_ ?_ ?_;iterate 3 (solve|simp [hi,← hf,Flw.D,t2,it]))
    | (refine WCall.pf (htm) ?_ ?_ ?_ ?_;iterate 3 (solve|simp [hi,← hf,Flw.D,t2,it]))
    | with_reducible refine aI ?_ ?_ ?_)
   all_goals
    refine wH [0,1,2,3] (hd0) ?_
    rintro d H' nx' ⟨rfl,rfl,rfl⟩
    simp [hi]
    refine wH [0,1,2,3] (hput) ?_
    rintro d H' nx' ⟨rfl,rfl,rfl⟩
    simp [hne,Outp.D,Flw.D]
    exact ⟨5,by simp,1,by simp⟩
  ·rw [if_pos hne]
   refine MF.of ?_
   generalize Gt.spared _ f.backend = G at hsp ⊢
   simp only [MK,MO,Gt.put,Gt.H,Gt.cells,Outp.D,List.map_append,List.map_cons,List.map_nil,List.map_set,List.cons_append,List.nil_append,Flw.D] at hd0 hput hsp
   unfold Gt.H Gt.cells
   refine hO gfailed_code [0,1,2,6,7,8,9,10,53,74,142] [] fun B hBN hB0 => ?_
   simp [hi,← hf,Flw.D]
   refine wH [0,1,2,3] (hnote) ?_
   rintro d H' nx' ⟨rfl,rfl,rfl⟩
   repeat' (first
    | simp [hi,← hf,Flw.D,t2,it]
    | refine ⟨wcS ?_,?_⟩
    | (refine WCall.pf (hspd) ?_ ?_ ?_ ?_;iterate 3 (solve|simp [hi,← hf,Flw.D,t2,it]))
    | (refine WCall.pf (hpk) ?_ ?_ ?_ ?_;iterate 3 (solve|simp [hi,← hf,Flw.D,t2,it]))
    | (refine WCall.pf (htm) ?_ ?_ ?_ ?_;iterate 3 (solve|simp [hi,← hf,Flw.D,t2,it]))
    | with_reducible refine aI ?_ ?_ ?_)
   all_goals
    refine wH [0,1,2,3] (hd0) ?_
    rintro d H' nx' ⟨rfl,rfl,rfl⟩
    simp [hi]
    refine wH [0,1,2,3] (hput) ?_
    rintro d H' nx' ⟨rfl,rfl,rfl⟩
    simp [hne]
    refine wH [0,1,2,5] (hsp) ?_
    rintro d H' nx' ⟨rfl,rfl,rfl⟩
    simp
    exact ⟨6,by simp,1,by simp⟩
 ·rw [if_pos p0]
  have hdrop := gdrop_mf { g with hl := HL } n i (resetO 4) hM1 hi (by show g.out.length < _;omega)
  refine MF.of ?_
  generalize Gt.drop { g with hl := HL } i (resetO 4) = G at hdrop ⊢
  generalize pickG { g with hl := HL } f.key f.slot = pk at hpk p0
  obtain ⟨pb,pe⟩ := pk
  simp only at hpk p0
  simp only [MF,Gt.H5,Gt.H,Gt.cells,resetO,Outp.D,List.cons_append,List.nil_append] at hdrop
  unfold Gt.H Gt.cells
  refine hO gfailed_code [0,1,2,6,7,8,9,10,53,74,142] [] fun B hBN hB0 => ?_
  simp [hi,← hf,Flw.D]
  refine wH [0,1,2,3] (hnote) ?_
  rintro d H' nx' ⟨rfl,rfl,rfl⟩
  repeat' (first
   | simp [hi,← hf,Flw.D,t2,p0]
   | refine ⟨wcS ?_,?_⟩
   | (refine WCall.pf (hspd) ?_ ?_ ?_ ?_;iterate 3 (solve|simp [hi,← hf,Flw.D,t2,p0]))
   | (refine WCall.pf (hpk) ?_ ?_ ?_ ?_;iterate 3 (solve|simp [hi,← hf,Flw.D,t2,p0]))
   | with_reducible refine aI ?_ ?_ ?_)
  all_goals
   refine wH [0,1,2,3] (hdrop) ?_
   rintro d H' nx' ⟨rfl,rfl,rfl⟩
   simp
   exact ⟨6,by simp,5,by simp⟩
theorem due_at (g : Gt) (i : Nat) (hi : i < g.fl.length) (z : Int) : g.dueA i z = { g with fl := g.fl.set i { g.fl[i] with due := z },tm := armT g.tm g.fl[i].slot z } := by
 unfold Gt.dueA
 simp only [getD_at _ hi]
theorem gflow_code : cfun Tryz.prog [82] 56 = some ⟨(.seq (qR 0 [oB 3 1]) (.seq (.seq (.draw 1 (qN (oM 10 0) (qN (oN 11 10) (qN (oF 12 0 11) (qN (oF 13 17 12) (qN (oA 14 1 13) (qN (oF 15 2 3) (qN (oL 16 1 15) (qN (oF 17 3 3) (qN (oL 18 1 17) (qN (oX 19 (.build [qZ,qZ] [(0,(1,(.t 16))),(1,(1,(.t 18)))])) (.two (qN (oX 20 (.call 33 [(.t 14),(.t 19)])) (qN (oM 9 20) (qN (oE 21 9 0) (qN (oE 22 9 1) (qN (oX 4 (.alloc [qZ,qF,qZ,qZ])) (.one false (oS 4 4 21) (qN (oM 5 22) .done))))))) (.two (qN (oX 4 (.alloc [qZ,qF,qZ,qZ])) (qN (oX 20 (.call 33 [(.t 14),(.t 19)])) (qN (oM 9 20) (qN (oE 21 9 0) (qN (oE 22 9 1) (.one false (oS 4 4 21) (qN (oM 5 22) .done))))))) .top))))))))))))) (.seq (qR 2 [oM 23 5,oX 24 (.bin .neq (.t 23) (kI 0))]) (.cond 24 (.seq (qR 3 [oM 25 0,oM 26 5,oX 27 (.build [qZ,qZ,qZ,qZ,qZ,qZ,qZ] [(0,(1,(kI 10))),(5,(1,(.t 26)))]),oX 28 (.call 82 [(.t 25),(.t 27)])]) .ret) .skip))) (.seq (qR 4 [oM 29 0,oF 30 2 3,oL 31 1 30,oX 32 (.call 95 [(.t 29),(.t 31)]),oM 6 32]) (.seq (qR 5 [oM 33 0,oN 34 33,oF 35 0 34,oF 36 18 35,oL 37 1 36,oM 38 6,oI 39 7 37 38,oM 7 39]) (.seq (.draw 6 (qN (oF 40 2 3) (qN (oL 41 1 40) (qN (oF 42 3 3) (qN (oL 43 1 42) (qN (oM 44 7) (qN (oN 45 44) (qN (oF 46 3 45) (qN (oL 47 1 46) (qN (oX 48 (.build [qZ,qZ,qZ,qZ,qZ,qZ,qZ] [(1,(1,(.t 41))),(2,(1,(.t 43))),(3,(1,(.t 47)))])) (qN (oX 8 (.alloc [qZ,qZ,qZ,qZ,qZ,qZ,qZ])) (.one false (oS 7 8 48) .done)))))))))))) (.block 0 (.seq (qR 8 [oF 53 0 3,oL 54 1 53,oX 55 (.bin .eql (.t 54) (kI 3)),oM 52 55]) (.cond 52 (qR 9 [oM 56 0,oM 57 6,oX 58 (.build [qZ,qZ,qZ,qZ,qZ,qZ,qZ] [(0,(1,(kI 7)))]),oX 59 (.call 96 [(.t 56),(.t 57),(.t 58)])]) (.seq (qR 10 [oF 61 0 3,oL 62 1 61,oX 63 (.bin .eql (.t 62) (kI 2)),oM 60 63]) (.cond 60 (.seq (.seq (qR 11 [oM 64 7,oN 65 64,oF 66 4 65,oL 67 1 66]) (.cond 67 (qR 12 [oM 68 0,oM 69 7,oM 70 0,oN 71 70,oF 72 0 71,oF 73 0 72,oF 74 6 73,oL 75 1 74,oX 76 (.call 85 [(.t 68),(.t 69),(.t 75)])]) .skip)) (.seq (qR 13 [oF 77 0 8,oY (.store 1 (.t 77) (kI 3))]) (qR 14 [oM 78 0,oA 79 7 8,oX 80 (.call 82 [(.t 78),(.t 79)])]))) (.seq (qR 15 [oM 82 7,oN 83 82,oF 84 4 83,oL 85 1 84,oM 81 85]) (.cond 81 (qR 16 [oM 86 0,oX 87 (.build [qZ,qZ,qZ,qZ,qZ,qZ,qZ] [(0,(1,(kI 10))),(5,(1,(kI 7)))]),oX 88 (.call 82 [(.t 86),(.t 87)])]) (.seq (qR 17 [oF 90 4 3,oL 91 1 90,oM 89 91]) (.cond 89 (.seq (qR 18 [oM 92 7,oN 93 92,oF 94 4 93,oY (.store 1 (.t 94) (.k qT))]) (.seq (qR 19 [oM 95 0,oM 96 7,oN 97 96,oF 98 3 97,oL 99 1 98,oX 100 (.call 99 [(.t 95),(.t 99),(.k qF)])]) (.seq (qR 20 [oM 101 0,oM 102 7,oM 103 0,oN 104 103,oF 105 0 104,oF 106 0 105,oF 107 6 106,oL 108 1 107,oX 109 (.call 85 [(.t 101),(.t 102),(.t 108)])]) (.seq (qR 21 [oF 110 0 8,oY (.store 1 (.t 110) (kI 4))]) (qR 22 [oM 111 0,oA 112 7 8,oX 113 (.call 82 [(.t 111),(.t 112)])]))))) (qR 7 [oM 49 0,oM 50 6,oX 51 (.call 97 [(.t 49),(.t 50),(kI 3)])]))))))))))))))),[],114⟩ := by kernel_rfl
theorem gflow_mf (g : Gt) (n : Nat) (e : Evt) (h : Mid g n (-1)) (ho : g.out.length < 999998) : MF Tryz.prog 56 [.agg e.D] g (g.flow e) := by
 have hf40 := fl_le h.fs
 have ht40 := h.tok.2.1
 have hget := tget_pf g.tb e.slot e.gen h.tok
 unfold Gt.flow
 by_cases c0 : (getM g.tb e.slot e.gen).2 ≠ 0
 ·rw [if_pos c0]
  generalize getM g.tb e.slot e.gen = r at hget c0 ⊢
  obtain ⟨rs,rc⟩ := r
  simp only at hget c0 ⊢
  have hput := gput_mo g ⟨10,0,0,0,0,rc,0⟩ (by omega)
  simp only [MO,Gt.put,Gt.H,Gt.cells,Outp.D,List.map_append,List.map_cons,List.map_nil,List.cons_append,List.nil_append] at hput
  simp only [TSlot.D] at hget
  refine MF.of ?_
  unfold Gt.H Gt.cells
  refine hO (h3 := by simp [Evt.D]) gflow_code [0,1,3,5,6,7,8,24,52,60,67,81,89] [] fun B hBN hB0 => ?_
  repeat' (first
   | simp [Evt.D,c0]
   | refine ⟨wcS ?_,?_⟩
   | (refine WCall.pf (hget) ?_ ?_ ?_ ?_;iterate 3 (solve|simp [Evt.D,c0]))
   | with_reducible refine aI ?_ ?_ ?_)
  all_goals
   refine wH [0,1,2,3] (hput) ?_
   rintro d H' nx' ⟨rfl,rfl,rfl⟩
   simp [Gt.put,Outp.D,Gt.cells]
   exact ⟨6,by simp,1,by simp⟩
 have c0 := Decidable.not_not.1 c0
 rw [if_neg (fun hh => hh c0)]
 obtain ⟨z0,z1,z2,z3,z4⟩ := getM_in g.tb e.slot e.gen c0
 obtain ⟨f0,hf0,hfs⟩ := h.fs.al e.slot.toNat (by omega) z3
 have hfs : f0.slot = e.slot := by omega
 have hfm := find_mem h.fs.so hf0
 rw [hfs] at hfm
 obtain ⟨hil,hfi,hfp,_⟩ := hfm
 have hff := gfind_pf g e.slot (by omega)
 obtain ⟨i,hi⟩ : ∃ i : Nat,findF g.fl e.slot = i := ⟨(findF g.fl e.slot).toNat,by omega⟩
 have hhi := hi
 dsimp only
 rw [hi,Int.toNat_natCast] at hil
 have hfi2 : g.fl[i] = f0 := by
  have : (findF g.fl e.slot).toNat = i := by omega
  subst this;exact hfi
 rw [hi] at hff
 simp only [hi,Int.toNat_natCast]
 clear hfi hfp hi
 have hgd := getD_at (default : Flw) hil
 rw [hfi2] at hgd
 have hfl := h.flow hf0
 have hfe := h.fe _ hf0
 have hgf := get_flow h hf0
 have hgen : f0.gen = e.gen := by
  have := hfl.2.2.1
  rw [hfs] at this
  rw [this] at z4;exact z4
 simp only [hgd]
 generalize getM g.tb e.slot e.gen = r at hget c0
 obtain ⟨rs,rc⟩ := r
 simp only at hget c0
 subst c0
 simp only [TSlot.D] at hget
 simp only [Gt.P,Gt.W,Gt.cells,List.cons_append,List.nil_append] at hff
 have hf := hfi2.symm
 by_cases k3 : e.kind = 3
 ·rw [if_pos k3]
  have hdrop := gdrop_mf g n i ⟨7,0,0,0,0,0,0⟩ h hil (by omega)
  refine MF.of ?_
  generalize g.drop i ⟨7,0,0,0,0,0,0⟩ = G at hdrop ⊢
  simp only [MF,Gt.H5,Gt.H,Gt.cells,Outp.D,List.cons_append,List.nil_append] at hdrop
  unfold Gt.H Gt.cells
  refine hO (h3 := by simp [Evt.D]) gflow_code [0,1,3,5,6,7,8,24,52,60,67,81,89] [] fun B hBN hB0 => ?_
  repeat' (first
   | simp [Evt.D,hil,← hf,Flw.D,k3]
   | refine ⟨wcS ?_,?_⟩
   | (refine WCall.pf (hget) ?_ ?_ ?_ ?_;iterate 3 (solve|simp [Evt.D,hil,← hf,Flw.D,k3]))
   | (refine WCall.pf (hff) ?_ ?_ ?_ ?_;iterate 3 (solve|simp [Evt.D,hil,← hf,Flw.D,k3]))
   | with_reducible refine aI ?_ ?_ ?_)
  all_goals
   refine wH [0,1,2,3] (hdrop) ?_
   rintro d H' nx' ⟨rfl,rfl,rfl⟩
   simp
   exact ⟨8,by simp,7,by simp⟩
 rw [if_neg k3]
 by_cases k2 : e.kind = 2
 ·rw [if_pos k2]
  cases hs : f0.serving with
  | true =>
   simp only [if_true]
   have hd := gdue_mk g i g.c.c6 hil ⟨h.wh,h.wn,h.n0,by have := h.n1;have := h.nn;omega,by rw [hfi2];omega,by rw [hfi2];omega,h.c.w6.1,h.c.w6.2⟩
   rw [due_at g i hil,hfi2] at hd
   rw [due_at g i hil,hfi2]
   have hput := gput_mo { g with fl := g.fl.set i { f0 with due := g.now + g.c.c6 },tm := armT g.tm f0.slot (g.now + g.c.c6) } ⟨3,e.slot,e.gen,f0.backend,0,0,0⟩ (by show g.out.length ≤ _;omega)
   generalize armT g.tm f0.slot (g.now + g.c.c6) = TM at *
   simp only [MK,MO,Gt.put,Gt.H,Gt.cells,Outp.D,List.map_append,List.map_cons,List.map_nil,List.map_set,List.cons_append,List.nil_append,Flw.D] at hd hput
   refine MF.of ?_
   unfold Gt.H Gt.cells
   refine hO (h3 := by simp [Evt.D]) gflow_code [0,1,3,5,6,7,8,24,52,60,67,81,89] [] fun B hBN hB0 => ?_
   repeat' (first
    | simp [Evt.D,hil,← hf,Flw.D,k2,hs]
    | refine ⟨wcS ?_,?_⟩
    | (refine WCall.pf (hget) ?_ ?_ ?_ ?_;iterate 3 (solve|simp [Evt.D,hil,← hf,Flw.D,k2,hs]))
    | (refine WCall.pf (hff) ?_ ?_ ?_ ?_;iterate 3 (solve|simp [Evt.D,hil,← hf,Flw.D,k2,hs]))
    | with_reducible refine aI ?_ ?_ ?_)
   all_goals
    refine WCall.hf [0,1,2,3] (hd) (by simp) rfl rfl (by decide) (by simp) (by simp [hs]) (by simp [hs]) (by simp [hs]) (by simp [hs]) ?_
    rintro d H' nx' ⟨rfl,rfl,rfl⟩
    simp
    refine WCall.hf [0,1,2,3] (hput) (by simp) rfl rfl (by decide) (by simp) (by simp [hs]) (by simp [hs]) (by simp [hs]) (by simp [hs]) ?_
    rintro d H' nx' ⟨rfl,rfl,rfl⟩
    simp [Gt.put,Outp.D,Flw.D,Gt.cells,hs]
    exact ⟨7,by simp,1,by simp⟩
  | false =>
   simp only [Bool.false_eq_true,if_false]
   have hput := gput_mo g ⟨3,e.slot,e.gen,f0.backend,0,0,0⟩ (by omega)
   simp only [MO,Gt.put,Gt.H,Gt.cells,Outp.D,List.map_append,List.map_cons,List.map_nil,List.cons_append,List.nil_append] at hput
   refine MF.of ?_
   unfold Gt.H Gt.cells
   refine hO (h3 := by simp [Evt.D]) gflow_code [0,1,3,5,6,7,8,24,52,60,67,81,89] [] fun B hBN hB0 => ?_
   repeat' (first
    | simp [Evt.D,hil,← hf,Flw.D,k2,hs]
    | refine ⟨wcS ?_,?_⟩
    | (refine WCall.pf (hget) ?_ ?_ ?_ ?_;iterate 3 (solve|simp [Evt.D,hil,← hf,Flw.D,k2,hs]))
    | (refine WCall.pf (hff) ?_ ?_ ?_ ?_;iterate 3 (solve|simp [Evt.D,hil,← hf,Flw.D,k2,hs]))
    | with_reducible refine aI ?_ ?_ ?_)
   all_goals
    refine wH [0,1,2,3] (hput) ?_
    rintro d H' nx' ⟨rfl,rfl,rfl⟩
    simp [Gt.put,Outp.D,Gt.cells]
    exact ⟨7,by simp,1,by simp⟩
 rw [if_neg k2]
 cases hs : f0.serving with
 | true =>
  simp only [if_true]
  have hput := gput_mo g ⟨10,0,0,0,0,7,0⟩ (by omega)
  simp only [MO,Gt.put,Gt.H,Gt.cells,Outp.D,List.map_append,List.map_cons,List.map_nil,List.cons_append,List.nil_append] at hput
  refine MF.of ?_
  unfold Gt.H Gt.cells
  refine hO (h3 := by simp [Evt.D]) gflow_code [0,1,3,5,6,7,8,24,52,60,67,81,89] [] fun B hBN hB0 => ?_
  repeat' (first
   | simp [Evt.D,hil,← hf,Flw.D,k3,k2,hs]
   | refine ⟨wcS ?_,?_⟩
   | (refine WCall.pf (hget) ?_ ?_ ?_ ?_;iterate 3 (solve|simp [Evt.D,hil,← hf,Flw.D,k3,k2,hs]))
   | (refine WCall.pf (hff) ?_ ?_ ?_ ?_;iterate 3 (solve|simp [Evt.D,hil,← hf,Flw.D,k3,k2,hs]))
   | with_reducible refine aI ?_ ?_ ?_)
  all_goals
   refine wH [0,1,2,3] (hput) ?_
   rintro d H' nx' ⟨rfl,rfl,rfl⟩
   simp [Gt.put,Outp.D,Gt.cells]
   exact ⟨7,by simp,1,by simp⟩
 | false =>
  simp only [Bool.false_eq_true,if_false]
  cases hg : e.good with
  | true =>
   simp only [if_true]
   have hser : g.served i = { g with fl := g.fl.set i { f0 with serving := true } } := by unfold Gt.served;rw [hgd]
   rw [hser]
   have hnote := gnote_mk g n (-1) (g.fl.set i { f0 with serving := true }) f0.backend false h (by omega) (by omega)
   obtain ⟨HL,hHL⟩ : ∃ HL,Gt.note { g with fl := g.fl.set i { f0 with serving := true } } f0.backend false = { g with fl := g.fl.set i { f0 with serving := true },hl := HL } := ⟨_,rfl⟩
   rw [hHL] at hnote ⊢
   have hd := gdue_mk { g with fl := g.fl.set i { f0 with serving := true },hl := HL } i g.c.c6 (by simpa using hil) ⟨h.wh,h.wn,h.n0,by have := h.n1;have := h.nn;show g.now ≤ _;omega,by simp;omega,by simp;omega,h.c.w6.1,h.c.w6.2⟩
   have e3 := due_set { g with hl := HL } i hil { f0 with serving := true } (g.now + g.c.c6)
   simp only at e3 hd
   rw [e3] at hd ⊢
   have hput := gput_mo { g with fl := g.fl.set i { f0 with serving := true,due := g.now + g.c.c6 },tm := armT g.tm f0.slot (g.now + g.c.c6),hl := HL } ⟨4,e.slot,e.gen,f0.backend,0,0,0⟩ (by show g.out.length ≤ _;omega)
   generalize armT g.tm f0.slot (g.now + g.c.c6) = TM at *
   simp only [MK,MO,Gt.put,Gt.H,Gt.cells,Outp.D,List.map_append,List.map_cons,List.map_nil,List.map_set,List.cons_append,List.nil_append,Flw.D] at hd hput hnote
   refine MF.of ?_
   unfold Gt.H Gt.cells
   refine hO (h3 := by simp [Evt.D]) gflow_code [0,1,3,5,6,7,8,24,52,60,67,81,89] [] fun B hBN hB0 => ?_
   repeat' (first
    | simp [Evt.D,hil,← hf,Flw.D,k3,k2,hs,hg]
    | refine ⟨wcS ?_,?_⟩
    | (refine WCall.pf (hget) ?_ ?_ ?_ ?_;iterate 3 (solve|simp [Evt.D,hil,← hf,Flw.D,k3,k2,hs,hg]))
    | (refine WCall.pf (hff) ?_ ?_ ?_ ?_;iterate 3 (solve|simp [Evt.D,hil,← hf,Flw.D,k3,k2,hs,hg]))
    | with_reducible refine aI ?_ ?_ ?_)
   all_goals
    refine wH [0,1,2,3] (hnote) ?_
    rintro d H' nx' ⟨rfl,rfl,rfl⟩
    simp [hil]
    refine wH [0,1,2,3] (hd) ?_
    rintro d H' nx' ⟨rfl,rfl,rfl⟩
    simp
    refine wH [0,1,2,3] (hput) ?_
    rintro d H' nx' ⟨rfl,rfl,rfl⟩
    simp [Gt.put,Outp.D,Flw.D,Gt.cells]
    exact ⟨7,by simp,1,by simp⟩
  | false =>
   simp only [Bool.false_eq_true,if_false]
   have hfa := gfailed_mf g n i 3 h hil (by rw [hfi2];exact hs) ho
   refine MF.of ?_
   generalize g.failed i 3 = G at hfa ⊢
   simp only [MF,Gt.H5,Gt.H,Gt.cells,List.cons_append,List.nil_append] at hfa
   unfold Gt.H Gt.cells
   refine hO (h3 := by simp [Evt.D]) gflow_code [0,1,3,5,6,7,8,24,52,60,67,81,89] [] fun B hBN hB0 => ?_
   repeat' (first
    | simp [Evt.D,hil,← hf,Flw.D,k3,k2,hs,hg]
    | refine ⟨wcS ?_,?_⟩
    | (refine WCall.pf (hget) ?_ ?_ ?_ ?_;iterate 3 (solve|simp [Evt.D,hil,← hf,Flw.D,k3,k2,hs,hg]))
    | (refine WCall.pf (hff) ?_ ?_ ?_ ?_;iterate 3 (solve|simp [Evt.D,hil,← hf,Flw.D,k3,k2,hs,hg]))
    | with_reducible refine aI ?_ ?_ ?_)
   all_goals
    refine wH [0,1,2,3] (hfa) ?_
    rintro d H' nx' ⟨rfl,rfl,rfl⟩
    simp
    exact ⟨8,by simp,7,by simp⟩
theorem Mid.retired {g : Gt} {n : Nat} (h : Mid g n (-1)) {e : Evt} (he : EvtOk e) {a : AskR} (ha : a = askM g.L g.R (reqOf e) g.now g.c.c5) (hk6 : e.kind = 6) (hfr : a.fresh = true) (h0 : a.answer = 0) (hst : stateM g.L e.backend ≠ 1) :
  Mid { g with L := a.L,R := a.R,ws := g.ws.set e.backend.toNat 0,out := g.out ++ [⟨8,0,0,0,e.req,a.answer,0⟩] } n e.backend ∧ stateM g.L e.backend = 2 := by
 have hn1 := h.n1
 have hnn := h.nn
 have h5 := h.c.w5
 have hbk := ask_ok h.bk (reqOf e) (reqOf_ok he) g.now g.c.c5 h.n0 (by omega) (by omega) h5.2
 have hc := ask_cases h.bk (reqOf e) g.now g.c.c5
 rw [← ha] at hbk hc
 have hk : (reqOf e).kind = 2 := by simp [reqOf,hk6]
 rcases hc with ⟨_,h2⟩ | ⟨_,_,h3,_⟩ | ⟨h1,h2,h3,h4,h6⟩
 ·rcases h2 with h2 | h2
  ·rw [hfr] at h2;cases h2
  ·exact absurd h0 h2
 ·omega
 obtain ⟨x0,hx0⟩ : ∃ x0 : Lif,x0 = { lifeM g.L (reqOf e).backend with state := if stateM g.L (reqOf e).backend = 1 then 4 else 3,til := g.now + g.c.c5,req := (reqOf e).id } := ⟨_,rfl⟩
 have hlm := state_mem (L := g.L) (b := (reqOf e).backend) (by omega)
 have hxb : x0.backend = (reqOf e).backend := by rw [hx0];exact hlm.2
 have hxs : x0.state = if stateM g.L (reqOf e).backend = 1 then 4 else 3 := by rw [hx0]
 have hxt : x0.til = g.now + g.c.c5 := by rw [hx0]
 have hxe : x0.since = (lifeM g.L (reqOf e).backend).since := by rw [hx0]
 rw [← hx0] at h6
 rw [← hxb] at h6
 have hu := life_upd h.bk.sorted hbk.sorted h6
 have hbe : (reqOf e).backend = e.backend := rfl
 have hsn := h.since _ hlm.1
 have h2' : stateM g.L e.backend = 2 := by rw [hbe] at h4;omega
 rw [hbe,if_neg hst] at hxs
 have hb0 := h.bk.lok _ hlm.1
 have hbb : 0 ≤ e.backend ∧ e.backend < 12 := by
  have e9 := hlm.2
  rw [hbe] at e9
  rw [← e9];exact ⟨hb0.b0,hb0.b1⟩
 have hw : g.ws.set e.backend.toNat 0 = wsOf a.L := by
  rw [h.ws]
  refine (wsOf_set e.backend.toNat (fun b' hb' hne => ?_) 0 fun _ => ?_).symm
  ·rw [hu,if_neg (by rw [hxb,hbe];omega)]
  ·rw [hu,if_pos (by rw [hxb,hbe];omega)]
   simp [actW,hxs]
 have := h.life hbk h6 (by omega) (fun _ => by omega) hw (fun f hf e1 => .inr hxs) (g.out ++ [⟨8,0,0,0,e.req,a.answer,0⟩])
 rw [hxb,hbe] at this
 exact ⟨this,h2'⟩
theorem gask_code : cfun Tryz.prog [] 54 = some ⟨(.seq (qR 0 [oB 3 1]) (.seq (qR 1 [oF 10 5 3,oL 11 1 10,oF 12 6 3,oL 13 1 12,oF 14 7 3,oL 15 1 14,oX 16 (.build [qZ,qZ,qZ,qZ,qZ] [(0,(1,(.t 11))),(1,(1,(kI 1))),(2,(1,(.t 13))),(3,(1,(.t 15)))]),oX 4 (.alloc [qZ,qZ,qZ,qZ,qZ]),oS 5 4 16]) (.seq (.seq (qR 2 [oF 17 0 3,oL 18 1 17,oX 19 (.bin .eql (.t 18) (kI 6))]) (.cond 19 (qR 3 [oF 20 1 4,oY (.store 1 (.t 20) (kI 2))]) .skip)) (.seq (qR 4 [oM 21 0,oF 22 6 3,oL 23 1 22,oX 24 (.call 87 [(.t 21),(.t 23)]),oM 5 24]) (.seq (.draw 5 (qN (oM 26 0) (qN (oN 27 26) (qN (oF 28 0 27) (qN (oF 29 19 28) (qN (oA 30 2 29) (qN (oA 31 5 4) (qN (oM 32 0) (qN (oN 33 32) (qN (oF 34 0 33) (qN (oF 35 16 34) (qN (oL 36 1 35) (qN (oM 37 0) (qN (oN 38 37) (qN (oF 39 0 38) (qN (oF 40 0 39) (qN (oF 41 5 40) (qN (oL 42 1 41) (.two (qN (oX 43 (.call 88 [(.t 30),(.t 31),(.t 36),(.t 42)])) (qN (oM 25 43) (qN (oE 44 25 0) (qN (oE 45 25 1) (qN (oE 46 25 2) (qN (oE 47 25 3) (qN (oX 6 (.alloc [.nil0,.nil0])) (.one false (oS 2 6 44) (qN (oM 7 45) (qN (oM 8 46) (qN (oM 9 47) .done))))))))))) (.two (qN (oX 6 (.alloc [.nil0,.nil0])) (qN (oX 43 (.call 88 [(.t 30),(.t 31),(.t 36),(.t 42)])) (qN (oM 25 43) (qN (oE 44 25 0) (qN (oE 45 25 1) (qN (oE 46 25 2) (qN (oE 47 25 3) (.one false (oS 2 6 44) (qN (oM 7 45) (qN (oM 8 46) (qN (oM 9 47) .done))))))))))) .top)))))))))))))))))))) (.seq (qR 6 [oM 48 0,oA 49 2 6,oN 50 48,oF 51 0 50,oF 52 19 51,oS 2 52 49]) (.seq (qR 7 [oM 53 0,oF 54 5 3,oL 55 1 54,oM 56 7,oX 57 (.build [qZ,qZ,qZ,qZ,qZ,qZ,qZ] [(0,(1,(kI 8))),(4,(1,(.t 55))),(5,(1,(.t 56)))]),oX 58 (.call 82 [(.t 53),(.t 57)])]) (.seq (.seq (qR 8 [oM 59 8,oX 60 (.not (.t 59)),oM 61 60,oG 62 (.mov (.t 7)) 61 false,oG 63 (.bin .neq (.t 62) (kI 0)) 61 false,oX 64 (.pick (.t 61) (.k qT) (.t 63)),oM 65 64,oG 66 (.fad 0 (.t 3)) 65 false,oG 67 (.load false 1 (.t 66)) 65 false,oG 68 (.bin .neq (.t 67) (kI 6)) 65 false,oX 69 (.pick (.t 65) (.k qT) (.t 68))]) (.cond 69 .ret .skip)) (.seq (.seq (qR 9 [oM 70 5,oX 71 (.bin .eql (.t 70) (kI 1))]) (.cond 71 (.seq (qR 10 [oM 72 0,oF 73 6 3,oL 74 1 73,oF 75 5 3,oL 76 1 75,oX 77 (.build [qZ,qZ,qZ,qZ,qZ,qZ,qZ] [(0,(1,(kI 9))),(3,(1,(.t 74))),(4,(1,(.t 76)))]),oX 78 (.call 82 [(.t 72),(.t 77)])]) .ret) .skip)) (.seq (.draw 11 (qN (oM 80 0) (qN (oM 81 0) (qN (oN 82 81) (qN (oF 83 0 82) (qN (oF 84 21 83) (qN (oA 85 1 84) (qN (oF 86 6 3) (qN (oL 87 1 86) (qN (oX 88 (.call 89 [(.t 85),(.t 87)])) (qN (oM 79 88) (qN (oE 89 79 0) (qN (oE 90 79 1) (qN (oN 91 80) (qN (oF 92 0 91) (qN (oF 93 21 92) (.one false (oS 1 93 89) .done))))))))))))))))) (qR 12 [oM 94 0,oF 95 6 3,oL 96 1 95,oX 97 (.call 90 [(.t 94),(.t 96)])]))))))))))),[],98⟩ := by kernel_rfl
theorem gask_mo (g : Gt) (n : Nat) (e : Evt) (h : Mid g n (-1)) (he : EvtOk e) (ho : g.out.length < 999998) : MO Tryz.prog 54 [.agg e.D] g (g.ask e) := by
 have hn1 := h.n1
 have hnn := h.nn
 have h5 := h.c.w5
 have hst := gstate_pf g e.backend h.bk
 have hask := lask_pf g.L g.R (reqOf e) g.now g.c.c5 h.bk (reqOf_ok he) h.n0 (by omega) (by omega) h5.2
 have hret := fun a ha h6 hf h0 hs => h.retired he (a := a) ha h6 hf h0 hs
 have hws : WOk g.ws := by rw [h.ws];exact wsOf_ok h.bk.lok
 have hwg : ∀ b : Nat,b < 12 → (b : Int) = e.backend → stateM g.L e.backend = 2 → g.ws.getD b 0 = (lifeM g.L e.backend).weight.toNat ∧ 0 < (lifeM g.L e.backend).weight.toNat := fun b hb hbe hs => by
  rw [h.ws,wsOf_get _ _ hb,hbe]
  have := (h.bk.lok _ (state_mem (L := g.L) (b := e.backend) (by omega)).1).w0
  unfold stateM at hs
  unfold actW
  rw [if_pos hs]
  omega
 have heb := he.2.2.2.2.2.2
 unfold Gt.ask
 obtain ⟨a,ha⟩ : ∃ a,a = askM g.L g.R (reqOf e) g.now g.c.c5 := ⟨_,rfl⟩
 have hret := hret a ha
 rw [← ha] at hask
 dsimp only
 rw [← ha]
 clear ha
 unfold bookD at hask
 simp only [Gt.P,Gt.W,Gt.cells,List.cons_append,List.nil_append] at hst
 have hput := gput_mo { g with L := a.L,R := a.R } ⟨8,0,0,0,e.req,a.answer,0⟩ (by show g.out.length ≤ _;omega)
 simp only [MO,Gt.put,Gt.H,Gt.cells,Outp.D,List.map_append,List.map_cons,List.map_nil,List.cons_append,List.nil_append] at hput
 have hrD : (reqOf e).D = [I e.req,I (if e.kind = 6 then 2 else 1),I e.backend,I e.weight,I 0] := rfl
 rw [hrD] at hask
 by_cases k6 : e.kind = 6
 ·rw [if_pos k6] at hask
  cases hfr : a.fresh with
  | false =>
   rw [if_pos (.inl rfl)]
   rw [hfr] at hask
   refine MO.of ?_
   unfold Gt.H Gt.cells
   refine hO (h3 := by simp [Evt.D]) gask_code [0,1,3,4,5,6,7,8,19,69,71] [] fun B hBN hB0 => ?_
   repeat' (first
    | simp [Evt.D,k6]
    | refine ⟨wcS ?_,?_⟩
    | (refine WCall.pf (hst) ?_ ?_ ?_ ?_;iterate 3 (solve|simp [Evt.D,k6]))
    | (refine WCall.pf (hask) ?_ ?_ ?_ ?_;iterate 3 (solve|simp [Evt.D,k6]))
    | with_reducible refine aI ?_ ?_ ?_)
   all_goals
    refine wH [0,1,2,3] (hput) ?_
    rintro d H' nx' ⟨rfl,rfl,rfl⟩
    simp [Outp.D]
    exact ⟨7,by simp⟩
  | true =>
   rw [hfr] at hask
   by_cases a0 : a.answer = 0
   ·by_cases s1 : stateM g.L e.backend = 1
    ·rw [if_neg (by rintro (h | h | h);cases h;exact h a0;exact h k6),if_pos s1]
     rw [s1] at hst
     rw [a0] at hask hput ⊢
     have hp2 := gput_mo { g with L := a.L,R := a.R,out := g.out ++ [⟨8,0,0,0,e.req,0,0⟩] } (goneO e.backend e.req) (by simp;omega)
     simp only [MO,Gt.put,Gt.H,Gt.cells,goneO,Outp.D,List.map_append,List.map_cons,List.map_nil,List.cons_append,List.nil_append] at hp2
     refine MO.of ?_
     unfold Gt.H Gt.cells
     refine hO (h3 := by simp [Evt.D]) gask_code [0,1,3,4,5,6,7,8,19,69,71] [] fun B hBN hB0 => ?_
     repeat' (first
      | simp [Evt.D,k6]
      | refine ⟨wcS ?_,?_⟩
      | (refine WCall.pf (hst) ?_ ?_ ?_ ?_;iterate 3 (solve|simp [Evt.D,k6]))
      | (refine WCall.pf (hask) ?_ ?_ ?_ ?_;iterate 3 (solve|simp [Evt.D,k6]))
      | with_reducible refine aI ?_ ?_ ?_)
     all_goals
      refine wH [0,1,2,3] (hput) ?_
      rintro d H' nx' ⟨rfl,rfl,rfl⟩
      simp [Evt.D,k6]
      refine wH [0,1,2,7] (hp2) ?_
      rintro d H' nx' ⟨rfl,rfl,rfl⟩
      simp [Outp.D,Gt.put,goneO]
      exact ⟨8,by simp⟩
    ·rw [if_neg (by rintro (h | h | h);cases h;exact h a0;exact h k6),if_neg s1]
     obtain ⟨hmid,s2⟩ := hret k6 hfr a0 s1
     rw [a0] at hask hput hmid ⊢
     have hsp := gspar_mo _ n e.backend hmid (by simp;omega)
     obtain ⟨b,hb⟩ : ∃ b : Nat,e.backend = b := ⟨e.backend.toNat,by omega⟩
     have hb12 : b < 12 := by omega
     obtain ⟨w1,w2⟩ := hwg b hb12 hb.symm s2
     have hrm := rrem_pf g.ws hws b _ hb12 w1 w2
     rw [← hb] at hrm
     have hbt : e.backend.toNat = b := by omega
     rw [hbt] at hsp ⊢
     refine MO.of ?_
     generalize Gt.spared _ e.backend = G at hsp ⊢
     simp only [MO,Gt.H,Gt.cells,Outp.D,List.map_append,List.map_cons,List.map_nil,List.cons_append,List.nil_append] at hsp
     rw [s2] at hst
     unfold Gt.H Gt.cells
     refine hO (h3 := by simp [Evt.D]) gask_code [0,1,3,4,5,6,7,8,19,69,71] [] fun B hBN hB0 => ?_
     repeat' (first
      | simp [Evt.D,k6]
      | refine ⟨wcS ?_,?_⟩
      | (refine WCall.pf (hst) ?_ ?_ ?_ ?_;iterate 3 (solve|simp [Evt.D,k6]))
      | (refine WCall.pf (hask) ?_ ?_ ?_ ?_;iterate 3 (solve|simp [Evt.D,k6]))
      | with_reducible refine aI ?_ ?_ ?_)
     all_goals
      refine wH [0,1,2,3] (hput) ?_
      rintro d H' nx' ⟨rfl,rfl,rfl⟩
      repeat' (first
       | simp [Evt.D,k6]
       | refine ⟨wcS ?_,?_⟩
       | (refine WCall.pf (hrm) ?_ ?_ ?_ ?_;iterate 3 (solve|simp [Evt.D,k6]))
       | with_reducible refine aI ?_ ?_ ?_)
      all_goals
       refine wH [0,1,2,7] (hsp) ?_
       rintro d H' nx' ⟨rfl,rfl,rfl⟩
       simp
       exact ⟨8,by simp⟩
   ·rw [if_pos (.inr (.inl a0))]
    refine MO.of ?_
    unfold Gt.H Gt.cells
    refine hO (h3 := by simp [Evt.D]) gask_code [0,1,3,4,5,6,7,8,19,69,71] [] fun B hBN hB0 => ?_
    repeat' (first
     | simp [Evt.D,k6]
     | refine ⟨wcS ?_,?_⟩
     | (refine WCall.pf (hst) ?_ ?_ ?_ ?_;iterate 3 (solve|simp [Evt.D,k6]))
     | (refine WCall.pf (hask) ?_ ?_ ?_ ?_;iterate 3 (solve|simp [Evt.D,k6]))
     | with_reducible refine aI ?_ ?_ ?_)
    all_goals
     refine wH [0,1,2,3] (hput) ?_
     rintro d H' nx' ⟨rfl,rfl,rfl⟩
     simp [Outp.D,a0]
     exact ⟨7,by simp⟩
 ·rw [if_pos (.inr (.inr k6))]
  rw [if_neg k6] at hask
  cases hfr : a.fresh with
  | false =>
   rw [hfr] at hask
   refine MO.of ?_
   unfold Gt.H Gt.cells
   refine hO (h3 := by simp [Evt.D]) gask_code [0,1,3,4,5,6,7,8,19,69,71] [] fun B hBN hB0 => ?_
   repeat' (first
    | simp [Evt.D,k6]
    | refine ⟨wcS ?_,?_⟩
    | (refine WCall.pf (hst) ?_ ?_ ?_ ?_;iterate 3 (solve|simp [Evt.D,k6]))
    | (refine WCall.pf (hask) ?_ ?_ ?_ ?_;iterate 3 (solve|simp [Evt.D,k6]))
    | with_reducible refine aI ?_ ?_ ?_)
   all_goals
    refine wH [0,1,2,3] (hput) ?_
    rintro d H' nx' ⟨rfl,rfl,rfl⟩
    simp [Outp.D,Evt.D,k6]
    exact ⟨7,by simp⟩
  | true =>
   rw [hfr] at hask
   by_cases a0 : a.answer = 0
   ·rw [a0] at hask hput ⊢
    refine MO.of ?_
    unfold Gt.H Gt.cells
    refine hO (h3 := by simp [Evt.D]) gask_code [0,1,3,4,5,6,7,8,19,69,71] [] fun B hBN hB0 => ?_
    repeat' (first
     | simp [Evt.D,k6]
     | refine ⟨wcS ?_,?_⟩
     | (refine WCall.pf (hst) ?_ ?_ ?_ ?_;iterate 3 (solve|simp [Evt.D,k6]))
     | (refine WCall.pf (hask) ?_ ?_ ?_ ?_;iterate 3 (solve|simp [Evt.D,k6]))
     | with_reducible refine aI ?_ ?_ ?_)
    all_goals
     refine wH [0,1,2,3] (hput) ?_
     rintro d H' nx' ⟨rfl,rfl,rfl⟩
     simp [Outp.D,Evt.D,k6]
     exact ⟨7,by simp⟩
   ·refine MO.of ?_
    unfold Gt.H Gt.cells
    refine hO (h3 := by simp [Evt.D]) gask_code [0,1,3,4,5,6,7,8,19,69,71] [] fun B hBN hB0 => ?_
    repeat' (first
     | simp [Evt.D,k6]
     | refine ⟨wcS ?_,?_⟩
     | (refine WCall.pf (hst) ?_ ?_ ?_ ?_;iterate 3 (solve|simp [Evt.D,k6]))
     | (refine WCall.pf (hask) ?_ ?_ ?_ ?_;iterate 3 (solve|simp [Evt.D,k6]))
     | with_reducible refine aI ?_ ?_ ?_)
    all_goals
     refine wH [0,1,2,3] (hput) ?_
     rintro d H' nx' ⟨rfl,rfl,rfl⟩
     simp [Outp.D,Evt.D,k6,a0]
     exact ⟨7,by simp⟩
theorem tiidx_code : cfun Tryz.prog [] 152 = some ⟨(.seq (qR 0 [oB 3 1,oK 4 0]) (.seq (.seq (qR 1 [oM 6 0,oH 7 6,oK 8 0]) (.block 0 (.loop (.seq (qR 2 [oX 9 (.bin .lss (.t 8) (.t 7))]) (.seq (.cond 9 .skip (.exit 0)) (.seq (.block 1 (.seq (qR 3 [oM 10 8,oM 5 10]) (.seq (.draw 4 (qN (oA 11 2 3) (qN (oM 12 0) (qN (oM 13 5) (qN (oI 14 2 12 13) (qN (oA 15 2 14) (qN (oX 16 (.eqa false [.i,.i] (.t 11) (.t 15))) .done))))))) (.cond 16 (.seq (qR 5 [oM 17 5,oM 4 17]) .ret) .skip)))) (qR 6 [oX 18 (.bin .add (.t 8) (kI 1)),oM 8 18]))))))) (.seq (qR 7 [oK 4 (-1)]) .ret))),[(.t 4)],19⟩ := by kernel_rfl
theorem tiidx_pf (l : List (Int × Int)) (a b : Int) (hl : l.length ≤ 1000000) : PF Tryz.prog 152 [.rows 2 (l.map tmE),.agg [I a,I b]] (I (idxZ (fun z => decide ((a,b) = z)) l)) := by
 refine pO tiidx_code [0,1,3,4,5,7,8,9,16] [] fun B hBN hB0 => ?_
 simp
 refine W.loopS (fun i : Nat => ⟨[(8,I i),(7,I l.length),(4,I 0),(3,.ptr 0 0),(0,D.rows 2 (l.map tmE))],[(0,.cells [I a,I b])],1⟩)
  (fun n i => n = l.length - i ∧ i ≤ l.length ∧ ∀ j (hj : j < l.length),j < i → ¬ (a,b) = l[j]) ?_ ?_
 ·exact ⟨_,0,(gr0 [0] hB0 (by simp) (by simp) (.inl (by simp))),rfl,by omega,fun j _ h => by omega⟩
 rintro n i ⟨hn,hi,hb⟩
 refine acode_sound [0,1,3,4,5,7,8,9,16] [] _ _ _ ?_
 by_cases hlt : i < l.length
 ·have ii : InR ((i : Int) + 1) := inW (by omega) (by omega)
  by_cases hq : (a,b) = l[i]
  ·have hz := idxZ_at (fun z => decide ((a,b) = z)) l i hlt (fun j hj => by simpa using hb j (by omega) hj) (by simpa using hq)
   simp [hlt,← hq,hz,tmE]
  ·have hne : ¬ (a = l[i].1 ∧ b = l[i].2) := fun h => hq (Prod.ext h.1 h.2)
   by_cases h1 : a = l[i].1
   ·have h2 : ¬ b = l[i].2 := fun h2 => hne ⟨h1,h2⟩
    simp [hlt,← h1,h2,ii,tmE]
    exact ⟨_,i + 1,(gr0 [0] hB0 (by simp) (by simp) (.inl (by simp))),by omega,rfl,by omega,fun j hj h => by
     by_cases hji : j = i
     ·subst hji;exact hq
     ·exact hb j hj (by omega)⟩
   ·simp [hlt,h1,ii,tmE]
    exact ⟨_,i + 1,(gr0 [0] hB0 (by simp) (by simp) (.inl (by simp))),by omega,rfl,by omega,fun j hj h => by
     by_cases hji : j = i
     ·subst hji;exact hq
     ·exact hb j hj (by omega)⟩
 ·have hz := idxZ_none (fun z => decide ((a,b) = z)) l fun x hx => by
   obtain ⟨j,hj⟩ := zF hx
   obtain ⟨hj2,rfl⟩ := zB.1 hj
   simpa using hb j hj2 (by omega)
  obtain rfl : i = l.length := by omega
  simp [hz]
theorem ticon_code : cfun Tryz.prog [] 112 = some ⟨(.seq (qR 0 [oB 3 1,oX 4 (.mov (.k qF))]) (.seq (qR 1 [oM 5 0,oA 6 2 3,oX 7 (.call 152 [(.t 5),(.t 6)]),oX 8 (.bin .geq (.t 7) (kI 0)),oM 4 8]) .ret)),[(.t 4)],9⟩ := by kernel_rfl
theorem ticon_pf (l : List (Int × Int)) (a b : Int) (hl : l.length ≤ 1000000) : PF Tryz.prog 112 [.rows 2 (l.map tmE),.agg [I a,I b]] (.bool (decide ((a,b) ∈ l))) := by
 have h1 := tiidx_pf l a b hl
 have h2 : 0 ≤ idxZ (fun z => decide ((a,b) = z)) l ↔ (a,b) ∈ l := by
  constructor
  ·intro h
   obtain ⟨h1,h2,_⟩ := idxZ_get _ l h
   have h3 : (a,b) = l[(idxZ (fun z => decide ((a,b) = z)) l).toNat] := by simpa using h2
   exact h3 ▸ List.getElem_mem h1
  ·intro h
   exact idxZ_some _ l ⟨(a,b),h,by simp⟩
 refine pO ticon_code [0,1,3,4] [] fun B hBN hB0 => ?_
 repeat' (first
  | simp [h2]
  | (refine WCall.pf (h1) ?_ ?_ ?_ ?_;iterate 3 (solve|simp [h2]))
  | (refine ⟨WCall.pf (h1) ?_ ?_ ?_ ?_,?_⟩;(focus (simp;done));(focus (simp [h2];done));(focus (simp [h2];done)))
  | with_reducible refine aI ?_ ?_ ?_)
theorem gfls1_code : cfun Tryz.prog [] 111 = some ⟨(.seq (qR 0 [oX 3 (.mov (.k qF))]) (.seq (qR 1 [oM 4 0,oA 5 2 1,oX 6 (.call 112 [(.t 4),(.t 5)]),oM 3 6]) .ret)),[(.t 3)],7⟩ := by kernel_rfl
theorem gfls1_pf (l : List (Int × Int)) (a b : Int) (hl : l.length ≤ 1000000) : PF Tryz.prog 111 [.rows 2 (l.map tmE),.pc [I a,I b]] (.bool (decide ((a,b) ∈ l))) := by
 have h1 := ticon_pf l a b hl
 refine pO gfls1_code [0,1,3] [] fun B hBN hB0 => ?_
 repeat' (first
  | simp
  | refine ⟨wcS ?_,?_⟩
  | (refine WCall.pf (h1) ?_ ?_ ?_ ?_;iterate 3 (solve|simp))
  | with_reducible refine aI ?_ ?_ ?_)
theorem tlixf_code : cfun Tryz.prog [] 151 = some ⟨(.seq (qR 0 [oK 4 0]) (.seq (.seq (qR 1 [oM 6 0,oH 7 6,oK 8 0]) (.block 0 (.loop (.seq (qR 2 [oX 9 (.bin .lss (.t 8) (.t 7))]) (.seq (.cond 9 .skip (.exit 0)) (.seq (.block 1 (.seq (qR 3 [oM 10 8,oM 5 10]) (.seq (qR 4 [oM 11 1,oM 12 0,oM 13 5,oI 14 1 12 13,oL 15 1 14,oX 16 (.callv (.t 11) [(.t 15)])]) (.cond 16 (.seq (qR 5 [oM 17 5,oM 4 17]) .ret) .skip)))) (qR 6 [oX 18 (.bin .add (.t 8) (kI 1)),oM 8 18]))))))) (.seq (qR 7 [oK 4 (-1)]) .ret))),[(.t 4)],19⟩ := by kernel_rfl
theorem tlixf_pf (L : List (List (Int × Int))) (F : FuncId) (ds : List D) (q : List (Int × Int) → Bool) (hl : L.length ≤ 1000000) (hF : ∀ l ∈ L,PF Tryz.prog F [.rows 2 (l.map tmE),.pc ds] (.bool (q l))) :
  PF Tryz.prog 151 [.rows 1 (lsR L),.fn F [.pc ds]] (I (idxZ q L)) := by
 refine pO tlixf_code [0,1,4,5,7,8,9,16] [] fun B hBN hB0 => ?_
 simp [lsR]
 refine W.loopS (fun i : Nat => ⟨[(8,I i),(7,I L.length),(4,I 0),(1,.fn F [.pc ds]),(0,D.rows 1 (L.map fun l => [.rows 2 (l.map tmE)]))],[],0⟩)
  (fun n i => n = L.length - i ∧ i ≤ L.length ∧ ∀ j (hj : j < L.length),j < i → q L[j] = false) ?_ ?_
 ·exact ⟨_,0,(gr0 [] hB0 (by simp) (by simp) (.inr rfl)),rfl,by omega,fun j _ h => by omega⟩
 rintro n i ⟨hn,hi,hb⟩
 refine acode_sound [0,1,4,5,7,8,9,16] [] _ _ _ ?_
 by_cases hlt : i < L.length
 ·have hFo := hF _ (List.getElem_mem hlt)
  obtain ⟨o,ho⟩ : ∃ o,o = L[i] := ⟨_,rfl⟩
  rw [← ho] at hFo
  have ii : InR ((i : Int) + 1) := inW (by omega) (by omega)
  cases hq : q o with
  | true =>
   have hz := idxZ_at q L i hlt (fun j hj => hb j (by omega) hj) (by rw [← ho];exact hq)
   rw [hq] at hFo
   repeat' (first
    | simp [hlt,← ho,hz]
    | refine ⟨wcS ?_,?_⟩
    | (refine WCall.pfv (hFo) ?_ rfl ?_ ?_ ?_;iterate 3 (solve|simp [hlt,← ho,hz]))
    | with_reducible refine aI ?_ ?_ ?_)
   all_goals done
  | false =>
   rw [hq] at hFo
   repeat' (first
    | simp [hlt,← ho,ii]
    | refine ⟨wcS ?_,?_⟩
    | (refine WCall.pfv (hFo) ?_ rfl ?_ ?_ ?_;iterate 3 (solve|simp [hlt,← ho,ii]))
    | with_reducible refine aI ?_ ?_ ?_)
   exact ⟨_,i + 1,(gr0 [] hB0 (by simp) (by simp) (.inr rfl)),by omega,rfl,by omega,fun j hj h => by
    by_cases hji : j = i
    ·subst hji;rw [← ho];exact hq
    ·exact hb j hj (by omega)⟩
 ·have hz := idxZ_none q L fun x hx => by
   obtain ⟨j,hj⟩ := zF hx
   obtain ⟨hj2,rfl⟩ := zB.1 hj
   exact hb j hj2 (by omega)
  obtain rfl : i = L.length := by omega
  simp [hz]
theorem tlcf_code : cfun Tryz.prog [] 110 = some ⟨(.seq (qR 0 [oX 4 (.mov (.k qF))]) (.seq (qR 1 [oM 5 0,oM 6 1,oX 7 (.call 151 [(.t 5),(.t 6)]),oX 8 (.bin .geq (.t 7) (kI 0)),oM 4 8]) .ret)),[(.t 4)],9⟩ := by kernel_rfl
theorem tlcf_pf (L : List (List (Int × Int))) (F : FuncId) (ds : List D) (q : List (Int × Int) → Bool) (hl : L.length ≤ 1000000) (hF : ∀ l ∈ L,PF Tryz.prog F [.rows 2 (l.map tmE),.pc ds] (.bool (q l))) (hx : ∃ l ∈ L,q l = true) :
  PF Tryz.prog 110 [.rows 1 (lsR L),.fn F [.pc ds]] (.bool true) := by
 have h1 := tlixf_pf L F ds q hl hF
 have h2 := idxZ_some q L hx
 refine pO tlcf_code [0,1,4] [] fun B hBN hB0 => ?_
 repeat' (first
  | simp [h2]
  | refine ⟨wcS ?_,?_⟩
  | (refine WCall.pf (h1) ?_ ?_ ?_ ?_;iterate 3 (solve|simp [h2]))
  | with_reducible refine aI ?_ ?_ ?_)
def prevF (fl : List Flw) (i : Nat) : Int := if i = 0 then -1 else (fl.getD (i - 1) default).slot
theorem prevF_s (fl : List Flw) (i : Nat) (h : i < fl.length) : prevF fl (i + 1) = fl[i].slot := by
 unfold prevF;rw [if_neg (by omega),Nat.add_sub_cancel,getD_at _ h]
theorem gfls_code : cfun Tryz.prog [] 69 = some ⟨(.seq (qR 0 [oX 2 (.mov (.k qF))]) (.seq (qR 1 [oK 3 0]) (.seq (.seq (qR 2 [oM 16 0,oN 17 16,oF 18 0 17,oF 19 17 18,oF 20 0 19,oL 21 1 20,oH 22 21,oK 23 0]) (.block 0 (.loop (.seq (qR 3 [oX 24 (.bin .lss (.t 23) (.t 22))]) (.seq (.cond 24 .skip (.exit 0)) (.seq (.block 1 (.seq (qR 4 [oI 25 4 21 23,oA 26 4 25,oX 5 (.alloc [qZ,qF,qZ,qZ]),oS 4 5 26]) (.seq (qR 5 [oF 27 1 5,oL 28 1 27]) (.cond 28 (qR 6 [oM 29 3,oX 30 (.bin .add (.t 29) (kI 1)),oM 3 30]) .skip)))) (qR 7 [oX 31 (.bin .add (.t 23) (kI 1)),oM 23 31]))))))) (.seq (qR 8 [oK 6 0]) (.seq (.seq (qR 9 [oM 32 0,oN 33 32,oF 34 0 33,oF 35 24 34,oF 36 1 35,oL 37 1 36,oH 38 37,oK 39 0]) (.block 2 (.loop (.seq (qR 10 [oX 40 (.bin .lss (.t 39) (.t 38))]) (.seq (.cond 40 .skip (.exit 2)) (.seq (.block 3 (.seq (qR 11 [oI 41 1 37 39,oL 42 1 41,oM 8 42]) (qR 12 [oM 43 6,oM 44 8,oH 45 44,oX 46 (.bin .add (.t 43) (.t 45)),oM 6 46]))) (qR 13 [oX 47 (.bin .add (.t 39) (kI 1)),oM 39 47]))))))) (.seq (.seq (qR 14 [oM 48 3,oM 49 0,oN 50 49,oF 51 0 50,oF 52 18 51,oL 53 1 52,oH 54 53,oX 55 (.bin .neq (.t 48) (.t 54)),oM 56 55,oG 57 (.mov (.t 6)) 56 false,oG 58 (.mov (.t 0)) 56 false,oG 59 (.nchk (.t 58)) 56 false,oG 60 (.fad 0 (.t 59)) 56 false,oG 61 (.fad 18 (.t 60)) 56 false,oG 62 (.load false 1 (.t 61)) 56 false,oG 63 (.len (.t 62)) 56 false,oG 64 (.bin .neq (.t 57) (.t 63)) 56 false,oX 65 (.pick (.t 56) (.k qT) (.t 64))]) (.cond 65 (.seq (qR 15 [oX 2 (.mov (.k qF))]) .ret) .skip)) (.seq (qR 16 [oK 9 (-1)]) (.seq (.seq (qR 17 [oM 66 0,oN 67 66,oF 68 0 67,oF 69 18 68,oL 70 1 69,oH 71 70,oK 72 0]) (.block 4 (.loop (.seq (qR 18 [oX 73 (.bin .lss (.t 72) (.t 71))]) (.seq (.cond 73 .skip (.exit 4)) (.seq (.block 5 (.seq (qR 19 [oI 74 7 70 72,oA 75 7 74,oX 11 (.alloc [qZ,qZ,qZ,qZ,qF,qZ,qZ]),oS 7 11 75]) (.seq (.draw 20 (qN (oM 77 0) (qN (oN 78 77) (qN (oF 79 0 78) (qN (oF 80 17 79) (qN (oA 81 1 80) (qN (oF 82 0 11) (qN (oA 83 2 82) (.two (qN (oX 84 (.call 33 [(.t 81),(.t 83)])) (qN (oM 76 84) (qN (oE 85 76 0) (qN (oE 86 76 1) (qN (oX 12 (.alloc [qZ,qF,qZ,qZ])) (.one false (oS 4 12 85) (qN (oM 13 86) .done))))))) (.two (qN (oX 12 (.alloc [qZ,qF,qZ,qZ])) (qN (oX 84 (.call 33 [(.t 81),(.t 83)])) (qN (oM 76 84) (qN (oE 85 76 0) (qN (oE 86 76 1) (.one false (oS 4 12 85) (qN (oM 13 86) .done))))))) .top)))))))))) (.seq (.seq (.draw 21 (qN (oM 87 13) (qN (oX 88 (.bin .neq (.t 87) (kI 0))) (qN (oM 89 88) (qN (oG 90 (.fad 0 (.t 11)) 89 false) (qN (oG 91 (.fad 0 (.t 90)) 89 false) (qN (oG 92 (.load false 1 (.t 91)) 89 false) (qN (oG 93 (.mov (.t 9)) 89 false) (qN (oG 94 (.bin .leq (.t 92) (.t 93)) 89 false) (qN (oX 95 (.pick (.t 89) (.k qT) (.t 94))) (qN (oM 96 95) (qN (oG 97 (.fad 2 (.t 12)) 96 false) (qN (oG 98 (.load false 1 (.t 97)) 96 false) (qN (oG 99 (.fad 2 (.t 11)) 96 false) (qN (oG 100 (.load false 1 (.t 99)) 96 false) (qN (oG 101 (.bin .neq (.t 98) (.t 100)) 96 false) (qN (oX 102 (.pick (.t 96) (.k qT) (.t 101))) (qN (oM 103 102) (qN (oG 104 (.fad 3 (.t 12)) 103 false) (qN (oG 105 (.load false 1 (.t 104)) 103 false) (qN (oG 106 (.fad 3 (.t 11)) 103 false) (qN (oG 107 (.load false 1 (.t 106)) 103 false) (qN (oG 108 (.bin .neq (.t 105) (.t 107)) 103 false) (qN (oX 109 (.pick (.t 103) (.k qT) (.t 108))) (qN (oM 110 109) (qN (oG 111 (.fad 5 (.t 11)) 110 false) (qN (oG 112 (.load false 1 (.t 111)) 110 false) (qN (oG 113 (.mov (.t 0)) 110 false) (qN (oG 114 (.nchk (.t 113)) 110 false) (qN (oG 115 (.fad 0 (.t 114)) 110 false) (qN (oG 116 (.fad 0 (.t 115)) 110 false) (qN (oG 117 (.fad 8 (.t 116)) 110 false) (qN (oG 118 (.load false 1 (.t 117)) 110 false) (qN (oG 119 (.call 60 [(.t 112),(kI 0),(.t 118)]) 110 false) (qN (oG 120 (.not (.t 119)) 110 false) (qN (oX 121 (.pick (.t 110) (.k qT) (.t 120))) .done)))))))))))))))))))))))))))))))))))) (.cond 121 (.seq (qR 22 [oX 2 (.mov (.k qF))]) .ret) .skip)) (.seq (qR 23 [oF 122 0 11,oF 123 0 122,oL 124 1 123,oM 9 124]) (.seq (.seq (qR 24 [oM 125 0,oF 126 3 11,oL 127 1 126,oX 128 (.call 87 [(.t 125),(.t 127)]),oM 14 128]) (.seq (qR 25 [oM 129 14,oX 130 (.bin .neq (.t 129) (kI 2)),oM 131 130,oG 132 (.mov (.t 14)) 131 true,oG 133 (.bin .neq (.t 132) (kI 3)) 131 true,oX 134 (.pick (.t 131) (.t 133) (.k qF))]) (.cond 134 (.seq (qR 26 [oX 2 (.mov (.k qF))]) .ret) .skip))) (.seq (qR 27 [oF 135 6 11,oL 136 1 135,oM 137 9,oX 138 (.build [qZ,qZ] [(0,(1,(.t 136))),(1,(1,(.t 137)))]),oX 15 (.alloc [qZ,qZ]),oS 2 15 138]) (.seq (qR 28 [oM 139 0,oN 140 139,oF 141 0 140,oF 142 24 141,oF 143 1 142,oL 144 1 143,oX 145 (.mkfn 111 [(.t 15)]),oX 146 (.call 110 [(.t 144),(.t 145)]),oX 147 (.not (.t 146))]) (.cond 147 (.seq (qR 29 [oX 2 (.mov (.k qF))]) .ret) .skip))))))))) (qR 30 [oX 148 (.bin .add (.t 72) (kI 1)),oM 72 148]))))))) (.seq (qR 31 [oX 2 (.mov (.k qT))]) .ret))))))))),[(.t 2)],149⟩ := by kernel_rfl
theorem gfls_pf (g : Gt) (n : Nat) (h : Rest g n) : PF Tryz.prog 69 [.pc g.P] (.bool true) := by
 have hm := h.mid
 have hf40 := fl_le hm.fs
 have ht40 := hm.tok.2.1
 have htl := h.tm_len
 have hlr := lrT_len g.wn g.tm
 have hua := usedT_all hm.fs
 have hla := lenT_all g.wn g.tm
 have hbl := byP_len g.tm (plN g.wn)
 obtain ⟨P,hP⟩ : ∃ P,P = g.P := ⟨_,rfl⟩
 rw [← hP]
 have hP' := hP
 simp only [Gt.P,Gt.W,Gt.cells,List.cons_append,List.nil_append] at hP'
 refine pO gfls_code [0,2,3,5,6,8,9,11,12,13,14,15,21,22,23,24,28,37,38,39,40,65,70,71,72,73,121,134,147] [] fun B hBN hB0 => ?_
 simp [hP']
 rw [← hP']
 refine W.loopS (fun y : Nat => ⟨[(23,I y),(22,I g.tb.length),(21,.rows 4 (g.tb.map TSlot.D)),(3,I (usedT g.tb y)),(0,.pc P)],[],0⟩)
  (fun m i => m = g.tb.length - i ∧ i ≤ g.tb.length) ?_ ?_
 ·exact ⟨_,0,(gr0 [] hB0 (by simp [usedT]) (by simp [usedT]) (.inr rfl)),rfl,by omega⟩
 rintro m i ⟨hmm,hi⟩
 refine acode_sound [0,2,3,5,6,8,9,11,12,13,14,15,21,22,23,24,28,37,38,39,40,65,70,71,72,73,121,134,147] [] _ _ _ ?_
 by_cases hlt : i < g.tb.length
 ·have hus := usedT_succ g.tb i hlt
  have hub : 0 ≤ usedT g.tb i ∧ usedT g.tb i ≤ i := by
   unfold usedT
   have : (g.tb.take i).countP (·.used) ≤ (g.tb.take i).length := List.countP_le_length
   rw [List.length_take] at this
   omega
  obtain ⟨s,hs⟩ : ∃ s,s = g.tb[i] := ⟨_,rfl⟩
  rw [← hs] at hus
  have ii : InR ((i : Int) + 1) := inW (by omega) (by omega)
  have iu : InR (usedT g.tb i + 1) := inW (by omega) (by omega)
  cases hu : s.used with
  | true =>
   rw [hu,if_pos rfl] at hus
   simp [hlt,← hs,TSlot.D,hu,ii,iu]
   exact ⟨_,i + 1,(gr0 [] hB0 (by simp [hus]) (by simp [hus]) (.inr rfl)),by omega,rfl,by omega⟩
  | false =>
   rw [hu,if_neg (by simp),Int.add_zero] at hus
   simp [hlt,← hs,TSlot.D,hu,ii]
   exact ⟨_,i + 1,(gr0 [] hB0 (by simp [hus]) (by simp [hus]) (.inr rfl)),by omega,rfl,by omega⟩
 obtain rfl : i = g.tb.length := by omega
 rw [hua]
 simp [hP',hlr]
 rw [← hP']
 clear hua hmm hi hlt
 refine W.loopS (fun y : Nat => ⟨[(39,I y),(38,I 25),(37,.rows 1 (lrT g.wn g.tm)),(6,I (lenT g.wn g.tm y)),(3,I g.fl.length),(0,.pc P)],[],0⟩)
  (fun m i => m = 25 - i ∧ i ≤ 25) ?_ ?_
 ·exact ⟨_,0,(gr0 [] hB0 (by simp [lenT]) (by simp [lenT]) (.inr rfl)),rfl,by omega⟩
 rintro m i ⟨hmm,hi⟩
 refine acode_sound [0,2,3,5,6,8,9,11,12,13,14,15,21,22,23,24,28,37,38,39,40,65,70,71,72,73,121,134,147] [] _ _ _ ?_
 by_cases hlt : i < 25
 ·have hls := lenT_succ g.wn g.tm i hlt
  have hlb := lenT_bd g.wn g.tm i hi
  have hlb2 := lenT_bd g.wn g.tm (i + 1) hlt
  have hil : i < (byP g.tm (plN g.wn)).length := by omega
  have hbi : (byP g.tm (plN g.wn))[i] = g.tm.filter fun t => decide (plN g.wn t = i) := by simp [byP]
  have hrow : (lrT g.wn g.tm)[i]? = some [.rows 2 ((g.tm.filter fun t => decide (plN g.wn t = i)).map tmE)] := by
   unfold lrT lsR
   rw [List.getElem?_map,zE hil,hbi];rfl
  have hrow2 : ∀ h,(lrT g.wn g.tm)[i]'h = [.rows 2 ((g.tm.filter fun t => decide (plN g.wn t = i)).map tmE)] := fun h => by
   rw [zE h] at hrow;exact Option.some.inj hrow
  have hlt2 : (i : Int) < 25 := by omega
  have ii : InR ((i : Int) + 1) := inW (by omega) (by omega)
  generalize g.tm.filter (fun t => decide (plN g.wn t = i)) = l at hls hrow hrow2
  have il : InR (lenT g.wn g.tm i + (l.length : Int)) := inW (by omega) (by omega)
  simp [hlt,hlt2,hlr,hrow,hrow2,ii,il]
  exact ⟨_,i + 1,(gr0 [] hB0 (by simp [hls]) (by simp [hls]) (.inr rfl)),by omega,rfl,by omega⟩
 obtain rfl : i = 25 := by omega
 rw [hla,htl]
 simp [hP']
 rw [← hP']
 clear hla hmm hi hlt
 refine W.loopS (fun y : Nat => ⟨[(72,I y),(71,I g.fl.length),(70,.rows 7 (g.fl.map Flw.D)),(9,I (prevF g.fl y)),(0,.pc P)],[],0⟩)
  (fun m i => m = g.fl.length - i ∧ i ≤ g.fl.length) ?_ ?_
 ·exact ⟨_,0,(gr0 [] hB0 (by simp [prevF]) (by simp [prevF]) (.inr rfl)),rfl,by omega⟩
 rintro m i ⟨hmm,hi⟩
 refine acode_sound [0,2,3,5,6,8,9,11,12,13,14,15,21,22,23,24,28,37,38,39,40,65,70,71,72,73,121,134,147] [] _ _ _ ?_
 by_cases hlt : i < g.fl.length
 ·have hfm := List.getElem_mem hlt
  have hget := tget_pf g.tb g.fl[i].slot g.fl[i].gen hm.tok
  rw [get_flow hm hfm] at hget
  have hfe := hm.fe _ hfm
  have hfl := hm.flow hfm
  have hlate := h.late _ hfm
  have hpv : prevF g.fl i < g.fl[i].slot := by
   unfold prevF
   split
   ·omega
   ·rw [getD_at _ (by omega)]
    exact List.pairwise_iff_getElem.1 hm.fs.so (i - 1) i (by omega) hlt (by omega)
  have hps := prevF_s g.fl i hlt
  have hst := gstate_pf g g.fl[i].backend hm.bk
  have hwi := cwithin_pf g.fl[i].tries 0 g.c.c8
  rw [withinB_t ⟨hfe.1,hfe.2.1⟩] at hwi
  have hti : ((g.fl[i].due,g.fl[i].slot) : Int × Int) ∈ g.tm := (hm.tt _).2 ⟨_,hfm,hlate,rfl⟩
  have hli := lists_mem (now := g.wn) hti
  have hcf := tlcf_pf (byP g.tm (plN g.wn)) 111 [I g.fl[i].due,I g.fl[i].slot] (fun l => decide ((g.fl[i].due,g.fl[i].slot) ∈ l)) (by omega) (fun l hl => gfls1_pf l _ _ (by
   obtain ⟨p,_,rfl⟩ := List.mem_map.1 hl
   exact Nat.le_trans (List.length_filter_le ..) (by omega))) (by obtain ⟨l,h1,h2⟩ := hli;exact ⟨l,h1,decide_eq_true h2⟩)
  have hlrd : lsR (byP g.tm (plN g.wn)) = lrT g.wn g.tm := rfl
  rw [hlrd] at hcf
  obtain ⟨f,hf⟩ : ∃ f,f = g.fl[i] := ⟨_,rfl⟩
  rw [← hf] at hget hfe hpv hps hst hwi hcf
  have ii : InR ((i : Int) + 1) := inW (by omega) (by omega)
  have hpn : ¬ f.slot ≤ prevF g.fl i := by omega
  simp only [TSlot.D] at hget
  rw [← hP] at hst
  rcases hfe.2.2.2.2 with h2 | h2
  ·rw [h2] at hst
   repeat' (first
    | simp [hP',hlt,← hf,Flw.D,hpn,ii]
    | refine ⟨wcS ?_,?_⟩
    | (refine WCall.pf (hget) ?_ ?_ ?_ ?_;iterate 3 (solve|simp [hP',hlt,← hf,Flw.D,hpn,ii]))
    | (refine WCall.pf (hst) ?_ ?_ ?_ ?_;iterate 3 (solve|simp [hP',hlt,← hf,Flw.D,hpn,ii]))
    | (refine WCall.pf (hwi) ?_ ?_ ?_ ?_;iterate 3 (solve|simp [hP',hlt,← hf,Flw.D,hpn,ii]))
    | (refine WCall.pf (hcf) ?_ ?_ ?_ ?_;iterate 3 (solve|simp [hP',hlt,← hf,Flw.D,hpn,ii]))
    | with_reducible refine aI ?_ ?_ ?_)
   all_goals exact ⟨_,i + 1,(gr0 [] hB0 (by simp [hP',hps]) (by simp [hP',hps]) (.inr rfl)),by omega,rfl,by omega⟩
  ·rw [h2] at hst
   repeat' (first
    | simp [hP',hlt,← hf,Flw.D,hpn,ii]
    | refine ⟨wcS ?_,?_⟩
    | (refine WCall.pf (hget) ?_ ?_ ?_ ?_;iterate 3 (solve|simp [hP',hlt,← hf,Flw.D,hpn,ii]))
    | (refine WCall.pf (hst) ?_ ?_ ?_ ?_;iterate 3 (solve|simp [hP',hlt,← hf,Flw.D,hpn,ii]))
    | (refine WCall.pf (hwi) ?_ ?_ ?_ ?_;iterate 3 (solve|simp [hP',hlt,← hf,Flw.D,hpn,ii]))
    | (refine WCall.pf (hcf) ?_ ?_ ?_ ?_;iterate 3 (solve|simp [hP',hlt,← hf,Flw.D,hpn,ii]))
    | with_reducible refine aI ?_ ?_ ?_)
   all_goals exact ⟨_,i + 1,(gr0 [] hB0 (by simp [hP',hps]) (by simp [hP',hps]) (.inr rfl)),by omega,rfl,by omega⟩
 ·obtain rfl : i = g.fl.length := by omega
  simp
end Go.Proofs.YtibemmkfcjlmpaaGreat
namespace Go.Proofs.YtibemmkfcjlmpaaGreat
open Go.RowKit
def nilK (k : Nat) (d : D) : D := match d with | .nil0 => .rows k [] | d => d
theorem Gh.rowK {B : Base} {st : St} (k id sz : Nat) (xs : List (List D)) (hh : hget st.heap id = some (.row sz xs)) : Gh B st ⟨st.env,eput st.heap id (.row sz (xs.map (List.map (nilK k)))),st.nx⟩ := by
 intro s Z a w hr
 have hob := hr.h.ob _ _ hh
 have hlt := hr.h.lt _ _ hh
 refine ⟨s,Z,hr.env,hr.elt,hr.size,hr.defers,?_⟩
 have hnew : ObOk s Z w (.row sz (xs.map (List.map (nilK k)))) (s id) := RowOk.map (nilK k) hob fun row hrow d hd u hu => by
  cases d with
  | nil0 => cases hu;exact VT.rnil _ _ _
  | _ => exact hu
 have hhe : ∀ i ob,hget (eput st.heap id (.row sz (xs.map (List.map (nilK k))))) i = some ob → ∃ ob0,hget st.heap i = some ob0 := fun i ob h => by
  rw [hget_eput] at h
  split at h
  ·rename_i e;subst e;exact ⟨_,hh⟩
  ·exact ⟨_,h⟩
 refine ⟨fun i ob h => ?_,fun i ob h => ?_,fun i i' ob ob' b h h' hne hb => ?_,hr.h.zok,fun i ob b o h hb => ?_,fun i ob b h hb => ?_,hr.h.fr,hr.h.n0,hr.h.bs,hr.h.bz,hr.h.bn⟩
 ·have h9 : hget (eput st.heap id (.row sz (xs.map (List.map (nilK k))))) i = some ob := h
  rw [hget_eput] at h9
  by_cases e : i = id
  ·rw [if_pos e] at h9;rw [e,← Option.some.inj h9];exact hnew
  ·rw [if_neg e] at h9;exact hr.h.ob i ob h9
 ·have h9 : hget (eput st.heap id (.row sz (xs.map (List.map (nilK k))))) i = some ob := h
  rw [hget_eput] at h9
  by_cases e : i = id
  ·rw [if_pos e] at h9;rw [e,← Option.some.inj h9];exact ⟨hlt.1,trivial⟩
  ·rw [if_neg e] at h9;exact hr.h.lt i ob h9
 ·obtain ⟨o1,h1⟩ := hhe i ob h
  obtain ⟨o2,h2⟩ := hhe i' ob' h'
  exact hr.h.apart i i' o1 o2 b h1 h2 hne hb
 ·obtain ⟨o1,h1⟩ := hhe i ob h
  exact hr.h.zap i o1 b o h1 hb
 ·obtain ⟨o1,h1⟩ := hhe i ob h
  exact hr.h.mine i o1 b h1 hb
theorem hl_nil (hl : List Hlth) (b : Nat) : ((hl.map Hlth.D).set b [.nil0,.bool false,I 0,I 0]).map (List.map (nilK 1)) = (hl.set b hzero).map Hlth.D := by
 rw [List.map_set,List.map_map,List.map_set]
 congr 1
theorem hzero_ok {w : Wtch} (h : w.Ok) : hzero.Ok w := by
 obtain ⟨w1,_⟩ := h
 refine ⟨?_,by simp [hzero],by simp [hzero],by simp [hzero],by simp [hzero],by simp [hzero]⟩
 simp only [hzero,List.length_nil]
 omega
def midF {α : Type} (f : α → α) (l : List α) (i : Nat) : List α := (l.take i).map f ++ l.drop i
theorem midF_0 {α : Type} (f : α → α) (l : List α) : midF f l 0 = l := by simp [midF]
theorem midF_all {α : Type} (f : α → α) (l : List α) : midF f l l.length = l.map f := by simp [midF]
theorem midF_len {α : Type} (f : α → α) (l : List α) (i : Nat) (h : i ≤ l.length) : (midF f l i).length = l.length := by simp [midF];omega
theorem midF_get {α : Type} (f : α → α) (l : List α) (i : Nat) (h : i < l.length) : (midF f l i)[i]? = some l[i] := by
 unfold midF
 rw [List.getElem?_append_right (by simp;omega)]
 simp [Nat.min_eq_left (Nat.le_of_lt h),zE h]
theorem midF_set {α : Type} (f : α → α) (l : List α) (i : Nat) (h : i < l.length) : (midF f l i).set i (f l[i]) = midF f l (i + 1) := by
 unfold midF
 have hl : ((l.take i).map f).length = i := by simp;omega
 rw [List.set_append_right _ _ (by omega),hl,Nat.sub_self,List.take_succ_eq_append_getElem h,List.map_append,List.append_assoc]
 congr 1
 rw [List.drop_eq_getElem_cons h]
 rfl
theorem wokenH_app (x : Int) : ∀ (l : List Int) (hl : List Hlth),wokenH (l ++ [x]) hl = (wokenH l hl).set x.toNat hzero
 | [],hl => rfl
 | y :: l,hl => by simp only [List.cons_append,wokenH];exact wokenH_app x l _
theorem wokenH_take (l : List Int) (i : Nat) (h : i < l.length) (hl : List Hlth) : wokenH (l.take (i + 1)) hl = (wokenH (l.take i) hl).set l[i].toNat hzero := by
 rw [List.take_succ_eq_append_getElem h,wokenH_app]
def Gt.tkA (g : Gt) (i : Nat) : Gt :=
 { g with now := g.now + 1,wn := g.wn + 1,tm := g.tm.filter (fun t => decide (t.1 ≠ g.wn + 1)),L := wakeM g.L (g.now + 1),ws := wokenW (wakeM g.L (g.now + 1)) ((wokenM g.L).take i) g.ws,hl := wokenH ((wokenM g.L).take i) g.hl }
def Gt.tkB (g : Gt) (i : Nat) : Gt := { g.tkA (wokenM g.L).length with hl := midF (fun h => (backH h (g.now + 1)).1) (wokenH (wokenM g.L) g.hl) i }
theorem tkB_0 (g : Gt) : g.tkB 0 = g.tkA (wokenM g.L).length := by
 unfold Gt.tkB Gt.tkA
 rw [midF_0,List.take_length]
theorem tkB_all (g : Gt) : g.tkB (wokenH (wokenM g.L) g.hl).length = g.tick0 := by
 unfold Gt.tkB Gt.tkA Gt.tick0
 rw [midF_all,List.take_length]
theorem drop_out (g : Gt) (i : Nat) (o : Outp) : (g.drop i o).out.length ≤ g.out.length + 2 := by
 unfold Gt.drop
 refine Nat.le_trans (spared_out _ _) ?_
 simp [Gt.dropA]
theorem failed_out (g : Gt) (i : Nat) (why : Int) : (g.failed i why).out.length ≤ g.out.length + 2 := by
 unfold Gt.failed
 dsimp only
 split
 ·exact drop_out _ _ _
 ·split
  ·exact drop_out _ _ _
  ·split
   ·refine Nat.le_trans (spared_out _ _) ?_
    simp [Gt.moved,Gt.note]
   ·simp [Gt.moved,Gt.note]
theorem off1_out (g : Gt) (s : Int) : (g.off1 s).out.length ≤ g.out.length + 2 := by
 unfold Gt.off1
 dsimp only
 split
 ·exact drop_out _ _ _
 ·exact failed_out _ _ _
end Go.Proofs.YtibemmkfcjlmpaaGreat
namespace Go.Proofs.YtibemmkfcjlmpaaGreat
open Go.RowKit
attribute [local simp] AK_at acode_seq acode_region acode_draw acode_cond CB_u acode_block acode_loop acode_exit acode_scope acode_ret acode_skip seqQ_n seqQ_e seqQ_r blockQ_n blockQ_e blockQ_r TK_at OK_at SK_at aops_nil aops_cons asch_done asch_one asch_two asch_top astep aop_eq isLoud aloud aloud1 isWrite qv evS strip gof eget hget putO eput herase oks opnds gS afin afin0 binD arith D.cells takeD fillD keep trim envOf Fin aresl aresv resD argOk pickV isP deq deqs boundD slD lenD isT isSl ptrIds chunks mn_min mx_max splice_one splice_more Rbr_at Rfr_at frR frV frC flatC brwR brwV brwC omap leR leV leC leL leVL rnR rnV rnC rnO rho_0 hputs herases rnS LtS LtR LtV LtC LtO lget noV noC flatR flatV rho
attribute [local simp ↓] CB_t CB_f
theorem gtick_code : cfun Tryz.prog [] 55 = some ⟨(.seq (qR 0 [oM 24 0,oN 25 24,oF 26 0 25,oF 27 24 26,oA 28 2 27,oX 29 (.call 91 [(.t 28)]),oM 23 29,oE 30 23 0,oE 31 23 1,oE 32 23 2,oX 2 (.alloc [qZ,.nil0]),oS 2 2 30,oM 3 31,oM 4 32]) (.seq (qR 1 [oM 33 0,oA 34 2 2,oN 35 33,oF 36 0 35,oF 37 24 36,oS 2 37 34]) (.seq (qR 2 [oM 38 0,oN 39 38,oF 40 0 39,oF 41 16 40,oL 42 1 41,oX 43 (.bin .add (.t 42) (kI 1)),oN 44 38,oF 45 0 44,oF 46 16 45,oS 1 46 43]) (.seq (.draw 3 (qN (oM 48 0) (qN (oN 49 48) (qN (oF 50 0 49) (qN (oF 51 19 50) (qN (oA 52 2 51) (qN (oM 53 0) (qN (oN 54 53) (qN (oF 55 0 54) (qN (oF 56 16 55) (qN (oL 57 1 56) (.two (qN (oX 58 (.call 92 [(.t 52),(.t 57)])) (qN (oM 47 58) (qN (oE 59 47 0) (qN (oE 60 47 1) (qN (oE 61 47 2) (qN (oX 5 (.alloc [.nil0,.nil0])) (.one false (oS 2 5 59) (qN (oM 6 60) (qN (oM 7 61) .done))))))))) (.two (qN (oX 5 (.alloc [.nil0,.nil0])) (qN (oX 58 (.call 92 [(.t 52),(.t 57)])) (qN (oM 47 58) (qN (oE 59 47 0) (qN (oE 60 47 1) (qN (oE 61 47 2) (.one false (oS 2 5 59) (qN (oM 6 60) (qN (oM 7 61) .done))))))))) .top))))))))))))) (.seq (qR 4 [oM 62 0,oA 63 2 5,oN 64 62,oF 65 0 64,oF 66 19 65,oS 2 66 63]) (.seq (.seq (qR 5 [oM 67 6,oH 68 67,oK 69 0]) (.block 0 (.loop (.seq (qR 6 [oX 70 (.bin .lss (.t 69) (.t 68))]) (.seq (.cond 70 .skip (.exit 0)) (.seq (.block 1 (.seq (qR 7 [oI 71 1 67 69,oL 72 1 71,oM 9 72]) (.seq (qR 8 [oM 74 0,oN 75 74,oF 76 0 75,oF 77 19 76,oA 78 2 77,oM 79 9,oX 80 (.call 93 [(.t 78),(.t 79)]),oM 73 80,oE 81 73 0,oE 82 73 1,oX 10 (.alloc [qZ,qZ,qZ,qZ,qZ,qZ]),oS 6 10 81,oM 11 82]) (.seq (.draw 9 (qN (oM 84 0) (qN (oM 85 0) (qN (oN 86 85) (qN (oF 87 0 86) (qN (oF 88 21 87) (qN (oA 89 1 88) (qN (oM 90 9) (qN (oF 91 2 10) (qN (oL 92 1 91) (qN (oX 93 (.call 94 [(.t 89),(.t 90),(.t 92)])) (qN (oM 83 93) (qN (oE 94 83 0) (qN (oE 95 83 1) (qN (oN 96 84) (qN (oF 97 0 96) (qN (oF 98 21 97) (.one false (oS 1 98 94) .done)))))))))))))))))) (qR 10 [oM 99 0,oN 100 99,oF 101 0 100,oF 102 22 101,oL 103 1 102,oM 104 9,oX 105 (.build [.nil0,qF,qZ,qZ] []),oI 106 4 103 104,oS 4 106 105]))))) (qR 11 [oX 107 (.bin .add (.t 69) (kI 1)),oM 69 107]))))))) (.seq (.seq (qR 12 [oM 108 0,oN 109 108,oF 110 0 109,oF 111 22 110,oL 112 1 111,oH 113 112,oK 114 0]) (.block 2 (.loop (.seq (qR 13 [oX 115 (.bin .lss (.t 114) (.t 113))]) (.seq (.cond 115 .skip (.exit 2)) (.seq (.block 3 (.seq (qR 14 [oM 116 114,oI 117 4 112 114,oA 118 4 117,oX 13 (.alloc [.nil0,qF,qZ,qZ]),oM 12 116,oS 4 13 118]) (.draw 15 (qN (oM 120 0) (qN (oN 121 120) (qN (oF 122 0 121) (qN (oF 123 22 122) (qN (oL 124 1 123) (qN (oM 125 12) (qN (oM 126 0) (qN (oN 127 126) (qN (oF 128 0 127) (qN (oF 129 0 128) (qN (oF 130 13 129) (qN (oA 131 3 130) (qN (oA 132 4 13) (qN (oM 133 0) (qN (oN 134 133) (qN (oF 135 0 134) (qN (oF 136 16 135) (qN (oL 137 1 136) (qN (oX 138 (.call 68 [(.t 131),(.t 132),(.t 137)])) (qN (oM 119 138) (qN (oE 139 119 0) (qN (oE 140 119 1) (qN (oE 141 119 2) (qN (oI 142 4 124 125) (.one false (oS 4 142 139) .done)))))))))))))))))))))))))))) (qR 16 [oX 143 (.bin .add (.t 114) (kI 1)),oM 114 143]))))))) (.seq (.seq (qR 17 [oM 144 3,oH 145 144,oK 146 0]) (.block 4 (.loop (.seq (qR 18 [oX 147 (.bin .lss (.t 146) (.t 145))]) (.seq (.cond 147 .skip (.exit 4)) (.seq (.block 5 (.seq (qR 19 [oI 148 1 144 146,oL 149 1 148,oM 15 149]) (.seq (qR 20 [oM 150 0,oM 151 15,oX 152 (.call 95 [(.t 150),(.t 151)]),oM 16 152]) (.seq (qR 21 [oM 153 0,oN 154 153,oF 155 0 154,oF 156 18 155,oL 157 1 156,oM 158 16,oI 159 7 157 158,oF 160 4 159,oL 161 1 160]) (.cond 161 (qR 22 [oM 162 0,oM 163 16,oX 164 (.build [qZ,qZ,qZ,qZ,qZ,qZ,qZ] [(0,(1,(kI 6))),(6,(1,(kI 1)))]),oX 165 (.call 96 [(.t 162),(.t 163),(.t 164)])]) (qR 23 [oM 166 0,oM 167 16,oX 168 (.call 97 [(.t 166),(.t 167),(kI 5)])])))))) (qR 24 [oX 169 (.bin .add (.t 146) (kI 1)),oM 146 169]))))))) (.seq (qR 25 [oM 170 0,oN 171 170,oF 172 0 171,oF 173 19 172,oF 174 0 173,oL 175 1 174,oH 176 175,oK 177 0]) (.block 6 (.loop (.seq (qR 26 [oX 178 (.bin .lss (.t 177) (.t 176))]) (.seq (.cond 178 .skip (.exit 6)) (.seq (.block 7 (.seq (qR 27 [oI 179 6 175 177,oA 180 6 179,oX 18 (.alloc [qZ,qZ,qZ,qZ,qZ,qZ]),oS 6 18 180]) (.seq (.seq (.draw 28 (qN (oF 181 1 18) (qN (oL 182 1 181) (qN (oX 183 (.bin .neq (.t 182) (kI 3))) (qN (oM 184 183) (qN (oG 185 (.fad 4 (.t 18)) 184 false) (qN (oG 186 (.load false 1 (.t 185)) 184 false) (qN (oG 187 (.mov (.t 0)) 184 false) (qN (oG 188 (.nchk (.t 187)) 184 false) (qN (oG 189 (.fad 0 (.t 188)) 184 false) (qN (oG 190 (.fad 16 (.t 189)) 184 false) (qN (oG 191 (.load false 1 (.t 190)) 184 false) (qN (oG 192 (.bin .gtr (.t 186) (.t 191)) 184 false) (qN (oX 193 (.pick (.t 184) (.k qT) (.t 192))) .done)))))))))))))) (.cond 193 (.exit 7) .skip)) (.seq (.draw 29 (qN (oM 195 0) (qN (oN 196 195) (qN (oF 197 0 196) (qN (oF 198 17 197) (qN (oA 199 1 198) (qN (oF 200 0 18) (qN (oL 201 1 200) (qN (oX 202 (.call 98 [(.t 199),(.t 201)])) (qN (oM 194 202) (qN (oE 203 194 0) (qN (oE 204 194 1) (qN (oM 19 203) (qN (oM 20 204) .done)))))))))))))) (.seq (qR 30 [oM 205 19,oH 206 205,oK 207 0]) (.block 8 (.loop (.seq (qR 31 [oX 208 (.bin .lss (.t 207) (.t 206))]) (.seq (.cond 208 .skip (.exit 8)) (.seq (.block 9 (.seq (qR 32 [oI 209 2 205 207,oA 210 2 209,oX 22 (.alloc [qZ,qZ]),oS 2 22 210]) (qR 33 [oM 211 0,oM 212 0,oF 213 0 22,oL 214 1 213,oX 215 (.call 95 [(.t 212),(.t 214)]),oX 216 (.build [qZ,qZ,qZ,qZ,qZ,qZ,qZ] [(0,(1,(kI 6))),(6,(1,(kI 2)))]),oX 217 (.call 96 [(.t 211),(.t 215),(.t 216)])]))) (qR 34 [oX 218 (.bin .add (.t 207) (kI 1)),oM 207 218]))))))))))) (qR 35 [oX 219 (.bin .add (.t 177) (kI 1)),oM 177 219]))))))))))))))),[],220⟩ := by kernel_rfl
theorem gtick_mf (g : Gt) (n : Nat) (h : Rest g n) (hn1 : n + 1 ≤ 1000000) (ho : g.out = []) : MF Tryz.prog 55 [] g g.tick := by
 have hmid := h.mid
 have h0 := h.tick0 hn1
 have hnow := hmid.n1
 have hn0 := hmid.n0
 have hwn := hmid.wn
 have hll := hmid.bk.ll
 have hhn := hmid.hn
 have hf40 := fl_le hmid.fs
 have ht40 := hmid.tok.2.1
 have htl := h.tm_len
 have hadv : PF Tryz.prog 91 [.agg [I g.now,.rows 1 (lrT g.now g.tm)]] (.tup [.agg [I (g.now + 1),.rows 1 (lrT (g.now + 1) (g.tm.filter fun t => decide (t.1 ≠ g.now + 1)))],.rows 1 ((g.tm.filter fun t => decide (t.1 = g.now + 1)).map fun t => [I t.2]),I 0]) := wadv_pf g.now g.tm hmid.wh (by omega)
 have hoffe : ((g.tm.filter fun t => decide (t.1 = g.now + 1)).map fun t => [I t.2]) = (offM g).map fun z => [I z] := by
  unfold offM;rw [hwn,List.map_map];rfl
 rw [hoffe] at hadv
 have hoffl : (offM g).length ≤ 40 := by
  unfold offM
  rw [List.length_map]
  exact Nat.le_trans (List.length_filter_le ..) (by omega)
 have hoff : ∀ s,s ∈ offM g ↔ ∃ f ∈ g.fl,f.due = g.now + 1 ∧ f.slot = s := fun s => by
  unfold offM
  rw [List.mem_map]
  constructor
  ·rintro ⟨t,ht,rfl⟩
   obtain ⟨h1,h2⟩ := List.mem_filter.1 ht
   obtain ⟨f,hf,_,rfl⟩ := (hmid.tt t).1 h1
   rw [hmid.wn] at h2
   exact ⟨f,hf,by simpa using h2,rfl⟩
  ·rintro ⟨f,hf,h1,rfl⟩
   refine ⟨(f.due,f.slot),List.mem_filter.2 ⟨(hmid.tt _).2 ⟨f,hf,by omega,rfl⟩,by rw [hmid.wn];simp [h1]⟩,rfl⟩
 have hoffn : (offM g).Nodup := (hmid.wh.ids).sublist (List.filter_sublist.map _)
 have hoffx : ∀ s ∈ offM g,∃ f ∈ g.tick0.fl,f.slot = s := fun s hs => by
  obtain ⟨f,hf,_,e⟩ := (hoff s).1 hs
  exact ⟨f,hf,e⟩
 have hwake := lwake_pf g.L g.R (g.now + 1) hmid.bk (by omega) (by omega)
 unfold bookD at hwake
 have hwl : (wokenM g.L).length ≤ 12 := Nat.le_trans (woken_len g.L) hll
 have hbk1 : BookOk (wakeM g.L (g.now + 1)) g.R := h0.bk
 have hws : WOk g.ws := by rw [hmid.ws];exact wsOf_ok hmid.bk.lok
 have hiN : InR (g.now + 1) := inW (by omega) (by omega)
 have hWl := wokenH_len (wokenM g.L) g.hl
 have hHok : ∀ q ∈ wokenH (wokenM g.L) g.hl,q.Ok g.c.wat := fun q hq => by
  rcases wokenH_mem _ _ _ hq with hq | rfl
  ·exact (hmid.hok q hq).1
  ·exact hzero_ok hmid.c.w
 have hwat := hmid.c.w
 have hA0 : g.tkA 0 = { g with now := g.now + 1,wn := g.now + 1,tm := g.tm.filter (fun t => decide (t.1 ≠ g.now + 1)),L := wakeM g.L (g.now + 1) } := by
  unfold Gt.tkA;rw [hwn];rfl
 have hBz := tkB_0 g
 have hBl := tkB_all g
 rw [hWl,hhn] at hBl
 obtain ⟨Wk,hW⟩ : ∃ Wk,Wk = wokenM g.L := ⟨_,rfl⟩
 obtain ⟨off,hOff⟩ : ∃ off,off = offM g := ⟨_,rfl⟩
 have hwt := fun i hi => woken_take hmid i hi
 have hAs : ∀ i (hi : i < Wk.length),∃ b w : Nat,b < 12 ∧ 1 ≤ w ∧ w ≤ 8 ∧ Wk[i] = (b : Int) ∧ (lifeM (wakeM g.L (g.now + 1)) (b : Int)).weight = (w : Int) ∧ (g.tkA i).ws.getD b 0 = 0 ∧
   g.tkA (i + 1) = { g.tkA i with ws := (g.tkA i).ws.set b w,hl := (g.tkA i).hl.set b hzero } := fun i hi => by
  subst hW
  obtain ⟨e1,e2,e3,e4,e5,e6⟩ := hwt i hi
  refine ⟨(wokenM g.L)[i].toNat,(lifeM (wakeM g.L (g.now + 1)) (wokenM g.L)[i]).weight.toNat,by omega,by omega,by omega,by omega,?_,e6,?_⟩
  ·rw [show (((wokenM g.L)[i].toNat : Nat) : Int) = (wokenM g.L)[i] by omega];omega
  ·unfold Gt.tkA
   rw [e1,wokenH_take _ _ hi]
 have hAl : (g.tkA Wk.length) = g.tkB 0 := by rw [hBz,hW]
 have hdr : ∀ q : Hlth,List.drop 4 q.D = [] := fun _ => rfl
 rw [← hW] at hwl
 rw [← hOff] at hoffl hoff hoffn hoffx
 have hAhl : ∀ i,(g.tkA i).hl.length = 12 := fun i => by unfold Gt.tkA;simp only;rw [wokenH_len];exact hhn
 refine MF.of ?_
 unfold Gt.H Gt.cells
 refine hO gtick_code [0,2,3,5,6,9,10,12,13,15,16,18,19,22,67,68,69,70,112,113,114,115,144,145,146,147,161,175,176,177,178,193,205,206,207,208] [] fun B hBN hB0 => ?_
 repeat' (first
  | simp [hwn,hiN]
  | (refine WCall.pf (hadv) ?_ ?_ ?_ ?_;iterate 3 (solve|simp [hwn,hiN]))
  | (refine ⟨WCall.pf (hadv) ?_ ?_ ?_ ?_,?_⟩;(focus (simp;done));(focus (simp [hwn,hiN];done));(focus (simp [hwn,hiN];done)))
  | (refine WCall.pf (hwake) ?_ ?_ ?_ ?_;iterate 3 (solve|simp [hwn,hiN]))
  | (refine ⟨WCall.pf (hwake) ?_ ?_ ?_ ?_,?_⟩;(focus (simp;done));(focus (simp [hwn,hiN];done));(focus (simp [hwn,hiN];done)))
  | with_reducible refine aI ?_ ?_ ?_)
 all_goals
  rw [← hW,← hOff]
  refine W.loopS (fun y : Nat => ⟨[(69,I y),(68,I Wk.length),(67,.rows 1 (Wk.map fun z => [I z])),(3,.rows 1 (off.map fun z => [I z])),(0,.ptr 0 0)],(g.tkA y).H 3,4⟩)
   (fun m i => m = Wk.length - i ∧ i ≤ Wk.length ∧ WOk (g.tkA i).ws) ?_ ?_
  ·exact ⟨_,0,(Gh.ren [0,1,2,3] (by simp [hB0]) (by simp [hB0] <;> decide) (by simp [Gt.H,Gt.cells,hA0]) (by simp [Gt.H,Gt.cells,hA0]) (.inl (by simp [Gt.H,Gt.cells,hA0]))),rfl,by omega,by rw [hA0];exact hws⟩
  rintro m i ⟨hm,hi,hwi⟩
  refine acode_sound [0,2,3,5,6,9,10,12,13,15,16,18,19,22,67,68,69,70,112,113,114,115,144,145,146,147,161,175,176,177,178,193,205,206,207,208] [] _ _ _ ?_
  by_cases hlt : i < Wk.length
  ·obtain ⟨b,w,b12,w1,w8,hWb,hwe,hg0,hAi⟩ := hAs i hlt
   have hof := lof_pf (g.tkA i).L (g.tkA i).R (b : Int) hbk1
   have hadd := radd_pf (g.tkA i).ws hwi b w b12 ⟨w1,w8⟩ hg0
   have hof1 : (ofM (g.tkA i).L (b : Int)).1.weight = (w : Int) := hwe
   have hbl : b < (g.tkA i).hl.length := by rw [hAhl];omega
   unfold bookD at hof
   generalize ofM (g.tkA i).L (b : Int) = x at hof hof1
   obtain ⟨x,xe⟩ := x
   simp only at hof hof1
   have ii : InR ((i : Int) + 1) := inW (by omega) (by omega)
   have hwi2 := hwi.set b w w8
   dsimp only
   simp only [Lif.D] at hof
   repeat' (first
    | simp [Gt.H,Gt.cells,hlt,hWb,hof1,hbl,ii,hdr]
    | (refine WCall.pf (hof) ?_ ?_ ?_ ?_;iterate 3 (solve|simp [Gt.H,Gt.cells,hlt,hWb,hof1,hbl,ii,hdr]))
    | (refine ⟨WCall.pf (hof) ?_ ?_ ?_ ?_,?_⟩;(focus (simp;done));(focus (simp [Gt.H,Gt.cells,hlt,hWb,hof1,hbl,ii,hdr];done));(focus (simp [Gt.H,Gt.cells,hlt,hWb,hof1,hbl,ii,hdr];done)))
    | (refine WCall.pf (hadd) ?_ ?_ ?_ ?_;iterate 3 (solve|simp [Gt.H,Gt.cells,hlt,hWb,hof1,hbl,ii,hdr]))
    | (refine ⟨WCall.pf (hadd) ?_ ?_ ?_ ?_,?_⟩;(focus (simp;done));(focus (simp [Gt.H,Gt.cells,hlt,hWb,hof1,hbl,ii,hdr];done));(focus (simp [Gt.H,Gt.cells,hlt,hWb,hof1,hbl,ii,hdr];done)))
    | with_reducible refine aI ?_ ?_ ?_)
   refine ⟨_,i + 1,(Gh.rowK 1 2 4 _ (by simp;rfl)).trans ?_,by omega,rfl,by omega,by rw [hAi];exact hwi2⟩
   rw [hl_nil]
   simp
   exact (Gh.ren [0,1,2,3] (by simp [hB0]) (by simp [hB0] <;> decide) (by simp [Gt.H,Gt.cells,hAi]) (by simp [Gt.H,Gt.cells,hAi]) (.inl (by simp [Gt.H,Gt.cells,hAi])))
  ·obtain rfl : i = Wk.length := by omega
   dsimp only
   rw [hAl]
   clear hadv hwake hAs hwt hA0 hAl hAhl
   have hBhl : ∀ i,i ≤ 12 → (g.tkB i).hl.length = 12 := fun i hi => by
    show (midF _ (wokenH (wokenM g.L) g.hl) i).length = 12
    rw [midF_len _ _ _ (by omega)];omega
   have hB12 := hBhl 0 (by omega)
   simp [Gt.H,Gt.cells]
   refine W.loopS (fun y : Nat => ⟨[(114,I y),(113,I 12),(112,.own 2),(3,.rows 1 (off.map fun z => [I z])),(0,.ptr 0 0)],(g.tkB y).H 3,4⟩)
    (fun m i => m = 12 - i ∧ i ≤ 12) ?_ ?_
   ·exact ⟨_,0,(Gh.ren [0,1,2,3] (by simp [hB0]) (by simp [hB0] <;> decide) (by simp [Gt.H,Gt.cells,hB12]) (by simp [Gt.H,Gt.cells,hB12]) (.inl (by simp [Gt.H,Gt.cells,hB12]))),rfl,by omega⟩
   clear hB12
   rintro m i ⟨hm,hi⟩
   refine acode_sound [0,2,3,5,6,9,10,12,13,15,16,18,19,22,67,68,69,70,112,113,114,115,144,145,146,147,161,175,176,177,178,193,205,206,207,208] [] _ _ _ ?_
   dsimp only
   have hml := hBhl i hi
   by_cases hlt : i < 12
   ·have hil : i < (wokenH (wokenM g.L) g.hl).length := by omega
    have hmg : (g.tkB i).hl[i]? = some (wokenH (wokenM g.L) g.hl)[i] := midF_get _ _ i hil
    have hqm := List.getElem_mem hil
    have hBs : g.tkB (i + 1) = { g.tkB i with hl := (g.tkB i).hl.set i (backH (wokenH (wokenM g.L) g.hl)[i] (g.tkB i).now).1 } := by
     have e : (g.tkB i).hl.set i (backH (wokenH (wokenM g.L) g.hl)[i] (g.tkB i).now).1 = (g.tkB (i + 1)).hl := midF_set (fun h => (backH h (g.now + 1)).1) _ i hil
     rw [e];rfl
    obtain ⟨q,hq⟩ : ∃ q,q = (wokenH (wokenM g.L) g.hl)[i] := ⟨_,rfl⟩
    rw [← hq] at hmg hqm hBs
    have hmg2 : ∀ h,(g.tkB i).hl[i]'h = q := fun h => by
     rw [zE h] at hmg;exact Option.some.inj hmg
    have hback := hback_pf (g.tkB i).c.wat q (g.tkB i).now hwat (hHok q hqm) (show 0 ≤ g.now + 1 by omega) (show g.now + 1 ≤ _ by omega)
    simp only [Wtch.D] at hback
    generalize backH q (g.tkB i).now = r at hback hBs
    obtain ⟨r,rb⟩ := r
    simp only at hback hBs
    simp only [Hlth.D] at hback
    have ii : InR ((i : Int) + 1) := inW (by omega) (by omega)
    have hltI : (i : Int) < 12 := by omega
    repeat' (first
     | simp [Gt.H,Gt.cells,hlt,hltI,hml,hmg,hmg2,Hlth.D,ii]
     | (refine WCall.pf (hback) ?_ ?_ ?_ ?_;iterate 3 (solve|simp [Gt.H,Gt.cells,hlt,hltI,hml,hmg,hmg2,Hlth.D,ii]))
     | (refine ⟨WCall.pf (hback) ?_ ?_ ?_ ?_,?_⟩;(focus (simp;done));(focus (simp [Gt.H,Gt.cells,hlt,hltI,hml,hmg,hmg2,Hlth.D,ii];done));(focus (simp [Gt.H,Gt.cells,hlt,hltI,hml,hmg,hmg2,Hlth.D,ii];done)))
     | with_reducible refine aI ?_ ?_ ?_)
    exact ⟨_,i + 1,(Gh.ren [0,1,2,3] (by simp [hB0]) (by simp [hB0] <;> decide) (by simp [Gt.H,Gt.cells,hBs,Hlth.D]) (by simp [Gt.H,Gt.cells,hBs,Hlth.D]) (.inl (by simp [Gt.H,Gt.cells,hBs,Hlth.D]))),by omega,rfl,by omega⟩
   obtain rfl : i = 12 := by omega
   rw [hBl]
   clear hBhl hBz hBl hHok hml hWl hi hlt hm
   have hmt : g.tick = (g.tick0.offs off).cuts (g.tick0.offs off).L := by unfold Gt.tick;rw [hOff]
   simp [Gt.H,Gt.cells]
   refine W.loopS (fun y : Nat × Gt => ⟨[(146,I y.1),(145,I off.length),(144,.rows 1 (off.map fun z => [I z])),(0,.ptr 0 0)],y.2.H5,6⟩)
    (fun m y => m = off.length - y.1 ∧ y.1 ≤ off.length ∧ Mid y.2 (n + 1) (-1) ∧ y.2.offs (off.drop y.1) = g.tick0.offs off ∧ (∀ s ∈ off.drop y.1,∃ f ∈ y.2.fl,f.slot = s) ∧ y.2.out.length ≤ 2 * y.1) ?_ ?_
   ·exact ⟨_,(0,g.tick0),(Gh.ren [0,1,2,3,1,3] (by simp [hB0]) (by simp [hB0] <;> decide) (by simp [Gt.H5,Gt.cells]) (by simp [Gt.H5,Gt.cells]) (.inl (by simp [Gt.H5,Gt.cells]))),rfl,by simp,h0,rfl,fun s hs => hoffx s hs,by show g.out.length ≤ _;rw [ho];simp⟩
   rintro m ⟨i,G⟩ ⟨hm,hi,hM,hT,hX,hO⟩
   simp only at hm hi hM hT hX hO
   refine acode_sound [0,2,3,5,6,9,10,12,13,15,16,18,19,22,67,68,69,70,112,113,114,115,144,145,146,147,161,175,176,177,178,193,205,206,207,208] [] _ _ _ ?_
   dsimp only
   by_cases hlt : i < off.length
   ·have hdc := List.drop_eq_getElem_cons hlt
    rw [hdc] at hT hX
    obtain ⟨f0,hf0,hfs⟩ := hX _ (List.mem_cons_self ..)
    have hnd : off[i] ∉ off.drop (i + 1) := by
     have h1 := hoffn.sublist (List.drop_sublist i off)
     rw [hdc] at h1
     exact (List.nodup_cons.1 h1).1
    obtain ⟨o1,o2,o3,o4⟩ := off1_same hM hf0
    have oo := off1_out G f0.slot
    have hX2 : ∀ s ∈ off.drop (i + 1),∃ f ∈ (G.off1 f0.slot).fl,f.slot = s := fun s hs => by
     obtain ⟨f,hf,e⟩ := hX s (List.mem_cons_of_mem _ hs)
     exact ⟨f,o4 f hf fun e2 => hnd (by rw [← hfs,← e2,e];exact hs),e⟩
    have hT2 : (G.off1 f0.slot).offs (off.drop (i + 1)) = g.tick0.offs off := by rw [← hT,hfs];rfl
    have hfm := find_mem hM.fs.so hf0
    obtain ⟨hjl,hje,hj0,hjd⟩ := hfm
    have hgf := gfind_pf G f0.slot (by have := fl_le hM.fs;have := hM.tok.2.1;omega)
    obtain ⟨j,hj⟩ : ∃ j : Nat,findF G.fl f0.slot = j := ⟨(findF G.fl f0.slot).toNat,by omega⟩
    have hjt : (findF G.fl f0.slot).toNat = j := by omega
    have hoe : G.off1 f0.slot = if f0.serving = true then G.drop j (resetO 1) else G.failed j 5 := by
     unfold Gt.off1;rw [hjt] at hjd;simp only [hjt,hjd]
    have hjl2 : j < G.fl.length := by omega
    have hje2 : G.fl[j] = f0 := by subst hjt;exact hje
    rw [hj] at hgf
    rw [hfs] at hgf
    have hf := hje2.symm
    have hdrop := gdrop_mf G (n + 1) j (resetO 1) hM hjl2 (by omega)
    have hfail := gfailed_mf G (n + 1) j 5 hM hjl2
    obtain ⟨z,hz⟩ : ∃ z,z = off[i] := ⟨_,rfl⟩
    rw [← hz] at hgf
    have ii : InR ((i : Int) + 1) := inW (by omega) (by omega)
    simp only [Gt.P,Gt.W,Gt.cells,List.cons_append,List.nil_append] at hgf
    cases hs : f0.serving with
    | true =>
     rw [hs,if_pos rfl] at hoe
     rw [← hoe] at hdrop
     generalize G.off1 f0.slot = G2 at *
     simp only [MF,Gt.H5,Gt.H,Gt.cells,resetO,Outp.D,List.cons_append,List.nil_append] at hdrop
     repeat' (first
      | simp [Gt.H5,Gt.cells,hlt,← hz,hjl2,← hf,Flw.D,hs]
      | (refine WCall.pf (hgf) ?_ ?_ ?_ ?_;iterate 3 (solve|simp [Gt.H5,Gt.cells,hlt,← hz,hjl2,← hf,Flw.D,hs]))
      | (refine ⟨WCall.pf (hgf) ?_ ?_ ?_ ?_,?_⟩;(focus (simp;done));(focus (simp [Gt.H5,Gt.cells,hlt,← hz,hjl2,← hf,Flw.D,hs];done));(focus (simp [Gt.H5,Gt.cells,hlt,← hz,hjl2,← hf,Flw.D,hs];done)))
      | with_reducible refine aI ?_ ?_ ?_)
     refine wH [0,4,2,5] (hdrop) ?_
     rintro d H' nx' ⟨rfl,rfl,rfl⟩
     simp [ii]
     exact ⟨_,(i + 1,G2),(Gh.ren [0,1,2,3,6,7] (by simp [hB0]) (by simp [hB0] <;> decide) (by simp [Gt.H5,Gt.cells]) (by simp [Gt.H5,Gt.cells]) (.inl (by simp [Gt.H5,Gt.cells]))),by omega,rfl,by omega,o1,hT2,hX2,by simp only;omega⟩
    | false =>
     rw [hs,if_neg (by simp)] at hoe
     have hfail := hfail (by rw [hje2];exact hs) (by omega)
     rw [← hoe] at hfail
     generalize G.off1 f0.slot = G2 at *
     simp only [MF,Gt.H5,Gt.H,Gt.cells,List.cons_append,List.nil_append] at hfail
     repeat' (first
      | simp [Gt.H5,Gt.cells,hlt,← hz,hjl2,← hf,Flw.D,hs]
      | (refine WCall.pf (hgf) ?_ ?_ ?_ ?_;iterate 3 (solve|simp [Gt.H5,Gt.cells,hlt,← hz,hjl2,← hf,Flw.D,hs]))
      | (refine ⟨WCall.pf (hgf) ?_ ?_ ?_ ?_,?_⟩;(focus (simp;done));(focus (simp [Gt.H5,Gt.cells,hlt,← hz,hjl2,← hf,Flw.D,hs];done));(focus (simp [Gt.H5,Gt.cells,hlt,← hz,hjl2,← hf,Flw.D,hs];done)))
      | with_reducible refine aI ?_ ?_ ?_)
     refine wH [0,4,2,5] (hfail) ?_
     rintro d H' nx' ⟨rfl,rfl,rfl⟩
     simp [ii]
     exact ⟨_,(i + 1,G2),(Gh.ren [0,1,2,3,6,7] (by simp [hB0]) (by simp [hB0] <;> decide) (by simp [Gt.H5,Gt.cells]) (by simp [Gt.H5,Gt.cells]) (.inl (by simp [Gt.H5,Gt.cells]))),by omega,rfl,by omega,o1,hT2,hX2,by simp only;omega⟩
   have hie : i = off.length := by omega
   rw [hie,List.drop_length] at hT
   have hT : G = g.tick0.offs off := hT
   have hO2 : G.out.length ≤ 80 := by omega
   rw [← hT] at hmt
   have hLl := hM.bk.ll
   clear hT hX hO hi hm hoffx hoff hoffn
   obtain ⟨Ls,hLs⟩ : ∃ Ls,Ls = G.L := ⟨_,rfl⟩
   rw [← hLs] at hmt hLl
   subst hie
   simp [Gt.H5,Gt.cells,← hLs]
   refine W.loopS (fun y : Nat × Gt => ⟨[(177,I y.1),(176,I Ls.length),(175,.rows 6 (Ls.map Lif.D)),(0,.ptr 0 0)],y.2.H5,6⟩)
    (fun m y => m = Ls.length - y.1 ∧ y.1 ≤ Ls.length ∧ Mid y.2 (n + 1) (-1) ∧ y.2.cuts (Ls.drop y.1) = g.tick ∧ y.2.out.length ≤ 80 + 100 * y.1) ?_ ?_
   ·exact ⟨_,(0,G),(Gh.ren [0,1,2,3,4,5] (by simp [hB0]) (by simp [hB0] <;> decide) (by simp [Gt.H5,Gt.cells,← hLs]) (by simp [Gt.H5,Gt.cells,← hLs]) (.inl (by simp [Gt.H5,Gt.cells,← hLs]))),rfl,by simp,hM,hmt.symm,by simpa using hO2⟩
   clear hM hO2 hLs hmt
   rintro m ⟨i,G⟩ ⟨hm,hi,hM,hT,hO⟩
   simp only at hm hi hM hT hO
   refine acode_sound [0,2,3,5,6,9,10,12,13,15,16,18,19,22,67,68,69,70,112,113,114,115,144,145,146,147,161,175,176,177,178,193,205,206,207,208] [] _ _ _ ?_
   dsimp only
   by_cases hlt : i < Ls.length
   ·rw [List.drop_eq_getElem_cons hlt] at hT
    obtain ⟨x,hx⟩ : ∃ x,x = Ls[i] := ⟨_,rfl⟩
    rw [← hx] at hT
    unfold Gt.cuts at hT
    have ii : InR ((i : Int) + 1) := inW (by omega) (by omega)
    by_cases hc : x.state ≠ 3 ∨ G.now < x.til
    ·rw [if_pos hc] at hT
     by_cases s3 : x.state = 3
     ·have ht : G.now < x.til := hc.resolve_left fun h => h s3
      simp [Gt.H5,Gt.cells,hlt,← hx,Lif.D,s3,ht,ii]
      exact ⟨_,(i + 1,G),(Gh.ren [0,1,2,3,4,5] (by simp [hB0]) (by simp [hB0] <;> decide) (by simp [Gt.H5,Gt.cells]) (by simp [Gt.H5,Gt.cells]) (.inl (by simp [Gt.H5,Gt.cells]))),by omega,rfl,by omega,hM,hT,by simp only;omega⟩
     ·simp [Gt.H5,Gt.cells,hlt,← hx,Lif.D,s3,ii]
      exact ⟨_,(i + 1,G),(Gh.ren [0,1,2,3,4,5] (by simp [hB0]) (by simp [hB0] <;> decide) (by simp [Gt.H5,Gt.cells]) (by simp [Gt.H5,Gt.cells]) (.inl (by simp [Gt.H5,Gt.cells]))),by omega,rfl,by omega,hM,hT,by simp only;omega⟩
    ·rw [if_neg hc] at hT
     have s3 : x.state = 3 := Decidable.byContradiction fun h => hc (.inl h)
     have ht : ¬ G.now < x.til := fun h => hc (.inr h)
     have hof := tofb_pf G.tb x.backend hM.tok
     obtain ⟨hs,hhs⟩ : ∃ hs,hs = ofL G.tb x.backend := ⟨_,rfl⟩
     have hsl : hs.length ≤ 40 := by rw [hhs,ofL_len];exact Nat.le_trans (cntB_le _ _) hM.tok.2.1
     have hsn : (hs.map (·.1)).Nodup := by rw [hhs];exact ofL_nodup _ _
     have hsx : ∀ k ∈ hs,∃ f ∈ G.fl,f.slot = k.1 := fun k hk => by
      rw [hhs] at hk
      obtain ⟨q1,q2,q3,q4⟩ := ofL_mem.1 hk
      exact hM.fs.al k.1 q1 q2
     rw [← hhs] at hT hof
     clear hhs
     repeat' (first
      | simp [Gt.H5,Gt.cells,hlt,← hx,Lif.D,s3,ht]
      | (refine WCall.pf (hof) ?_ ?_ ?_ ?_;iterate 3 (solve|simp [Gt.H5,Gt.cells,hlt,← hx,Lif.D,s3,ht]))
      | (refine ⟨WCall.pf (hof) ?_ ?_ ?_ ?_,?_⟩;(focus (simp;done));(focus (simp [Gt.H5,Gt.cells,hlt,← hx,Lif.D,s3,ht];done));(focus (simp [Gt.H5,Gt.cells,hlt,← hx,Lif.D,s3,ht];done)))
      | with_reducible refine aI ?_ ?_ ?_)
     refine W.loopS (fun y : Nat × Gt => ⟨[(207,I y.1),(206,I hs.length),(205,.rows 2 (hs.map Hnd.D)),(177,I i),(176,I Ls.length),(175,.rows 6 (Ls.map Lif.D)),(0,.ptr 0 0)],y.2.H5,6⟩)
      (fun m y => m = hs.length - y.1 ∧ y.1 ≤ hs.length ∧ Mid y.2 (n + 1) (-1) ∧ y.2.cut1 (hs.drop y.1) = G.cut1 hs ∧ (∀ k ∈ hs.drop y.1,∃ f ∈ y.2.fl,f.slot = k.1) ∧ y.2.out.length ≤ 80 + 100 * i + 2 * y.1) ?_ ?_
     ·exact ⟨_,(0,G),(Gh.ren [0,1,2,3,4,5] (by simp [hB0]) (by simp [hB0] <;> decide) (by simp [Gt.H5,Gt.cells]) (by simp [Gt.H5,Gt.cells]) (.inl (by simp [Gt.H5,Gt.cells]))),rfl,by simp,hM,rfl,fun k hk => hsx k hk,by simpa using hO⟩
     clear hsx hM hof
     rintro m2 ⟨k,G2⟩ ⟨hm2,hk,hM2,hT2,hX2,hO2⟩
     simp only at hm2 hk hM2 hT2 hX2 hO2
     refine acode_sound [0,2,3,5,6,9,10,12,13,15,16,18,19,22,67,68,69,70,112,113,114,115,144,145,146,147,161,175,176,177,178,193,205,206,207,208] [] _ _ _ ?_
     dsimp only
     by_cases hlt2 : k < hs.length
     ·have hdc := List.drop_eq_getElem_cons hlt2
      rw [hdc] at hT2 hX2
      obtain ⟨f0,hf0,hfs⟩ := hX2 _ (List.mem_cons_self ..)
      have hnd : hs[k].1 ∉ (hs.drop (k + 1)).map (·.1) := by
       have h1 := hsn.sublist ((List.drop_sublist k hs).map (·.1))
       rw [hdc,List.map_cons] at h1
       exact (List.nodup_cons.1 h1).1
      obtain ⟨hjl,hje,hj0,hjd⟩ := find_mem hM2.fs.so hf0
      have hgf := gfind_pf G2 f0.slot (by have := fl_le hM2.fs;have := hM2.tok.2.1;omega)
      obtain ⟨j,hj⟩ : ∃ j : Nat,findF G2.fl f0.slot = j := ⟨(findF G2.fl f0.slot).toNat,by omega⟩
      have hjt : (findF G2.fl f0.slot).toNat = j := by omega
      have hjl2 : j < G2.fl.length := by omega
      have hje2 : G2.fl[j] = f0 := by subst hjt;exact hje
      have hgd := getD_at (default : Flw) hjl2
      rw [hje2] at hgd
      have hM3 := hM2.drop hjl2 (resetO 2)
      obtain ⟨_,h2⟩ := drop_same hM2 hjl2 (resetO 2)
      rw [hgd] at h2
      have hX3 : ∀ q ∈ hs.drop (k + 1),∃ f ∈ (G2.drop j (resetO 2)).fl,f.slot = q.1 := fun q hq => by
       obtain ⟨f,hf,e⟩ := hX2 q (List.mem_cons_of_mem _ hq)
       refine ⟨f,(h2 f).2 ⟨hf,fun e2 => hnd (List.mem_map.2 ⟨q,hq,by omega⟩)⟩,e⟩
      have hT3 : (G2.drop j (resetO 2)).cut1 (hs.drop (k + 1)) = G.cut1 hs := by rw [← hT2];simp only [Gt.cut1,← hfs,hjt]
      have oo := drop_out G2 j (resetO 2)
      have hdrop := gdrop_mf G2 (n + 1) j (resetO 2) hM2 hjl2 (by omega)
      rw [hj,hfs] at hgf
      obtain ⟨q,hq⟩ : ∃ q,q = hs[k] := ⟨_,rfl⟩
      rw [← hq] at hgf
      have ik : InR ((k : Int) + 1) := inW (by omega) (by omega)
      simp only [Gt.P,Gt.W,Gt.cells,List.cons_append,List.nil_append] at hgf
      generalize G2.drop j (resetO 2) = G3 at *
      simp only [MF,Gt.H5,Gt.H,Gt.cells,resetO,Outp.D,List.cons_append,List.nil_append] at hdrop
      repeat' (first
       | simp [Gt.H5,Gt.cells,hlt2,← hq,Hnd.D]
       | (refine WCall.pf (hgf) ?_ ?_ ?_ ?_;iterate 3 (solve|simp [Gt.H5,Gt.cells,hlt2,← hq,Hnd.D]))
       | (refine ⟨WCall.pf (hgf) ?_ ?_ ?_ ?_,?_⟩;(focus (simp;done));(focus (simp [Gt.H5,Gt.cells,hlt2,← hq,Hnd.D];done));(focus (simp [Gt.H5,Gt.cells,hlt2,← hq,Hnd.D];done)))
       | with_reducible refine aI ?_ ?_ ?_)
      refine wH [0,4,2,5] (hdrop) ?_
      rintro d H' nx' ⟨rfl,rfl,rfl⟩
      simp [ik]
      exact ⟨_,(k + 1,G3),(Gh.ren [0,1,2,3,7,8] (by simp [hB0]) (by simp [hB0] <;> decide) (by simp [Gt.H5,Gt.cells]) (by simp [Gt.H5,Gt.cells]) (.inl (by simp [Gt.H5,Gt.cells]))),by omega,rfl,by omega,hM3,hT3,fun a b hab => hX3 (a,b) hab,by simp only;omega⟩
     ·have hke : k = hs.length := by omega
      rw [hke,List.drop_length] at hT2
      have hT2 : G2 = G.cut1 hs := hT2
      rw [← hT2] at hT
      subst hke
      simp [Gt.H5,Gt.cells,ii]
      exact ⟨_,(i + 1,G2),(Gh.ren [0,1,2,3,4,5] (by simp [hB0]) (by simp [hB0] <;> decide) (by simp [Gt.H5,Gt.cells]) (by simp [Gt.H5,Gt.cells]) (.inl (by simp [Gt.H5,Gt.cells]))),by omega,rfl,by omega,hM2,hT,by simp only;omega⟩
   ·have hie : i = Ls.length := by omega
    rw [hie,List.drop_length] at hT
    have hT : G = g.tick := hT
    rw [← hT]
    subst hie
    simp [Gt.H5,Gt.cells]
    exact ⟨5,by simp,4,by simp⟩
theorem Gh.cellK {B : Base} {st : St} (k id : Nat) (ds : List D) (hh : hget st.heap id = some (.cells ds)) : Gh B st ⟨st.env,eput st.heap id (.cells (ds.map (nilK k))),st.nx⟩ := by
 intro s Z a w hr
 have hob := hr.h.ob _ _ hh
 have hlt := hr.h.lt _ _ hh
 refine ⟨s,Z,hr.env,hr.elt,hr.size,hr.defers,?_⟩
 have hnew : ObOk s Z w (.cells (ds.map (nilK k))) (s id) := by
  obtain ⟨b,T,cs,h1,h2,h3,h4⟩ := hob
  refine ⟨b,T,cs,h1,h2,by rw [List.length_map];exact h3,fun j x hx => ?_⟩
  rw [List.getElem?_map] at hx
  cases hd : ds[j]? with
  | none => rw [hd] at hx;cases hx
  | some d =>
   rw [hd] at hx
   obtain rfl := Option.some.inj hx
   have h5 := h4 j d hd
   cases d with
   | nil0 =>
    have h6 : VT Z .nil0 (cs.getD j undef) := h5
    generalize cs.getD j undef = u at h6 ⊢
    cases h6
    exact VT.rnil _ _ _
   | _ => exact h5
 have hnlt : LtO st.nx (.cells (ds.map (nilK k))) := by
  intro d hd
  obtain ⟨d0,h1,rfl⟩ := List.mem_map.1 hd
  have := hlt.2 d0 h1
  cases d0 with
  | nil0 => trivial
  | _ => exact this
 have hhe : ∀ i ob,hget (eput st.heap id (.cells (ds.map (nilK k)))) i = some ob → ∃ ob0,hget st.heap i = some ob0 := fun i ob h => by
  rw [hget_eput] at h
  split at h
  ·rename_i e;subst e;exact ⟨_,hh⟩
  ·exact ⟨_,h⟩
 refine ⟨fun i ob h => ?_,fun i ob h => ?_,fun i i' ob ob' b h h' hne hb => ?_,hr.h.zok,fun i ob b o h hb => ?_,fun i ob b h hb => ?_,hr.h.fr,hr.h.n0,hr.h.bs,hr.h.bz,hr.h.bn⟩
 ·have h9 : hget (eput st.heap id (.cells (ds.map (nilK k)))) i = some ob := h
  rw [hget_eput] at h9
  by_cases e : i = id
  ·rw [if_pos e] at h9;rw [e,← Option.some.inj h9];exact hnew
  ·rw [if_neg e] at h9;exact hr.h.ob i ob h9
 ·have h9 : hget (eput st.heap id (.cells (ds.map (nilK k)))) i = some ob := h
  rw [hget_eput] at h9
  by_cases e : i = id
  ·rw [if_pos e] at h9;rw [e,← Option.some.inj h9];exact ⟨hlt.1,hnlt⟩
  ·rw [if_neg e] at h9;exact hr.h.lt i ob h9
 ·obtain ⟨o1,h1⟩ := hhe i ob h
  obtain ⟨o2,h2⟩ := hhe i' ob' h'
  exact hr.h.apart i i' o1 o2 b h1 h2 hne hb
 ·obtain ⟨o1,h1⟩ := hhe i ob h
  exact hr.h.zap i o1 b o h1 hb
 ·obtain ⟨o1,h1⟩ := hhe i ob h
  exact hr.h.mine i o1 b h1 hb
theorem glives_code : cfun Tryz.prog [] 70 = some ⟨(.seq (qR 0 [oX 2 (.mov (.k qF))]) (.seq (qR 1 [oX 8 (.build [.nil0] []),oX 3 (.alloc [.nil0]),oS 1 3 8]) (.seq (qR 2 [oM 10 0,oN 11 10,oF 12 0 11,oF 13 17 12,oA 14 1 13,oX 15 (.call 39 [(.t 14)]),oM 9 15,oE 16 9 0,oE 17 9 1,oM 4 16,oM 5 17]) (.seq (.seq (qR 3 [oM 18 0,oN 19 18,oF 20 0 19,oF 21 19 20,oF 22 0 21,oL 23 1 22,oH 24 23,oK 25 0]) (.block 0 (.loop (.seq (qR 4 [oX 26 (.bin .lss (.t 25) (.t 24))]) (.seq (.cond 26 .skip (.exit 0)) (.seq (.block 1 (.seq (qR 5 [oI 27 6 23 25,oA 28 6 27,oX 7 (.alloc [qZ,qZ,qZ,qZ,qZ,qZ]),oS 6 7 28]) (.seq (.seq (.draw 6 (qN (oF 29 3 7) (qN (oL 30 1 29) (qN (oM 31 0) (qN (oN 32 31) (qN (oF 33 0 32) (qN (oF 34 16 33) (qN (oL 35 1 34) (qN (oX 36 (.bin .gtr (.t 30) (.t 35))) .done))))))))) (.cond 36 (.seq (qR 7 [oX 2 (.mov (.k qF))]) .ret) .skip)) (.seq (qR 8 [oF 37 1 7,oL 38 1 37]) (.block 2 (.seq (qR 9 [oX 40 (.bin .eql (.t 38) (kI 2)),oM 39 40]) (.cond 39 (qR 10 [oA 42 1 3,oF 43 0 7,oL 44 1 43,oF 45 2 7,oL 46 1 45,oX 47 (.call 94 [(.t 42),(.t 44),(.t 46)]),oM 41 47,oE 48 41 0,oE 49 41 1,oS 1 3 48]) (.seq (qR 11 [oX 51 (.bin .eql (.t 38) (kI 3)),oM 50 51]) (.cond 50 (.seq (.draw 12 (qN (oF 52 4 7) (qN (oL 53 1 52) (qN (oM 54 0) (qN (oN 55 54) (qN (oF 56 0 55) (qN (oF 57 16 56) (qN (oL 58 1 57) (qN (oX 59 (.bin .leq (.t 53) (.t 58))) (qN (oM 60 59) (qN (oG 61 (.mov (.t 4)) 60 false) (qN (oG 62 (.fad 0 (.t 7)) 60 false) (qN (oG 63 (.load false 1 (.t 62)) 60 false) (qN (oG 64 (.iads 1 (.t 61) (.t 63)) 60 false) (qN (oG 65 (.load false 1 (.t 64)) 60 false) (qN (oG 66 (.bin .eql (.t 65) (kI 0)) 60 false) (qN (oX 67 (.pick (.t 60) (.k qT) (.t 66))) .done))))))))))))))))) (.cond 67 (.seq (qR 13 [oX 2 (.mov (.k qF))]) .ret) .skip)) .skip))))))))) (qR 14 [oX 68 (.bin .add (.t 25) (kI 1)),oM 25 68]))))))) (.seq (.draw 15 (qN (oF 69 0 3) (qN (oL 70 1 69) (qN (oM 71 0) (qN (oN 72 71) (qN (oF 73 0 72) (qN (oF 74 21 73) (qN (oF 75 0 74) (qN (oL 76 1 75) (qN (oX 77 (.call 113 [(.t 70),(.t 76)])) (qN (oM 2 77) .done))))))))))) .ret))))),[(.t 2)],78⟩ := by kernel_rfl
theorem glives_pf (g : Gt) (n : Nat) (h : Rest g n) : PF Tryz.prog 70 [.pc g.P] (.bool true) := by
 have hm := h.mid
 have hll := hm.bk.ll
 have hcn := tcounts_pf g.tb hm.tok
 have hcl : (countsL g.tb).length = 12 := by simp [countsL]
 have heq := speq_pf (ringM g.ws) (by
  have := ringM_len g.ws (by rw [hm.ws];exact wsOf_ok hm.bk.lok)
  omega)
 have hspe : (fun s : Int × Int => [I s.1,I s.2]) = spE := rfl
 rw [hspe] at heq
 have hws := hm.ws
 obtain ⟨P,hP⟩ : ∃ P,P = g.P := ⟨_,rfl⟩
 rw [← hP]
 have hP' := hP
 simp only [Gt.P,Gt.W,Gt.cells,List.cons_append,List.nil_append] at hP'
 have hr0 : ringM (wsOf []) = [] := by rw [wsOf_nil];exact ring0
 refine pO glives_code [0,2,3,4,7,23,24,25,26,36,38,39,50,67] [] fun B hBN hB0 => ?_
 repeat' (first
  | simp [hP']
  | refine ⟨wcS ?_,?_⟩
  | (refine WCall.pf (hcn) ?_ ?_ ?_ ?_;iterate 3 (solve|simp [hP']))
  | with_reducible refine aI ?_ ?_ ?_)
 rw [← hP']
 refine W.loopS (fun y : Nat => ⟨[(25,I y),(24,I g.L.length),(23,.rows 6 (g.L.map Lif.D)),(4,.rows 1 ((countsL g.tb).map GI)),(3,.ptr 0 0),(0,.pc P)],[(0,.cells [.rows 2 ((ringM (wsOf (g.L.take y))).map spE)])],1⟩)
  (fun m i => m = g.L.length - i ∧ i ≤ g.L.length) ?_ ?_
 ·refine ⟨_,0,(Gh.cellK 2 0 _ (by simp;rfl)).trans ?_,rfl,by omega⟩
  simp [nilK]
  exact (gr0 [0] hB0 (by simp [hr0]) (by simp [hr0]) (.inl (by simp [hr0])))
 rintro m i ⟨hmm,hi⟩
 refine acode_sound [0,2,3,4,7,23,24,25,26,36,38,39,50,67] [] _ _ _ ?_
 by_cases hlt : i < g.L.length
 ·have hxm := List.getElem_mem hlt
  have hlo := hm.bk.lok _ hxm
  have hsi := hm.since _ hxm
  have hdr := h.dr _ hxm
  have hdr2 := hm.dr _ hxm
  have htk := wsOf_take hm.bk.sorted hm.bk.lok i hlt
  have hwok : WOk (wsOf (g.L.take i)) := wsOf_ok fun x hx => hm.bk.lok x (List.mem_of_mem_take hx)
  obtain ⟨x,hx⟩ : ∃ x,x = g.L[i] := ⟨_,rfl⟩
  rw [← hx] at hlo hsi hdr hdr2 htk
  obtain ⟨b,hb⟩ : ∃ b : Nat,x.backend = b := ⟨x.backend.toNat,by have := hlo.b0;omega⟩
  obtain ⟨w,hw⟩ : ∃ w : Nat,x.weight = w := ⟨x.weight.toNat,by have := hlo.w0;omega⟩
  have hb12 : b < 12 := by have := hlo.b1;omega
  have hbc : b < (countsL g.tb).length := by omega
  have hcg := countsL_get g.tb b hb12
  have hns : ¬ g.now < x.since := by omega
  have ii : InR ((i : Int) + 1) := inW (by omega) (by omega)
  by_cases s2 : x.state = 2
  ·obtain ⟨h1,h2⟩ := htk
   rw [if_pos s2] at h1
   have hbt : x.backend.toNat = b := by omega
   have hwt : x.weight.toNat = w := by omega
   rw [hbt] at h1 h2
   rw [hwt] at h1
   have hadd := radd_pf (wsOf (g.L.take i)) hwok b w hb12 (by have := hlo.w0;have := hlo.w1;omega) h2
   rw [← h1] at hadd
   repeat' (first
    | simp [hP',hlt,← hx,Lif.D,hns,s2,hb,hw,ii]
    | refine ⟨wcS ?_,?_⟩
    | (refine WCall.pf (hadd) ?_ ?_ ?_ ?_;iterate 3 (solve|simp [hP',hlt,← hx,Lif.D,hns,s2,hb,hw,ii]))
    | with_reducible refine aI ?_ ?_ ?_)
   exact ⟨_,i + 1,(gr0 [0] hB0 (by simp [hP']) (by simp [hP']) (.inl (by simp [hP']))),by omega,rfl,by omega⟩
  ·have h1 := htk.1
   rw [if_neg s2] at h1
   by_cases s3 : x.state = 3
   ·have ht := hdr s3
    have hc := (hdr2 s3).2.2 (by have := hlo.b0;omega)
    rw [hb] at hc
    have hc0 : ¬ (cntB g.tb (b : Int)) = 0 := by omega
    have hnt : ¬ x.til ≤ g.now := by omega
    simp [hP',hlt,← hx,Lif.D,hns,s3,hnt,hb,hbc,hcg,GI,hc0,ii]
    exact ⟨_,i + 1,(gr0 [0] hB0 (by simp [hP',h1]) (by simp [hP',h1]) (.inl (by simp [hP',h1]))),by omega,rfl,by omega⟩
   ·simp [hP',hlt,← hx,Lif.D,hns,s2,s3,ii]
    exact ⟨_,i + 1,(gr0 [0] hB0 (by simp [hP',h1]) (by simp [hP',h1]) (.inl (by simp [hP',h1]))),by omega,rfl,by omega⟩
 ·obtain rfl : i = g.L.length := by omega
  rw [List.take_length,← hws]
  repeat' (first
   | simp [hP']
   | refine ⟨wcS ?_,?_⟩
   | (refine WCall.pf (heq) ?_ ?_ ?_ ?_;iterate 3 (solve|simp [hP']))
   | with_reducible refine aI ?_ ?_ ?_)
  done
theorem gmay_code : cfun Tryz.prog [] 50 = some ⟨(.seq (qR 0 [oB 1 0,oX 2 (.mov (.k qF))]) (.seq (.seq (qR 1 [oF 13 0 1,oA 14 16 13,oX 15 (.call 44 [(.t 14)]),oX 16 (.bin .neq (.t 15) (kI 0)),oM 17 16,oG 18 (.fad 16 (.t 1)) 17 false,oG 19 (.load false 1 (.t 18)) 17 false,oG 20 (.call 60 [(.t 19),(kI 0),(kI 1099511626776)]) 17 false,oG 21 (.not (.t 20)) 17 false,oX 22 (.pick (.t 17) (.k qT) (.t 21)),oM 23 22,oG 24 (.fad 17 (.t 1)) 23 false,oG 25 (.load true 1 (.t 24)) 23 false,oG 26 (.call 57 [(.t 25)]) 23 false,oG 27 (.bin .neq (.t 26) (kI 0)) 23 false,oX 28 (.pick (.t 23) (.k qT) (.t 27)),oM 29 28,oG 30 (.fad 17 (.t 1)) 29 false,oG 31 (.fad 0 (.t 30)) 29 false,oG 32 (.load false 1 (.t 31)) 29 false,oG 33 (.len (.t 32)) 29 false,oG 34 (.fad 0 (.t 1)) 29 false,oG 35 (.fad 0 (.t 34)) 29 false,oG 36 (.load false 1 (.t 35)) 29 false,oG 37 (.bin .neq (.t 33) (.t 36)) 29 false,oX 38 (.pick (.t 29) (.k qT) (.t 37)),oM 39 38,oG 40 (.fad 19 (.t 1)) 39 false,oG 41 (.load true 2 (.t 40)) 39 false,oG 42 (.call 65 [(.t 41)]) 39 false,oG 43 (.bin .neq (.t 42) (kI 0)) 39 false,oX 44 (.pick (.t 39) (.k qT) (.t 43)),oM 45 44,oG 46 (.fad 22 (.t 1)) 45 false,oG 47 (.load false 1 (.t 46)) 45 false,oG 48 (.len (.t 47)) 45 false,oG 49 (.bin .neq (.t 48) (kI 12)) 45 false,oX 50 (.pick (.t 45) (.k qT) (.t 49))]) (.cond 50 (.seq (qR 2 [oX 2 (.mov (.k qF))]) .ret) .skip)) (.seq (.seq (qR 3 [oF 52 0 1,oF 53 10 52,oA 54 3 53,oF 55 23 1,oA 56 1 55,oX 57 (.call 66 [(.t 54),(.t 56)]),oM 51 57,oE 58 51 0,oE 59 51 1,oX 3 (.alloc [qZ]),oS 1 3 58,oM 4 59]) (.seq (qR 4 [oM 60 4,oX 61 (.bin .neq (.t 60) (kI 0)),oM 62 61,oG 63 (.fad 24 (.t 1)) 62 false,oG 64 (.fad 0 (.t 63)) 62 false,oG 65 (.load false 1 (.t 64)) 62 false,oG 66 (.fad 16 (.t 1)) 62 false,oG 67 (.load false 1 (.t 66)) 62 false,oG 68 (.bin .neq (.t 65) (.t 67)) 62 false,oX 69 (.pick (.t 62) (.k qT) (.t 68))]) (.cond 69 (.seq (qR 5 [oX 2 (.mov (.k qF))]) .ret) .skip))) (.seq (.seq (qR 6 [oF 71 24 1,oA 72 2 71,oX 73 (.call 67 [(.t 72),(kI (-1))]),oM 70 73,oE 74 70 0,oE 75 70 1,oX 5 (.alloc [qZ,.nil0]),oS 2 5 74,oM 6 75]) (.seq (qR 7 [oM 76 6,oX 77 (.bin .neq (.t 76) (kI 8))]) (.cond 77 (.seq (qR 8 [oX 2 (.mov (.k qF))]) .ret) .skip))) (.seq (.seq (qR 9 [oF 78 22 1,oL 79 1 78,oH 80 79,oK 81 0]) (.block 0 (.loop (.seq (qR 10 [oX 82 (.bin .lss (.t 81) (.t 80))]) (.seq (.cond 82 .skip (.exit 0)) (.seq (.block 1 (.seq (qR 11 [oI 83 4 79 81,oA 84 4 83,oX 8 (.alloc [.nil0,qF,qZ,qZ]),oS 4 8 84]) (.seq (qR 12 [oF 86 0 1,oF 87 13 86,oA 88 3 87,oA 89 4 8,oF 90 16 1,oL 91 1 90,oX 92 (.call 68 [(.t 88),(.t 89),(.t 91)]),oM 85 92,oE 93 85 0,oE 94 85 1,oE 95 85 2,oX 9 (.alloc [.nil0,qF,qZ,qZ]),oS 4 9 93,oM 10 94,oM 11 95]) (.seq (qR 13 [oM 96 11,oX 97 (.bin .neq (.t 96) (kI 0)),oM 98 97,oG 99 (.fad 1 (.t 8)) 98 false,oG 100 (.load false 1 (.t 99)) 98 false,oG 101 (.mov (.t 100)) 98 false,oG 102 (.fad 2 (.t 8)) 101 true,oG 103 (.load false 1 (.t 102)) 101 true,oG 104 (.fad 16 (.t 1)) 101 true,oG 105 (.load false 1 (.t 104)) 101 true,oG 106 (.bin .leq (.t 103) (.t 105)) 101 true,oG 107 (.pick (.t 101) (.t 106) (.k qF)) 98 false,oX 108 (.pick (.t 98) (.k qT) (.t 107))]) (.cond 108 (.seq (qR 14 [oX 2 (.mov (.k qF))]) .ret) .skip))))) (qR 15 [oX 109 (.bin .add (.t 81) (kI 1)),oM 81 109]))))))) (.seq (qR 16 [oA 110 26 1,oX 111 (.build [qZ,qZ,qZ,qZ,qZ,qZ,qZ,qZ,qZ,qZ,qZ,qZ,qZ,qZ,qZ,qZ,qZ,.nil0,.nil0,.nil0,.nil0,.nil0,.nil0,qZ,qZ,.nil0,.nil0] [(0,(26,(.t 110)))]),oB 112 111,oM 12 112]) (.seq (qR 17 [oM 113 12,oX 114 (.call 69 [(.t 113)]),oM 115 114,oG 116 (.mov (.t 12)) 115 true,oG 117 (.call 70 [(.t 116)]) 115 true,oX 118 (.pick (.t 115) (.t 117) (.k qF)),oM 2 118]) .ret))))))),[(.t 2)],119⟩ := by kernel_rfl
theorem gmay_pf (g : Gt) (n : Nat) (h : Rest g n) : PF Tryz.prog 50 [.agg g.W] (.bool true) := by
 have hm := h.mid
 have hfl := gfls_pf { g with out := [] } n ⟨{ hm with },h.late,h.dr⟩
 have hli := glives_pf { g with out := [] } n ⟨{ hm with },h.late,h.dr⟩
 have hn0 := hm.n0
 have hn1 := hm.n1
 have hnn := hm.nn
 have hck := ccheck_pf g.c hm.c
 have hwi := cwithin_pf g.now 0 1099511626776
 rw [withinB_t ⟨hn0,by omega⟩] at hwi
 have htc := tcheck_pf g.tb hm.tok
 have hlc := lchk_pf g.L g.R hm.bk
 have hea := bearn_pf g.c.bud g.tok hm.c.b hm.tk0 hm.tk1
 have hca := wcan0M g.now g.tm hm.wh (-1) (fun x hx e => by
  obtain ⟨f,hf,_,hxe⟩ := (hm.tt x).1 hx
  have := (hm.flow hf).1
  rw [hxe] at e
  simp only at e
  omega)
 have htl := hm.tl
 have hhn := hm.hn
 have hwn := hm.wn
 unfold bookD at hlc
 simp only [whM_def] at hca
 simp only [Budget.D] at hea
 simp only [Cfg.D] at hck
 simp only [Gt.P,Gt.W,Gt.cells,List.cons_append,List.nil_append,List.map_nil] at hfl hli
 refine pO (h3 := by simp [Gt.W,Gt.cells]) gmay_code [0,1,2,4,6,8,11,12,50,69,77,79,80,81,82,108] [17] fun B hBN hB0 => ?_
 repeat' (first
  | simp [Gt.W,Gt.cells,htl,hhn,hwn]
  | refine ⟨wcS ?_,?_⟩
  | (refine WCall.pf (hck) ?_ ?_ ?_ ?_;iterate 3 (solve|simp [Gt.W,Gt.cells,htl,hhn,hwn]))
  | (refine WCall.pf (hwi) ?_ ?_ ?_ ?_;iterate 3 (solve|simp [Gt.W,Gt.cells,htl,hhn,hwn]))
  | (refine WCall.pf (htc) ?_ ?_ ?_ ?_;iterate 3 (solve|simp [Gt.W,Gt.cells,htl,hhn,hwn]))
  | (refine WCall.pf (hlc) ?_ ?_ ?_ ?_;iterate 3 (solve|simp [Gt.W,Gt.cells,htl,hhn,hwn]))
  | (refine WCall.pf (hea) ?_ ?_ ?_ ?_;iterate 3 (solve|simp [Gt.W,Gt.cells,htl,hhn,hwn]))
  | (refine WCall.pf (hca) ?_ ?_ ?_ ?_;iterate 3 (solve|simp [Gt.W,Gt.cells,htl,hhn,hwn]))
  | with_reducible refine aI ?_ ?_ ?_)
 refine W.loopS (fun y : Nat => ⟨[(81,I y),(80,I 12),(79,.rows 4 (g.hl.map Hlth.D)),(1,.ptr 0 0)],[(0,.cells g.W)],1⟩)
  (fun m i => m = 12 - i ∧ i ≤ 12) ?_ ?_
 ·exact ⟨_,0,(gr0 [0] hB0 (by simp [Gt.W,Gt.cells,hwn]) (by simp [Gt.W,Gt.cells,hwn]) (.inl (by simp [Gt.W,Gt.cells,hwn]))),rfl,by omega⟩
 rintro m i ⟨hmm,hi⟩
 refine acode_sound [0,1,2,4,6,8,11,12,50,69,77,79,80,81,82,108] [17] _ _ _ ?_
 by_cases hlt : i < 12
 ·have hil : i < g.hl.length := by omega
  have hok := hm.hok _ (List.getElem_mem hil)
  have hba := hback_pf g.c.wat g.hl[i] g.now hm.c.w hok.1 hn0 (by omega)
  obtain ⟨q,hq⟩ : ∃ q,q = g.hl[i] := ⟨_,rfl⟩
  rw [← hq] at hok hba
  have hltI : (i : Int) < 12 := by omega
  have ii : InR ((i : Int) + 1) := inW (by omega) (by omega)
  generalize backH q g.now = r at hba
  obtain ⟨r,rb⟩ := r
  simp only at hba
  simp only [Hlth.D,Wtch.D] at hba
  cases hqo : q.out with
  | true =>
   have hqt : ¬ q.til ≤ g.now := by have := (hok.2 hqo).1;omega
   rw [hqo] at hba
   repeat' (first
    | simp [Gt.W,Gt.cells,hltI,hil,← hq,Hlth.D,hqo,hqt,ii]
    | refine ⟨wcS ?_,?_⟩
    | (refine WCall.pf (hba) ?_ ?_ ?_ ?_;iterate 3 (solve|simp [Gt.W,Gt.cells,hltI,hil,← hq,Hlth.D,hqo,hqt,ii]))
    | with_reducible refine aI ?_ ?_ ?_)
   exact ⟨_,i + 1,(gr0 [0] hB0 (by simp [Gt.W,Gt.cells]) (by simp [Gt.W,Gt.cells]) (.inl (by simp [Gt.W,Gt.cells]))),by omega,rfl,by omega⟩
  | false =>
   rw [hqo] at hba
   repeat' (first
    | simp [Gt.W,Gt.cells,hltI,hil,← hq,Hlth.D,hqo,ii]
    | refine ⟨wcS ?_,?_⟩
    | (refine WCall.pf (hba) ?_ ?_ ?_ ?_;iterate 3 (solve|simp [Gt.W,Gt.cells,hltI,hil,← hq,Hlth.D,hqo,ii]))
    | with_reducible refine aI ?_ ?_ ?_)
   exact ⟨_,i + 1,(gr0 [0] hB0 (by simp [Gt.W,Gt.cells]) (by simp [Gt.W,Gt.cells]) (.inl (by simp [Gt.W,Gt.cells]))),by omega,rfl,by omega⟩
 ·obtain rfl : i = 12 := by omega
  simp [Gt.W,Gt.cells]
  refine W.gh (Gh.cellK 7 1 _ (by simp;rfl)) ?_
  simp [nilK]
  refine acode_sound [0,1,2,4,6,8,11,12,50,69,77,79,80,81,82,108] [] _ _ _ ?_
  repeat' (first
   | simp
   | refine ⟨wcS ?_,?_⟩
   | (refine WCall.pf (hfl) ?_ ?_ ?_ ?_;iterate 3 (solve|simp))
   | (refine WCall.pf (hli) ?_ ?_ ?_ ?_;iterate 3 (solve|simp))
   | with_reducible refine aI ?_ ?_ ?_)
  all_goals done
def cpN {α : Type} (z : α) (l : List α) (i : Nat) : List α := l.take i ++ List.replicate (l.length - i) z
theorem cpN_len {α : Type} (z : α) (l : List α) (i : Nat) (h : i ≤ l.length) : (cpN z l i).length = l.length := by simp [cpN];omega
theorem cpN_set {α : Type} (z : α) (l : List α) (i : Nat) (h : i < l.length) : (cpN z l i).set i l[i] = cpN z l (i + 1) := by
 unfold cpN
 have hl : (l.take i).length = i := by simp;omega
 obtain ⟨k,hk⟩ : ∃ k,l.length - i = k + 1 := ⟨l.length - i - 1,by omega⟩
 rw [List.set_append_right _ _ (by omega),hl,Nat.sub_self,hk,List.replicate_succ,List.set_cons_zero,List.take_succ_eq_append_getElem h,List.append_assoc]
 congr 2
 rw [show l.length - (i + 1) = k by omega]
 rfl
theorem cpN_0 {α : Type} (z : α) (l : List α) : cpN z l 0 = List.replicate l.length z := by simp [cpN]
theorem cpN_all {α : Type} (z : α) (l : List α) : cpN z l l.length = l := by simp [cpN]
theorem flcln_own (l : List Flw) (hl : l.length < 1000000) : HF Tryz.prog 74 [.rows 7 (l.map Flw.D)] [] 0 (fun d H' nx' => d = .own 0 ∧ H' = [(0,.row 7 (l.map Flw.D))] ∧ nx' = 1) := by
 refine HF.one (fun _ => rfl) (fun _ => trivial) ?_
 refine HF.gh (flcln_hf Flw.D l hl (els_flw l)) fun B hB d H' nx' hR => ?_
 rcases hR with ⟨rfl,h0,rfl,rfl⟩ | ⟨rfl,rfl,rfl⟩
 ·exact ⟨.own 0,_,_,Gh.adopt 0 7 (by omega) rfl,by simp,0,rfl,by rw [h0];rfl⟩
 ·exact ⟨.own 1,_,_,Gh.refl _,by simp,1,rfl,rfl⟩
def zW : List D := [I 0,I 0,I 0,I 0,I 0,I 0,I 0,I 0,I 0,I 0,I 0,I 0,I 0,I 0,I 0,I 0,I 0,.nil0,.nil0,.nil0,.nil0,.nil0,.nil0,I 0,I 0,.nil0]
theorem lsR_len (L : List (List (Int × Int))) : (lsR L).length = L.length := by simp [lsR]
theorem gcopied_code : cfun Tryz.prog [] 52 = some ⟨(.seq (qR 0 [oB 1 0,oX 2 (.alloc [qZ,qZ,qZ,qZ,qZ,qZ,qZ,qZ,qZ,qZ,qZ,qZ,qZ,qZ,qZ,qZ,qZ,.nil0,.nil0,.nil0,.nil0,.nil0,.nil0,qZ,qZ,.nil0])]) (.seq (qR 1 [oF 9 17 1,oF 10 0 9,oL 11 1 10,oX 12 (.call 73 [(.t 11)]),oF 13 17 1,oF 14 0 13,oS 1 14 12]) (.seq (qR 2 [oF 15 18 1,oL 16 1 15,oX 17 (.call 74 [(.t 16)]),oF 18 18 1,oS 1 18 17]) (.seq (qR 3 [oF 19 19 1,oF 20 0 19,oL 21 1 20,oX 22 (.call 75 [(.t 21)]),oF 23 19 1,oF 24 0 23,oS 1 24 22]) (.seq (qR 4 [oF 25 19 1,oF 26 1 25,oL 27 1 26,oX 28 (.call 76 [(.t 27)]),oF 29 19 1,oF 30 1 29,oS 1 30 28]) (.seq (qR 5 [oF 31 21 1,oF 32 0 31,oL 33 1 32,oX 34 (.call 77 [(.t 33)]),oF 35 21 1,oF 36 0 35,oS 1 36 34]) (.seq (qR 6 [oF 37 22 1,oL 38 1 37,oH 39 38,oX 40 (.mks 4 48 [.nil0,qF,qZ,qZ] (.t 39) (.t 39)),oM 3 40]) (.seq (.seq (qR 7 [oF 41 22 1,oL 42 1 41,oH 43 42,oK 44 0]) (.block 0 (.loop (.seq (qR 8 [oX 45 (.bin .lss (.t 44) (.t 43))]) (.seq (.cond 45 .skip (.exit 0)) (.seq (.block 1 (.seq (qR 9 [oM 46 44,oI 47 4 42 44,oA 48 4 47,oX 5 (.alloc [.nil0,qF,qZ,qZ]),oM 4 46,oS 4 5 48]) (.seq (qR 10 [oF 49 0 5,oL 50 1 49,oX 51 (.call 78 [(.t 50)]),oF 52 0 5,oS 1 52 51]) (qR 11 [oM 53 3,oM 54 4,oA 55 4 5,oI 56 4 53 54,oS 4 56 55])))) (qR 12 [oX 57 (.bin .add (.t 44) (kI 1)),oM 44 57]))))))) (.seq (qR 13 [oM 58 3,oF 59 22 1,oS 1 59 58]) (.seq (qR 14 [oF 60 24 1,oF 61 1 60,oL 62 1 61,oH 63 62,oX 64 (.mks 1 24 [.nil0] (.t 63) (.t 63)),oM 6 64]) (.seq (.seq (qR 15 [oF 65 24 1,oF 66 1 65,oL 67 1 66,oH 68 67,oK 69 0]) (.block 2 (.loop (.seq (qR 16 [oX 70 (.bin .lss (.t 69) (.t 68))]) (.seq (.cond 70 .skip (.exit 2)) (.seq (.block 3 (.seq (qR 17 [oM 71 69,oI 72 1 67 69,oL 73 1 72,oM 7 71,oM 8 73]) (qR 18 [oM 74 6,oM 75 7,oM 76 8,oX 77 (.call 79 [(.t 76)]),oI 78 1 74 75,oS 1 78 77]))) (qR 19 [oX 79 (.bin .add (.t 69) (kI 1)),oM 69 79]))))))) (.seq (qR 20 [oM 80 6,oF 81 24 1,oF 82 1 81,oS 1 82 80]) (.seq (qR 21 [oA 83 26 1,oS 26 2 83]) .ret))))))))))))),[(.c 2 true 26)],84⟩ := by kernel_rfl
theorem gcopied_hf (g : Gt) (n : Nat) (h : Rest g n) : HF Tryz.prog 52 [.agg g.W] [] 0 (fun d H' nx' => d = .agg (g.cells (.own 0) (.own 1)) ∧ H' = [(1,.row 4 (g.hl.map Hlth.D)),(0,.row 7 (g.fl.map Flw.D))] ∧ nx' = 2) := by
 have hm := h.mid
 have hf40 := fl_le hm.fs
 have ht40 := hm.tok.2.1
 have hll := hm.bk.ll
 have hlr := hm.bk.lr
 have htl := h.tm_len
 have hhn := hm.hn
 have hrl := ringM_len g.ws (by rw [hm.ws];exact wsOf_ok hm.bk.lok)
 have h1 := (stcln_pfn TSlot.D g.tb (by omega) (els_tsl g.tb) (by simp [TSlot.D])).pf
 have h2 := flcln_own g.fl (by omega)
 have h3 := (licln_pfn Lif.D g.L (by omega) (els_lif g.L) (by simp [Lif.D])).pf
 have h4 := (rqcln_pfn Rqs.D g.R (by omega) (els_rqs g.R) (by simp [Rqs.D])).pf
 have h5 := (spcln_pfn spE (ringM g.ws) (by omega) (els_sp (ringM g.ws)) (by simp [spE])).pf
 have hbl := byP_len g.tm (plN g.wn)
 have hlr2 := lrT_len g.wn g.tm
 refine HF.gh (R := fun d H' nx' => ∃ f k,d = .agg (g.cells (.own f) (.own k)) ∧ hget H' f = some (.row 7 (g.fl.map Flw.D)) ∧ hget H' k = some (.row 4 (g.hl.map Hlth.D)) ∧ f ≠ k) ?_ ?_
 ·have hz1 : (cpN hzero g.hl 0).map Hlth.D = List.replicate 12 [.rows 1 [],.bool false,I 0,I 0] := by
   rw [cpN_0,hhn,List.map_replicate];rfl
  have hz2 : lsR (cpN [] (byP g.tm (plN g.wn)) 0) = List.replicate 25 [.rows 2 []] := by
   rw [cpN_0,hbl];unfold lsR;rw [List.map_replicate];rfl
  unfold Gt.W
  simp only [Gt.cells]
  refine hO gcopied_code [0,1,2,3,4,5,6,7,8,42,43,44,45,67,68,69,70] [7,15,21] fun B hBN hB0 => ?_
  repeat' (first
   | simp
   | refine ⟨wcS ?_,?_⟩
   | (refine WCall.pf (h1) ?_ ?_ ?_ ?_;iterate 3 (solve|simp))
   | with_reducible refine aI ?_ ?_ ?_)
  refine WCall.hf0 h2 (by simp) (by simp) (by simp) (by simp) ?_
  rintro d H' nx' ⟨rfl,rfl,rfl⟩
  repeat' (first
   | simp [hhn]
   | refine ⟨wcS ?_,?_⟩
   | (refine WCall.pf (h3) ?_ ?_ ?_ ?_;iterate 3 (solve|simp [hhn]))
   | (refine WCall.pf (h4) ?_ ?_ ?_ ?_;iterate 3 (solve|simp [hhn]))
   | (refine WCall.pf (h5) ?_ ?_ ?_ ?_;iterate 3 (solve|simp [hhn]))
   | with_reducible refine aI ?_ ?_ ?_)
  refine W.gh (Gh.rowK 1 3 4 _ (by simp;rfl)) ?_
  simp [nilK]
  refine acode_sound [0,1,2,3,4,5,6,7,8,42,43,44,45,67,68,69,70] [15,21] _ _ _ ?_
  simp [hhn]
  refine W.loopS (fun y : Nat => ⟨[(44,I y),(43,I 12),(42,.rows 4 (g.hl.map Hlth.D)),(3,.own 3),(2,.ptr 1 0),(1,.ptr 0 0)],
    [(3,.row 4 ((cpN hzero g.hl y).map Hlth.D)),(2,.row 7 (g.fl.map Flw.D)),(1,.cells zW),(0,.cells (g.cells (.own 2) (.rows 4 (g.hl.map Hlth.D))))],4⟩)
   (fun m i => m = 12 - i ∧ i ≤ 12) ?_ ?_
  ·exact ⟨_,0,(Gh.ren [0,1,2,3] (by simp [hB0]) (by simp [hB0] <;> decide) (by simp [zW,Gt.cells,hz1]) (by simp [zW,Gt.cells,hz1]) (.inl (by simp [zW,Gt.cells,hz1]))),rfl,by omega⟩
  rintro m i ⟨hmm,hi⟩
  refine acode_sound [0,1,2,3,4,5,6,7,8,42,43,44,45,67,68,69,70] [] _ _ _ ?_
  have hcl := cpN_len hzero g.hl i (by omega)
  by_cases hlt : i < 12
  ·have hil : i < g.hl.length := by omega
   have hok := hm.hok _ (List.getElem_mem hil)
   have hcs := cpN_set hzero g.hl i hil
   have hmk := (cloneb_pfn g.hl[i].marks (by have := hok.1.1;have := hm.c.w;unfold Wtch.Ok at this;omega)).pf
   obtain ⟨q,hq⟩ : ∃ q,q = g.hl[i] := ⟨_,rfl⟩
   rw [← hq] at hmk hcs
   have hcs2 : ((cpN hzero g.hl i).map Hlth.D).set i [.rows 1 (q.marks.map HB),.bool q.out,I q.til,I q.times] = (cpN hzero g.hl (i + 1)).map Hlth.D := by
    rw [← hcs,List.map_set];rfl
   have hltI : (i : Int) < 12 := by omega
   have ii : InR ((i : Int) + 1) := inW (by omega) (by omega)
   have hil2 : i < (cpN hzero g.hl i).length := by omega
   have hdr : ∀ q : Hlth,List.drop 4 q.D = [] := fun _ => rfl
   repeat' (first
    | simp [zW,Gt.cells,hltI,hil,hil2,← hq,Hlth.D,ii,hdr]
    | refine ⟨wcS ?_,?_⟩
    | (refine WCall.pf (hmk) ?_ ?_ ?_ ?_;iterate 3 (solve|simp [zW,Gt.cells,hltI,hil,hil2,← hq,Hlth.D,ii,hdr]))
    | with_reducible refine aI ?_ ?_ ?_)
   exact ⟨_,i + 1,(Gh.ren [0,1,2,3] (by simp [hB0]) (by simp [hB0] <;> decide) (by simp [zW,Gt.cells,hcs2]) (by simp [zW,Gt.cells,hcs2]) (.inl (by simp [zW,Gt.cells,hcs2]))),by omega,rfl,by omega⟩
  obtain rfl : i = 12 := by omega
  have hca : cpN hzero g.hl 12 = g.hl := by have := cpN_all hzero g.hl;rw [hhn] at this;exact this
  rw [hca]
  simp [zW,Gt.cells,hlr2]
  refine W.gh (Gh.rowK 2 4 1 _ (by simp;rfl)) ?_
  simp [nilK]
  refine acode_sound [0,1,2,3,4,5,6,7,8,42,43,44,45,67,68,69,70] [21] _ _ _ ?_
  simp [hlr2]
  refine W.loopS (fun y : Nat => ⟨[(69,I y),(68,I 25),(67,.rows 1 (lrT g.wn g.tm)),(6,.own 4),(2,.ptr 1 0),(1,.ptr 0 0)],
    [(4,.row 1 (lsR (cpN [] (byP g.tm (plN g.wn)) y))),(3,.row 4 (g.hl.map Hlth.D)),(2,.row 7 (g.fl.map Flw.D)),(1,.cells zW),(0,.cells (g.cells (.own 2) (.own 3)))],5⟩)
   (fun m i => m = 25 - i ∧ i ≤ 25) ?_ ?_
  ·exact ⟨_,0,(Gh.ren [0,1,2,3,4] (by simp [hB0]) (by simp [hB0] <;> decide) (by simp [zW,Gt.cells,hz2]) (by simp [zW,Gt.cells,hz2]) (.inl (by simp [zW,Gt.cells,hz2]))),rfl,by omega⟩
  clear hcl hi hlt hmm
  rintro m i ⟨hmm,hi⟩
  refine acode_sound [0,1,2,3,4,5,6,7,8,42,43,44,45,67,68,69,70] [] _ _ _ ?_
  have hcl := cpN_len ([] : List (Int × Int)) (byP g.tm (plN g.wn)) i (by omega)
  by_cases hlt : i < 25
  ·have hil : i < (byP g.tm (plN g.wn)).length := by omega
   have hcs := cpN_set [] (byP g.tm (plN g.wn)) i hil
   have hrow : (lrT g.wn g.tm)[i]? = some [.rows 2 ((byP g.tm (plN g.wn))[i].map tmE)] := by
    unfold lrT lsR
    rw [List.getElem?_map,zE hil];rfl
   have hbm : (byP g.tm (plN g.wn))[i].length < 1000000 := by
    have : (byP g.tm (plN g.wn))[i] = g.tm.filter fun t => decide (plN g.wn t = i) := by simp [byP]
    rw [this]
    exact Nat.lt_of_le_of_lt (List.length_filter_le ..) (by omega)
   have hcn := (ticln_pfn tmE (byP g.tm (plN g.wn))[i] hbm (els_tm _) (by simp [tmE])).pf
   obtain ⟨l,hl⟩ : ∃ l,l = (byP g.tm (plN g.wn))[i] := ⟨_,rfl⟩
   rw [← hl] at hcs
   rw [← hl] at hcn
   rw [← hl] at hrow
   have hrow2 : ∀ h,(lrT g.wn g.tm)[i]'h = [.rows 2 (l.map tmE)] := fun h => by
    rw [zE h] at hrow;exact Option.some.inj hrow
   have hcs2 : (lsR (cpN [] (byP g.tm (plN g.wn)) i)).set i [.rows 2 (l.map tmE)] = lsR (cpN [] (byP g.tm (plN g.wn)) (i + 1)) := by
    rw [← hcs];unfold lsR;rw [List.map_set]
   have hll2 := lsR_len (cpN [] (byP g.tm (plN g.wn)) i)
   have hil2 : i < (lsR (cpN [] (byP g.tm (plN g.wn)) i)).length := by omega
   have hrw1 : ∀ r ∈ lsR (cpN [] (byP g.tm (plN g.wn)) i),r.length = 1 := fun r hr => by
    unfold lsR at hr
    obtain ⟨x,_,rfl⟩ := List.mem_map.1 hr
    rfl
   have hrw2 : splice (lsR (cpN [] (byP g.tm (plN g.wn)) i))[i] 0 [.rows 2 (l.map tmE)] = [.rows 2 (l.map tmE)] := splice_all _ _ (by rw [hrw1 _ (List.getElem_mem hil2)];rfl)
   have hltI : (i : Int) < 25 := by omega
   have ii : InR ((i : Int) + 1) := inW (by omega) (by omega)
   (try dsimp only)
   generalize lsR (cpN [] (byP g.tm (plN g.wn)) i) = X at hcs2 hil2 hrw2 ⊢
   repeat' (first
    | simp [zW,Gt.cells,hltI,hlr2,hlt,hrow,hrow2,hil2,hrw2,ii]
    | refine ⟨wcS ?_,?_⟩
    | (refine WCall.pf (hcn) ?_ ?_ ?_ ?_;iterate 3 (solve|simp [zW,Gt.cells,hltI,hlr2,hlt,hrow,hrow2,hil2,hrw2,ii]))
    | with_reducible refine aI ?_ ?_ ?_)
   exact ⟨_,i + 1,(Gh.ren [0,1,2,3,4] (by simp [hB0]) (by simp [hB0] <;> decide) (by simp [zW,Gt.cells,hcs2]) (by simp [zW,Gt.cells,hcs2]) (.inl (by simp [zW,Gt.cells,hcs2]))),by omega,rfl,by omega⟩
  obtain rfl : i = 25 := by omega
  have hca2 : lsR (cpN [] (byP g.tm (plN g.wn)) 25) = lrT g.wn g.tm := by
   have := cpN_all [] (byP g.tm (plN g.wn));rw [hbl] at this;rw [this];rfl
  (try dsimp only)
  rw [hca2]
  simp [zW,Gt.cells]
  refine W.freeze [4] ?_
  simp [freeze,hkeep,hdrop,fzS,fzR,fzV,fzC,fzO]
  refine acode_sound [0,1,2,3,4,5,6,7,8,42,43,44,45,67,68,69,70] [] _ _ _ ?_
  simp
  exact ⟨2,3,by simp⟩
 ·rintro B hB d H' nx' ⟨f,k,rfl,h1,h2,h3⟩
  refine ⟨.agg (g.cells (.own 0) (.own 1)),[(1,.row 4 (g.hl.map Hlth.D)),(0,.row 7 (g.fl.map Flw.D))],2,?_,by simp,rfl,rfl,rfl⟩
  exact Gh.ren [f,k] (by rw [hB];show 0 ≤ 2;omega) (fun id hid => by rw [hB] at hid;omega) (by simp [Gt.cells]) (by simp [h1,h2]) (.inl (by simp;exact fun e => h3 e.symm))
theorem gdo_code : cfun Tryz.prog [] 32 = some ⟨(.seq (qR 0 [oB 2 0,oB 3 1,oX 4 (.alloc [qZ,qZ,qZ,qZ,qZ,qZ,qZ,qZ,qZ,qZ,qZ,qZ,qZ,qZ,qZ,qZ,qZ,.nil0,.nil0,.nil0,.nil0,.nil0,.nil0,qZ,qZ,.nil0]),oX 5 (.mov (.k .nil0)),oK 6 0]) (.seq (.seq (qR 1 [oA 9 26 2,oX 10 (.call 50 [(.t 9)]),oX 11 (.not (.t 10))]) (.cond 11 (.seq (qR 2 [oX 12 (.build [qZ,qZ,qZ,qZ,qZ,qZ,qZ,qZ,qZ,qZ,qZ,qZ,qZ,qZ,qZ,qZ,qZ,.nil0,.nil0,.nil0,.nil0,.nil0,.nil0,qZ,qZ,.nil0] []),oS 26 4 12,oX 5 (.mov (.k .nil0)),oK 6 6]) .ret) .skip)) (.seq (.seq (qR 3 [oA 13 8 3,oX 14 (.call 51 [(.t 13)]),oM 7 14]) (.seq (qR 4 [oM 15 7,oX 16 (.bin .neq (.t 15) (kI 0))]) (.cond 16 (.seq (qR 5 [oX 17 (.build [qZ,qZ,qZ,qZ,qZ,qZ,qZ,qZ,qZ,qZ,qZ,qZ,qZ,qZ,qZ,qZ,qZ,.nil0,.nil0,.nil0,.nil0,.nil0,.nil0,qZ,qZ,.nil0] []),oM 18 7,oS 26 4 17,oX 5 (.mov (.k .nil0)),oM 6 18]) .ret) .skip))) (.seq (.seq (qR 6 [oF 19 0 3,oL 20 1 19,oX 21 (.bin .eql (.t 20) (kI 7)),oM 22 21,oG 23 (.fad 16 (.t 2)) 22 true,oG 24 (.load false 1 (.t 23)) 22 true,oG 25 (.bin .eql (.t 24) (kI 1099511626776)) 22 true,oX 26 (.pick (.t 22) (.t 25) (.k qF))]) (.cond 26 (.seq (qR 7 [oX 27 (.build [qZ,qZ,qZ,qZ,qZ,qZ,qZ,qZ,qZ,qZ,qZ,qZ,qZ,qZ,qZ,qZ,qZ,.nil0,.nil0,.nil0,.nil0,.nil0,.nil0,qZ,qZ,.nil0] []),oS 26 4 27,oX 5 (.mov (.k .nil0)),oK 6 9]) .ret) .skip)) (.seq (qR 8 [oA 28 26 2,oX 29 (.call 52 [(.t 28)]),oX 30 (.build [qZ,qZ,qZ,qZ,qZ,qZ,qZ,qZ,qZ,qZ,qZ,qZ,qZ,qZ,qZ,qZ,qZ,.nil0,.nil0,.nil0,.nil0,.nil0,.nil0,qZ,qZ,.nil0,.nil0] [(0,(26,(.t 29)))]),oB 31 30,oM 8 31]) (.seq (.seq (qR 9 [oF 32 0 3,oL 33 1 32]) (.block 0 (.seq (qR 11 [oX 38 (.bin .eql (.t 33) (kI 1)),oM 37 38]) (.cond 37 (qR 12 [oM 39 8,oF 40 1 3,oL 41 1 40,oX 42 (.call 53 [(.t 39),(.t 41)])]) (.seq (.seq (qR 13 [oX 44 (.bin .eql (.t 33) (kI 5)),oM 43 44]) (.cond 43 .skip (qR 14 [oX 45 (.bin .eql (.t 33) (kI 6)),oM 43 45]))) (.cond 43 (qR 15 [oM 46 8,oA 47 8 3,oX 48 (.call 54 [(.t 46),(.t 47)])]) (.seq (qR 16 [oX 50 (.bin .eql (.t 33) (kI 7)),oM 49 50]) (.cond 49 (qR 17 [oM 51 8,oX 52 (.call 55 [(.t 51)])]) (qR 10 [oM 34 8,oA 35 8 3,oX 36 (.call 56 [(.t 34),(.t 35)])]))))))))) (.seq (.draw 18 (qN (oM 53 8) (qN (oN 54 53) (qN (oF 55 0 54) (qN (oA 56 26 55) (qN (oM 57 8) (qN (oN 58 57) (qN (oF 59 26 58) (.two (qN (oL 60 1 59) (.one false (oS 26 4 56) (qN (oM 5 60) (qN (oK 6 0) .done)))) (.two (.one false (oS 26 4 56) (qN (oL 60 1 59) (qN (oM 5 60) (qN (oK 6 0) .done)))) .top)))))))))) .ret))))))),[(.c 4 true 26),(.t 5),(.t 6)],61⟩ := by kernel_rfl
theorem gdo_pf (g : Gt) (n : Nat) (e : Evt) (h : Rest g n) (hn1 : n + 1 ≤ 1000000) (he : EvtOk e) (hck : PF Tryz.prog 51 [.agg e.D] (I 0)) :
  PF Tryz.prog 32 [.agg g.W,.agg e.D] (.tup [.agg (g.done e).W,.rows 7 ((g.done e).out.map Outp.D),I 0]) := by
 have hm := h.mid
 have hmay := gmay_pf g n h
 have hcop := gcopied_hf g n h
 have h0 := h.clean
 have hnow : ¬ g.now = 1099511626776 := by have := hm.n1;have := hm.nn;omega
 have hnl : (e.kind = 7 ∧ g.now = 1099511626776) ↔ False := ⟨fun h => hnow h.2,False.elim⟩
 obtain ⟨g0,hg0⟩ : ∃ g0 : Gt,g0 = { g with out := [] } := ⟨_,rfl⟩
 have hdn : g.done e = g0.step e := by rw [hg0];rfl
 have hgc : ∀ a b,g.cells a b = g0.cells a b := fun a b => by rw [hg0];rfl
 have hgf : g.fl = g0.fl := by rw [hg0]
 have hgh : g.hl = g0.hl := by rw [hg0]
 have hgn : g.now = g0.now := by rw [hg0]
 have hgo : g0.out = [] := by rw [hg0]
 rw [← hg0] at h0
 have hW : g.W = g0.W := by rw [hg0];rfl
 rw [hdn]
 rw [hW] at hmay hcop ⊢
 rw [hgc,hgf,hgh] at hcop
 rw [hgn] at hnow
 clear hnl hdn hgc hgf hgh hgn hW hm h hg0 g
 have hm0 := h0.mid
 have hol : g0.out.length < 999998 := by rw [hgo];simp
 simp only [Gt.W,Gt.cells] at hmay hcop
 unfold Gt.step
 simp only [Gt.W,Gt.cells]
 by_cases k1 : e.kind = 1
 ·rw [if_pos k1]
  have hop := gopen_mf g0 n e.key hm0 hn1 he.2.2.1 he.2.2.2.1 hol
  generalize g0.opened e.key = G at hop ⊢
  simp only [MF,Gt.H5,Gt.H,Gt.cells,hgo,List.map_nil,List.cons_append,List.nil_append] at hop
  simp only [Evt.D] at hck
  refine pO (h3 := by simp [Evt.D]) gdo_code [0,1,2,3,4,5,6,7,8,11,16,26,33,37,43,49] [9] fun B hBN hB0 => ?_
  repeat' (first
   | simp [Evt.D,k1]
   | refine ⟨wcS ?_,?_⟩
   | (refine WCall.pf (hmay) ?_ ?_ ?_ ?_;iterate 3 (solve|simp [Evt.D,k1]))
   | (refine WCall.pf (hck) ?_ ?_ ?_ ?_;iterate 3 (solve|simp [Evt.D,k1]))
   | with_reducible refine aI ?_ ?_ ?_)
  refine WCall.hf0 hcop (by simp) (by simp) (by simp) (by simp) ?_
  rintro d H' nx' ⟨rfl,rfl,rfl⟩
  simp
  refine W.gh (Gh.adoptC 5 26 7 (by omega) _ (by simp;rfl) (by simp)) ?_
  simp
  refine acode_sound [0,1,2,3,4,5,6,7,8,11,16,26,33,37,43,49] [] _ _ _ ?_
  simp [Evt.D,k1]
  refine wH [5,3,4,6] (hop) ?_
  rintro d H' nx' ⟨rfl,rfl,rfl⟩
  simp
  done
 rw [if_neg k1]
 by_cases k5 : e.kind = 5 ∨ e.kind = 6
 ·rw [if_pos k5]
  have hop := gask_mo g0 n e hm0 he hol
  generalize g0.ask e = G at hop ⊢
  simp only [MO,Gt.H,Gt.cells,hgo,List.map_nil,List.cons_append,List.nil_append,Evt.D] at hop
  simp only [Evt.D] at hck
  refine pO (h3 := by simp [Evt.D]) gdo_code [0,1,2,3,4,5,6,7,8,11,16,26,33,37,43,49] [9] fun B hBN hB0 => ?_
  repeat' (first
   | simp [Evt.D,hnow]
   | refine ⟨wcS ?_,?_⟩
   | (refine WCall.pf (hmay) ?_ ?_ ?_ ?_;iterate 3 (solve|simp [Evt.D,hnow]))
   | (refine WCall.pf (hck) ?_ ?_ ?_ ?_;iterate 3 (solve|simp [Evt.D,hnow]))
   | with_reducible refine aI ?_ ?_ ?_)
  all_goals
   refine WCall.hf0 hcop (by simp) (by simp) (by simp) (by simp) ?_
   rintro d H' nx' ⟨rfl,rfl,rfl⟩
   simp
   refine W.gh (Gh.adoptC 5 26 7 (by omega) _ (by simp;rfl) (by simp)) ?_
   simp
   refine acode_sound [0,1,2,3,4,5,6,7,8,11,16,26,33,37,43,49] [] _ _ _ ?_
  rcases k5 with k5 | k5
  ·simp [Evt.D,k5]
   refine WCall.hf [5,3,4,6] (hop) (by simp) rfl rfl (by decide) (by simp) (by simp [k5]) (by simp [k5]) (by simp [k5]) (by simp [k5]) ?_
   rintro d H' nx' ⟨rfl,rfl,rfl⟩
   simp
   done
  ·simp [Evt.D,k5]
   refine WCall.hf [5,3,4,6] (hop) (by simp) rfl rfl (by decide) (by simp) (by simp [k5]) (by simp [k5]) (by simp [k5]) (by simp [k5]) ?_
   rintro d H' nx' ⟨rfl,rfl,rfl⟩
   simp
   done
 rw [if_neg k5]
 have k5a : ¬ e.kind = 5 := fun h => k5 (.inl h)
 have k6a : ¬ e.kind = 6 := fun h => k5 (.inr h)
 by_cases k7 : e.kind = 7
 ·rw [if_pos k7]
  have hop := gtick_mf g0 n h0 hn1 hgo
  generalize g0.tick = G at hop ⊢
  simp only [MF,Gt.H5,Gt.H,Gt.cells,hgo,List.map_nil,List.cons_append,List.nil_append] at hop
  simp only [Evt.D] at hck
  refine pO (h3 := by simp [Evt.D]) gdo_code [0,1,2,3,4,5,6,7,8,11,16,26,33,37,43,49] [9] fun B hBN hB0 => ?_
  repeat' (first
   | simp [Evt.D,k7,hnow]
   | refine ⟨wcS ?_,?_⟩
   | (refine WCall.pf (hmay) ?_ ?_ ?_ ?_;iterate 3 (solve|simp [Evt.D,k7,hnow]))
   | (refine WCall.pf (hck) ?_ ?_ ?_ ?_;iterate 3 (solve|simp [Evt.D,k7,hnow]))
   | with_reducible refine aI ?_ ?_ ?_)
  refine WCall.hf0 hcop (by simp) (by simp) (by simp) (by simp) ?_
  rintro d H' nx' ⟨rfl,rfl,rfl⟩
  simp
  refine W.gh (Gh.adoptC 5 26 7 (by omega) _ (by simp;rfl) (by simp)) ?_
  simp
  refine acode_sound [0,1,2,3,4,5,6,7,8,11,16,26,33,37,43,49] [] _ _ _ ?_
  simp [Evt.D,k7]
  refine wH [5,3,4,6] (hop) ?_
  rintro d H' nx' ⟨rfl,rfl,rfl⟩
  simp
  done
 ·rw [if_neg k7]
  have hop := gflow_mf g0 n e hm0 hol
  generalize g0.flow e = G at hop ⊢
  simp only [MF,Gt.H5,Gt.H,Gt.cells,hgo,List.map_nil,List.cons_append,List.nil_append,Evt.D] at hop
  simp only [Evt.D] at hck
  refine pO (h3 := by simp [Evt.D]) gdo_code [0,1,2,3,4,5,6,7,8,11,16,26,33,37,43,49] [9] fun B hBN hB0 => ?_
  repeat' (first
   | simp [Evt.D,k7,hnow]
   | refine ⟨wcS ?_,?_⟩
   | (refine WCall.pf (hmay) ?_ ?_ ?_ ?_;iterate 3 (solve|simp [Evt.D,k7,hnow]))
   | (refine WCall.pf (hck) ?_ ?_ ?_ ?_;iterate 3 (solve|simp [Evt.D,k7,hnow]))
   | with_reducible refine aI ?_ ?_ ?_)
  refine WCall.hf0 hcop (by simp) (by simp) (by simp) (by simp) ?_
  rintro d H' nx' ⟨rfl,rfl,rfl⟩
  simp
  refine W.gh (Gh.adoptC 5 26 7 (by omega) _ (by simp;rfl) (by simp)) ?_
  simp
  refine acode_sound [0,1,2,3,4,5,6,7,8,11,16,26,33,37,43,49] [] _ _ _ ?_
  simp [Evt.D,k1,k5a,k6a,k7]
  refine wH [5,3,4,6] (hop) ?_
  rintro d H' nx' ⟨rfl,rfl,rfl⟩
  simp
  done
theorem gbeg_code : cfun Tryz.prog [] 29 = some ⟨(.seq (qR 0 [oB 1 0,oX 2 (.alloc [qZ,qZ,qZ,qZ,qZ,qZ,qZ,qZ,qZ,qZ,qZ,qZ,qZ,qZ,qZ,qZ,qZ,.nil0,.nil0,.nil0,.nil0,.nil0,.nil0,qZ,qZ,.nil0]),oK 3 0]) (.seq (.seq (qR 1 [oA 6 16 1,oX 7 (.call 44 [(.t 6)]),oM 4 7]) (.seq (qR 2 [oM 8 4,oX 9 (.bin .neq (.t 8) (kI 0))]) (.cond 9 (.seq (qR 3 [oX 10 (.build [qZ,qZ,qZ,qZ,qZ,qZ,qZ,qZ,qZ,qZ,qZ,qZ,qZ,qZ,qZ,qZ,qZ,.nil0,.nil0,.nil0,.nil0,.nil0,.nil0,qZ,qZ,.nil0] []),oM 11 4,oS 26 2 10,oM 3 11]) .ret) .skip))) (.seq (.draw 4 (qN (oA 12 16 1) (.two (qN (oX 13 (.mks 4 48 [.nil0,qF,qZ,qZ] (kI 12) (kI 12))) (qN (oX 14 (.build [qZ,qZ,qZ,qZ,qZ,qZ,qZ,qZ,qZ,qZ,qZ,qZ,qZ,qZ,qZ,qZ,qZ,.nil0,.nil0,.nil0,.nil0,.nil0,.nil0,qZ,qZ,.nil0] [(0,(16,(.t 12))),(22,(1,(.t 13)))])) (qN (oX 5 (.alloc [qZ,qZ,qZ,qZ,qZ,qZ,qZ,qZ,qZ,qZ,qZ,qZ,qZ,qZ,qZ,qZ,qZ,.nil0,.nil0,.nil0,.nil0,.nil0,.nil0,qZ,qZ,.nil0])) (.one false (oS 26 5 14) .done)))) (.two (qN (oX 5 (.alloc [qZ,qZ,qZ,qZ,qZ,qZ,qZ,qZ,qZ,qZ,qZ,qZ,qZ,qZ,qZ,qZ,qZ,.nil0,.nil0,.nil0,.nil0,.nil0,.nil0,qZ,qZ,.nil0])) (qN (oX 13 (.mks 4 48 [.nil0,qF,qZ,qZ] (kI 12) (kI 12))) (qN (oX 14 (.build [qZ,qZ,qZ,qZ,qZ,qZ,qZ,qZ,qZ,qZ,qZ,qZ,qZ,qZ,qZ,qZ,qZ,.nil0,.nil0,.nil0,.nil0,.nil0,.nil0,qZ,qZ,.nil0] [(0,(16,(.t 12))),(22,(1,(.t 13)))])) (.one false (oS 26 5 14) .done)))) .top)))) (.seq (qR 5 [oF 16 0 1,oL 17 1 16,oX 18 (.call 45 [(.t 17)]),oM 15 18,oE 19 15 0,oE 20 15 1,oF 21 17 5,oS 1 21 19]) (.seq (qR 6 [oF 23 10 1,oA 24 3 23,oX 25 (.call 46 [(.t 24)]),oM 22 25,oE 26 22 0,oE 27 22 1,oF 28 23 5,oS 1 28 26]) (.seq (qR 7 [oX 30 (.call 47 [(kI 0)]),oM 29 30,oE 31 29 0,oE 32 29 1,oF 33 24 5,oS 2 33 31]) (.seq (qR 8 [oA 34 26 5,oS 26 2 34,oK 3 0]) .ret))))))),[(.c 2 true 26),(.t 3)],35⟩ := by kernel_rfl
theorem gbeg_pf (c : Cfg) (h : c.Ok) : PF Tryz.prog 29 [.agg c.D] (.tup [.agg (begM c).W,I 0]) := by
 have h1 := ccheck_pf c h
 have h2 := tmake_pf c.slots h.w0.1 h.w0.2
 have h3 := bfill_pf c.bud h.b
 have h4 := wnewM 0 (by omega) (by omega)
 have hr : ringM (List.replicate 12 0) = [] := ring0
 have hz : (List.replicate 12 hzero).map Hlth.D = List.replicate 12 [.rows 1 [],.bool false,I 0,I 0] := by rw [List.map_replicate];rfl
 simp only [whM_def] at h4
 simp only [Budget.D] at h3
 simp only [Cfg.D] at h1


 simp only [Gt.W,Gt.cells,begM,hz,hr]
 refine pO (h3 := by simp [Cfg.D]) gbeg_code [0,1,2,3,4,5,9] [5] fun B hBN hB0 => ?_
 repeat' (first
  | simp [Cfg.D]
  | (refine WCall.pf (h1) ?_ ?_ ?_ ?_;iterate 3 (solve|simp [Cfg.D]))
  | (refine ⟨WCall.pf (h1) ?_ ?_ ?_ ?_,?_⟩;(focus (simp;done));(focus (simp [Cfg.D];done));(focus (simp [Cfg.D];done)))
  | with_reducible refine aI ?_ ?_ ?_)
 refine ⟨?_,?_⟩
 ·refine W.gh (Gh.rowK 1 2 4 _ (by simp;rfl)) ?_
  simp [nilK]
  refine acode_sound [0,1,2,3,4,5,9] [] _ _ _ ?_
  repeat' (first
   | simp [Cfg.D]
   | (refine WCall.pf (h2) ?_ ?_ ?_ ?_;iterate 3 (solve|simp [Cfg.D]))
   | (refine ⟨WCall.pf (h2) ?_ ?_ ?_ ?_,?_⟩;(focus (simp;done));(focus (simp [Cfg.D];done));(focus (simp [Cfg.D];done)))
   | (refine WCall.pf (h3) ?_ ?_ ?_ ?_;iterate 3 (solve|simp [Cfg.D]))
   | (refine ⟨WCall.pf (h3) ?_ ?_ ?_ ?_,?_⟩;(focus (simp;done));(focus (simp [Cfg.D];done));(focus (simp [Cfg.D];done)))
   | (refine WCall.pf (h4) ?_ ?_ ?_ ?_;iterate 3 (solve|simp [Cfg.D]))
   | (refine ⟨WCall.pf (h4) ?_ ?_ ?_ ?_,?_⟩;(focus (simp;done));(focus (simp [Cfg.D];done));(focus (simp [Cfg.D];done)))
   | with_reducible refine aI ?_ ?_ ?_)
  all_goals done
 ·refine W.gh (Gh.rowK 1 3 4 _ (by simp;rfl)) ?_
  simp [nilK]
  refine acode_sound [0,1,2,3,4,5,9] [] _ _ _ ?_
  repeat' (first
   | simp [Cfg.D]
   | (refine WCall.pf (h2) ?_ ?_ ?_ ?_;iterate 3 (solve|simp [Cfg.D]))
   | (refine ⟨WCall.pf (h2) ?_ ?_ ?_ ?_,?_⟩;(focus (simp;done));(focus (simp [Cfg.D];done));(focus (simp [Cfg.D];done)))
   | (refine WCall.pf (h3) ?_ ?_ ?_ ?_;iterate 3 (solve|simp [Cfg.D]))
   | (refine ⟨WCall.pf (h3) ?_ ?_ ?_ ?_,?_⟩;(focus (simp;done));(focus (simp [Cfg.D];done));(focus (simp [Cfg.D];done)))
   | (refine WCall.pf (h4) ?_ ?_ ?_ ?_;iterate 3 (solve|simp [Cfg.D]))
   | (refine ⟨WCall.pf (h4) ?_ ?_ ?_ ?_,?_⟩;(focus (simp;done));(focus (simp [Cfg.D];done));(focus (simp [Cfg.D];done)))
   | with_reducible refine aI ?_ ?_ ?_)
  all_goals done
end Go.Proofs.YtibemmkfcjlmpaaGreat
namespace Go.Proofs.YtibemmkfcjlmpaaGreat
open Go.RowKit
def ChkE (e : Evt) : Prop := EvtOk e ∧ PF Tryz.prog 51 [.agg e.D] (I 0)
theorem chk_open {k : Int} (h0 : 0 ≤ k) (h1 : k ≤ 4294967295) : ChkE (evOpen k) := ⟨by simp [EvtOk,evOpen];omega,wcheck_pf .op k 0 0 ⟨h0,h1⟩⟩
theorem chk_tick : ChkE evTick := ⟨by simp [EvtOk,evTick],wcheck_pf .ti 0 0 0 trivial⟩
theorem do_step (g : Gt) (n : Nat) (e : Evt) (h : Rest g n) (ho : g.out = []) (hn1 : n + 1 ≤ 1000000) (he : ChkE e) :
  PF Tryz.prog 32 [.agg g.W,.agg e.D] (.tup [.agg (g.step e).clean.W,.rows 7 ((g.step e).out.map Outp.D),I 0]) := by
 have h1 := gdo_pf g n e h hn1 he.1 he.2
 have h2 : g.done e = g.step e := by
  have : ({ g with out := [] } : Gt) = g := by obtain ⟨⟩ := g;simp only at ho;subst ho;rfl
  unfold Gt.done
  rw [this]
 rw [h2] at h1
 exact h1
theorem rest_step {g : Gt} {n : Nat} {e : Evt} (h : Rest g n) (ho : g.out = []) (hn1 : n + 1 ≤ 1000000) (he : ChkE e) : Rest (g.step e).clean (n + 1) := by
 have h1 := h.done he.1 hn1
 have h2 : g.done e = g.step e := by
  have : ({ g with out := [] } : Gt) = g := by obtain ⟨⟩ := g;simp only at ho;subst ho;rfl
  unfold Gt.done
  rw [this]
 rw [h2] at h1
 exact h1.cleanS
end Go.Proofs.YtibemmkfcjlmpaaGreat
