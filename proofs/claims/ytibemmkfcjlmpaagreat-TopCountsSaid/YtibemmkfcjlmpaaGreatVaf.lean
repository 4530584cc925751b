/- What the program computes, step by step, and the rules for it. No condition of its own. -/
import Derived.Test.YtibemmkfcjlmpaaGreatVae
set_option linter.unusedSimpArgs false
set_option linter.unusedVariables false
set_option maxRecDepth 100000
set_option maxHeartbeats 8000000
namespace Go.Proofs.YtibemmkfcjlmpaaGreat
open Go.RowKit
attribute [local simp] AK_at acode_seq acode_region acode_draw acode_cond CB_u acode_block acode_loop acode_exit acode_scope acode_ret acode_skip seqQ_n seqQ_e seqQ_r blockQ_n blockQ_e blockQ_r TK_at OK_at SK_at aops_nil aops_cons asch_done asch_one asch_two asch_top astep aop_eq isLoud aloud aloud1 isWrite qv evS strip gof eget hget putO eput herase oks opnds gS afin afin0 binD arith D.cells takeD fillD keep trim envOf Fin aresl aresv resD argOk pickV isP deq deqs boundD slD lenD isT isSl ptrIds chunks mn_min mx_max splice_one splice_more Rbr_at Rfr_at frR frV frC flatC brwR brwV brwC omap leR leV leC leL leVL rnR rnV rnC rnO rho_0 hputs herases rnS LtS LtR LtV LtC LtO lget noV noC flatR flatV rho
attribute [local simp ↓] CB_t CB_f
def cpN {α:Type} (z:α) (l:List α) (i:Nat):List α:=l.take i ++ List.replicate (l.length - i) z
theorem cpN_len {α:Type} (z:α) (l:List α) (i:Nat) (h:i ≤ l.length):(cpN z l i).length=l.length:=by simp[cpN];omega
theorem cpN_set {α:Type} (z:α) (l:List α) (i:Nat) (h:i < l.length):(cpN z l i).set i l[i]=cpN z l (i + 1):=by
 unfold cpN
 have hl:(l.take i).length=i:=by simp;omega
 obtain ⟨k,hk⟩:∃ k,l.length - i=k + 1:=⟨l.length - i - 1,by omega⟩
 rw[List.set_append_right _ _ (by omega),hl,Nat.sub_self,hk,List.replicate_succ,List.set_cons_zero,List.take_succ_eq_append_getElem h,List.append_assoc]
 congr 2
 rw[show l.length - (i + 1)=k by omega]
 rfl
theorem cpN_0 {α:Type} (z:α) (l:List α):cpN z l 0=List.replicate l.length z:=by simp[cpN]
theorem cpN_all {α:Type} (z:α) (l:List α):cpN z l l.length=l:=by simp[cpN]
theorem flcln_own (l:List Flw) (hl:l.length < 1000000):HF Tryz.prog 74 [.rows 7 (l.map Flw.D)] [] 0 (fun d H' nx' => d=.own 0 ∧ H'=[(0,.row 7 (l.map Flw.D))] ∧ nx'=1):=by
 refine HF.one (fun _ => rfl) (fun _ => trivial) ?_
 refine HF.gh (flcln_hf Flw.D l hl (els_flw l)) fun B hB d H' nx' hR => ?_
 rcases hR with ⟨rfl,h0,rfl,rfl⟩ | ⟨rfl,rfl,rfl⟩
 ·exact ⟨.own 0,_,_,Gh.adopt 0 7 (by omega) rfl,by simp,0,rfl,by rw[h0];rfl⟩
 ·exact ⟨.own 1,_,_,Gh.refl _,by simp,1,rfl,rfl⟩
def zW:List D:=[I 0,I 0,I 0,I 0,I 0,I 0,I 0,I 0,I 0,I 0,I 0,I 0,I 0,I 0,I 0,I 0,I 0,.nil0,.nil0,.nil0,.nil0,.nil0,.nil0,I 0,I 0,.nil0]
theorem lsR_len (L:List (List (Int × Int))):(lsR L).length=L.length:=by simp[lsR]
theorem gcopied_code:cfun Tryz.prog [] 52=some ⟨(.seq (qR 0 [oB 1 0,oX 2 (.alloc [qZ,qZ,qZ,qZ,qZ,qZ,qZ,qZ,qZ,qZ,qZ,qZ,qZ,qZ,qZ,qZ,qZ,.nil0,.nil0,.nil0,.nil0,.nil0,.nil0,qZ,qZ,.nil0])]) (.seq (qR 1 [oF 9 17 1,oF 10 0 9,oL 11 1 10,oX 12 (.call 73 [(.t 11)]),oF 13 17 1,oF 14 0 13,oS 1 14 12]) (.seq (qR 2 [oF 15 18 1,oL 16 1 15,oX 17 (.call 74 [(.t 16)]),oF 18 18 1,oS 1 18 17]) (.seq (qR 3 [oF 19 19 1,oF 20 0 19,oL 21 1 20,oX 22 (.call 75 [(.t 21)]),oF 23 19 1,oF 24 0 23,oS 1 24 22]) (.seq (qR 4 [oF 25 19 1,oF 26 1 25,oL 27 1 26,oX 28 (.call 76 [(.t 27)]),oF 29 19 1,oF 30 1 29,oS 1 30 28]) (.seq (qR 5 [oF 31 21 1,oF 32 0 31,oL 33 1 32,oX 34 (.call 77 [(.t 33)]),oF 35 21 1,oF 36 0 35,oS 1 36 34]) (.seq (qR 6 [oF 37 22 1,oL 38 1 37,oH 39 38,oX 40 (.mks 4 48 [.nil0,qF,qZ,qZ] (.t 39) (.t 39)),oM 3 40]) (.seq (.seq (qR 7 [oF 41 22 1,oL 42 1 41,oH 43 42,oK 44 0]) (.block 0 (.loop (.seq (qR 8 [oX 45 (.bin .lss (.t 44) (.t 43))]) (.seq (.cond 45 .skip (.exit 0)) (.seq (.block 1 (.seq (qR 9 [oM 46 44,oI 47 4 42 44,oA 48 4 47,oX 5 (.alloc [.nil0,qF,qZ,qZ]),oM 4 46,oS 4 5 48]) (.seq (qR 10 [oF 49 0 5,oL 50 1 49,oX 51 (.call 78 [(.t 50)]),oF 52 0 5,oS 1 52 51]) (qR 11 [oM 53 3,oM 54 4,oA 55 4 5,oI 56 4 53 54,oS 4 56 55])))) (qR 12 [oX 57 (.bin .add (.t 44) (kI 1)),oM 44 57]))))))) (.seq (qR 13 [oM 58 3,oF 59 22 1,oS 1 59 58]) (.seq (qR 14 [oF 60 24 1,oF 61 1 60,oL 62 1 61,oH 63 62,oX 64 (.mks 1 24 [.nil0] (.t 63) (.t 63)),oM 6 64]) (.seq (.seq (qR 15 [oF 65 24 1,oF 66 1 65,oL 67 1 66,oH 68 67,oK 69 0]) (.block 2 (.loop (.seq (qR 16 [oX 70 (.bin .lss (.t 69) (.t 68))]) (.seq (.cond 70 .skip (.exit 2)) (.seq (.block 3 (.seq (qR 17 [oM 71 69,oI 72 1 67 69,oL 73 1 72,oM 7 71,oM 8 73]) (qR 18 [oM 74 6,oM 75 7,oM 76 8,oX 77 (.call 79 [(.t 76)]),oI 78 1 74 75,oS 1 78 77]))) (qR 19 [oX 79 (.bin .add (.t 69) (kI 1)),oM 69 79]))))))) (.seq (qR 20 [oM 80 6,oF 81 24 1,oF 82 1 81,oS 1 82 80]) (.seq (qR 21 [oA 83 26 1,oS 26 2 83]) .ret))))))))))))),[(.c 2 true 26)],84⟩:=by kernel_rfl
theorem gcopied_hf (g:Gt) (n:Nat) (h:Rest g n):HF Tryz.prog 52 [.agg g.W] [] 0 (fun d H' nx' => d=.agg (g.cells (.own 0) (.own 1)) ∧ H'=[(1,.row 4 (g.hl.map Hlth.D)),(0,.row 7 (g.fl.map Flw.D))] ∧ nx'=2):=by
 have hm:=h.mid
 have hf40:=fl_le hm.fs
 have ht40:=hm.tok.2.1
 have hll:=hm.bk.ll
 have hlr:=hm.bk.lr
 have htl:=h.tm_len
 have hhn:=hm.hn
 have hrl:=ringM_len g.ws (by rw[hm.ws];exact wsOf_ok hm.bk.lok)
 have h1:=(stcln_pfn TSlot.D g.tb (by omega) (els_tsl g.tb) (by simp[TSlot.D])).pf
 have h2:=flcln_own g.fl (by omega)
 have h3:=(licln_pfn Lif.D g.L (by omega) (els_lif g.L) (by simp[Lif.D])).pf
 have h4:=(rqcln_pfn Rqs.D g.R (by omega) (els_rqs g.R) (by simp[Rqs.D])).pf
 have h5:=(spcln_pfn spE (ringM g.ws) (by omega) (els_sp (ringM g.ws)) (by simp[spE])).pf
 have hbl:=byP_len g.tm (plN g.wn)
 have hlr2:=lrT_len g.wn g.tm
 refine HF.gh (R:=fun d H' nx' => ∃ f k,d=.agg (g.cells (.own f) (.own k)) ∧ hget H' f=some (.row 7 (g.fl.map Flw.D)) ∧ hget H' k=some (.row 4 (g.hl.map Hlth.D)) ∧ f ≠ k) ?_ ?_
 ·have hz1:(cpN hzero g.hl 0).map Hlth.D=List.replicate 12 [.rows 1 [],.bool false,I 0,I 0]:=by
   rw[cpN_0,hhn,List.map_replicate];rfl
  have hz2:lsR (cpN [] (byP g.tm (plN g.wn)) 0)=List.replicate 25 [.rows 2 []]:=by
   rw[cpN_0,hbl];unfold lsR;rw[List.map_replicate];rfl
  unfold Gt.W
  simp only[Gt.cells]
  refine hO gcopied_code [0,1,2,3,4,5,6,7,8,42,43,44,45,67,68,69,70] [7,15,21] fun B hBN hB0 => ?_
  repeat' (first
   | simp
   | refine ⟨wcS ?_,?_⟩
   | (refine WCall.pf (h1) ?_ ?_ ?_ ?_;iterate 3 (solve|simp))
   | with_reducible refine aI ?_ ?_ ?_)
  refine WCall.hf0 h2 (by simp) (by simp) (by simp) (by simp) ?_
  rintro d H' nx' ⟨rfl,rfl,rfl⟩
  repeat' (first
   | simp[hhn]
   | refine ⟨wcS ?_,?_⟩
   | (refine WCall.pf (h3) ?_ ?_ ?_ ?_;iterate 3 (solve|simp[hhn]))
   | (refine WCall.pf (h4) ?_ ?_ ?_ ?_;iterate 3 (solve|simp[hhn]))
   | (refine WCall.pf (h5) ?_ ?_ ?_ ?_;iterate 3 (solve|simp[hhn]))
   | with_reducible refine aI ?_ ?_ ?_)
  refine W.gh (Gh.rowK 1 3 4 _ (by simp;rfl)) ?_
  simp[nilK]
  refine acode_sound [0,1,2,3,4,5,6,7,8,42,43,44,45,67,68,69,70] [15,21] _ _ _ ?_
  simp[hhn]
  refine W.loopS (fun y:Nat => ⟨[(44,I y),(43,I 12),(42,.rows 4 (g.hl.map Hlth.D)),(3,.own 3),(2,.ptr 1 0),(1,.ptr 0 0)],
    [(3,.row 4 ((cpN hzero g.hl y).map Hlth.D)),(2,.row 7 (g.fl.map Flw.D)),(1,.cells zW),(0,.cells (g.cells (.own 2) (.rows 4 (g.hl.map Hlth.D))))],4⟩)
   (fun m i => m=12 - i ∧ i ≤ 12) ?_ ?_
  ·exact ⟨_,0,(Gh.ren [0,1,2,3] (by simp[hB0]) (by simp[hB0] <;> decide) (by simp[zW,Gt.cells,hz1]) (by simp[zW,Gt.cells,hz1]) (.inl (by simp[zW,Gt.cells,hz1]))),rfl,by omega⟩
  rintro m i ⟨hmm,hi⟩
  refine acode_sound [0,1,2,3,4,5,6,7,8,42,43,44,45,67,68,69,70] [] _ _ _ ?_
  have hcl:=cpN_len hzero g.hl i (by omega)
  by_cases hlt:i < 12
  ·have hil:i < g.hl.length:=by omega
   have hok:=hm.hok _ (List.getElem_mem hil)
   have hcs:=cpN_set hzero g.hl i hil
   have hmk:=(cloneb_pfn g.hl[i].marks (by have:=hok.1.1;have:=hm.c.w;unfold Wtch.Ok at this;omega)).pf
   obtain ⟨q,hq⟩:∃ q,q=g.hl[i]:=⟨_,rfl⟩
   rw[← hq] at hmk hcs
   have hcs2:((cpN hzero g.hl i).map Hlth.D).set i [.rows 1 (q.marks.map HB),.bool q.out,I q.til,I q.times]=(cpN hzero g.hl (i + 1)).map Hlth.D:=by
    rw[← hcs,List.map_set];rfl
   have hltI:(i:Int) < 12:=by omega
   have ii:InR ((i:Int) + 1):=inW (by omega) (by omega)
   have hil2:i < (cpN hzero g.hl i).length:=by omega
   have hdr:∀ q:Hlth,List.drop 4 q.D=[]:=fun _ => rfl
   repeat' (first
    | simp[zW,Gt.cells,hltI,hil,hil2,← hq,Hlth.D,ii,hdr]
    | refine ⟨wcS ?_,?_⟩
    | (refine WCall.pf (hmk) ?_ ?_ ?_ ?_;iterate 3 (solve|simp[zW,Gt.cells,hltI,hil,hil2,← hq,Hlth.D,ii,hdr]))
    | with_reducible refine aI ?_ ?_ ?_)
   exact ⟨_,i + 1,(Gh.ren [0,1,2,3] (by simp[hB0]) (by simp[hB0] <;> decide) (by simp[zW,Gt.cells,hcs2]) (by simp[zW,Gt.cells,hcs2]) (.inl (by simp[zW,Gt.cells,hcs2]))),by omega,rfl,by omega⟩
  obtain rfl:i=12:=by omega
  have hca:cpN hzero g.hl 12=g.hl:=by have:=cpN_all hzero g.hl;rw[hhn] at this;exact this
  rw[hca]
  simp[zW,Gt.cells,hlr2]
  refine W.gh (Gh.rowK 2 4 1 _ (by simp;rfl)) ?_
  simp[nilK]
  refine acode_sound [0,1,2,3,4,5,6,7,8,42,43,44,45,67,68,69,70] [21] _ _ _ ?_
  simp[hlr2]
  refine W.loopS (fun y:Nat => ⟨[(69,I y),(68,I 25),(67,.rows 1 (lrT g.wn g.tm)),(6,.own 4),(2,.ptr 1 0),(1,.ptr 0 0)],
    [(4,.row 1 (lsR (cpN [] (byP g.tm (plN g.wn)) y))),(3,.row 4 (g.hl.map Hlth.D)),(2,.row 7 (g.fl.map Flw.D)),(1,.cells zW),(0,.cells (g.cells (.own 2) (.own 3)))],5⟩)
   (fun m i => m=25 - i ∧ i ≤ 25) ?_ ?_
  ·exact ⟨_,0,(Gh.ren [0,1,2,3,4] (by simp[hB0]) (by simp[hB0] <;> decide) (by simp[zW,Gt.cells,hz2]) (by simp[zW,Gt.cells,hz2]) (.inl (by simp[zW,Gt.cells,hz2]))),rfl,by omega⟩
  clear hcl hi hlt hmm
  rintro m i ⟨hmm,hi⟩
  refine acode_sound [0,1,2,3,4,5,6,7,8,42,43,44,45,67,68,69,70] [] _ _ _ ?_
  have hcl:=cpN_len ([]:List (Int × Int)) (byP g.tm (plN g.wn)) i (by omega)
  by_cases hlt:i < 25
  ·have hil:i < (byP g.tm (plN g.wn)).length:=by omega
   have hcs:=cpN_set [] (byP g.tm (plN g.wn)) i hil
   have hrow:(lrT g.wn g.tm)[i]? = some [.rows 2 ((byP g.tm (plN g.wn))[i].map tmE)]:=by
    unfold lrT lsR
    rw[List.getElem?_map,zE hil];rfl
   have hbm:(byP g.tm (plN g.wn))[i].length < 1000000:=by
    have:(byP g.tm (plN g.wn))[i]=g.tm.filter fun t => decide (plN g.wn t=i):=by simp[byP]
    rw[this]
    exact Nat.lt_of_le_of_lt (List.length_filter_le ..) (by omega)
   have hcn:=(ticln_pfn tmE (byP g.tm (plN g.wn))[i] hbm (els_tm _) (by simp[tmE])).pf
   obtain ⟨l,hl⟩:∃ l,l=(byP g.tm (plN g.wn))[i]:=⟨_,rfl⟩
   rw[← hl] at hcs
   rw[← hl] at hcn
   rw[← hl] at hrow
   have hrow2:∀ h,(lrT g.wn g.tm)[i]'h=[.rows 2 (l.map tmE)]:=fun h => by
    rw[zE h] at hrow;exact Option.some.inj hrow
   have hcs2:(lsR (cpN [] (byP g.tm (plN g.wn)) i)).set i [.rows 2 (l.map tmE)]=lsR (cpN [] (byP g.tm (plN g.wn)) (i + 1)):=by
    rw[← hcs];unfold lsR;rw[List.map_set]
   have hll2:=lsR_len (cpN [] (byP g.tm (plN g.wn)) i)
   have hil2:i < (lsR (cpN [] (byP g.tm (plN g.wn)) i)).length:=by omega
   have hrw1:∀ r ∈ lsR (cpN [] (byP g.tm (plN g.wn)) i),r.length=1:=fun r hr => by
    unfold lsR at hr
    obtain ⟨x,_,rfl⟩:=List.mem_map.1 hr
    rfl
   have hrw2:splice (lsR (cpN [] (byP g.tm (plN g.wn)) i))[i] 0 [.rows 2 (l.map tmE)]=[.rows 2 (l.map tmE)]:=splice_all _ _ (by rw[hrw1 _ (List.getElem_mem hil2)];rfl)
   have hltI:(i:Int) < 25:=by omega
   have ii:InR ((i:Int) + 1):=inW (by omega) (by omega)
   (try dsimp only)
   generalize lsR (cpN [] (byP g.tm (plN g.wn)) i)=X at hcs2 hil2 hrw2 ⊢
   repeat' (first
    | simp[zW,Gt.cells,hltI,hlr2,hlt,hrow,hrow2,hil2,hrw2,ii]
    | refine ⟨wcS ?_,?_⟩
    | (refine WCall.pf (hcn) ?_ ?_ ?_ ?_;iterate 3 (solve|simp[zW,Gt.cells,hltI,hlr2,hlt,hrow,hrow2,hil2,hrw2,ii]))
    | with_reducible refine aI ?_ ?_ ?_)
   exact ⟨_,i + 1,(Gh.ren [0,1,2,3,4] (by simp[hB0]) (by simp[hB0] <;> decide) (by simp[zW,Gt.cells,hcs2]) (by simp[zW,Gt.cells,hcs2]) (.inl (by simp[zW,Gt.cells,hcs2]))),by omega,rfl,by omega⟩
  obtain rfl:i=25:=by omega
  have hca2:lsR (cpN [] (byP g.tm (plN g.wn)) 25)=lrT g.wn g.tm:=by
   have:=cpN_all [] (byP g.tm (plN g.wn));rw[hbl] at this;rw[this];rfl
  (try dsimp only)
  rw[hca2]
  simp[zW,Gt.cells]
  refine W.freeze [4] ?_
  simp[freeze,hkeep,hdrop,fzS,fzR,fzV,fzC,fzO]
  refine acode_sound [0,1,2,3,4,5,6,7,8,42,43,44,45,67,68,69,70] [] _ _ _ ?_
  simp
  exact ⟨2,3,by simp⟩
 ·rintro B hB d H' nx' ⟨f,k,rfl,h1,h2,h3⟩
  refine ⟨.agg (g.cells (.own 0) (.own 1)),[(1,.row 4 (g.hl.map Hlth.D)),(0,.row 7 (g.fl.map Flw.D))],2,?_,by simp,rfl,rfl,rfl⟩
  exact Gh.ren [f,k] (by rw[hB];show 0 ≤ 2;omega) (fun id hid => by rw[hB] at hid;omega) (by simp[Gt.cells]) (by simp[h1,h2]) (.inl (by simp;exact fun e => h3 e.symm))
theorem gdo_code:cfun Tryz.prog [] 32=some ⟨(.seq (qR 0 [oB 2 0,oB 3 1,oX 4 (.alloc [qZ,qZ,qZ,qZ,qZ,qZ,qZ,qZ,qZ,qZ,qZ,qZ,qZ,qZ,qZ,qZ,qZ,.nil0,.nil0,.nil0,.nil0,.nil0,.nil0,qZ,qZ,.nil0]),oX 5 (.mov (.k .nil0)),oK 6 0]) (.seq (.seq (qR 1 [oA 9 26 2,oX 10 (.call 50 [(.t 9)]),oX 11 (.not (.t 10))]) (.cond 11 (.seq (qR 2 [oX 12 (.build [qZ,qZ,qZ,qZ,qZ,qZ,qZ,qZ,qZ,qZ,qZ,qZ,qZ,qZ,qZ,qZ,qZ,.nil0,.nil0,.nil0,.nil0,.nil0,.nil0,qZ,qZ,.nil0] []),oS 26 4 12,oX 5 (.mov (.k .nil0)),oK 6 6]) .ret) .skip)) (.seq (.seq (qR 3 [oA 13 8 3,oX 14 (.call 51 [(.t 13)]),oM 7 14]) (.seq (qR 4 [oM 15 7,oX 16 (.bin .neq (.t 15) (kI 0))]) (.cond 16 (.seq (qR 5 [oX 17 (.build [qZ,qZ,qZ,qZ,qZ,qZ,qZ,qZ,qZ,qZ,qZ,qZ,qZ,qZ,qZ,qZ,qZ,.nil0,.nil0,.nil0,.nil0,.nil0,.nil0,qZ,qZ,.nil0] []),oM 18 7,oS 26 4 17,oX 5 (.mov (.k .nil0)),oM 6 18]) .ret) .skip))) (.seq (.seq (qR 6 [oF 19 0 3,oL 20 1 19,oX 21 (.bin .eql (.t 20) (kI 7)),oM 22 21,oG 23 (.fad 16 (.t 2)) 22 true,oG 24 (.load false 1 (.t 23)) 22 true,oG 25 (.bin .eql (.t 24) (kI 1099511626776)) 22 true,oX 26 (.pick (.t 22) (.t 25) (.k qF))]) (.cond 26 (.seq (qR 7 [oX 27 (.build [qZ,qZ,qZ,qZ,qZ,qZ,qZ,qZ,qZ,qZ,qZ,qZ,qZ,qZ,qZ,qZ,qZ,.nil0,.nil0,.nil0,.nil0,.nil0,.nil0,qZ,qZ,.nil0] []),oS 26 4 27,oX 5 (.mov (.k .nil0)),oK 6 9]) .ret) .skip)) (.seq (qR 8 [oA 28 26 2,oX 29 (.call 52 [(.t 28)]),oX 30 (.build [qZ,qZ,qZ,qZ,qZ,qZ,qZ,qZ,qZ,qZ,qZ,qZ,qZ,qZ,qZ,qZ,qZ,.nil0,.nil0,.nil0,.nil0,.nil0,.nil0,qZ,qZ,.nil0,.nil0] [(0,(26,(.t 29)))]),oB 31 30,oM 8 31]) (.seq (.seq (qR 9 [oF 32 0 3,oL 33 1 32]) (.block 0 (.seq (qR 11 [oX 38 (.bin .eql (.t 33) (kI 1)),oM 37 38]) (.cond 37 (qR 12 [oM 39 8,oF 40 1 3,oL 41 1 40,oX 42 (.call 53 [(.t 39),(.t 41)])]) (.seq (.seq (qR 13 [oX 44 (.bin .eql (.t 33) (kI 5)),oM 43 44]) (.cond 43 .skip (qR 14 [oX 45 (.bin .eql (.t 33) (kI 6)),oM 43 45]))) (.cond 43 (qR 15 [oM 46 8,oA 47 8 3,oX 48 (.call 54 [(.t 46),(.t 47)])]) (.seq (qR 16 [oX 50 (.bin .eql (.t 33) (kI 7)),oM 49 50]) (.cond 49 (qR 17 [oM 51 8,oX 52 (.call 55 [(.t 51)])]) (qR 10 [oM 34 8,oA 35 8 3,oX 36 (.call 56 [(.t 34),(.t 35)])]))))))))) (.seq (.draw 18 (qN (oM 53 8) (qN (oN 54 53) (qN (oF 55 0 54) (qN (oA 56 26 55) (qN (oM 57 8) (qN (oN 58 57) (qN (oF 59 26 58) (.two (qN (oL 60 1 59) (.one false (oS 26 4 56) (qN (oM 5 60) (qN (oK 6 0) .done)))) (.two (.one false (oS 26 4 56) (qN (oL 60 1 59) (qN (oM 5 60) (qN (oK 6 0) .done)))) .top)))))))))) .ret))))))),[(.c 4 true 26),(.t 5),(.t 6)],61⟩:=by kernel_rfl
theorem gdo_pf (g:Gt) (n:Nat) (e:Evt) (h:Rest g n) (hn1:n + 1 ≤ 1000000) (he:EvtOk e) (hck:PF Tryz.prog 51 [.agg e.D] (I 0)) :
  PF Tryz.prog 32 [.agg g.W,.agg e.D] (.tup [.agg (g.done e).W,.rows 7 ((g.done e).out.map Outp.D),I 0]):=by
 have hm:=h.mid
 have hmay:=gmay_pf g n h
 have hcop:=gcopied_hf g n h
 have h0:=h.clean
 have hnow:¬ g.now=1099511626776:=by have:=hm.n1;have:=hm.nn;omega
 have hnl:(e.kind=7 ∧ g.now=1099511626776) ↔ False:=⟨fun h => hnow h.2,False.elim⟩
 obtain ⟨g0,hg0⟩:∃ g0:Gt,g0={ g with out:=[] }:=⟨_,rfl⟩
 have hdn:g.done e=g0.step e:=by rw[hg0];rfl
 have hgc:∀ a b,g.cells a b=g0.cells a b:=fun a b => by rw[hg0];rfl
 have hgf:g.fl=g0.fl:=by rw[hg0]
 have hgh:g.hl=g0.hl:=by rw[hg0]
 have hgn:g.now=g0.now:=by rw[hg0]
 have hgo:g0.out=[]:=by rw[hg0]
 rw[← hg0] at h0
 have hW:g.W=g0.W:=by rw[hg0];rfl
 rw[hdn]
 rw[hW] at hmay hcop ⊢
 rw[hgc,hgf,hgh] at hcop
 rw[hgn] at hnow
 clear hnl hdn hgc hgf hgh hgn hW hm h hg0 g
 have hm0:=h0.mid
 have hol:g0.out.length < 999998:=by rw[hgo];simp
 simp only[Gt.W,Gt.cells] at hmay hcop
 unfold Gt.step
 simp only[Gt.W,Gt.cells]
 by_cases k1:e.kind=1
 ·rw[if_pos k1]
  have hop:=gopen_mf g0 n e.key hm0 hn1 he.2.2.1 he.2.2.2.1 hol
  generalize g0.opened e.key=G at hop ⊢
  simp only[MF,Gt.H5,Gt.H,Gt.cells,hgo,List.map_nil,List.cons_append,List.nil_append] at hop
  simp only[Evt.D] at hck
  refine pO (h3:=by simp[Evt.D]) gdo_code [0,1,2,3,4,5,6,7,8,11,16,26,33,37,43,49] [9] fun B hBN hB0 => ?_
  repeat' (first
   | simp[Evt.D,k1]
   | refine ⟨wcS ?_,?_⟩
   | (refine WCall.pf (hmay) ?_ ?_ ?_ ?_;iterate 3 (solve|simp[Evt.D,k1]))
   | (refine WCall.pf (hck) ?_ ?_ ?_ ?_;iterate 3 (solve|simp[Evt.D,k1]))
   | with_reducible refine aI ?_ ?_ ?_)
  refine WCall.hf0 hcop (by simp) (by simp) (by simp) (by simp) ?_
  rintro d H' nx' ⟨rfl,rfl,rfl⟩
  simp
  refine W.gh (Gh.adoptC 5 26 7 (by omega) _ (by simp;rfl) (by simp)) ?_
  simp
  refine acode_sound [0,1,2,3,4,5,6,7,8,11,16,26,33,37,43,49] [] _ _ _ ?_
  simp[Evt.D,k1]
  refine wH [5,3,4,6] (hop) ?_
  rintro d H' nx' ⟨rfl,rfl,rfl⟩
  simp
  done
 rw[if_neg k1]
 by_cases k5:e.kind=5 ∨ e.kind=6
 ·rw[if_pos k5]
  have hop:=gask_mo g0 n e hm0 he hol
  generalize g0.ask e=G at hop ⊢
  simp only[MO,Gt.H,Gt.cells,hgo,List.map_nil,List.cons_append,List.nil_append,Evt.D] at hop
  simp only[Evt.D] at hck
  refine pO (h3:=by simp[Evt.D]) gdo_code [0,1,2,3,4,5,6,7,8,11,16,26,33,37,43,49] [9] fun B hBN hB0 => ?_
  repeat' (first
   | simp[Evt.D,hnow]
   | refine ⟨wcS ?_,?_⟩
   | (refine WCall.pf (hmay) ?_ ?_ ?_ ?_;iterate 3 (solve|simp[Evt.D,hnow]))
   | (refine WCall.pf (hck) ?_ ?_ ?_ ?_;iterate 3 (solve|simp[Evt.D,hnow]))
   | with_reducible refine aI ?_ ?_ ?_)
  all_goals
   refine WCall.hf0 hcop (by simp) (by simp) (by simp) (by simp) ?_
   rintro d H' nx' ⟨rfl,rfl,rfl⟩
   simp
   refine W.gh (Gh.adoptC 5 26 7 (by omega) _ (by simp;rfl) (by simp)) ?_
   simp
   refine acode_sound [0,1,2,3,4,5,6,7,8,11,16,26,33,37,43,49] [] _ _ _ ?_
  rcases k5 with k5 | k5
  ·simp[Evt.D,k5]
   refine WCall.hf [5,3,4,6] (hop) (by simp) rfl rfl (by decide) (by simp) (by simp[k5]) (by simp[k5]) (by simp[k5]) (by simp[k5]) ?_
   rintro d H' nx' ⟨rfl,rfl,rfl⟩
   simp
   done
  ·simp[Evt.D,k5]
   refine WCall.hf [5,3,4,6] (hop) (by simp) rfl rfl (by decide) (by simp) (by simp[k5]) (by simp[k5]) (by simp[k5]) (by simp[k5]) ?_
   rintro d H' nx' ⟨rfl,rfl,rfl⟩
   simp
   done
 rw[if_neg k5]
 have k5a:¬ e.kind=5:=fun h => k5 (.inl h)
 have k6a:¬ e.kind=6:=fun h => k5 (.inr h)
 by_cases k7:e.kind=7
 ·rw[if_pos k7]
  have hop:=gtick_mf g0 n h0 hn1 hgo
  generalize g0.tick=G at hop ⊢
  simp only[MF,Gt.H5,Gt.H,Gt.cells,hgo,List.map_nil,List.cons_append,List.nil_append] at hop
  simp only[Evt.D] at hck
  refine pO (h3:=by simp[Evt.D]) gdo_code [0,1,2,3,4,5,6,7,8,11,16,26,33,37,43,49] [9] fun B hBN hB0 => ?_
  repeat' (first
   | simp[Evt.D,k7,hnow]
   | refine ⟨wcS ?_,?_⟩
   | (refine WCall.pf (hmay) ?_ ?_ ?_ ?_;iterate 3 (solve|simp[Evt.D,k7,hnow]))
   | (refine WCall.pf (hck) ?_ ?_ ?_ ?_;iterate 3 (solve|simp[Evt.D,k7,hnow]))
   | with_reducible refine aI ?_ ?_ ?_)
  refine WCall.hf0 hcop (by simp) (by simp) (by simp) (by simp) ?_
  rintro d H' nx' ⟨rfl,rfl,rfl⟩
  simp
  refine W.gh (Gh.adoptC 5 26 7 (by omega) _ (by simp;rfl) (by simp)) ?_
  simp
  refine acode_sound [0,1,2,3,4,5,6,7,8,11,16,26,33,37,43,49] [] _ _ _ ?_
  simp[Evt.D,k7]
  refine wH [5,3,4,6] (hop) ?_
  rintro d H' nx' ⟨rfl,rfl,rfl⟩
  simp
  done
 ·rw[if_neg k7]
  have hop:=gflow_mf g0 n e hm0 hol
  generalize g0.flow e=G at hop ⊢
  simp only[MF,Gt.H5,Gt.H,Gt.cells,hgo,List.map_nil,List.cons_append,List.nil_append,Evt.D] at hop
  simp only[Evt.D] at hck
  refine pO (h3:=by simp[Evt.D]) gdo_code [0,1,2,3,4,5,6,7,8,11,16,26,33,37,43,49] [9] fun B hBN hB0 => ?_
  repeat' (first
   | simp[Evt.D,k7,hnow]
   | refine ⟨wcS ?_,?_⟩
   | (refine WCall.pf (hmay) ?_ ?_ ?_ ?_;iterate 3 (solve|simp[Evt.D,k7,hnow]))
   | (refine WCall.pf (hck) ?_ ?_ ?_ ?_;iterate 3 (solve|simp[Evt.D,k7,hnow]))
   | with_reducible refine aI ?_ ?_ ?_)
  refine WCall.hf0 hcop (by simp) (by simp) (by simp) (by simp) ?_
  rintro d H' nx' ⟨rfl,rfl,rfl⟩
  simp
  refine W.gh (Gh.adoptC 5 26 7 (by omega) _ (by simp;rfl) (by simp)) ?_
  simp
  refine acode_sound [0,1,2,3,4,5,6,7,8,11,16,26,33,37,43,49] [] _ _ _ ?_
  simp[Evt.D,k1,k5a,k6a,k7]
  refine wH [5,3,4,6] (hop) ?_
  rintro d H' nx' ⟨rfl,rfl,rfl⟩
  simp
  done
theorem gbeg_code:cfun Tryz.prog [] 29=some ⟨(.seq (qR 0 [oB 1 0,oX 2 (.alloc [qZ,qZ,qZ,qZ,qZ,qZ,qZ,qZ,qZ,qZ,qZ,qZ,qZ,qZ,qZ,qZ,qZ,.nil0,.nil0,.nil0,.nil0,.nil0,.nil0,qZ,qZ,.nil0]),oK 3 0]) (.seq (.seq (qR 1 [oA 6 16 1,oX 7 (.call 44 [(.t 6)]),oM 4 7]) (.seq (qR 2 [oM 8 4,oX 9 (.bin .neq (.t 8) (kI 0))]) (.cond 9 (.seq (qR 3 [oX 10 (.build [qZ,qZ,qZ,qZ,qZ,qZ,qZ,qZ,qZ,qZ,qZ,qZ,qZ,qZ,qZ,qZ,qZ,.nil0,.nil0,.nil0,.nil0,.nil0,.nil0,qZ,qZ,.nil0] []),oM 11 4,oS 26 2 10,oM 3 11]) .ret) .skip))) (.seq (.draw 4 (qN (oA 12 16 1) (.two (qN (oX 13 (.mks 4 48 [.nil0,qF,qZ,qZ] (kI 12) (kI 12))) (qN (oX 14 (.build [qZ,qZ,qZ,qZ,qZ,qZ,qZ,qZ,qZ,qZ,qZ,qZ,qZ,qZ,qZ,qZ,qZ,.nil0,.nil0,.nil0,.nil0,.nil0,.nil0,qZ,qZ,.nil0] [(0,(16,(.t 12))),(22,(1,(.t 13)))])) (qN (oX 5 (.alloc [qZ,qZ,qZ,qZ,qZ,qZ,qZ,qZ,qZ,qZ,qZ,qZ,qZ,qZ,qZ,qZ,qZ,.nil0,.nil0,.nil0,.nil0,.nil0,.nil0,qZ,qZ,.nil0])) (.one false (oS 26 5 14) .done)))) (.two (qN (oX 5 (.alloc [qZ,qZ,qZ,qZ,qZ,qZ,qZ,qZ,qZ,qZ,qZ,qZ,qZ,qZ,qZ,qZ,qZ,.nil0,.nil0,.nil0,.nil0,.nil0,.nil0,qZ,qZ,.nil0])) (qN (oX 13 (.mks 4 48 [.nil0,qF,qZ,qZ] (kI 12) (kI 12))) (qN (oX 14 (.build [qZ,qZ,qZ,qZ,qZ,qZ,qZ,qZ,qZ,qZ,qZ,qZ,qZ,qZ,qZ,qZ,qZ,.nil0,.nil0,.nil0,.nil0,.nil0,.nil0,qZ,qZ,.nil0] [(0,(16,(.t 12))),(22,(1,(.t 13)))])) (.one false (oS 26 5 14) .done)))) .top)))) (.seq (qR 5 [oF 16 0 1,oL 17 1 16,oX 18 (.call 45 [(.t 17)]),oM 15 18,oE 19 15 0,oE 20 15 1,oF 21 17 5,oS 1 21 19]) (.seq (qR 6 [oF 23 10 1,oA 24 3 23,oX 25 (.call 46 [(.t 24)]),oM 22 25,oE 26 22 0,oE 27 22 1,oF 28 23 5,oS 1 28 26]) (.seq (qR 7 [oX 30 (.call 47 [(kI 0)]),oM 29 30,oE 31 29 0,oE 32 29 1,oF 33 24 5,oS 2 33 31]) (.seq (qR 8 [oA 34 26 5,oS 26 2 34,oK 3 0]) .ret))))))),[(.c 2 true 26),(.t 3)],35⟩:=by kernel_rfl
theorem gbeg_pf (c:Cfg) (h:c.Ok):PF Tryz.prog 29 [.agg c.D] (.tup [.agg (begM c).W,I 0]):=by
 have h1:=ccheck_pf c h
 have h2:=tmake_pf c.slots h.w0.1 h.w0.2
 have h3:=bfill_pf c.bud h.b
 have h4:=wnewM 0 (by omega) (by omega)
 have hr:ringM (List.replicate 12 0)=[]:=ring0
 have hz:(List.replicate 12 hzero).map Hlth.D=List.replicate 12 [.rows 1 [],.bool false,I 0,I 0]:=by rw[List.map_replicate];rfl
 simp only[whM_def] at h4
 simp only[Budget.D] at h3
 simp only[Cfg.D] at h1


 simp only[Gt.W,Gt.cells,begM,hz,hr]
 refine pO (h3:=by simp[Cfg.D]) gbeg_code [0,1,2,3,4,5,9] [5] fun B hBN hB0 => ?_
 repeat' (first
  | simp[Cfg.D]
  | (refine WCall.pf (h1) ?_ ?_ ?_ ?_;iterate 3 (solve|simp[Cfg.D]))
  | (refine ⟨WCall.pf (h1) ?_ ?_ ?_ ?_,?_⟩;(focus (simp;done));(focus (simp[Cfg.D];done));(focus (simp[Cfg.D];done)))
  | with_reducible refine aI ?_ ?_ ?_)
 refine ⟨?_,?_⟩
 ·refine W.gh (Gh.rowK 1 2 4 _ (by simp;rfl)) ?_
  simp[nilK]
  refine acode_sound [0,1,2,3,4,5,9] [] _ _ _ ?_
  repeat' (first
   | simp[Cfg.D]
   | (refine WCall.pf (h2) ?_ ?_ ?_ ?_;iterate 3 (solve|simp[Cfg.D]))
   | (refine ⟨WCall.pf (h2) ?_ ?_ ?_ ?_,?_⟩;(focus (simp;done));(focus (simp[Cfg.D];done));(focus (simp[Cfg.D];done)))
   | (refine WCall.pf (h3) ?_ ?_ ?_ ?_;iterate 3 (solve|simp[Cfg.D]))
   | (refine ⟨WCall.pf (h3) ?_ ?_ ?_ ?_,?_⟩;(focus (simp;done));(focus (simp[Cfg.D];done));(focus (simp[Cfg.D];done)))
   | (refine WCall.pf (h4) ?_ ?_ ?_ ?_;iterate 3 (solve|simp[Cfg.D]))
   | (refine ⟨WCall.pf (h4) ?_ ?_ ?_ ?_,?_⟩;(focus (simp;done));(focus (simp[Cfg.D];done));(focus (simp[Cfg.D];done)))
   | with_reducible refine aI ?_ ?_ ?_)
  all_goals done
 ·refine W.gh (Gh.rowK 1 3 4 _ (by simp;rfl)) ?_
  simp[nilK]
  refine acode_sound [0,1,2,3,4,5,9] [] _ _ _ ?_
  repeat' (first
   | simp[Cfg.D]
   | (refine WCall.pf (h2) ?_ ?_ ?_ ?_;iterate 3 (solve|simp[Cfg.D]))
   | (refine ⟨WCall.pf (h2) ?_ ?_ ?_ ?_,?_⟩;(focus (simp;done));(focus (simp[Cfg.D];done));(focus (simp[Cfg.D];done)))
   | (refine WCall.pf (h3) ?_ ?_ ?_ ?_;iterate 3 (solve|simp[Cfg.D]))
   | (refine ⟨WCall.pf (h3) ?_ ?_ ?_ ?_,?_⟩;(focus (simp;done));(focus (simp[Cfg.D];done));(focus (simp[Cfg.D];done)))
   | (refine WCall.pf (h4) ?_ ?_ ?_ ?_;iterate 3 (solve|simp[Cfg.D]))
   | (refine ⟨WCall.pf (h4) ?_ ?_ ?_ ?_,?_⟩;(focus (simp;done));(focus (simp[Cfg.D];done));(focus (simp[Cfg.D];done)))
   | with_reducible refine aI ?_ ?_ ?_)
  all_goals done
end Go.Proofs.YtibemmkfcjlmpaaGreat
namespace Go.Proofs.YtibemmkfcjlmpaaGreat
open Go.RowKit
def ChkE (e:Evt):Prop:=EvtOk e ∧ PF Tryz.prog 51 [.agg e.D] (I 0)
theorem chk_open {k:Int} (h0:0 ≤ k) (h1:k ≤ 4294967295):ChkE (evOpen k):=⟨by simp[EvtOk,evOpen];omega,wcheck_pf .op k 0 0 ⟨h0,h1⟩⟩
theorem chk_data {s g:Int} (s0:0 ≤ s) (s1:s ≤ 39) (g0:0 ≤ g) (g1:g ≤ 1048576):ChkE (evData s g):=⟨by simp[EvtOk,evData],wcheck_pf .da s g 0 ⟨⟨s0,s1⟩,g0,g1⟩⟩
theorem chk_close {s g:Int} (s0:0 ≤ s) (s1:s ≤ 39) (g0:0 ≤ g) (g1:g ≤ 1048576):ChkE (evClose s g):=⟨by simp[EvtOk,evClose],wcheck_pf .cl s g 0 ⟨⟨s0,s1⟩,g0,g1⟩⟩
theorem chk_ans {s g:Int} (b:Bool) (s0:0 ≤ s) (s1:s ≤ 39) (g0:0 ≤ g) (g1:g ≤ 1048576):ChkE (evAns s g b):=⟨by simp[EvtOk,evAns],by
 cases b with
 | true => exact wcheck_pf .an s g 1 ⟨⟨s0,s1⟩,⟨g0,g1⟩,by omega,by omega⟩
 | false => exact wcheck_pf .an s g 0 ⟨⟨s0,s1⟩,⟨g0,g1⟩,by omega,by omega⟩⟩
theorem chk_join {r b w:Int} (r0:0 ≤ r) (r1:r ≤ 1048576) (b0:0 ≤ b) (b1:b ≤ 11) (w0:1 ≤ w) (w1:w ≤ 8):ChkE (evJoin r b w):=⟨by simp[EvtOk,evJoin];omega,wcheck_pf .jo r b w ⟨⟨r0,r1⟩,⟨b0,b1⟩,w0,w1⟩⟩
theorem chk_ret {r b:Int} (r0:0 ≤ r) (r1:r ≤ 1048576) (b0:0 ≤ b) (b1:b ≤ 11):ChkE (evRet r b):=⟨by simp[EvtOk,evRet];omega,wcheck_pf .re r b 0 ⟨⟨r0,r1⟩,b0,b1⟩⟩
theorem chk_tick:ChkE evTick:=⟨by simp[EvtOk,evTick],wcheck_pf .ti 0 0 0 trivial⟩
theorem do_step (g:Gt) (n:Nat) (e:Evt) (h:Rest g n) (ho:g.out=[]) (hn1:n + 1 ≤ 1000000) (he:ChkE e) :
  PF Tryz.prog 32 [.agg g.W,.agg e.D] (.tup [.agg (g.step e).clean.W,.rows 7 ((g.step e).out.map Outp.D),I 0]):=by
 have h1:=gdo_pf g n e h hn1 he.1 he.2
 have h2:g.done e=g.step e:=by
  have:({ g with out:=[] }:Gt)=g:=by obtain ⟨⟩:=g;simp only at ho;subst ho;rfl
  unfold Gt.done
  rw[this]
 rw[h2] at h1
 exact h1
theorem rest_step {g:Gt} {n:Nat} {e:Evt} (h:Rest g n) (ho:g.out=[]) (hn1:n + 1 ≤ 1000000) (he:ChkE e):Rest (g.step e).clean (n + 1):=by
 have h1:=h.done he.1 hn1
 have h2:g.done e=g.step e:=by
  have:({ g with out:=[] }:Gt)=g:=by obtain ⟨⟩:=g;simp only at ho;subst ho;rfl
  unfold Gt.done
  rw[this]
 rw[h2] at h1
 exact h1.cleanS
end Go.Proofs.YtibemmkfcjlmpaaGreat
namespace Go.Proofs.YtibemmkfcjlmpaaGreat
open Go.RowKit
attribute [local simp] AK_at acode_seq acode_region acode_draw acode_cond CB_u acode_block acode_loop acode_exit acode_scope acode_ret acode_skip seqQ_n seqQ_e seqQ_r blockQ_n blockQ_e blockQ_r TK_at OK_at SK_at aops_nil aops_cons asch_done asch_one asch_two asch_top astep aop_eq isLoud aloud aloud1 isWrite qv evS strip gof eget hget putO eput herase oks opnds gS afin afin0 binD arith D.cells takeD fillD keep trim envOf Fin aresl aresv resD argOk pickV isP deq deqs boundD slD lenD isT isSl ptrIds chunks mn_min mx_max splice_one splice_more Rbr_at Rfr_at frR frV frC flatC brwR brwV brwC omap leR leV leC leL leVL rnR rnV rnC rnO rho_0 hputs herases rnS LtS LtR LtV LtC LtO lget noV noC flatR flatV rho
attribute [local simp ↓] CB_t CB_f
def Stp.D (s:Stp):List D:=s.ev.D ++ s.before.W ++ s.after.W ++ [.rows 7 (s.out.map Outp.D)]
def hdE (h:Int × Int):List D:=[I h.1,I h.2]
def Ply.cells (p:Ply) (st gv:D):List D:=p.c.D ++ [st] ++ p.last.W ++ [gv]
def Ply.P (p:Ply):List D:=p.cells (.rows 61 (p.steps.map Stp.D)) (.rows 2 (p.given.map hdE))
def Ply.H (p:Ply) (a b:Nat):List (Nat × Ob):=[(b,.row 2 (p.given.map hdE)),(a,.row 61 (p.steps.map Stp.D)),(0,.cells (p.cells (.own a) (.own b)))]
theorem upicked_code:cfun Tryz.prog [] 59=some ⟨(.seq (qR 0 [oK 4 0]) (.seq (qR 1 [oM 5 0,oM 6 1,oX 7 (.call 31 [(.t 5),(.t 6)]),oM 4 7]) .ret)),[(.t 4)],8⟩:=by kernel_rfl
theorem upicked_pf (n m:Int) (hn:InR n) (hm:1 ≤ m):PF Tryz.prog 59 [I n,I m] (I (pickedZ n m)):=by
 have h1:=picked_pf n m hn hm
 refine pO upicked_code [0,1,4] [] fun B hBN hB0 => ?_
 repeat' (first
  | simp
  | refine ⟨wcS ?_,?_⟩
  | (refine WCall.pf (h1) ?_ ?_ ?_ ?_;iterate 3 (solve|simp))
  | with_reducible refine aI ?_ ?_ ?_)
theorem event_chk {p:Ply} {k:Nat} (h:PV p k) (x a b c:Int):ChkE (eventP p x a b c):=by
 obtain ⟨h1,h2,h3,h4⟩:=h.hand a b c
 have q1:=pickedZ_range a 100 (by omega)
 have q2:=pickedZ_range a 30 (by omega)
 have q3:=pickedZ_range b 5 (by omega)
 have q4:=pickedZ_range c 8 (by omega)
 unfold eventP
 dsimp only
 split
 ·exact chk_open (by omega) (by omega)
 split
 ·exact chk_data h1 h2 h3 h4
 split
 ·exact chk_close h1 h2 h3 h4
 split
 ·exact chk_ans _ h1 h2 h3 h4
 split
 ·exact chk_join (by omega) (by omega) (by omega) (by omega) (by omega) (by omega)
 split
 ·exact chk_ret (by omega) (by omega) (by omega) (by omega)
 ·exact chk_tick
theorem event_in {p:Ply} {k:Nat} (h:PV p k) (x a b c:Int):EvIn (eventP p x a b c):=by
 obtain ⟨h1,h2,h3,h4⟩:=h.hand a b c
 have hc:=(event_chk h x a b c).1
 refine ⟨hc,?_,?_,?_,?_⟩
 all_goals
  unfold eventP
  dsimp only
  repeat' split
  all_goals first | assumption | simp[evOpen,evJoin,evRet,evTick]
def evOf (n:Int) (h:Int × Int) (a b c:Int):Evt:=
 if n < 6 then evOpen (pickedZ a 100) else if n=6 then evData h.1 h.2 else if n=7 then evClose h.1 h.2 else if n < 12 then evAns h.1 h.2 (decide (pickedZ b 2=0)) else if n < 14 then evJoin (pickedZ a 30) (pickedZ b 5) (1 + pickedZ c 8) else if n=14 then evRet (pickedZ a 30) (pickedZ b 5) else evTick
theorem kinds (n:Int) (h:Int × Int) (a b c:Int) :
  (decide (n < 6)=true ∧ decide (n=6)=false ∧ decide (n=7)=false ∧ decide (n < 12)=true ∧ decide (n < 14)=true ∧ decide (n=14)=false ∧ evOf n h a b c=evOpen (pickedZ a 100)) ∨
  (decide (n < 6)=false ∧ decide (n=6)=true ∧ decide (n=7)=false ∧ decide (n < 12)=true ∧ decide (n < 14)=true ∧ decide (n=14)=false ∧ evOf n h a b c=evData h.1 h.2) ∨
  (decide (n < 6)=false ∧ decide (n=6)=false ∧ decide (n=7)=true ∧ decide (n < 12)=true ∧ decide (n < 14)=true ∧ decide (n=14)=false ∧ evOf n h a b c=evClose h.1 h.2) ∨
  (decide (n < 6)=false ∧ decide (n=6)=false ∧ decide (n=7)=false ∧ decide (n < 12)=true ∧ decide (n < 14)=true ∧ decide (n=14)=false ∧ evOf n h a b c=evAns h.1 h.2 (decide (pickedZ b 2=0))) ∨
  (decide (n < 6)=false ∧ decide (n=6)=false ∧ decide (n=7)=false ∧ decide (n < 12)=false ∧ decide (n < 14)=true ∧ decide (n=14)=false ∧ evOf n h a b c=evJoin (pickedZ a 30) (pickedZ b 5) (1 + pickedZ c 8)) ∨
  (decide (n < 6)=false ∧ decide (n=6)=false ∧ decide (n=7)=false ∧ decide (n < 12)=false ∧ decide (n < 14)=false ∧ decide (n=14)=true ∧ evOf n h a b c=evRet (pickedZ a 30) (pickedZ b 5)) ∨
  (decide (n < 6)=false ∧ decide (n=6)=false ∧ decide (n=7)=false ∧ decide (n < 12)=false ∧ decide (n < 14)=false ∧ decide (n=14)=false ∧ evOf n h a b c=evTick):=by
 unfold evOf
 rcases (by omega:n < 6 ∨ n=6 ∨ n=7 ∨ (7 < n ∧ n < 12) ∨ (12 ≤ n ∧ n < 14) ∨ n=14 ∨ 14 < n) with q | q | q | q | q | q | q
 ·exact .inl ⟨decide_eq_true (by omega),decide_eq_false (by omega),decide_eq_false (by omega),decide_eq_true (by omega),decide_eq_true (by omega),decide_eq_false (by omega),by rw[if_pos (by omega)]⟩
 ·exact .inr (.inl ⟨decide_eq_false (by omega),decide_eq_true (by omega),decide_eq_false (by omega),decide_eq_true (by omega),decide_eq_true (by omega),decide_eq_false (by omega),by rw[if_neg (by omega),if_pos (by omega)]⟩)
 ·exact .inr (.inr (.inl ⟨decide_eq_false (by omega),decide_eq_false (by omega),decide_eq_true (by omega),decide_eq_true (by omega),decide_eq_true (by omega),decide_eq_false (by omega),by rw[if_neg (by omega),if_neg (by omega),if_pos (by omega)]⟩))
 ·exact .inr (.inr (.inr (.inl ⟨decide_eq_false (by omega),decide_eq_false (by omega),decide_eq_false (by omega),decide_eq_true (by omega),decide_eq_true (by omega),decide_eq_false (by omega),by rw[if_neg (by omega),if_neg (by omega),if_neg (by omega),if_pos (by omega)]⟩)))
 ·exact .inr (.inr (.inr (.inr (.inl ⟨decide_eq_false (by omega),decide_eq_false (by omega),decide_eq_false (by omega),decide_eq_false (by omega),decide_eq_true (by omega),decide_eq_false (by omega),by rw[if_neg (by omega),if_neg (by omega),if_neg (by omega),if_neg (by omega),if_pos (by omega)]⟩))))
 ·exact .inr (.inr (.inr (.inr (.inr (.inl ⟨decide_eq_false (by omega),decide_eq_false (by omega),decide_eq_false (by omega),decide_eq_false (by omega),decide_eq_false (by omega),decide_eq_true (by omega),by rw[if_neg (by omega),if_neg (by omega),if_neg (by omega),if_neg (by omega),if_neg (by omega),if_pos (by omega)]⟩)))))
 ·exact .inr (.inr (.inr (.inr (.inr (.inr (⟨decide_eq_false (by omega),decide_eq_false (by omega),decide_eq_false (by omega),decide_eq_false (by omega),decide_eq_false (by omega),decide_eq_false (by omega),by rw[if_neg (by omega),if_neg (by omega),if_neg (by omega),if_neg (by omega),if_neg (by omega),if_neg (by omega)]⟩))))))
theorem pevent_code:cfun Tryz.prog [] 41=some ⟨(.seq (qR 0 [oB 3 1,oX 4 (.alloc [qZ,qZ,qZ,qZ,qF,qZ,qZ,qZ])]) (.seq (.draw 1 (qN (oF 7 1 3) (qN (oL 8 1 7) (qN (oF 10 2 3) (qN (oL 11 1 10) (.two (qN (oX 9 (.call 59 [(.t 8),(kI 8)])) (.two (qN (oX 12 (.call 59 [(.t 11),(kI 3)])) (qN (oX 13 (.build [qZ,qZ] [(0,(1,(.t 9))),(1,(1,(.t 12)))])) (qN (oX 5 (.alloc [qZ,qZ])) (.one false (oS 2 5 13) .done)))) (.two (qN (oX 5 (.alloc [qZ,qZ])) (qN (oX 12 (.call 59 [(.t 11),(kI 3)])) (qN (oX 13 (.build [qZ,qZ] [(0,(1,(.t 9))),(1,(1,(.t 12)))])) (.one false (oS 2 5 13) .done)))) .top))) (.two (qN (oX 5 (.alloc [qZ,qZ])) (qN (oX 9 (.call 59 [(.t 8),(kI 8)])) (qN (oX 12 (.call 59 [(.t 11),(kI 3)])) (qN (oX 13 (.build [qZ,qZ] [(0,(1,(.t 9))),(1,(1,(.t 12)))])) (.one false (oS 2 5 13) .done))))) .top))))))) (.seq (.seq (qR 2 [oM 14 0,oN 15 14,oF 16 43 15,oL 17 1 16,oH 18 17,oX 19 (.bin .gtr (.t 18) (kI 0)),oM 20 19,oG 21 (.fad 3 (.t 3)) 20 true,oG 22 (.load false 1 (.t 21)) 20 true,oG 23 (.call 59 [(.t 22),(kI 9)]) 20 true,oG 24 (.bin .gtr (.t 23) (kI 0)) 20 true,oX 25 (.pick (.t 20) (.t 24) (.k qF))]) (.cond 25 (.draw 3 (qN (oM 26 0) (qN (oN 27 26) (qN (oF 28 43 27) (qN (oL 29 1 28) (qN (oM 30 0) (qN (oN 31 30) (qN (oF 32 43 31) (qN (oL 33 1 32) (qN (oH 34 33) (qN (oX 35 (.bin .sub (.t 34) (kI 1))) (qN (oF 36 1 3) (qN (oL 37 1 36) (qN (oM 38 0) (qN (oN 39 38) (qN (oF 40 43 39) (qN (oL 41 1 40) (qN (oH 42 41) (qN (oX 43 (.mn (.t 42) (kI 8))) (qN (oX 44 (.call 59 [(.t 37),(.t 43)])) (qN (oX 45 (.bin .sub (.t 35) (.t 44))) (qN (oI 46 2 29 45) (qN (oA 47 2 46) (.one false (oS 2 5 47) .done)))))))))))))))))))))))) .skip)) (.seq (.seq (qR 4 [oF 48 0 3,oL 49 1 48,oX 50 (.call 59 [(.t 49),(kI 20)]),oM 6 50]) (.block 0 (.seq (qR 5 [oM 52 6,oX 53 (.bin .lss (.t 52) (kI 6)),oM 51 53]) (.cond 51 (.seq (qR 6 [oF 54 1 3,oL 55 1 54,oX 56 (.call 59 [(.t 55),(kI 100)]),oX 57 (.build [qZ,qZ,qZ,qZ,qF,qZ,qZ,qZ] [(0,(1,(kI 1))),(1,(1,(.t 56)))]),oS 8 4 57]) .ret) (.seq (qR 7 [oM 59 6,oX 60 (.bin .eql (.t 59) (kI 6)),oM 58 60]) (.cond 58 (.seq (qR 8 [oF 61 0 5,oL 62 1 61,oF 63 1 5,oL 64 1 63,oX 65 (.build [qZ,qZ,qZ,qZ,qF,qZ,qZ,qZ] [(0,(1,(kI 2))),(2,(1,(.t 62))),(3,(1,(.t 64)))]),oS 8 4 65]) .ret) (.seq (qR 9 [oM 67 6,oX 68 (.bin .eql (.t 67) (kI 7)),oM 66 68]) (.cond 66 (.seq (qR 10 [oF 69 0 5,oL 70 1 69,oF 71 1 5,oL 72 1 71,oX 73 (.build [qZ,qZ,qZ,qZ,qF,qZ,qZ,qZ] [(0,(1,(kI 3))),(2,(1,(.t 70))),(3,(1,(.t 72)))]),oS 8 4 73]) .ret) (.seq (qR 11 [oM 75 6,oX 76 (.bin .lss (.t 75) (kI 12)),oM 74 76]) (.cond 74 (.seq (.draw 12 (qN (oF 77 0 5) (qN (oL 78 1 77) (qN (oF 79 1 5) (qN (oL 80 1 79) (qN (oF 81 2 3) (qN (oL 82 1 81) (qN (oX 83 (.call 59 [(.t 82),(kI 2)])) (qN (oX 84 (.bin .eql (.t 83) (kI 0))) (qN (oX 85 (.build [qZ,qZ,qZ,qZ,qF,qZ,qZ,qZ] [(0,(1,(kI 4))),(2,(1,(.t 78))),(3,(1,(.t 80))),(4,(1,(.t 84)))])) (.one false (oS 8 4 85) .done))))))))))) .ret) (.seq (qR 13 [oM 87 6,oX 88 (.bin .lss (.t 87) (kI 14)),oM 86 88]) (.cond 86 (.seq (.draw 14 (qN (oF 89 1 3) (qN (oL 90 1 89) (qN (oF 92 2 3) (qN (oL 93 1 92) (qN (oF 95 3 3) (qN (oL 96 1 95) (qN (oX 91 (.call 59 [(.t 90),(kI 30)])) (qN (oX 94 (.call 59 [(.t 93),(kI 5)])) (qN (oX 97 (.call 59 [(.t 96),(kI 8)])) (qN (oX 98 (.bin .add (kI 1) (.t 97))) (qN (oX 99 (.build [qZ,qZ,qZ,qZ,qF,qZ,qZ,qZ] [(0,(1,(kI 5))),(5,(1,(.t 91))),(6,(1,(.t 94))),(7,(1,(.t 98)))])) (.one false (oS 8 4 99) .done))))))))))))) .ret) (.seq (qR 15 [oM 101 6,oX 102 (.bin .eql (.t 101) (kI 14)),oM 100 102]) (.cond 100 (.seq (.draw 16 (qN (oF 103 1 3) (qN (oL 104 1 103) (qN (oF 106 2 3) (qN (oL 107 1 106) (qN (oX 105 (.call 59 [(.t 104),(kI 30)])) (qN (oX 108 (.call 59 [(.t 107),(kI 5)])) (qN (oX 109 (.build [qZ,qZ,qZ,qZ,qF,qZ,qZ,qZ] [(0,(1,(kI 6))),(5,(1,(.t 105))),(6,(1,(.t 108)))])) (.one false (oS 8 4 109) .done))))))))) .ret) .skip)))))))))))))) (.seq (qR 17 [oX 110 (.build [qZ,qZ,qZ,qZ,qF,qZ,qZ,qZ] [(0,(1,(kI 7)))]),oS 8 4 110]) .ret))))),[(.c 4 true 8)],111⟩:=by kernel_rfl
theorem pevent_pf (p:Ply) (x a b c:Int) (hx:InR x) (ha:InR a) (hb:InR b) (hc:InR c) (hl:p.given.length ≤ 1000000) :
  PF Tryz.prog 41 [.pc p.P,.agg [I x,I a,I b,I c]] (.agg (eventP p x a b c).D):=by
 have k1:=upicked_pf a 8 ha (by omega)
 have k2:=upicked_pf b 3 hb (by omega)
 have k3:=upicked_pf c 9 hc (by omega)
 have k4:=upicked_pf x 20 hx (by omega)
 have k5:=upicked_pf a 100 ha (by omega)
 have k6:=upicked_pf b 2 hb (by omega)
 have k7:=upicked_pf a 30 ha (by omega)
 have k8:=upicked_pf b 5 hb (by omega)
 have k9:=upicked_pf c 8 hc (by omega)
 have q9:=pickedZ_range c 8 (by omega)
 have i9:InR (1 + pickedZ c 8):=inW (by omega) (by omega)
 obtain ⟨P,hP⟩:∃ P,P=p.P:=⟨_,rfl⟩
 rw[← hP]
 have hP':=hP
 simp only[Ply.P,Ply.cells,Cfg.D,Gt.W,Gt.cells,List.cons_append,List.nil_append] at hP'
 obtain ⟨hd,hhd⟩:∃ hd,hd=handP p a b c:=⟨_,rfl⟩
 have hev:eventP p x a b c=evOf (pickedZ x 20) hd a b c:=by rw[hhd];rfl
 rw[hev]
 clear hev
 have key:(0 < p.given.length ∧ 0 < pickedZ c 9) ∨ ¬ (0 < p.given.length ∧ 0 < pickedZ c 9):=Decidable.em _
 generalize pickedZ x 20=n at k4 ⊢
 rcases key with hg | hg
 ·have hl0:0 < p.given.length:=hg.1
  have hmin:1 ≤ min (p.given.length:Int) 8:=by omega
  have k10:=upicked_pf a (min (p.given.length:Int) 8) ha hmin
  have q10:=pickedZ_range a (min (p.given.length:Int) 8) hmin
  obtain ⟨m,hm⟩:∃ m:Nat,pickedZ a (min (p.given.length:Int) 8)=m:=⟨(pickedZ a (min (p.given.length:Int) 8)).toNat,by omega⟩
  have hdj:hd=p.given.getD (p.given.length - 1 - m) (0,0):=by rw[hhd];unfold handP;rw[if_pos hg,hm,Int.toNat_natCast]
  rw[hm] at k10 q10
  obtain ⟨j,hj⟩:∃ j:Nat,(p.given.length:Int) - 1 - m=j:=⟨p.given.length - 1 - m,by omega⟩
  have hjl:j < p.given.length:=by omega
  have hje:p.given.length - 1 - m=j:=by omega
  rw[hje,getD_at _ hjl] at hdj
  have i1:InR ((p.given.length:Int) - 1):=inW (by omega) (by omega)
  have i2:InR (j:Int):=inW (by omega) (by omega)
  have hg1:=hg.2
  generalize pickedZ c 9=c9 at k3 hg1
  clear hhd hg
  rcases kinds n hd a b c with ⟨h1,h2,h3,h4,h5,h6,he⟩ | ⟨h1,h2,h3,h4,h5,h6,he⟩ | ⟨h1,h2,h3,h4,h5,h6,he⟩ | ⟨h1,h2,h3,h4,h5,h6,he⟩ | ⟨h1,h2,h3,h4,h5,h6,he⟩ | ⟨h1,h2,h3,h4,h5,h6,he⟩ | ⟨h1,h2,h3,h4,h5,h6,he⟩
  all_goals
   rw[he]
   refine pO pevent_code [0,1,3,4,5,6,25,51,58,66,74,86,100] [] fun B hBN hB0 => ?_
   repeat' (first
    | simp[hP',hl0,hg1,hj,i1,i2,hjl,hdE,← hdj,h1,h2,h3,h4,h5,h6,i9,Evt.D,evOpen,evData,evClose,evAns,evJoin,evRet,evTick]
    | refine ⟨wcS ?_,?_⟩
    | (refine WCall.pf (k1) ?_ ?_ ?_ ?_;iterate 3 (solve|simp[hP',hl0,hg1,hj,i1,i2,hjl,hdE,← hdj,h1,h2,h3,h4,h5,h6,i9,Evt.D,evOpen,evData,evClose,evAns,evJoin,evRet,evTick]))
    | (refine WCall.pf (k2) ?_ ?_ ?_ ?_;iterate 3 (solve|simp[hP',hl0,hg1,hj,i1,i2,hjl,hdE,← hdj,h1,h2,h3,h4,h5,h6,i9,Evt.D,evOpen,evData,evClose,evAns,evJoin,evRet,evTick]))
    | (refine WCall.pf (k3) ?_ ?_ ?_ ?_;iterate 3 (solve|simp[hP',hl0,hg1,hj,i1,i2,hjl,hdE,← hdj,h1,h2,h3,h4,h5,h6,i9,Evt.D,evOpen,evData,evClose,evAns,evJoin,evRet,evTick]))
    | (refine WCall.pf (k4) ?_ ?_ ?_ ?_;iterate 3 (solve|simp[hP',hl0,hg1,hj,i1,i2,hjl,hdE,← hdj,h1,h2,h3,h4,h5,h6,i9,Evt.D,evOpen,evData,evClose,evAns,evJoin,evRet,evTick]))
    | (refine WCall.pf (k5) ?_ ?_ ?_ ?_;iterate 3 (solve|simp[hP',hl0,hg1,hj,i1,i2,hjl,hdE,← hdj,h1,h2,h3,h4,h5,h6,i9,Evt.D,evOpen,evData,evClose,evAns,evJoin,evRet,evTick]))
    | (refine WCall.pf (k6) ?_ ?_ ?_ ?_;iterate 3 (solve|simp[hP',hl0,hg1,hj,i1,i2,hjl,hdE,← hdj,h1,h2,h3,h4,h5,h6,i9,Evt.D,evOpen,evData,evClose,evAns,evJoin,evRet,evTick]))
    | (refine WCall.pf (k7) ?_ ?_ ?_ ?_;iterate 3 (solve|simp[hP',hl0,hg1,hj,i1,i2,hjl,hdE,← hdj,h1,h2,h3,h4,h5,h6,i9,Evt.D,evOpen,evData,evClose,evAns,evJoin,evRet,evTick]))
    | (refine WCall.pf (k8) ?_ ?_ ?_ ?_;iterate 3 (solve|simp[hP',hl0,hg1,hj,i1,i2,hjl,hdE,← hdj,h1,h2,h3,h4,h5,h6,i9,Evt.D,evOpen,evData,evClose,evAns,evJoin,evRet,evTick]))
    | (refine WCall.pf (k9) ?_ ?_ ?_ ?_;iterate 3 (solve|simp[hP',hl0,hg1,hj,i1,i2,hjl,hdE,← hdj,h1,h2,h3,h4,h5,h6,i9,Evt.D,evOpen,evData,evClose,evAns,evJoin,evRet,evTick]))
    | (refine WCall.pf (k10) ?_ ?_ ?_ ?_;iterate 3 (solve|simp[hP',hl0,hg1,hj,i1,i2,hjl,hdE,← hdj,h1,h2,h3,h4,h5,h6,i9,Evt.D,evOpen,evData,evClose,evAns,evJoin,evRet,evTick]))
    | with_reducible refine aI ?_ ?_ ?_)
 ·have hdj:hd=(pickedZ a 8,pickedZ b 3):=by rw[hhd];unfold handP;rw[if_neg hg]
  have hd1:pickedZ a 8=hd.1:=by rw[hdj]
  have hd2:pickedZ b 3=hd.2:=by rw[hdj]
  rw[hd1] at k1
  rw[hd2] at k2
  have hq9:=pickedZ_range c 9 (by omega)
  generalize pickedZ c 9=c9 at k3 hg hq9
  clear hhd hdj hd1 hd2
  have hcase:(p.given.length=0) ∨ (0 < p.given.length ∧ c9=0):=by omega
  rcases kinds n hd a b c with ⟨h1,h2,h3,h4,h5,h6,he⟩ | ⟨h1,h2,h3,h4,h5,h6,he⟩ | ⟨h1,h2,h3,h4,h5,h6,he⟩ | ⟨h1,h2,h3,h4,h5,h6,he⟩ | ⟨h1,h2,h3,h4,h5,h6,he⟩ | ⟨h1,h2,h3,h4,h5,h6,he⟩ | ⟨h1,h2,h3,h4,h5,h6,he⟩
  all_goals
   rw[he]
   refine pO pevent_code [0,1,3,4,5,6,25,51,58,66,74,86,100] [] fun B hBN hB0 => ?_
   rcases hcase with z0 | ⟨z0,z1⟩
   ·skip
    repeat' (first
     | simp[hP',z0,h1,h2,h3,h4,h5,h6,i9,Evt.D,evOpen,evData,evClose,evAns,evJoin,evRet,evTick]
     | refine ⟨wcS ?_,?_⟩
     | (refine WCall.pf (k1) ?_ ?_ ?_ ?_;iterate 3 (solve|simp[hP',z0,h1,h2,h3,h4,h5,h6,i9,Evt.D,evOpen,evData,evClose,evAns,evJoin,evRet,evTick]))
     | (refine WCall.pf (k2) ?_ ?_ ?_ ?_;iterate 3 (solve|simp[hP',z0,h1,h2,h3,h4,h5,h6,i9,Evt.D,evOpen,evData,evClose,evAns,evJoin,evRet,evTick]))
     | (refine WCall.pf (k3) ?_ ?_ ?_ ?_;iterate 3 (solve|simp[hP',z0,h1,h2,h3,h4,h5,h6,i9,Evt.D,evOpen,evData,evClose,evAns,evJoin,evRet,evTick]))
     | (refine WCall.pf (k4) ?_ ?_ ?_ ?_;iterate 3 (solve|simp[hP',z0,h1,h2,h3,h4,h5,h6,i9,Evt.D,evOpen,evData,evClose,evAns,evJoin,evRet,evTick]))
     | (refine WCall.pf (k5) ?_ ?_ ?_ ?_;iterate 3 (solve|simp[hP',z0,h1,h2,h3,h4,h5,h6,i9,Evt.D,evOpen,evData,evClose,evAns,evJoin,evRet,evTick]))
     | (refine WCall.pf (k6) ?_ ?_ ?_ ?_;iterate 3 (solve|simp[hP',z0,h1,h2,h3,h4,h5,h6,i9,Evt.D,evOpen,evData,evClose,evAns,evJoin,evRet,evTick]))
     | (refine WCall.pf (k7) ?_ ?_ ?_ ?_;iterate 3 (solve|simp[hP',z0,h1,h2,h3,h4,h5,h6,i9,Evt.D,evOpen,evData,evClose,evAns,evJoin,evRet,evTick]))
     | (refine WCall.pf (k8) ?_ ?_ ?_ ?_;iterate 3 (solve|simp[hP',z0,h1,h2,h3,h4,h5,h6,i9,Evt.D,evOpen,evData,evClose,evAns,evJoin,evRet,evTick]))
     | (refine WCall.pf (k9) ?_ ?_ ?_ ?_;iterate 3 (solve|simp[hP',z0,h1,h2,h3,h4,h5,h6,i9,Evt.D,evOpen,evData,evClose,evAns,evJoin,evRet,evTick]))
     | with_reducible refine aI ?_ ?_ ?_)
   ·skip
    repeat' (first
     | simp[hP',z0,z1,h1,h2,h3,h4,h5,h6,i9,Evt.D,evOpen,evData,evClose,evAns,evJoin,evRet,evTick]
     | refine ⟨wcS ?_,?_⟩
     | (refine WCall.pf (k1) ?_ ?_ ?_ ?_;iterate 3 (solve|simp[hP',z0,z1,h1,h2,h3,h4,h5,h6,i9,Evt.D,evOpen,evData,evClose,evAns,evJoin,evRet,evTick]))
     | (refine WCall.pf (k2) ?_ ?_ ?_ ?_;iterate 3 (solve|simp[hP',z0,z1,h1,h2,h3,h4,h5,h6,i9,Evt.D,evOpen,evData,evClose,evAns,evJoin,evRet,evTick]))
     | (refine WCall.pf (k3) ?_ ?_ ?_ ?_;iterate 3 (solve|simp[hP',z0,z1,h1,h2,h3,h4,h5,h6,i9,Evt.D,evOpen,evData,evClose,evAns,evJoin,evRet,evTick]))
     | (refine WCall.pf (k4) ?_ ?_ ?_ ?_;iterate 3 (solve|simp[hP',z0,z1,h1,h2,h3,h4,h5,h6,i9,Evt.D,evOpen,evData,evClose,evAns,evJoin,evRet,evTick]))
     | (refine WCall.pf (k5) ?_ ?_ ?_ ?_;iterate 3 (solve|simp[hP',z0,z1,h1,h2,h3,h4,h5,h6,i9,Evt.D,evOpen,evData,evClose,evAns,evJoin,evRet,evTick]))
     | (refine WCall.pf (k6) ?_ ?_ ?_ ?_;iterate 3 (solve|simp[hP',z0,z1,h1,h2,h3,h4,h5,h6,i9,Evt.D,evOpen,evData,evClose,evAns,evJoin,evRet,evTick]))
     | (refine WCall.pf (k7) ?_ ?_ ?_ ?_;iterate 3 (solve|simp[hP',z0,z1,h1,h2,h3,h4,h5,h6,i9,Evt.D,evOpen,evData,evClose,evAns,evJoin,evRet,evTick]))
     | (refine WCall.pf (k8) ?_ ?_ ?_ ?_;iterate 3 (solve|simp[hP',z0,z1,h1,h2,h3,h4,h5,h6,i9,Evt.D,evOpen,evData,evClose,evAns,evJoin,evRet,evTick]))
     | (refine WCall.pf (k9) ?_ ?_ ?_ ?_;iterate 3 (solve|simp[hP',z0,z1,h1,h2,h3,h4,h5,h6,i9,Evt.D,evOpen,evData,evClose,evAns,evJoin,evRet,evTick]))
     | with_reducible refine aI ?_ ?_ ?_)
theorem spared_tb (g:Gt) (b:Int):(g.spared b).tb=g.tb:=by unfold Gt.spared;split <;> rfl
theorem drop_tb (g:Gt) (i:Nat) (o:Outp):(g.drop i o).tb.length=g.tb.length:=by
 unfold Gt.drop;rw[spared_tb];simp[Gt.dropA]
theorem failed_tb (g:Gt) (i:Nat) (why:Int):(g.failed i why).tb.length=g.tb.length:=by
 unfold Gt.failed
 dsimp only
 split
 ·rw[drop_tb];rfl
 ·split
  ·rw[drop_tb];rfl
  ·split
   ·rw[spared_tb];simp[Gt.moved,Gt.note]
   ·simp[Gt.moved,Gt.note]
theorem off1_tb (g:Gt) (s:Int):(g.off1 s).tb.length=g.tb.length:=by
 unfold Gt.off1
 dsimp only
 split
 ·exact drop_tb _ _ _
 ·exact failed_tb _ _ _
theorem offs_out:∀ (l:List Int) (g:Gt),(g.offs l).out.length ≤ g.out.length + 2 * l.length ∧ (g.offs l).tb.length=g.tb.length
 | [],g => ⟨by simp[Gt.offs],rfl⟩
 | s :: l,g => by
  obtain ⟨h1,h2⟩:=offs_out l (g.off1 s)
  have h3:=off1_out g s
  have h4:=off1_tb g s
  simp only[Gt.offs,List.length_cons]
  exact ⟨by omega,by omega⟩
theorem cut1_out:∀ (l:List Hnd) (g:Gt),(g.cut1 l).out.length ≤ g.out.length + 2 * l.length ∧ (g.cut1 l).tb.length=g.tb.length
 | [],g => ⟨by simp[Gt.cut1],rfl⟩
 | s :: l,g => by
  obtain ⟨h1,h2⟩:=cut1_out l (g.drop (findF g.fl s.1).toNat (resetO 2))
  have h3:=drop_out g (findF g.fl s.1).toNat (resetO 2)
  have h4:=drop_tb g (findF g.fl s.1).toNat (resetO 2)
  simp only[Gt.cut1,List.length_cons]
  exact ⟨by omega,by omega⟩
theorem cuts_out:∀ (l:List Lif) (g:Gt),g.tb.length ≤ 40 → (g.cuts l).out.length ≤ g.out.length + 80 * l.length
 | [],g,_ => by simp[Gt.cuts]
 | x :: l,g,h => by
  unfold Gt.cuts
  split
  ·have:=cuts_out l g h
   simp only[List.length_cons];omega
  ·obtain ⟨h1,h2⟩:=cut1_out (ofL g.tb x.backend) g
   have h3:=cuts_out l (g.cut1 (ofL g.tb x.backend)) (by omega)
   have h4:(ofL g.tb x.backend).length ≤ 40:=by rw[ofL_len];exact Nat.le_trans (cntB_le _ _) h
   simp only[List.length_cons];omega
theorem tick_offs {g:Gt} {n:Nat} (h:Rest g n) (hn:n + 1 ≤ 1000000):Mid (g.tick0.offs (offM g)) (n + 1) (-1):=by
 have h0:=h.tick0 hn
 have hm:=h.mid
 have hoff:∀ s,s ∈ offM g ↔ ∃ f ∈ g.fl,f.due=g.now + 1 ∧ f.slot=s:=fun s => by
  unfold offM
  rw[List.mem_map]
  constructor
  ·rintro ⟨t,ht,rfl⟩
   obtain ⟨h1,h2⟩:=List.mem_filter.1 ht
   obtain ⟨f,hf,_,rfl⟩:=(hm.tt t).1 h1
   rw[hm.wn] at h2
   exact ⟨f,hf,by simpa using h2,rfl⟩
  ·rintro ⟨f,hf,h1,rfl⟩
   refine ⟨(f.due,f.slot),List.mem_filter.2 ⟨(hm.tt _).2 ⟨f,hf,by omega,rfl⟩,by rw[hm.wn];simp[h1]⟩,rfl⟩
 have hnd:(offM g).Nodup:=(hm.wh.ids).sublist (List.filter_sublist.map _)
 exact (offs_same (offM g) (g:=g.tick0) h0 hnd (fun s hs => by
  obtain ⟨f,hf,_,e⟩:=(hoff s).1 hs
  exact ⟨f,hf,e⟩) (fun f hf => by
  have:=h.late f hf
  rcases Int.lt_or_le (g.now + 1) f.due with h5 | h5
  ·exact .inl h5
  ·exact .inr ((hoff _).2 ⟨f,hf,by omega,rfl⟩))).1
theorem step_out {g:Gt} {n:Nat} (h:Rest g n) (ho:g.out=[]) (hn:n + 1 ≤ 1000000) (e:Evt):(g.step e).out.length ≤ 2000:=by
 have h0:g.out.length=0:=by rw[ho];rfl
 have ht40:=h.mid.tok.2.1
 unfold Gt.step
 split
 ·unfold Gt.opened
  split
  ·simp[Gt.put,ho]
  ·split
   ·simp[Gt.put,ho]
   ·simp[Gt.taken,ho]
 ·split
  ·unfold Gt.ask
   (try dsimp only)
   split
   ·simp[ho]
   ·split
    ·simp[Gt.put,ho]
    ·refine Nat.le_trans (spared_out _ _) ?_
     simp[ho]
  ·split
   ·have hf40:=fl_le h.mid.fs
    have htl:=h.tm_len
    have hol:(offM g).length ≤ 40:=by
     unfold offM
     rw[List.length_map]
     exact Nat.le_trans (List.length_filter_le ..) (by omega)
    obtain ⟨h1,h2⟩:=offs_out (offM g) g.tick0
    have h3:g.tick0.out=[]:=ho
    have h4:g.tick0.tb=g.tb:=rfl
    have hR:=h.tick hn
    have h5:=cuts_out (g.tick0.offs (offM g)).L (g.tick0.offs (offM g)) (by rw[h2,h4];exact ht40)
    have h6:(g.tick0.offs (offM g)).L.length ≤ 12:=by
     exact (tick_offs h hn).bk.ll
    unfold Gt.tick
    dsimp only
    rw[h3,List.length_nil] at h1
    omega
   ·unfold Gt.flow
    dsimp only
    split
    ·simp[Gt.put,ho]
    ·split
     ·exact Nat.le_trans (drop_out _ _ _) (by omega)
     ·split
      ·split <;> simp[Gt.put,Gt.dueA,ho]
      ·split
       ·simp[Gt.put,ho]
       ·split
        ·simp[Gt.put,Gt.dueA,Gt.note,Gt.served,ho]
        ·exact Nat.le_trans (failed_out _ _ _) (by omega)
theorem acc_take (l:List Outp) (i:Nat) (h:i < l.length):accM (l.take (i + 1))=accM (l.take i) ++ if l[i].kind=1 then [(l[i].slot,l[i].gen)] else []:=by
 unfold accM
 rw[List.take_succ_eq_append_getElem h,List.filter_append,List.map_append]
 split
 ·rename_i hs;simp[hs]
 ·rename_i hs;simp[hs]
theorem acc_len (l:List Outp):(accM l).length ≤ l.length:=by
 unfold accM
 rw[List.length_map]
 exact List.length_filter_le ..
structure PR (p:Ply) (k:Nat):Prop where
 inv:PV p k
 sl:p.steps.length ≤ k
 gl:p.given.length ≤ 2000 * k
theorem PR.act {p:Ply} {k:Nat} (h:PR p k) {e:Evt} (he:EvIn e) (hk:k + 1 ≤ 20000):PR (p.act e) (k + 1):=by
 have h1:=step_out h.inv.rest h.inv.lo (by omega) e
 have h2:=acc_len (p.last.step e).out
 have h3:=h.gl
 have h4:=h.sl
 exact ⟨h.inv.act he (by omega),by simp[Ply.act];omega,by simp[Ply.act];omega⟩
theorem pdo_code:cfun Tryz.prog [] 35=some ⟨(.seq (qR 0 [oB 3 1,oX 4 (.mov (.k qF))]) (.seq (.draw 1 (qN (oM 10 0) (qN (oN 11 10) (qN (oF 12 17 11) (qN (oA 13 26 12) (qN (oA 14 8 3) (.two (qN (oX 15 (.call 32 [(.t 13),(.t 14)])) (qN (oM 9 15) (qN (oE 16 9 0) (qN (oE 17 9 1) (qN (oE 18 9 2) (qN (oX 5 (.alloc [qZ,qZ,qZ,qZ,qZ,qZ,qZ,qZ,qZ,qZ,qZ,qZ,qZ,qZ,qZ,qZ,qZ,.nil0,.nil0,.nil0,.nil0,.nil0,.nil0,qZ,qZ,.nil0])) (.one false (oS 26 5 16) (qN (oM 6 17) (qN (oM 7 18) .done))))))))) (.two (qN (oX 5 (.alloc [qZ,qZ,qZ,qZ,qZ,qZ,qZ,qZ,qZ,qZ,qZ,qZ,qZ,qZ,qZ,qZ,qZ,.nil0,.nil0,.nil0,.nil0,.nil0,.nil0,qZ,qZ,.nil0])) (qN (oX 15 (.call 32 [(.t 13),(.t 14)])) (qN (oM 9 15) (qN (oE 16 9 0) (qN (oE 17 9 1) (qN (oE 18 9 2) (.one false (oS 26 5 16) (qN (oM 6 17) (qN (oM 7 18) .done))))))))) .top)))))))) (.seq (.seq (.draw 2 (qN (oM 19 7) (qN (oX 20 (.bin .neq (.t 19) (kI 0))) (qN (oM 21 20) (qN (oG 22 (.fad 17 (.t 5)) 21 false) (qN (oG 23 (.fad 0 (.t 22)) 21 false) (qN (oG 24 (.load false 1 (.t 23)) 21 false) (qN (oG 25 (.len (.t 24)) 21 false) (qN (oG 26 (.mov (.t 0)) 21 false) (qN (oG 27 (.nchk (.t 26)) 21 false) (qN (oG 28 (.fad 0 (.t 27)) 21 false) (qN (oG 29 (.fad 0 (.t 28)) 21 false) (qN (oG 30 (.load false 1 (.t 29)) 21 false) (qN (oG 31 (.bin .neq (.t 25) (.t 30)) 21 false) (qN (oX 32 (.pick (.t 21) (.k qT) (.t 31))) .done))))))))))))))) (.cond 32 (.seq (qR 3 [oX 4 (.mov (.k qF))]) .ret) .skip)) (.seq (.draw 4 (qN (oM 33 0) (qN (oM 34 0) (qN (oN 35 34) (qN (oF 36 16 35) (qN (oL 37 1 36) (qN (oA 38 8 3) (qN (oM 39 0) (qN (oN 40 39) (qN (oF 41 17 40) (qN (oA 42 26 41) (qN (oA 43 26 5) (qN (oM 44 6) (qN (oX 45 (.build [qZ,qZ,qZ,qZ,qF,qZ,qZ,qZ,qZ,qZ,qZ,qZ,qZ,qZ,qZ,qZ,qZ,qZ,qZ,qZ,qZ,qZ,qZ,qZ,qZ,.nil0,.nil0,.nil0,.nil0,.nil0,.nil0,qZ,qZ,.nil0,qZ,qZ,qZ,qZ,qZ,qZ,qZ,qZ,qZ,qZ,qZ,qZ,qZ,qZ,qZ,qZ,qZ,.nil0,.nil0,.nil0,.nil0,.nil0,.nil0,qZ,qZ,.nil0,.nil0] [(0,(8,(.t 38))),(8,(26,(.t 42))),(34,(26,(.t 43))),(60,(1,(.t 44)))])) (qN (oX 46 (.bslice 61 1 [qZ,qZ,qZ,qZ,qF,qZ,qZ,qZ,qZ,qZ,qZ,qZ,qZ,qZ,qZ,qZ,qZ,qZ,qZ,qZ,qZ,qZ,qZ,qZ,qZ,.nil0,.nil0,.nil0,.nil0,.nil0,.nil0,qZ,qZ,.nil0,qZ,qZ,qZ,qZ,qZ,qZ,qZ,qZ,qZ,qZ,qZ,qZ,qZ,qZ,qZ,qZ,qZ,.nil0,.nil0,.nil0,.nil0,.nil0,.nil0,qZ,qZ,.nil0,.nil0] [(0,(.t 45))])) (.one false (oX 47 (.app 61 728 [qZ,qZ,qZ,qZ,qF,qZ,qZ,qZ,qZ,qZ,qZ,qZ,qZ,qZ,qZ,qZ,qZ,qZ,qZ,qZ,qZ,qZ,qZ,qZ,qZ,.nil0,.nil0,.nil0,.nil0,.nil0,.nil0,qZ,qZ,.nil0,qZ,qZ,qZ,qZ,qZ,qZ,qZ,qZ,qZ,qZ,qZ,qZ,qZ,qZ,qZ,qZ,qZ,.nil0,.nil0,.nil0,.nil0,.nil0,.nil0,qZ,qZ,.nil0,.nil0] (.t 37) (.t 46))) (qN (oN 48 33) (qN (oF 49 16 48) (.one false (oS 1 49 47) .done))))))))))))))))))) (.seq (qR 5 [oM 50 0,oA 51 26 5,oN 52 50,oF 53 17 52,oS 26 53 51]) (.seq (.seq (qR 6 [oK 8 0]) (.block 0 (.loop (.seq (.seq (qR 7 [oM 54 8,oM 55 6,oH 56 55,oX 57 (.bin .lss (.t 54) (.t 56))]) (.cond 57 .skip (.exit 0))) (.seq (.block 1 (.seq (qR 9 [oM 60 6,oM 61 8,oI 62 7 60 61,oF 63 0 62,oL 64 1 63,oX 65 (.bin .eql (.t 64) (kI 1))]) (.cond 65 (.draw 10 (qN (oM 66 0) (qN (oM 67 0) (qN (oN 68 67) (qN (oF 69 43 68) (qN (oL 70 1 69) (qN (oM 71 6) (qN (oM 72 8) (qN (oI 73 7 71 72) (qN (oF 74 1 73) (qN (oL 75 1 74) (qN (oM 76 6) (qN (oM 77 8) (qN (oI 78 7 76 77) (qN (oF 79 2 78) (qN (oL 80 1 79) (qN (oX 81 (.build [qZ,qZ] [(0,(1,(.t 75))),(1,(1,(.t 80)))])) (qN (oX 82 (.bslice 2 1 [qZ,qZ] [(0,(.t 81))])) (.one false (oX 83 (.app 2 16 [qZ,qZ] (.t 70) (.t 82))) (qN (oN 84 66) (qN (oF 85 43 84) (.one false (oS 1 85 83) .done)))))))))))))))))))))) .skip))) (qR 8 [oM 58 8,oX 59 (.bin .add (.t 58) (kI 1)),oM 8 59])))))) (.seq (qR 11 [oX 4 (.mov (.k qT))]) .ret))))))),[(.t 4)],86⟩:=by kernel_rfl
theorem pdo_hf (p:Ply) (k:Nat) (e:Evt) (h:PR p k) (he:ChkE e) (hk:k + 1 ≤ 20000) :
  HF Tryz.prog 35 [.ptr 0 0,.agg e.D] (p.H 1 2) 3 (fun d H' nx' => d=.bool true ∧ H'=(p.act e).H 3 4 ∧ nx'=5):=by
 have hdo:=do_step p.last k e h.inv.rest h.inv.lo (by omega) he
 have hR2:=rest_step h.inv.rest h.inv.lo (by omega) he
 have hol:=step_out h.inv.rest h.inv.lo (by omega) e
 have hsl:=h.sl
 have hgl:=h.gl
 have hcf:=h.inv.cfg
 have hact:p.act e=⟨p.c,p.steps ++ [⟨e,p.last,(p.last.step e).clean,(p.last.step e).out⟩],(p.last.step e).clean,p.given ++ accM (p.last.step e).out⟩:=rfl
 rw[hact]
 have hcs:(p.last.step e).clean.c=p.c:=by
  have:=hR2.mid.tl
  rw[← hcf];exact step_c h.inv.rest he.1 (by omega)
 have htl:=hR2.mid.tl
 rw[hcs] at htl
 clear hact h he hR2
 generalize (p.last.step e).out=out at *
 generalize (p.last.step e).clean=G at *
 have hcap:(p.steps.length + 1) * 728 ≤ 140737488355328:=by omega
 refine HF.gh (R:=fun d H' nx' => d=.bool true ∧ ∃ a b,hget H' b=some (.row 2 ((p.given ++ accM out).map hdE)) ∧ hget H' a=some (.row 61 ((p.steps ++ [(⟨e,p.last,G,out⟩:Stp)]).map Stp.D)) ∧
  hget H' 0=some (.cells ((⟨p.c,[],G,[]⟩:Ply).cells (.own a) (.own b))) ∧ a ≠ 0 ∧ b ≠ 0 ∧ a ≠ b) ?_ ?_
 ·simp only[Gt.W,Gt.cells,Evt.D] at hdo
  unfold Ply.H Ply.cells
  simp only[Cfg.D,Gt.W,Gt.cells,List.cons_append,List.nil_append]
  refine hO (h3:=by simp[Evt.D]) pdo_code [0,1,3,4,5,6,7,8,32,57,65] [] fun B hBN hB0 => ?_
  repeat' (first
   | simp[Evt.D,htl,hcap]
   | refine ⟨wcS ?_,?_⟩
   | (refine WCall.pf (hdo) ?_ ?_ ?_ ?_;iterate 3 (solve|simp[Evt.D,htl,hcap]))
   | with_reducible refine aI ?_ ?_ ?_)
  all_goals
   refine W.loopS (fun y:Nat => ⟨[(8,I y),(6,.rows 7 (out.map Outp.D)),(0,.ptr 0 0)],[(4,.row 2 ((p.given ++ accM (out.take y)).map hdE)),(3,.row 61 ((p.steps ++ [(⟨e,p.last,G,out⟩:Stp)]).map Stp.D)),(0,.cells ((⟨p.c,[],G,[]⟩:Ply).cells (.own 3) (.own 4)))],5⟩)
    (fun m i => m=out.length - i ∧ i ≤ out.length) ?_ ?_
   ·first
     | exact ⟨_,0,(Gh.ren [0,1,2,6,2] (by simp[hB0]) (by simp[hB0] <;> decide) (by simp[Stp.D,Evt.D,Gt.W,Gt.cells,Ply.cells,Cfg.D,accM]) (by simp[Stp.D,Evt.D,Gt.W,Gt.cells,Ply.cells,Cfg.D,accM]) (.inl (by simp[Stp.D,Evt.D,Gt.W,Gt.cells,Ply.cells,Cfg.D,accM]))),rfl,by omega⟩
     | exact ⟨_,0,(Gh.ren [0,1,2,5,2] (by simp[hB0]) (by simp[hB0] <;> decide) (by simp[Stp.D,Evt.D,Gt.W,Gt.cells,Ply.cells,Cfg.D,accM]) (by simp[Stp.D,Evt.D,Gt.W,Gt.cells,Ply.cells,Cfg.D,accM]) (.inl (by simp[Stp.D,Evt.D,Gt.W,Gt.cells,Ply.cells,Cfg.D,accM]))),rfl,by omega⟩
     | exact ⟨_,0,(Gh.ren [0,1,2,7,2] (by simp[hB0]) (by simp[hB0] <;> decide) (by simp[Stp.D,Evt.D,Gt.W,Gt.cells,Ply.cells,Cfg.D,accM]) (by simp[Stp.D,Evt.D,Gt.W,Gt.cells,Ply.cells,Cfg.D,accM]) (.inl (by simp[Stp.D,Evt.D,Gt.W,Gt.cells,Ply.cells,Cfg.D,accM]))),rfl,by omega⟩
   rintro m i ⟨hm,hi⟩
   refine acode_sound [0,1,3,4,5,6,7,8,32,57,65] [] _ _ _ ?_
   (try dsimp only)
   by_cases hlt:i < out.length
   ·have hat:=acc_take out i hlt
    have hal:=acc_len (out.take i)
    rw[List.length_take] at hal
    obtain ⟨o,ho⟩:∃ o,o=out[i]:=⟨_,rfl⟩
    rw[← ho] at hat
    have ii:InR ((i:Int) + 1):=inW (by omega) (by omega)
    have hcap2:(p.given.length + (accM (out.take i)).length + 1) * 16 ≤ 140737488355328:=by omega
    by_cases k1:o.kind=1
    ·rw[if_pos k1] at hat
     simp[hlt,← ho,Outp.D,k1,ii,Ply.cells,Cfg.D,Gt.W,Gt.cells,hcap2]
     exact ⟨_,i + 1,(Gh.ren [0,1,2,3,6] (by simp[hB0]) (by simp[hB0] <;> decide) (by simp[Ply.cells,Cfg.D,Gt.W,Gt.cells,hat,hdE]) (by simp[Ply.cells,Cfg.D,Gt.W,Gt.cells,hat,hdE]) (.inl (by simp[Ply.cells,Cfg.D,Gt.W,Gt.cells,hat,hdE]))),by omega,rfl,by omega⟩
    ·rw[if_neg k1,List.append_nil] at hat
     simp[hlt,← ho,Outp.D,k1,ii,Ply.cells,Cfg.D,Gt.W,Gt.cells]
     exact ⟨_,i + 1,(Gh.ren [0,1,2,3,4] (by simp[hB0]) (by simp[hB0] <;> decide) (by simp[Ply.cells,Cfg.D,Gt.W,Gt.cells,hat]) (by simp[Ply.cells,Cfg.D,Gt.W,Gt.cells,hat]) (.inl (by simp[Ply.cells,Cfg.D,Gt.W,Gt.cells,hat]))),by omega,rfl,by omega⟩
   ·obtain rfl:i=out.length:=by omega
    rw[List.take_length]
    simp[Ply.cells,Cfg.D,Gt.W,Gt.cells]
    exact ⟨3,4,by simp⟩
 ·rintro B hB d H' nx' ⟨rfl,a,b,h1,h2,h3,h4,h5,h6⟩
  refine ⟨.bool true,Ply.H ⟨p.c,p.steps ++ [⟨e,p.last,G,out⟩],G,p.given ++ accM out⟩ 3 4,5,?_,by simp,rfl,rfl,rfl⟩
  exact Gh.ren [0,1,2,a,b] (by rw[hB];show 3 ≤ 5;omega) (fun id hid => by
   have:id=0 ∨ id=1 ∨ id=2:=by omega
   rcases this with rfl | rfl | rfl <;> rfl) (by simp)
   (by simp[Ply.H,Ply.cells,Cfg.D,Gt.W,Gt.cells] at h1 h2 h3 ⊢;simp[h1,h2,h3]) (.inl (by simp[Ply.H,h4,h5];exact fun e => h6 e.symm))
def plJ (c:Cfg):Nat → Ply
 | 0 => play0 c
 | b + 1 => (plJ c b).act (evJoin (1000 + b) b (2 + b))
theorem plJ_3 (c:Cfg):(plJ c 3).act evTick=play4 c:=rfl
theorem plJ_PR {c:Cfg} (h:c.Ok):∀ b,b ≤ 3 → PR (plJ c b) b
 | 0,_ => ⟨play0_pv h,by simp[plJ,play0],by simp[plJ,play0]⟩
 | b + 1,hb => (plJ_PR h b (by omega)).act (join_in (by omega) (by omega) (by omega) (by omega) (by omega) (by omega)) (by omega)
theorem play4_PR {c:Cfg} (h:c.Ok):PR (play4 c) 4:=by
 rw[← plJ_3]
 exact (plJ_PR h 3 (by omega)).act tick_in (by omega)
theorem deeds_snoc (p:Ply) (l:List (List Int)) (i:Nat) (h:i < l.length):deedsM p (l.take (i + 1))=(deedsM p (l.take i)).act (eventD (deedsM p (l.take i)) l[i]):=by
 unfold deedsM
 rw[List.take_succ_eq_append_getElem h,List.foldl_append]
 rfl
theorem deeds_PR {p:Ply} (h:PR p 4) (l:List (List Int)):∀ i,i ≤ l.length → i ≤ 100 → PR (deedsM p (l.take i)) (4 + i)
 | 0,_,_ => by simpa [deedsM] using h
 | i + 1,hi,hi2 => by
  have ih:=deeds_PR h l i (by omega) (by omega)
  rw[deeds_snoc p l i (by omega)]
  exact ih.act (event_in ih.inv _ _ _ _) (by omega)
theorem four {r:List Int} (h:r.length=4):∃ a b c d,r=[a,b,c,d]:=by
 match r,h with
 | [a,b,c,d],_ => exact ⟨_,_,_,_,rfl⟩
theorem played_code:cfun Tryz.prog [] 23=some ⟨(.seq (qR 0 [oB 3 0,oX 6 (.mov (.k .nilp)),oX 7 (.mov (.k qF))]) (.seq (qR 1 [oA 16 16 3,oX 17 (.call 30 [(.t 16)]),oX 8 (.alloc [qZ,qZ,qZ,qZ,qZ,qZ,qZ,qZ,qZ,qZ,qZ,qZ,qZ,qZ,qZ,qZ]),oS 16 8 17]) (.seq (qR 2 [oA 19 16 8,oX 20 (.call 29 [(.t 19)]),oM 18 20,oE 21 18 0,oE 22 18 1,oX 9 (.alloc [qZ,qZ,qZ,qZ,qZ,qZ,qZ,qZ,qZ,qZ,qZ,qZ,qZ,qZ,qZ,qZ,qZ,.nil0,.nil0,.nil0,.nil0,.nil0,.nil0,qZ,qZ,.nil0]),oS 26 9 21,oM 10 22]) (.seq (qR 3 [oA 23 16 8,oA 24 26 9,oX 25 (.build [qZ,qZ,qZ,qZ,qZ,qZ,qZ,qZ,qZ,qZ,qZ,qZ,qZ,qZ,qZ,qZ,.nil0,qZ,qZ,qZ,qZ,qZ,qZ,qZ,qZ,qZ,qZ,qZ,qZ,qZ,qZ,qZ,qZ,qZ,.nil0,.nil0,.nil0,.nil0,.nil0,.nil0,qZ,qZ,.nil0,.nil0] [(0,(16,(.t 23))),(17,(26,(.t 24)))]),oB 26 25,oM 11 26]) (.seq (.seq (qR 4 [oM 27 10,oX 28 (.bin .neq (.t 27) (kI 0)),oM 29 28,oG 30 (.fad 17 (.t 9)) 29 false,oG 31 (.fad 0 (.t 30)) 29 false,oG 32 (.load false 1 (.t 31)) 29 false,oG 33 (.len (.t 32)) 29 false,oG 34 (.fad 0 (.t 8)) 29 false,oG 35 (.load false 1 (.t 34)) 29 false,oG 36 (.bin .neq (.t 33) (.t 35)) 29 false,oX 37 (.pick (.t 29) (.k qT) (.t 36))]) (.cond 37 (.seq (qR 5 [oM 38 11,oM 6 38,oX 7 (.mov (.k qF))]) .ret) .skip)) (.seq (.seq (qR 6 [oK 12 0]) (.block 0 (.loop (.seq (.seq (qR 7 [oM 39 12,oX 40 (.bin .lss (.t 39) (kI 3))]) (.cond 40 .skip (.exit 0))) (.seq (.block 1 (.seq (qR 9 [oM 43 11,oM 44 12,oX 45 (.bin .add (kI 1000) (.t 44)),oM 46 12,oM 47 12,oX 48 (.bin .add (kI 2) (.t 47)),oX 49 (.build [qZ,qZ,qZ,qZ,qF,qZ,qZ,qZ] [(0,(1,(kI 5))),(5,(1,(.t 45))),(6,(1,(.t 46))),(7,(1,(.t 48)))]),oX 50 (.call 35 [(.t 43),(.t 49)]),oM 13 50]) (.seq (qR 10 [oM 51 13,oX 52 (.not (.t 51))]) (.cond 52 (.seq (qR 11 [oM 53 11,oM 6 53,oX 7 (.mov (.k qF))]) .ret) .skip)))) (qR 8 [oM 41 12,oX 42 (.bin .add (.t 41) (kI 1)),oM 12 42])))))) (.seq (qR 12 [oM 54 11,oX 55 (.build [qZ,qZ,qZ,qZ,qF,qZ,qZ,qZ] [(0,(1,(kI 7)))]),oX 56 (.call 35 [(.t 54),(.t 55)]),oM 14 56]) (.seq (.seq (qR 13 [oK 15 0]) (.block 2 (.loop (.seq (.seq (qR 14 [oM 57 15,oM 58 1,oH 59 58,oX 60 (.bin .lss (.t 57) (.t 59)),oM 61 60,oG 62 (.mov (.t 15)) 61 true,oG 63 (.mov (.t 2)) 61 true,oG 64 (.bin .lss (.t 62) (.t 63)) 61 true,oX 65 (.pick (.t 61) (.t 64) (.k qF)),oM 66 65,oG 67 (.mov (.t 14)) 66 true,oX 68 (.pick (.t 66) (.t 67) (.k qF))]) (.cond 68 .skip (.exit 2))) (.seq (.block 3 (qR 16 [oM 71 11,oM 72 11,oM 73 1,oM 74 15,oI 75 4 73 74,oA 76 4 75,oX 77 (.call 41 [(.t 72),(.t 76)]),oX 78 (.call 35 [(.t 71),(.t 77)]),oM 14 78])) (qR 15 [oM 69 15,oX 70 (.bin .add (.t 69) (kI 1)),oM 15 70])))))) (.seq (qR 17 [oM 79 11,oM 80 14,oM 6 79,oM 7 80]) .ret))))))))),[(.t 6),(.t 7)],81⟩:=by kernel_rfl
theorem played_hf (s:List Int) (l:List (List Int)) (most:Nat) (hs:s.length=16 ∧ ∀ z ∈ s,InR z) (hl:l.length ≤ Go.maxLen) (hr:∀ r ∈ l,r.length=4 ∧ ∀ z ∈ r,InR z) (hmo:most ≤ 100) :
  ∃ c:Cfg,c.Ok ∧ (s.getD 9 1=0 → c.c9=0) ∧ HF Tryz.prog 23 [.agg (s.map I),.rows 4 (l.map fun r => r.map I),I most] [] 0 (fun d H' nx' => d=.tup [.ptr 0 0,.bool true] ∧ H'=(playedM c l most).H 1 2 ∧ nx'=3):=by
 obtain ⟨hsl,hz⟩:=hs
 obtain ⟨a0,a1,a2,a3,a4,a5,a6,a7,a8,a9,a10,a11,a12,a13,a14,a15,rfl⟩:=sixteen hsl
 have h1:=config_pf a0 a1 a2 a3 a4 a5 a6 a7 a8 a9 a10 a11 a12 a13 a14 a15 (hz _ (by simp)) (hz _ (by simp)) (hz _ (by simp)) (hz _ (by simp)) (hz _ (by simp)) (hz _ (by simp)) (hz _ (by simp)) (hz _ (by simp)) (hz _ (by simp)) (hz _ (by simp)) (hz _ (by simp)) (hz _ (by simp)) (hz _ (by simp)) (hz _ (by simp)) (hz _ (by simp)) (hz _ (by simp))
 have ok:=cfgOf_ok a0 a1 a2 a3 a4 a5 a6 a7 a8 a9 a10 a11 a12 a13 a14 a15
 refine ⟨_,ok,fun h => by simp at h;simp[cfgOf,h,pickedZ],?_⟩
 generalize cfgOf a0 a1 a2 a3 a4 a5 a6 a7 a8 a9 a10 a11 a12 a13 a14 a15=c at h1 ok ⊢
 clear hz hsl
 have h2:=gbeg_pf c ok
 have htl:((begM c).tb.length:Int)=c.slots:=(beg_rest ok).mid.tl
 have hp0:plJ c 0=⟨c,[],begM c,[]⟩:=rfl
 have hjc:∀ b,(plJ c b).c=c:=fun b => by
  induction b with
  | zero => rfl
  | succ b ih => exact ih
 generalize begM c=g0 at h2 htl hp0
 simp only[Cfg.D] at h1 h2
 simp only[Gt.W,Gt.cells] at h2
 refine HF.gh (R:=fun d H' nx' => ∃ k a b,d=.tup [.ptr k 0,.bool true] ∧ hget H' b=some (.row 2 ((playedM c l most).given.map hdE)) ∧ hget H' a=some (.row 61 ((playedM c l most).steps.map Stp.D)) ∧
  hget H' k=some (.cells ((playedM c l most).cells (.own a) (.own b))) ∧ k ≠ a ∧ k ≠ b ∧ a ≠ b) ?_ ?_
 ·skip
  refine hO played_code [0,1,2,3,6,7,8,9,10,11,12,13,14,15,37,40,52,68] [6] fun B hBN hB0 => ?_
  repeat' (first
   | simp[htl]
   | refine ⟨wcS ?_,?_⟩
   | (refine WCall.pf (h1) ?_ ?_ ?_ ?_;iterate 3 (solve|simp[htl]))
   | (refine WCall.pf (h2) ?_ ?_ ?_ ?_;iterate 3 (solve|simp[htl]))
   | with_reducible refine aI ?_ ?_ ?_)
  refine W.gh (Gh.adoptC 3 16 61 (by omega) _ (by simp;rfl) (by simp)) ?_
  simp
  refine W.gh (Gh.adoptC 3 43 2 (by omega) _ (by simp;rfl) (by simp)) ?_
  simp
  refine acode_sound [0,1,2,3,6,7,8,9,10,11,12,13,14,15,37,40,52,68] [] _ _ _ ?_
  simp
  refine W.loopS (fun y:Nat => ⟨[(12,I y),(11,.ptr 0 0),(2,I most),(1,.rows 4 (l.map fun r => r.map I))],(plJ c y).H 1 2,3⟩)
   (fun m i => m=3 - i ∧ i ≤ 3) ?_ ?_
  ·exact ⟨_,0,(Gh.ren [3,4,5] (by simp[hB0]) (by simp[hB0] <;> decide) (by simp[hp0,Ply.H,Ply.cells,Cfg.D,Gt.W,Gt.cells]) (by simp[hp0,Ply.H,Ply.cells,Cfg.D,Gt.W,Gt.cells]) (.inl (by simp[hp0,Ply.H,Ply.cells,Cfg.D,Gt.W,Gt.cells]))),rfl,by omega⟩
  rintro m i ⟨hm,hi⟩
  refine acode_sound [0,1,2,3,6,7,8,9,10,11,12,13,14,15,37,40,52,68] [] _ _ _ ?_
  (try dsimp only)
  by_cases hlt:i < 3
  ·have hdo:=pdo_hf (plJ c i) i (evJoin (1000 + i) i (2 + i)) (plJ_PR ok i hi) (chk_join (by omega) (by omega) (by omega) (by omega) (by omega) (by omega)) (by omega)
   have hs:(plJ c i).act (evJoin (1000 + i) i (2 + i))=plJ c (i + 1):=rfl
   rw[hs] at hdo
   simp only[evJoin,Evt.D] at hdo
   have ii:InR ((i:Int) + 1):=inW (by omega) (by omega)
   have i2:InR (1000 + (i:Int)):=inW (by omega) (by omega)
   have i3:InR (2 + (i:Int)):=inW (by omega) (by omega)
   have hltI:(i:Int) < 3:=by omega
   simp[hltI,i2,i3]
   unfold Ply.H at hdo ⊢
   refine WCall.hf [0,1,2] (hdo) (by simp) rfl rfl (by decide) (by simp) (by simp[Ply.cells,Cfg.D,Gt.W,Gt.cells]) (by simp[Ply.cells,Cfg.D,Gt.W,Gt.cells]) (by simp[Ply.cells,Cfg.D,Gt.W,Gt.cells]) (by simp[Ply.cells,Cfg.D,Gt.W,Gt.cells]) ?_
   rintro d H' nx' ⟨rfl,rfl,rfl⟩
   simp[ii]
   exact ⟨_,i + 1,(Gh.ren [0,3,4] (by simp[hB0]) (by simp[hB0] <;> decide) (by simp[Ply.H,Ply.cells,Cfg.D,Gt.W,Gt.cells]) (by simp[Ply.H,Ply.cells,Cfg.D,Gt.W,Gt.cells]) (.inl (by simp[Ply.H,Ply.cells,Cfg.D,Gt.W,Gt.cells]))),by omega,rfl,by omega⟩
  obtain rfl:i=3:=by omega
  have hdo:=pdo_hf (plJ c 3) 3 evTick (plJ_PR ok 3 hi) chk_tick (by omega)
  rw[plJ_3] at hdo
  simp only[evTick,Evt.D] at hdo
  have hp4:=play4_PR ok
  generalize plJ c 3=p3 at hdo ⊢
  simp
  unfold Ply.H at hdo ⊢
  refine WCall.hf [0,1,2] (hdo) (by simp) rfl rfl (by decide) (by simp) (by simp[Ply.cells,Cfg.D,Gt.W,Gt.cells]) (by simp[Ply.cells,Cfg.D,Gt.W,Gt.cells]) (by simp[Ply.cells,Cfg.D,Gt.W,Gt.cells]) (by simp[Ply.cells,Cfg.D,Gt.W,Gt.cells]) ?_
  rintro d H' nx' ⟨rfl,rfl,rfl⟩
  simp
  have hpc:∀ i,i ≤ l.length → i ≤ 100 → PR (deedsM (play4 c) (l.take i)) (4 + i):=fun i h1 h2 => deeds_PR hp4 l i h1 h2
  have hz0:deedsM (play4 c) []=play4 c:=rfl
  have hpl:playedM c l most=deedsM (play4 c) (l.take most):=rfl
  refine W.loopS (fun y:Nat => ⟨[(15,I y),(14,.bool true),(11,.ptr 0 0),(2,I most),(1,.rows 4 (l.map fun r => r.map I))],(deedsM (play4 c) (l.take y)).H 1 2,3⟩)
   (fun m i => m=l.length - i ∧ i ≤ l.length ∧ i ≤ most) ?_ ?_
  ·exact ⟨_,0,(Gh.ren [0,3,4] (by simp[hB0]) (by simp[hB0] <;> decide) (by simp[hz0,Ply.H,Ply.cells,Cfg.D,Gt.W,Gt.cells]) (by simp[hz0,Ply.H,Ply.cells,Cfg.D,Gt.W,Gt.cells]) (.inl (by simp[hz0,Ply.H,Ply.cells,Cfg.D,Gt.W,Gt.cells]))),rfl,by omega,by omega⟩
  clear hdo hz0 hp4
  rintro m i ⟨hm,hi,hi2⟩
  refine acode_sound [0,1,2,3,6,7,8,9,10,11,12,13,14,15,37,40,52,68] [] _ _ _ ?_
  (try dsimp only)
  by_cases hlt:i < l.length
  ·by_cases hlm:i < most
   ·have hPR:=hpc i hi (by omega)
    have hsn:=deeds_snoc (play4 c) l i hlt
    obtain ⟨hr4,hrz⟩:=hr _ (List.getElem_mem hlt)
    obtain ⟨r,hre⟩:∃ r,r=l[i]:=⟨_,rfl⟩
    rw[← hre] at hsn hr4 hrz
    obtain ⟨x,a,b,d,rfl⟩:=four hr4
    generalize deedsM (play4 c) (l.take i)=p at hPR hsn ⊢
    have hev:=pevent_pf p x a b d (hrz _ (by simp)) (hrz _ (by simp)) (hrz _ (by simp)) (hrz _ (by simp)) (by have:=hPR.gl;omega)
    have hchk:=event_chk hPR.inv x a b d
    have heD:eventD p [x,a,b,d]=eventP p x a b d:=rfl
    rw[heD] at hsn
    generalize eventP p x a b d=e at hev hchk hsn
    have hdo:=pdo_hf p (4 + i) e hPR hchk (by omega)
    rw[← hsn] at hdo
    have ii:InR ((i:Int) + 1):=inW (by omega) (by omega)
    simp only[Ply.P,Ply.cells,Cfg.D,Gt.W,Gt.cells,Evt.D,List.cons_append,List.nil_append] at hev
    simp only[Ply.H,Ply.cells,Cfg.D,Gt.W,Gt.cells,Evt.D,List.cons_append,List.nil_append] at hdo
    simp only[Ply.H,Ply.cells,Cfg.D,Gt.W,Gt.cells,List.cons_append,List.nil_append]
    repeat' (first
     | simp[hlt,hlm,← hre]
     | refine ⟨wcS ?_,?_⟩
     | (refine WCall.pf (hev) ?_ ?_ ?_ ?_;iterate 3 (solve|simp[hlt,hlm,← hre]))
     | with_reducible refine aI ?_ ?_ ?_)
    refine WCall.hf [0,1,2] (hdo) (by simp) rfl rfl (by decide) (by simp) (by simp[Ply.cells,Cfg.D,Gt.W,Gt.cells]) (by simp[Ply.cells,Cfg.D,Gt.W,Gt.cells]) (by simp[Ply.cells,Cfg.D,Gt.W,Gt.cells]) (by simp[Ply.cells,Cfg.D,Gt.W,Gt.cells]) ?_
    rintro d H' nx' ⟨rfl,rfl,rfl⟩
    simp[ii]
    exact ⟨_,i + 1,(Gh.ren [0,3,4] (by simp[hB0]) (by simp[hB0] <;> decide) (by simp[Ply.H,Ply.cells,Cfg.D,Gt.W,Gt.cells]) (by simp[Ply.H,Ply.cells,Cfg.D,Gt.W,Gt.cells]) (.inl (by simp[Ply.H,Ply.cells,Cfg.D,Gt.W,Gt.cells]))),by omega,rfl,by omega,by omega⟩
   ·obtain rfl:i=most:=by omega
    rw[← hpl]
    simp[hlt,hlm]
    exact ⟨1,2,by simp[Ply.H]⟩
  ·have hie:i=l.length:=by omega
   have htk:l.take i=l.take most:=by rw[hie,List.take_length,List.take_of_length_le (by omega)]
   rw[htk,← hpl]
   subst hie
   simp
   exact ⟨1,2,by simp[Ply.H]⟩
 ·rintro B hB d H' nx' ⟨k,a,b,rfl,h1,h2,h3,h4,h5,h6⟩
  refine ⟨.tup [.ptr 0 0,.bool true],(playedM c l most).H 1 2,3,?_,by simp,rfl,rfl,rfl⟩
  exact Gh.ren [k,a,b] (by rw[hB];show 0 ≤ 3;omega) (fun id hid => by rw[hB] at hid;omega) (by simp)
   (by simp[Ply.H,Ply.cells,Cfg.D,Gt.W,Gt.cells] at h1 h2 h3 ⊢;simp[h1,h2,h3]) (.inl (by simp[Ply.H];exact ⟨⟨fun e => h6 e.symm,fun e => h5 e.symm⟩,fun e => h4 e.symm⟩))
def flowsN (fl:List Flw) (b:Int):Nat:=fl.countP fun f => decide (f.backend=b)
theorem flows_take (fl:List Flw) (b:Int) (i:Nat) (h:i < fl.length):((flowsN (fl.take (i + 1)) b:Nat):Int)=(flowsN (fl.take i) b:Nat) + if fl[i].backend=b then 1 else 0:=by
 unfold flowsN
 rw[List.take_succ_eq_append_getElem h,List.countP_append,List.countP_cons,List.countP_nil]
 split <;> simp_all
theorem uflows_code:cfun Tryz.prog [] 27=some ⟨(.seq (qR 0 [oB 2 0,oK 4 0]) (.seq (qR 1 [oK 5 0]) (.seq (.seq (qR 2 [oK 6 0]) (.block 0 (.loop (.seq (.seq (qR 3 [oM 7 6,oF 8 18 2,oL 9 1 8,oH 10 9,oX 11 (.bin .lss (.t 7) (.t 10))]) (.cond 11 .skip (.exit 0))) (.seq (.block 1 (.seq (qR 5 [oF 14 18 2,oL 15 1 14,oM 16 6,oI 17 7 15 16,oF 18 3 17,oL 19 1 18,oM 20 1,oX 21 (.bin .eql (.t 19) (.t 20))]) (.cond 21 (qR 6 [oM 22 5,oX 23 (.bin .add (.t 22) (kI 1)),oM 5 23]) .skip))) (qR 4 [oM 12 6,oX 13 (.bin .add (.t 12) (kI 1)),oM 6 13])))))) (.seq (qR 7 [oM 24 5,oM 4 24]) .ret)))),[(.t 4)],25⟩:=by kernel_rfl
theorem uflows_pf (g:Gt) (b:Int) (hl:g.fl.length ≤ 1000000):PF Tryz.prog 27 [.agg g.W,I b] (I (flowsN g.fl b:Nat)):=by
 refine pO (h3:=by simp[Gt.W,Gt.cells]) uflows_code [0,1,2,4,5,6,11,21] [] fun B hBN hB0 => ?_
 simp[Gt.W,Gt.cells]
 refine W.loopS (fun y:Nat => ⟨[(6,I y),(5,I (flowsN (g.fl.take y) b:Nat)),(2,.ptr 0 0),(1,I b)],[(0,.cells g.W)],1⟩)
  (fun m i => m=g.fl.length - i ∧ i ≤ g.fl.length) ?_ ?_
 ·exact ⟨_,0,(gr0 [0] hB0 (by simp[Gt.W,Gt.cells,flowsN]) (by simp[Gt.W,Gt.cells,flowsN]) (.inl (by simp[Gt.W,Gt.cells,flowsN]))),rfl,by omega⟩
 rintro m i ⟨hm,hi⟩
 refine acode_sound [0,1,2,4,5,6,11,21] [] _ _ _ ?_
 (try dsimp only)
 by_cases hlt:i < g.fl.length
 ·have ht:=flows_take g.fl b i hlt
  have hle:flowsN (g.fl.take i) b ≤ (g.fl.take i).length:=List.countP_le_length
  rw[List.length_take] at hle
  obtain ⟨x,hx⟩:∃ x,x=g.fl[i]:=⟨_,rfl⟩
  rw[← hx] at ht
  have ii:InR ((i:Int) + 1):=inW (by omega) (by omega)
  have ic:InR ((flowsN (g.fl.take i) b:Int) + 1):=inW (by omega) (by omega)
  by_cases e:x.backend=b
  ·rw[if_pos e] at ht
   simp[Gt.W,Gt.cells,hlt,← hx,Flw.D,e,ii,ic]
   exact ⟨_,i + 1,(gr0 [0] hB0 (by simp[Gt.W,Gt.cells,ht]) (by simp[Gt.W,Gt.cells,ht]) (.inl (by simp[Gt.W,Gt.cells,ht]))),by omega,rfl,by omega⟩
  ·rw[if_neg e,Int.add_zero] at ht
   simp[Gt.W,Gt.cells,hlt,← hx,Flw.D,e,ii]
   exact ⟨_,i + 1,(gr0 [0] hB0 (by simp[Gt.W,Gt.cells,ht]) (by simp[Gt.W,Gt.cells,ht]) (.inl (by simp[Gt.W,Gt.cells,ht]))),by omega,rfl,by omega⟩
 ·obtain rfl:i=g.fl.length:=by omega
  rw[List.take_length]
  simp[Gt.W,Gt.cells]
def outsN (p:Ply) (i:Nat):List Outp:=((p.steps.take i).map (·.out)).flatten
theorem uouts_code:cfun Tryz.prog [] 37=some ⟨(.seq (qR 0 [oX 2 (.mov (.k .nil0))]) (.seq (qR 1 [oX 3 (.mov (.k .nil0))]) (.seq (.seq (qR 2 [oK 4 0]) (.block 0 (.loop (.seq (.seq (qR 3 [oM 5 4,oM 6 0,oN 7 6,oF 8 16 7,oL 9 1 8,oH 10 9,oX 11 (.bin .lss (.t 5) (.t 10))]) (.cond 11 .skip (.exit 0))) (.seq (.block 1 (qR 5 [oM 14 3,oM 15 0,oN 16 15,oF 17 16 16,oL 18 1 17,oM 19 4,oI 20 61 18 19,oF 21 60 20,oL 22 1 21,oX 23 (.app 7 56 [qZ,qZ,qZ,qZ,qZ,qZ,qZ] (.t 14) (.t 22)),oM 3 23])) (qR 4 [oM 12 4,oX 13 (.bin .add (.t 12) (kI 1)),oM 4 13])))))) (.seq (qR 6 [oM 24 3,oM 2 24]) .ret)))),[(.t 2)],25⟩:=by kernel_rfl
theorem uouts_pf (p:Ply) (hl:p.steps.length ≤ 100000) (ho:(outsP p).length ≤ 100000000):PF Tryz.prog 37 [.pc p.P] (.rows 7 ((outsP p).map Outp.D)):=by
 obtain ⟨P,hP⟩:∃ P,P=p.P:=⟨_,rfl⟩
 rw[← hP]
 have hP':=hP
 simp only[Ply.P,Ply.cells,Cfg.D,Gt.W,Gt.cells,List.cons_append,List.nil_append] at hP'
 have hot:∀ i,(h:i < p.steps.length) → outsN p (i + 1)=outsN p i ++ p.steps[i].out:=fun i h => by
  unfold outsN
  rw[List.take_succ_eq_append_getElem h,List.map_append,List.flatten_append];simp
 have hle:∀ i,(outsN p i).length ≤ (outsP p).length:=fun i => by
  unfold outsN
  have e:outsP p=((p.steps.take i).map (·.out)).flatten ++ ((p.steps.drop i).map (·.out)).flatten:=by
   unfold outsP
   rw[← List.flatten_append,← List.map_append,List.take_append_drop]
  rw[e,List.length_append];omega
 have hall:outsP p=outsN p p.steps.length:=by unfold outsN;rw[List.take_length];rfl
 have hz:outsN p 0=[]:=rfl
 refine pO uouts_code [0,2,3,4,11] [] fun B hBN hB0 => ?_
 simp
 refine W.loopS (fun y:Nat => ⟨[(4,I y),(3,.own 0),(0,.pc P)],[(0,.row 7 ((outsN p y).map Outp.D))],1⟩)
  (fun m i => m=p.steps.length - i ∧ i ≤ p.steps.length) ?_ ?_
 ·refine ⟨_,0,(Gh.adopt 3 7 (by omega) (by simp)).trans ?_,rfl,by omega⟩
  simp
  exact (gr0 [0] hB0 (by simp[hz]) (by simp[hz]) (.inl (by simp[hz])))
 rintro m i ⟨hm,hi⟩
 refine acode_sound [0,2,3,4,11] [] _ _ _ ?_
 (try dsimp only)
 by_cases hlt:i < p.steps.length
 ·have ho1:=hot i hlt
  have hle1:=hle (i + 1)
  rw[ho1,List.length_append] at hle1
  generalize outsN p i=acc at ho1 hle1 ⊢
  obtain ⟨s,hs⟩:∃ s,s=p.steps[i]:=⟨_,rfl⟩
  rw[← hs] at ho1 hle1
  have hsD:s.D[60]? = some (.rows 7 (s.out.map Outp.D)):=rfl
  have hsD2:∀ h,s.D[60]'h=.rows 7 (s.out.map Outp.D):=fun _ => rfl
  have ii:InR ((i:Int) + 1):=inW (by omega) (by omega)
  have hcap:(acc.length + s.out.length) * 56 ≤ 140737488355328:=by omega
  simp[hP',hlt,← hs,Stp.D,Evt.D,Gt.W,Gt.cells,ii,hcap]
  rw[← hP']
  exact ⟨fun _ _ => rfl,_,i + 1,(gr0 [1] hB0 (by simp[ho1]) (by simp[ho1]) (.inl (by simp[ho1]))),by omega,rfl,by omega⟩
 ·obtain rfl:i=p.steps.length:=by omega
  rw[← hall]
  simp[hP']
end Go.Proofs.YtibemmkfcjlmpaaGreat
namespace Go.Proofs.YtibemmkfcjlmpaaGreat
open Go.RowKit
theorem flat_le {α β:Type} (f:α → List β) (n:Nat):∀ l:List α,(∀ x ∈ l,(f x).length ≤ n) → ((l.map f).flatten).length ≤ n * l.length
 | [],_ => by simp
 | x :: l,h => by
  have h1:=h x (by simp)
  have h2:=flat_le f n l fun y hy => h y (by simp[hy])
  simp only[List.map_cons,List.flatten_cons,List.length_append,List.length_cons,Nat.mul_add,Nat.mul_one]
  omega
theorem outs_le {p:Ply} {k:Nat} (h:∀ s ∈ p.steps,StpOk p.c s k):(outsP p).length ≤ 2000 * p.steps.length:=
 flat_le _ _ _ fun s hs => by
  have hst:=h s hs
  obtain ⟨n,hn,hr1,_⟩:=hst.facts
  rw[hst.out]
  exact step_out hr1 hst.lo hn s.ev
theorem top_startI (s:List Int) (l:List (List Int)) (hs:s.length=16 ∧ ∀ z ∈ s,InR z) (hl:l.length ≤ Go.maxLen) (hr:∀ r ∈ l,r.length=4 ∧ ∀ z ∈ r,InR z) :
  ∃ (p:Ply) (k:Nat),p.c.Ok ∧ PInv p k ∧ PR p k ∧ k ≤ 64 ∧ (outsP p).length ≤ 1000000 ∧ HF Tryz.prog 23 [.agg (s.map I),.rows 4 (l.map fun r => r.map I),I 60] [] 0 (fun d H' nx' => d=.tup [.ptr 0 0,.bool true] ∧ H'=p.H 1 2 ∧ nx'=3):=by
 obtain ⟨c,hc,_,hpl⟩:=played_hf s l 60 hs hl hr (by omega)
 have hI:=played_inv hc l 60 (by omega)
 have hP:=deeds_PR (play4_PR hc) (l.take 60) (l.take 60).length (Nat.le_refl _) (by rw[List.length_take];omega)
 rw[List.take_length] at hP
 have hlt:(l.take 60).length ≤ 60:=by rw[List.length_take];omega
 have ho:=outs_le hI.sts
 have hsl:(playedM c l 60).steps.length ≤ 4 + (l.take 60).length:=hP.sl
 refine ⟨playedM c l 60,_,?_,hI,hP,by omega,by omega,hpl⟩
 have h1:=hI.cfg
 have h2:=hI.rest.mid.c
 rw[h1] at h2;exact h2
end Go.Proofs.YtibemmkfcjlmpaaGreat
namespace Go.Proofs.YtibemmkfcjlmpaaGreat
open Go.RowKit
attribute [local simp] AK_at acode_seq acode_region acode_draw acode_cond CB_u acode_block acode_loop acode_exit acode_scope acode_ret acode_skip seqQ_n seqQ_e seqQ_r blockQ_n blockQ_e blockQ_r TK_at OK_at SK_at aops_nil aops_cons asch_done asch_one asch_two asch_top astep aop_eq isLoud aloud aloud1 isWrite qv evS strip gof eget hget putO eput herase oks opnds gS afin afin0 binD arith D.cells takeD fillD keep trim envOf Fin aresl aresv resD argOk pickV isP deq deqs boundD slD lenD isT isSl ptrIds chunks mn_min mx_max splice_one splice_more Rbr_at Rfr_at frR frV frC flatC brwR brwV brwC omap leR leV leC leL leVL rnR rnV rnC rnO rho_0 hputs herases rnS LtS LtR LtV LtC LtO lget noV noC flatR flatV rho
attribute [local simp ↓] CB_t CB_f
theorem tcou_code:cfun Tryz.prog [] 22=some ⟨(.seq (qR 0 [oB 2 0,oX 4 (.mov (.k qF))]) (.seq (qR 1 [oA 18 16 2,oM 19 1,oX 20 (.call 23 [(.t 18),(.t 19),(kI 60)]),oM 17 20,oE 21 17 0,oE 22 17 1,oM 5 21,oM 6 22]) (.seq (qR 2 [oM 23 5,oX 24 (.call 37 [(.t 23)]),oM 7 24]) (.seq (qR 3 [oM 26 7,oX 27 (.call 36 [(.t 26)]),oM 25 27,oE 28 25 0,oE 29 25 1,oM 8 28,oM 9 29]) (.seq (qR 4 [oM 31 5,oN 32 31,oF 33 17 32,oF 34 17 33,oA 35 1 34,oX 36 (.call 39 [(.t 35)]),oM 30 36,oE 37 30 0,oE 38 30 1,oM 10 37,oM 11 38]) (.seq (qR 5 [oX 12 (.mov (.k .nil0))]) (.seq (.seq (qR 6 [oK 13 0]) (.block 0 (.loop (.seq (.seq (qR 7 [oM 39 13,oM 40 7,oH 41 40,oX 42 (.bin .lss (.t 39) (.t 41))]) (.cond 42 .skip (.exit 0))) (.seq (.block 1 (.seq (qR 9 [oM 45 7,oM 46 13,oI 47 7 45 46,oF 48 0 47,oL 49 1 48,oX 50 (.bin .eql (.t 49) (kI 1)),oM 51 50,oG 52 (.mov (.t 7)) 51 false,oG 53 (.mov (.t 13)) 51 false,oG 54 (.iads 7 (.t 52) (.t 53)) 51 false,oG 55 (.fad 0 (.t 54)) 51 false,oG 56 (.load false 1 (.t 55)) 51 false,oG 57 (.bin .eql (.t 56) (kI 5)) 51 false,oX 58 (.pick (.t 51) (.k qT) (.t 57)),oM 59 58,oG 60 (.mov (.t 7)) 59 false,oG 61 (.mov (.t 13)) 59 false,oG 62 (.iads 7 (.t 60) (.t 61)) 59 false,oG 63 (.fad 0 (.t 62)) 59 false,oG 64 (.load false 1 (.t 63)) 59 false,oG 65 (.bin .eql (.t 64) (kI 6)) 59 false,oX 66 (.pick (.t 59) (.k qT) (.t 65)),oM 67 66,oG 68 (.mov (.t 7)) 67 false,oG 69 (.mov (.t 13)) 67 false,oG 70 (.iads 7 (.t 68) (.t 69)) 67 false,oG 71 (.fad 0 (.t 70)) 67 false,oG 72 (.load false 1 (.t 71)) 67 false,oG 73 (.bin .eql (.t 72) (kI 7)) 67 false,oX 74 (.pick (.t 67) (.k qT) (.t 73))]) (.cond 74 (qR 10 [oM 75 12,oM 76 7,oM 77 13,oI 78 7 76 77,oA 79 7 78,oX 80 (.bslice 7 1 [qZ,qZ,qZ,qZ,qZ,qZ,qZ] [(0,(.t 79))]),oX 81 (.app 7 56 [qZ,qZ,qZ,qZ,qZ,qZ,qZ] (.t 75) (.t 80)),oM 12 81]) .skip))) (qR 8 [oM 43 13,oX 44 (.bin .add (.t 43) (kI 1)),oM 13 44])))))) (.seq (qR 11 [oM 83 12,oX 84 (.call 40 [(.t 83)]),oM 82 84,oE 85 82 0,oE 86 82 1,oM 14 85,oM 15 86]) (.seq (.seq (qR 12 [oM 87 6,oX 88 (.not (.t 87)),oM 89 88,oG 90 (.mov (.t 9)) 89 false,oG 91 (.bin .neq (.t 90) (kI 0)) 89 false,oX 92 (.pick (.t 89) (.k qT) (.t 91)),oM 93 92,oG 94 (.mov (.t 11)) 93 false,oG 95 (.bin .neq (.t 94) (kI 0)) 93 false,oX 96 (.pick (.t 93) (.k qT) (.t 95)),oM 97 96,oG 98 (.mov (.t 15)) 97 false,oG 99 (.bin .neq (.t 98) (kI 0)) 97 false,oX 100 (.pick (.t 97) (.k qT) (.t 99)),oM 101 100,oG 102 (.mov (.t 8)) 101 false,oG 103 (.mov (.t 5)) 101 false,oG 104 (.nchk (.t 103)) 101 false,oG 105 (.fad 17 (.t 104)) 101 false,oG 106 (.fad 18 (.t 105)) 101 false,oG 107 (.load false 1 (.t 106)) 101 false,oG 108 (.len (.t 107)) 101 false,oG 109 (.bin .neq (.t 102) (.t 108)) 101 false,oX 110 (.pick (.t 101) (.k qT) (.t 109)),oM 111 110,oG 112 (.mov (.t 10)) 111 false,oG 113 (.len (.t 112)) 111 false,oG 114 (.mov (.t 14)) 111 false,oG 115 (.len (.t 114)) 111 false,oG 116 (.bin .neq (.t 113) (.t 115)) 111 false,oX 117 (.pick (.t 111) (.k qT) (.t 116)),oM 118 117,oG 119 (.mov (.t 10)) 118 false,oG 120 (.len (.t 119)) 118 false,oG 121 (.bin .neq (.t 120) (kI 12)) 118 false,oX 122 (.pick (.t 118) (.k qT) (.t 121))]) (.cond 122 (.seq (qR 13 [oX 4 (.mov (.k qF))]) .ret) .skip)) (.seq (.seq (qR 14 [oK 16 0]) (.block 2 (.loop (.seq (.seq (qR 15 [oM 123 16,oM 124 10,oH 125 124,oX 126 (.bin .lss (.t 123) (.t 125))]) (.cond 126 .skip (.exit 2))) (.seq (.block 3 (.seq (.draw 17 (qN (oM 129 10) (qN (oM 130 16) (qN (oI 131 1 129 130) (qN (oL 132 1 131) (qN (oM 133 14) (qN (oM 134 16) (qN (oI 135 1 133 134) (qN (oL 136 1 135) (qN (oX 137 (.bin .neq (.t 132) (.t 136))) (qN (oM 138 137) (qN (oG 139 (.mov (.t 10)) 138 false) (qN (oG 140 (.mov (.t 16)) 138 false) (qN (oG 141 (.iads 1 (.t 139) (.t 140)) 138 false) (qN (oG 142 (.load false 1 (.t 141)) 138 false) (qN (oG 143 (.mov (.t 5)) 138 false) (qN (oG 144 (.nchk (.t 143)) 138 false) (qN (oG 145 (.fad 17 (.t 144)) 138 false) (qN (oG 146 (.load true 26 (.t 145)) 138 false) (qN (oG 147 (.mov (.t 16)) 138 false) (qN (oG 148 (.call 27 [(.t 146),(.t 147)]) 138 false) (qN (oG 149 (.bin .neq (.t 142) (.t 148)) 138 false) (qN (oX 150 (.pick (.t 138) (.k qT) (.t 149))) .done))))))))))))))))))))))) (.cond 150 (.seq (qR 18 [oX 4 (.mov (.k qF))]) .ret) .skip))) (qR 16 [oM 127 16,oX 128 (.bin .add (.t 127) (kI 1)),oM 16 128])))))) (.seq (qR 19 [oM 151 8,oM 152 5,oN 153 152,oF 154 0 153,oF 155 0 154,oL 156 1 155,oX 157 (.bin .leq (.t 151) (.t 156)),oM 4 157]) .ret))))))))))),[(.t 4)],158⟩:=by kernel_rfl
theorem tcou_pf (s:List Int) (l:List (List Int)) (hs:s.length=16 ∧ ∀ z ∈ s,InR z) (hl:l.length ≤ Go.maxLen) (hr:∀ r ∈ l,r.length=4 ∧ ∀ z ∈ r,InR z) :
  PF Tryz.prog 22 [.agg (s.map I),.rows 4 (l.map fun r => r.map I)] (.bool true):=by
 obtain ⟨p,K,hc,hI,hR,hK64,hol,hpl⟩:=top_startI s l hs hl hr
 obtain ⟨a0,a1,a2,a3,a4,a5,a6,a7,a8,a9,a10,a11,a12,a13,a14,a15,rfl⟩:=sixteen hs.1
 have hgl:p.given.length ≤ 1000000:=by have:=hR.gl;omega
 have huo:=uouts_pf p (by have:=hR.sl;omega) (by omega)
 obtain ⟨P,hP⟩:∃ P,P=p.P:=⟨_,rfl⟩
 have hP':=hP
 simp only[Ply.P,Ply.cells,Cfg.D,Gt.W,Gt.cells,List.cons_append,List.nil_append] at hP'
 simp only[Ply.H,Ply.cells,Cfg.D,Gt.W,Gt.cells,List.cons_append,List.nil_append] at hpl
 refine pO tcou_code [0,1,2,4,5,6,7,8,9,10,11,12,13,14,15,16,42,74,122,126,150] [2] fun B hBN hB0 => ?_
 simp
 refine WCall.hf0 hpl (by simp) (by simp) (by simp) (by simp) ?_
 rintro d H' nx' ⟨rfl,rfl,rfl⟩
 simp
 refine W.freeze [1,2,3] ?_
 simp[freeze,hkeep,hdrop,fzS,fzR,fzV,fzC,fzO]
 rw[← hP']
 rw[← hP] at huo
 clear hpl hs hr hl
 obtain ⟨O,hO⟩:∃ O,O=outsP p:=⟨_,rfl⟩
 rw[← hO] at huo hol
 refine acode_sound [0,1,2,4,5,6,7,8,9,10,11,12,13,14,15,16,42,74,122,126,150] [] _ _ _ ?_
 repeat' (first
  | simp
  | refine ⟨wcS ?_,?_⟩
  | (refine WCall.pf (huo) ?_ ?_ ?_ ?_;iterate 3 (solve|simp))
  | with_reducible refine aI ?_ ?_ ?_)
 have hof:∀ o ∈ O,OutFits o:=fun o ho => (hI.oks o (hO ▸ ho)).by_.fits
 have hob:∀ o ∈ ownO O,OutBy o:=fun o ho => (hI.oks o (hO ▸ (List.mem_filter.1 ho).1)).by_
 have hol2:(ownO O).length ≤ O.length:=List.length_filter_le _ _
 have htl:=tlive_pf O (by omega) hof
 have hlv:=hI.live
 rw[← hO] at hlv
 rw[hlv] at htl
 unfold liveD at htl
 rw[if_neg (by omega)] at htl
 have htc:=tcounts_pf p.last.tb hI.rest.mid.tok
 have htb_pfn:=tby_pfn (ownO O) (by omega) hob
 have hfl:p.last.fl.length ≤ 40:=by have:=fl_le hI.rest.mid.fs;have:=hI.rest.mid.tok.2.1;omega
 have hfc:(p.last.fl.length:Int) ≤ p.c.slots:=by
  have h1:=fl_le hI.rest.mid.fs
  have h2:=hI.rest.mid.tl
  rw[hI.cfg] at h2;omega
 have hcl:(countsL p.last.tb).length=12:=by simp[countsL]
 have hcf:∀ b,b < 12 → (countsL p.last.tb).getD b 0=(flowsN p.last.fl b:Nat):=fun b hb => by
  have h1:=countsL_get p.last.tb b hb
  rw[zC,zE (by omega),Option.getD_some,h1,hI.rest.mid.fs.cnt]
  rfl
 have hby:byOut (byL (ownO O)).1=countsL p.last.tb:=by
  unfold byOut countsL
  refine List.map_congr_left fun b hb => ?_
  have h1:=hI.by_ b
  rw[← hO] at h1
  rw[h1,hI.rest.mid.fs.cnt];rfl
 rw[hby] at htb_pfn
 obtain ⟨C,hC⟩:∃ C,C=countsL p.last.tb:=⟨_,rfl⟩
 rw[← hC] at htc htb_pfn hcl hcf
 have hgi:C.map GI=C.map fun z => [I z]:=rfl
 rw[hgi] at htc
 have hC0:¬ (C=[]):=fun h => by rw[h] at hcl;cases hcl
 repeat' (first
  | simp[hP']
  | refine ⟨wcS ?_,?_⟩
  | (refine WCall.pf (htl) ?_ ?_ ?_ ?_;iterate 3 (solve|simp[hP']))
  | (refine WCall.pf (htc) ?_ ?_ ?_ ?_;iterate 3 (solve|simp[hP']))
  | with_reducible refine aI ?_ ?_ ?_)
 all_goals rw[← hP']
 all_goals refine W.loopS (fun y:Nat => ⟨[(13,I y),(12,.own 0),(11,I 0),(10,.rows 1 (C.map fun z => [I z])),(9,I 0),(8,I p.last.fl.length),(7,.rows 7 (O.map Outp.D)),(6,.bool true),(5,.pc P)],[(0,.row 7 ((ownO (O.take y)).map Outp.D))],1⟩) (fun m k => m=O.length - k ∧ k ≤ O.length) ?_ ?_
 ·refine ⟨_,0,(Gh.adopt 12 7 (by omega) (by simp)).trans ?_,rfl,by omega⟩
  simp
  exact (gr0 [4] hB0 (by simp[ownO]) (by simp[ownO]) (.inl (by simp[ownO])))
 rintro m2 k ⟨hm2,hk⟩
 refine acode_sound [0,1,2,4,5,6,7,8,9,10,11,12,13,14,15,16,42,74,122,126,150] [] _ _ _ ?_
 (try dsimp only)
 by_cases hlt:k < O.length
 ·have ik:InR ((k:Int) + 1):=inW (by omega) (by omega)
  have hs:ownO (O.take (k + 1))=ownO (O.take k) ++ if O[k].kind=1 ∨ O[k].kind=5 ∨ O[k].kind=6 ∨ O[k].kind=7 then [O[k]] else []:=by
   unfold ownO
   rw[List.take_succ_eq_append_getElem hlt,List.filter_append,List.filter_cons,List.filter_nil]
   simp only[decide_eq_true_eq]
  have hle:(ownO (O.take k)).length ≤ k:=by
   have h1:(ownO (O.take k)).length ≤ (O.take k).length:=List.length_filter_le _ _
   rw[List.length_take] at h1;omega
  generalize ownO (O.take k)=acc at hs hle ⊢
  obtain ⟨o,ho⟩:∃ o,o=O[k]:=⟨_,rfl⟩
  rw[← ho] at hs
  have hcap:(acc.length + 1) * 56 ≤ 140737488355328:=by omega
  by_cases k1:o.kind=1
  ·rw[if_pos (.inl k1)] at hs
   simp[hlt,← ho,Outp.D,k1,ik,hcap]
   exact ⟨_,k + 1,(gr0 [2] hB0 (by simp[hs,Outp.D,k1]) (by simp[hs,Outp.D,k1]) (.inl (by simp[hs,Outp.D,k1]))),by omega,rfl,by omega⟩
  by_cases k5:o.kind=5
  ·rw[if_pos (.inr (.inl k5))] at hs
   simp[hlt,← ho,Outp.D,k5,ik,hcap]
   exact ⟨_,k + 1,(gr0 [2] hB0 (by simp[hs,Outp.D,k5]) (by simp[hs,Outp.D,k5]) (.inl (by simp[hs,Outp.D,k5]))),by omega,rfl,by omega⟩
  by_cases k6:o.kind=6
  ·rw[if_pos (.inr (.inr (.inl k6)))] at hs
   simp[hlt,← ho,Outp.D,k6,ik,hcap]
   exact ⟨_,k + 1,(gr0 [2] hB0 (by simp[hs,Outp.D,k6]) (by simp[hs,Outp.D,k6]) (.inl (by simp[hs,Outp.D,k6]))),by omega,rfl,by omega⟩
  by_cases k7:o.kind=7
  ·rw[if_pos (.inr (.inr (.inr k7)))] at hs
   simp[hlt,← ho,Outp.D,k7,ik,hcap]
   exact ⟨_,k + 1,(gr0 [2] hB0 (by simp[hs,Outp.D,k7]) (by simp[hs,Outp.D,k7]) (.inl (by simp[hs,Outp.D,k7]))),by omega,rfl,by omega⟩
  rw[if_neg (by simp[k1,k5,k6,k7]),List.append_nil] at hs
  simp[hlt,← ho,Outp.D,k1,k5,k6,k7,ik]
  exact ⟨_,k + 1,(gr0 [0] hB0 (by simp[hs]) (by simp[hs]) (.inl (by simp[hs]))),by omega,rfl,by omega⟩
 obtain rfl:k=O.length:=by omega
 rw[List.take_length]
 repeat' (first
  | simp[hP',hcl,hC0]
  | refine ⟨wcS ?_,?_⟩
  | (refine WCall.pfn (htb_pfn) ?_ ?_ ?_;iterate 2 (solve|simp[hP',hcl,hC0]))
  | with_reducible refine aI ?_ ?_ ?_)
 all_goals rw[← hP']
 all_goals refine W.loopS (fun y:Nat => ⟨[(16,I y),(14,.rows 1 (C.map fun z => [I z])),(10,.rows 1 (C.map fun z => [I z])),(8,I p.last.fl.length),(5,.pc P)],[],0⟩) (fun m k => m=12 - k ∧ k ≤ 12) ?_ ?_
 ·exact ⟨_,0,(gr0 [] hB0 (by simp) (by simp) (.inr rfl)),rfl,by omega⟩
 clear hm2 hk hlt m2
 rintro m2 k ⟨hm2,hk⟩
 refine acode_sound [0,1,2,4,5,6,7,8,9,10,11,12,13,14,15,16,42,74,122,126,150] [] _ _ _ ?_
 (try dsimp only)
 by_cases hlt:k < 12
 ·have ik:InR ((k:Int) + 1):=inW (by omega) (by omega)
  have hz:(k:Int) < 12:=by omega
  have hu:=uflows_pf p.last k (by omega)
  have hck:=hcf k hlt
  have hkl:k < C.length:=by omega
  rw[zC,zE hkl,Option.getD_some] at hck
  have hP1:(P.drop 17).take 26=p.last.W:=by rw[hP'];rfl
  have hP2:P.length=44:=by rw[hP'];rfl
  simp[hP1,hP2,hlt,hkl,ik]
  refine WCall.pf (hu) ?_ ?_ ?_ ?_
  ·simp
  ·simp[Gt.W,Gt.cells]
  ·simp[Gt.W,Gt.cells]
  simp[hlt,hkl,ik,hck]
  exact ⟨_,k + 1,(gr0 [] hB0 (by simp) (by simp) (.inr rfl)),by omega,rfl,by omega⟩
 ·obtain rfl:k=12:=by omega
  have hn:¬ p.c.slots < (p.last.fl.length:Int):=by omega
  simp[hP',hcl,Cfg.D,hfc,hn]
end Go.Proofs.YtibemmkfcjlmpaaGreat
