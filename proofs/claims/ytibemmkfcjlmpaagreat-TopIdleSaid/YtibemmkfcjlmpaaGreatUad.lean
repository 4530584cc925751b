/- What the program computes, step by step, and the rules for it. No condition of its own. -/
import Derived.Test.YtibemmkfcjlmpaaGreatUac
import Derived.RangeFuncLeaves
import Derived.Shelf.Abstract
import Derived.WalkKit
import Derived.OwnWalkIn
import Derived.TacticsInMore
import Derived.LoopNIn
import Derived.LoopIn
import Derived.Maps.AppendAt
import Derived.Shelf.SlSortCmp.NoneTotal
import Derived.Shelf.SlicesG.Cmp
import Derived.Lib.Walk
import Derived.StillTailTactics
import Derived.RangeFuncNested
set_option linter.unusedSimpArgs false
set_option linter.unusedVariables false
set_option maxRecDepth 100000
set_option maxHeartbeats 8000000
namespace Go.Proofs.YtibemmkfcjlmpaaGreat
open Go.RowKit
attribute [local simp] AK_at acode_seq acode_region acode_draw acode_cond CB_u acode_block acode_loop acode_exit acode_scope acode_ret acode_skip seqQ_n seqQ_e seqQ_r blockQ_n blockQ_e blockQ_r TK_at OK_at SK_at aops_nil aops_cons asch_done asch_one asch_two asch_top astep aop_eq isLoud aloud aloud1 isWrite qv evS strip gof eget hget putO eput herase oks opnds gS afin afin0 binD arith D.cells takeD fillD keep trim envOf Fin aresl aresv resD argOk pickV isP deq deqs boundD slD lenD isT isSl ptrIds chunks mn_min mx_max splice_one splice_more Rbr_at Rfr_at frR frV frC flatC brwR brwV brwC omap leR leV leC leL leVL rnR rnV rnC rnO rho_0 hputs herases rnS LtS LtR LtV LtC LtO lget noV noC flatR flatV rho
attribute [local simp ↓] CB_t CB_f
theorem wadv_code : cfun Tryz.prog [] 91 = some ⟨(.seq (qR 0 [oB 1 0,oX 2 (.alloc [qZ,.nil0]),oX 3 (.mov (.k .nil0)),oK 4 0]) (.seq (qR 1 [oA 17 2 1,oX 18 (.call 106 [(.t 17)]),oM 16 18,oE 19 16 0,oE 20 16 1,oM 5 19,oM 6 20]) (.seq (.seq (qR 2 [oM 21 6,oX 22 (.bin .neq (.t 21) (kI 0))]) (.cond 22 (.seq (qR 3 [oX 23 (.build [qZ,.nil0] []),oM 24 6,oS 2 2 23,oX 3 (.mov (.k .nil0)),oM 4 24]) .ret) .skip)) (.seq (.seq (qR 4 [oF 25 0 1,oL 26 1 25,oX 27 (.bin .eql (.t 26) (kI 1099511627776))]) (.cond 27 (.seq (qR 5 [oX 28 (.build [qZ,.nil0] []),oS 2 2 28,oX 3 (.mov (.k .nil0)),oK 4 9]) .ret) .skip)) (.seq (qR 6 [oM 29 5,oN 30 29,oF 31 0 30,oF 32 0 31,oL 33 1 32,oX 34 (.bin .add (.t 33) (kI 1)),oN 35 29,oF 36 0 35,oF 37 0 36,oS 1 37 34]) (.seq (.seq (.draw 7 (qN (oX 38 (.build [qZ,qZ] [(0,(1,(kI 512))),(1,(1,(kI 24)))])) (qN (oM 39 5) (qN (oN 40 39) (qN (oF 41 0 40) (qN (oF 42 0 41) (qN (oL 43 1 42) (qN (oX 44 (.bin .quo (.t 43) (kI 64))) (qN (oX 45 (.bin .rem (.t 44) (kI 8))) (qN (oX 46 (.bin .add (kI 16) (.t 45))) (qN (oX 47 (.build [qZ,qZ] [(0,(1,(kI 64))),(1,(1,(.t 46)))])) (qN (oM 48 5) (qN (oN 49 48) (qN (oF 50 0 49) (qN (oF 51 0 50) (qN (oL 52 1 51) (qN (oX 53 (.bin .quo (.t 52) (kI 8))) (qN (oX 54 (.bin .rem (.t 53) (kI 8))) (qN (oX 55 (.bin .add (kI 8) (.t 54))) (qN (oX 56 (.build [qZ,qZ] [(0,(1,(kI 8))),(1,(1,(.t 55)))])) (qN (oX 57 (.build [qZ,qZ,qZ,qZ,qZ,qZ] [(0,(2,(.t 38))),(2,(2,(.t 47))),(4,(2,(.t 56)))])) (qN (oK 58 0) .done)))))))))))))))))))))) (.block 0 (.loop (.seq (qR 8 [oX 59 (.bin .lss (.t 58) (kI 3))]) (.seq (.cond 59 .skip (.exit 0)) (.seq (.block 1 (.seq (qR 9 [oX 60 (.ida true 3 2 (.t 57) (.t 58)),oX 8 (.alloc [qZ,qZ]),oS 2 8 60]) (.seq (.seq (.draw 10 (qN (oM 61 5) (qN (oN 62 61) (qN (oF 63 0 62) (qN (oF 64 0 63) (qN (oL 65 1 64) (qN (oF 66 0 8) (qN (oL 67 1 66) (qN (oX 68 (.bin .rem (.t 65) (.t 67))) (qN (oX 69 (.bin .neq (.t 68) (kI 0))) .done)))))))))) (.cond 69 (.exit 1) .skip)) (.seq (.draw 11 (qN (oM 70 5) (qN (oN 71 70) (qN (oF 72 0 71) (qN (oF 73 1 72) (qN (oL 74 1 73) (qN (oF 75 1 8) (qN (oL 76 1 75) (qN (oI 77 1 74 76) (qN (oL 78 1 77) (qN (oM 9 78) .done))))))))))) (.seq (.draw 12 (qN (oM 79 5) (qN (oN 80 79) (qN (oF 81 0 80) (qN (oF 82 1 81) (qN (oL 83 1 82) (qN (oF 84 1 8) (qN (oL 85 1 84) (qN (oI 86 1 83 85) (.one false (oY (.store 1 (.t 86) (.k .nil0))) .done)))))))))) (.seq (qR 13 [oM 87 9,oH 88 87,oK 89 0]) (.block 2 (.loop (.seq (qR 14 [oX 90 (.bin .lss (.t 89) (.t 88))]) (.seq (.cond 90 .skip (.exit 2)) (.seq (.block 3 (.seq (qR 15 [oI 91 2 87 89,oA 92 2 91,oX 11 (.alloc [qZ,qZ]),oS 2 11 92]) (qR 16 [oM 93 5,oA 94 2 11,oX 95 (.call 132 [(.t 93),(.t 94)])]))) (qR 17 [oX 96 (.bin .add (.t 89) (kI 1)),oM 89 96])))))))))))) (qR 18 [oX 97 (.bin .add (.t 58) (kI 1)),oM 58 97]))))))) (.seq (qR 19 [oX 12 (.mov (.k .nil0))]) (.seq (qR 20 [oM 98 5,oN 99 98,oF 100 0 99,oF 101 0 100,oL 102 1 101,oX 103 (.bin .rem (.t 102) (kI 8)),oM 13 103]) (.seq (.seq (qR 21 [oM 104 5,oN 105 104,oF 106 0 105,oF 107 1 106,oL 108 1 107,oM 109 13,oI 110 1 108 109,oL 111 1 110,oH 112 111,oK 113 0]) (.block 4 (.loop (.seq (qR 22 [oX 114 (.bin .lss (.t 113) (.t 112))]) (.seq (.cond 114 .skip (.exit 4)) (.seq (.block 5 (.seq (qR 23 [oI 115 2 111 113,oA 116 2 115,oX 15 (.alloc [qZ,qZ]),oS 2 15 116]) (qR 24 [oM 117 12,oF 118 1 15,oL 119 1 118,oX 120 (.bslice 1 1 [qZ] [(0,(.t 119))]),oX 121 (.app 1 8 [qZ] (.t 117) (.t 120)),oM 12 121]))) (qR 25 [oX 122 (.bin .add (.t 113) (kI 1)),oM 113 122]))))))) (.seq (qR 26 [oM 123 5,oN 124 123,oF 125 0 124,oF 126 1 125,oL 127 1 126,oM 128 13,oI 129 1 127 128,oY (.store 1 (.t 129) (.k .nil0))]) (.seq (qR 27 [oM 130 5,oN 131 130,oF 132 0 131,oA 133 2 132,oM 134 12,oS 2 2 133,oM 3 134,oK 4 0]) .ret))))))))))),[(.c 2 true 2),(.t 3),(.t 4)],135⟩ := by kernel_rfl
theorem wadv_pf (now : Int) (tm : List (Int × Int)) (h : WhOk now tm) (hlt : now < 1099511627776) :
  PF Tryz.prog 91 [whLD now (byP tm (plN now))] (.tup [whLD (now + 1) (byP (tm.filter fun t => decide (t.1 ≠ now + 1)) (plN (now + 1))),.rows 1 ((tm.filter fun t => decide (t.1 = now + 1)).map fun t => [I t.2]),I 0]) := by
 have hok := byP_ok h
 have hop := wopen_hf now _ hok
 have hL := byP_len tm (plN now)
 obtain ⟨n,hn1⟩ : ∃ n,now + 1 = n := ⟨_,rfl⟩
 rw [hn1]
 obtain ⟨R1,hR1⟩ : ∃ R1,R1 = byP (tm.filter fun t => decide (t.1 ≠ n)) (plN n) := ⟨_,rfl⟩
 obtain ⟨R2,hR2⟩ : ∃ R2,R2 = (tm.filter fun t => decide (t.1 = n)).map fun t => [I t.2] := ⟨_,rfl⟩
 rw [← hR1,← hR2]
 have hnow := h.n0
 have hn0 : 0 ≤ n := by omega
 have hnb : n ≤ 1099511627776 := by omega
 obtain ⟨q1,hq1e⟩ : ∃ q1 : Nat,16 + n / 64 % 8 = (q1 : Int) := ⟨(16 + n / 64 % 8).toNat,by omega⟩
 obtain ⟨q2,hq2e⟩ : ∃ q2 : Nat,8 + n / 8 % 8 = (q2 : Int) := ⟨(8 + n / 8 % 8).toNat,by omega⟩
 have hA0 : qA n 0 = 24 := rfl
 have hA1 : qA n 1 = q1 := by unfold qA;simp;omega
 have hA2 : qA n 2 = q2 := by unfold qA;simp;omega
 have h24 : 24 < 25 := by omega
 have h24z : (24 : Int) < 25 := by omega
 have hq1 : q1 < 25 := by omega
 have hq1z : (q1 : Int) < 25 := by omega
 have hq2 : q2 < 25 := by omega
 have hq2z : (q2 : Int) < 25 := by omega
 have i0 : InR n := inW (by omega) (by omega)
 have i1 : InR (n / 64) := inW (by omega) (by omega)
 have i2 : InR (n / 8) := inW (by omega) (by omega)
 have p1 : 0 ≤ n / 64 := by omega
 have p2 : 0 ≤ n / 8 := by omega
 have iq1 : InR (q1 : Int) := inW (by omega) (by omega)
 have iq2 : InR (q2 : Int) := inW (by omega) (by omega)
 have hne : ¬ now = 1099511627776 := by omega
 have hX0 := tmX_len (byP tm (plN now))
 rw [byP_len] at hX0
 have hst : ∀ X : List (List (List D)),eput (nestC now X) 26 (.cells [I n,.own 25]) = nestC n X := fun X => rfl
 unfold whLD at hop ⊢
 refine pO wadv_code [0,1,2,3,4,5,6,8,9,11,12,13,15,22,27,57,58,59,69,87,88,89,90,111,112,113,114] [2,12,16,26] fun B hBN hB0 => ?_
 simp
 refine WCall.hf0 hop (by simp) (by simp) (by simp) (by simp) ?_
 rintro d H' nx' ⟨rfl,rfl,rfl⟩
 obtain ⟨hno,k0,k1⟩ := open_pre (now := now) hL (.cells [I 0,.nil0]) (.cells [I now,.rows 1 (lsR (byP tm (plN now)))])
 obtain ⟨Hn,hHn⟩ : ∃ Hn,Hn = hputs (rho [] 0 2) (nestC now (tmX (byP tm (plN now)))) [(1,.cells [I 0,.nil0]),(0,.cells [I now,.rows 1 (lsR (byP tm (plN now)))])] := ⟨_,rfl⟩
 rw [← hHn] at hno k0 k1
 simp only [← hHn]
 simp
 refine W.gh (st1 := ⟨[(6,I 0),(5,.ptr 26 0),(2,.ptr 28 0),(1,.ptr 27 0)],[(28,.cells [I 0,.nil0]),(27,.cells [I now,.rows 1 (lsR (byP tm (plN now)))])] ++ nestC now (tmX (byP tm (plN now))),29⟩) (Gh.canon (es := [0,1]) 29 hB0 hno (by omega) (by omega) (by simp [canL]) (by simp [canL,k0,k1]) (by simp [canL];intros;omega) (by simp [canL])) ?_
 clear hHn hno k0 k1
 have g26 := hget_nest26 now (tmX (byP tm (plN now)))
 have g26n := fun X => hget_nest26 n X
 refine acode_sound [0,1,2,3,4,5,6,8,9,11,12,13,15,22,27,57,58,59,69,87,88,89,90,111,112,113,114] [12,16,26] _ _ _ ?_
 simp [g26,g26n,hn1,hst,hne,i0,i1,i2,hn0,p1,p2,hq1e,hq2e,iq1,iq2]
 refine W.loopS (fun k : Nat => ⟨[(58,I k),(57,.agg [I 512,I 24,I 64,I q1,I 8,I q2]),(5,.ptr 26 0),(2,.ptr 27 0)],(27,.cells [I 0,.nil0]) :: nestC n (tmX (byP tm (posA now k))),28⟩)
  (fun m k => m = 3 - k ∧ k ≤ 3) ?_ ?_
 ·have hX0' : (tmX (byP tm (posA now 0))).length = 25 := hX0
  refine ⟨_,0,Gh.canon (ids := List.range 25) (l' := 25) (x' := 26) (es := [28]) (Hx := [(27,.cells [I 0,.nil0])]) 28 hB0 (((nestOk_range n _ 25 hX0' (by omega)).up 27 _ (by omega) (range_lt (by omega))).up 28 _ (by omega) (range_lt (by omega))) (by omega) (by omega) (by simp [canL]) (by simp [canL]) (by simp [canL]) (by simp [canL]),rfl,by omega⟩
 ·rintro m k ⟨hm,hk⟩
  refine acode_sound [0,1,2,3,4,5,6,8,9,11,12,13,15,22,27,57,58,59,69,87,88,89,90,111,112,113,114] [12,16,26] _ _ _ ?_
  rcases (show k = 0 ∨ k = 1 ∨ k = 2 ∨ k = 3 by omega) with rfl | rfl | rfl | rfl

  · -- block 0
   obtain ⟨P,hP⟩ : ∃ P,P = posA now 0 := ⟨_,rfl⟩
   have hPs : ∀ t,posA now (1) t = if n % 512 = 0 ∧ P t = 24 then plN n t else P t := fun t => by
    have e : posA now (1) t = if (now + 1) % 512 = 0 ∧ posA now 0 t = qA (now + 1) 0 then plN (now + 1) t else posA now 0 t := rfl
    rw [e,hn1,hA0,← hP]
   have ik0 : InR (1) := inW (by omega) (by omega)
   simp only [← hP]
   have hX := tmX_len (byP tm P)
   rw [byP_len] at hX
   have g26 := hget_nest26 n (tmX (byP tm P))
   have g25 := hget_nest25 n (tmX (byP tm P))
   rw [hX] at g25
   have hep := eput_nest n (tmX (byP tm P))
   by_cases c : n % 512 = 0
   ·obtain ⟨l,hl⟩ : ∃ l,l = tm.filter fun t => decide (P t = 24) := ⟨_,rfl⟩
    have hLq : (byP tm P).getD 24 [] = l := by rw [hl];exact byP_get tm P 24 (by omega)
    have gq : hget (nestC n (tmX (byP tm P))) 24 = some (.row 2 (l.map tmE)) := by
     rw [hget_nestp n (tmX (byP tm P)) 24 (by omega) (by omega)]
     congr 2
     rw [← hLq]
     simp [tmX,zC,byP_len,h24]
    have hl200 : l.length ≤ 200 := by rw [hl];exact Nat.le_trans (List.length_filter_le _ _) h.few
    have hrl : (ownR 25).length = 25 := ownR_len 25
    have hrp := ownR_get 25 24 (by omega)
    simp [hn0,hn1,c,g26,g25,hep,hrl,hrp,h24,h24z]
    refine W.draw (K := fun st' => Gh B st' ⟨[(58,I 0),(57,.agg [I 512,I 24,I 64,I q1,I 8,I q2]),(9,.own 28),(5,.ptr 26 0),(2,.ptr 27 0)],[(28,.row 2 (l.map tmE)),(27,.cells [I 0,.nil0])] ++ nestC n (tmX ((byP tm P).set 24 [])),29⟩) ?_ (fun st' hg => ⟨_,hg,?_⟩)
    ·simp [hn0,hn1,g26,g25,hep,hrl,hrp,h24,h24z]
     have hg25 : hget (eput (nestC n (tmX (byP tm P))) 25 (Ob.rowd 1 ((ownR 25).set 24 [D.nil0]))) 25 = some (.rowd 1 ((ownR 25).set 24 [D.nil0])) := by rw [hget_eput,if_pos rfl]
     refine (Gh.adoptR 25 24 2 (by omega) ((ownR 25).set 24 [.nil0]) (by simp [hg25]) (by simp [hrl,h24])).trans ?_
     simp only [tmX_set]
     refine Gh.canon (ids := (List.range 25).set 24 29) (l' := 25) (x' := 26) (es := [27,24]) (Hx := [(28,.row 2 (l.map tmE)),(27,.cells [I 0,.nil0])]) 29 hB0 (nestOk_set (now := n) hX (by omega) (by omega) ?_ ?_ ?_ (fun j hj hjp => ?_)) (by simp [hX]) (by omega) (by simp [canL]) ?_ ?_ (by simp [canL] <;> omega)
     ·simp only [hget_eput,hget]
      rw [if_neg (by omega),if_neg (by omega),if_neg (by omega),if_neg (by omega),if_neg (by omega)];exact g26
     ·simp only [hget_eput]
      rw [if_pos trivial]
      simp
     ·simp only [hget_eput]
      rw [if_neg (by omega),if_pos trivial];rfl
     ·simp only [hget_eput,hget]
      rw [if_neg (by omega),if_neg (by omega),if_neg (by omega),if_neg (by omega),if_neg (by omega)]
     ·intro p hp
      simp at hp
      rcases hp with rfl | rfl
      ·refine ⟨by omega,by omega,trivial,?_⟩
       show hget _ 24 = _
       simp only [hget_eput,hget]
       rw [if_neg (by omega),if_neg (by omega),if_neg (by omega),if_neg (by omega),if_neg (by omega),gq];rfl
      ·refine ⟨by omega,by omega,by simp,?_⟩
       show hget _ 27 = _
       simp [hget_eput]
     ·intro p hp
      simp at hp
      rcases hp with rfl | rfl
      ·refine ⟨by show 24 ≠ 26;omega,by show 24 ≠ 25;omega,fun hm => ?_⟩
       have hm : 24 ∈ (List.range 25).set 24 29 := hm
       obtain ⟨i,hi⟩ := zF hm
       rw [List.getElem?_set] at hi
       split at hi
       ·split at hi
        ·simp at hi <;> omega
        ·cases hi
       ·rename_i hne
        have hi25 : i < 25 := by have := (zB.1 hi).1;simpa using this
        rw [List.getElem?_range hi25] at hi
        simp at hi;omega
      ·refine ⟨by show (27 : Nat) ≠ 26;omega,by show (27 : Nat) ≠ 25;omega,fun hm => ?_⟩
       have hm : 27 ∈ (List.range 25).set 24 29 := hm
       rcases List.mem_or_eq_of_mem_set hm with h | h
       ·have := List.mem_range.1 h;omega
       ·omega
    ·obtain ⟨PJ,hPJ⟩ : ∃ PJ : Nat → Int × Int → Nat,PJ = fun j t => if P t = 24 then (if t ∈ l.take j then plN n t else 25) else P t := ⟨_,rfl⟩
     have hPJ0 : (byP tm P).set 24 [] = byP tm (PJ 0) := by
      rw [byP_out tm P 24 (by omega),hPJ]
      exact byP_congr fun t _ => by simp
     rw [hPJ0]
     simp
     refine W.loopS (fun j : Nat => ⟨[(89,I j),(88,I l.length),(87,.own 28),(58,I 0),(57,.agg [I 512,I 24,I 64,I q1,I 8,I q2]),(5,.ptr 26 0),(2,.ptr 27 0)],(28,.row 2 (l.map tmE)) :: (27,.cells [I 0,.nil0]) :: nestC n (tmX (byP tm (PJ j))),29⟩)
      (fun m j => m = l.length - j ∧ j ≤ l.length) ?_ ?_
     ·exact ⟨_,0,Gh.envH (by simp) rfl rfl,rfl,by omega⟩
     rintro m j ⟨hm,hj⟩
     refine acode_sound [0,1,2,3,4,5,6,8,9,11,12,13,15,22,27,57,58,59,69,87,88,89,90,111,112,113,114] [12,16,26] _ _ _ ?_
     by_cases hjl : j < l.length
     ·obtain ⟨o,ho⟩ : ∃ o,o = l[j] := ⟨_,rfl⟩
      have hol : o ∈ l := ho ▸ List.getElem_mem hjl
      have hot : o ∈ tm := by rw [hl] at hol;exact (List.mem_filter.1 hol).1
      have hoP : P o = 24 := by rw [hl] at hol;simpa using (List.mem_filter.1 hol).2
      have hof := h.fit o hot
      have hnd : l.Nodup := by rw [hl];exact (srt_nodup h.srt).sublist List.filter_sublist
      have hnot : o ∉ l.take j := fun hm => by
       obtain ⟨i,hi⟩ := zF hm
       rw [List.getElem?_take] at hi
       split at hi
       ·rename_i hij
        obtain ⟨h1,h2⟩ := zB.1 hi
        rw [ho] at h2
        have := (List.getElem_inj hnd).1 h2
        omega
       ·cases hi
      have hpo : PJ j o = 25 := by rw [hPJ];simp [hoP,hnot]
      have hput := wput_hf n o.1 o.2 (byP tm (PJ j)) (plN n o) (byP_len _ _) hn0 (by omega) (by omega) (by omega) (plN_eq n o) (plN_lt n o) (fun l' hl' => by
       obtain ⟨p,_,rfl⟩ := byP_mem hl'
       have := List.length_filter_le (fun t => decide (PJ j t = p)) tm
       have := h.few
       omega) (by rw [byP_get _ _ _ (plN_lt n o)];exact List.Pairwise.filter _ h.srt)
      rw [byP_put h.srt (PJ j) o hot (plN n o) (plN_lt n o) (by omega)] at hput
      have hPn : byP tm (fun t => if t = o then plN n o else PJ j t) = byP tm (PJ (j + 1)) := byP_congr fun t _ => by
       rw [hPJ]
       simp only [List.take_succ_eq_append_getElem hjl,← ho,List.mem_append,List.mem_singleton]
       by_cases e : t = o
       ·subst e;simp [hoP]
       ·simp [e]
      rw [hPn] at hput
      have hXj := tmX_len (byP tm (PJ j))
      rw [byP_len] at hXj
      have hXk := tmX_len (byP tm (PJ (j + 1)))
      rw [byP_len] at hXk
      have ij : InR ((j : Int) + 1) := inW (by omega) (by omega)
      simp [hjl,← ho,tmE,ij]
      refine W.region (K := fun st' => Gh B st' ⟨[(89,I j),(88,I l.length),(87,.own 28),(58,I 0),(57,.agg [I 512,I 24,I 64,I q1,I 8,I q2]),(5,.ptr 26 0),(2,.ptr 27 0)],[(28,.row 2 (l.map tmE)),(27,.cells [I 0,.nil0])] ++ nestC n (tmX (byP tm (PJ (j + 1)))),29⟩) ?_ (fun st' hg => ⟨_,hg,?_⟩)
      ·simp
       refine WCall.nest hput (by omega) (by simp) rfl (by simp) (by simp) (by simp) (by simp) (fun j hj => by simp only [hget];rw [if_neg (by omega),if_neg (by omega),if_neg (by omega)]) (fun x hx => by simp at hx) ?_
       rintro ⟨e',H',n'⟩ ⟨h1,h2,⟨ids,hn,hids⟩,h4⟩
       simp at h1 h2 hn hids h4
       subst h1
       have k28 := h4 28 (by omega) (by omega)
       have k27 := h4 27 (by omega) (by omega)
       simp at k28 k27
       simp
       exact Gh.canonK (Hx := [(28,.row 2 (l.map tmE)),(27,.cells [I 0,.nil0])]) 29 hB0 hn (by omega) (by omega) (by simp [canK]) (by simp [canK,k28,k27]) (fun i hi => by have := hids i hi;omega) (by simp)
      ·simp [ij]
       exact ⟨_,j + 1,Gh.envH (by simp) rfl rfl,by omega,rfl,by omega⟩
     ·obtain rfl : j = l.length := by omega
      have hPe : byP tm (PJ l.length) = byP tm (posA now (1)) := byP_congr fun t ht => by
       rw [hPJ,hPs t]
       simp only [List.take_length,c,true_and]
       by_cases e : P t = 24
       ·have : t ∈ l := by rw [hl];exact List.mem_filter.2 ⟨ht,by simpa using e⟩
        simp [e,this]
       ·simp [e]
      have hXe := tmX_len (byP tm (posA now (1)))
      rw [byP_len] at hXe
      rw [hPe]
      simp [ik0]
      exact ⟨_,1,Gh.canonK (ids := List.range 25) (Hx := [(27,_)]) 28 hB0 (((nestOk_range n _ 25 hXe (by omega)).up 27 _ (by omega) (range_lt (by omega))).up 28 _ (by omega) (range_lt (by omega))) (by omega) (by omega) (by simp [canK]) (by simp) (fun i hi => .inl (range_lt (by omega) i hi)) (by simp),by omega,rfl,by omega⟩
   ·have hPe : byP tm P = byP tm (posA now (1)) := byP_congr fun t ht => by
     rw [hPs t,if_neg (fun e => c e.1)]
    have hXe := tmX_len (byP tm (posA now (1)))
    rw [byP_len] at hXe
    simp [hn0,hn1,c,g26,g25,hep,ik0]
    rw [hPe]
    exact ⟨_,1,Gh.canonK (ids := List.range 25) (Hx := [(27,_)]) 28 hB0 (((nestOk_range n _ 25 hXe (by omega)).up 27 _ (by omega) (range_lt (by omega))).up 28 _ (by omega) (range_lt (by omega))) (by omega) (by omega) (by simp [canK]) (by simp) (fun i hi => .inl (range_lt (by omega) i hi)) (by simp),by omega,rfl,by omega⟩

  · -- block 1
   obtain ⟨P,hP⟩ : ∃ P,P = posA now 1 := ⟨_,rfl⟩
   have hPs : ∀ t,posA now (2) t = if n % 64 = 0 ∧ P t = q1 then plN n t else P t := fun t => by
    have e : posA now (2) t = if (now + 1) % 64 = 0 ∧ posA now 1 t = qA (now + 1) 1 then plN (now + 1) t else posA now 1 t := rfl
    rw [e,hn1,hA1,← hP]
   have ik1 : InR (2) := inW (by omega) (by omega)
   simp only [← hP]
   have hX := tmX_len (byP tm P)
   rw [byP_len] at hX
   have g26 := hget_nest26 n (tmX (byP tm P))
   have g25 := hget_nest25 n (tmX (byP tm P))
   rw [hX] at g25
   have hep := eput_nest n (tmX (byP tm P))
   by_cases c : n % 64 = 0
   ·obtain ⟨l,hl⟩ : ∃ l,l = tm.filter fun t => decide (P t = q1) := ⟨_,rfl⟩
    have hLq : (byP tm P).getD q1 [] = l := by rw [hl];exact byP_get tm P q1 (by omega)
    have gq : hget (nestC n (tmX (byP tm P))) q1 = some (.row 2 (l.map tmE)) := by
     rw [hget_nestp n (tmX (byP tm P)) q1 (by omega) (by omega)]
     congr 2
     rw [← hLq]
     simp [tmX,zC,byP_len,hq1]
    have hl200 : l.length ≤ 200 := by rw [hl];exact Nat.le_trans (List.length_filter_le _ _) h.few
    have hrl : (ownR 25).length = 25 := ownR_len 25
    have hrp := ownR_get 25 q1 (by omega)
    simp [hn0,hn1,c,g26,g25,hep,hrl,hrp,hq1,hq1z]
    refine W.draw (K := fun st' => Gh B st' ⟨[(58,I 1),(57,.agg [I 512,I 24,I 64,I q1,I 8,I q2]),(9,.own 28),(5,.ptr 26 0),(2,.ptr 27 0)],[(28,.row 2 (l.map tmE)),(27,.cells [I 0,.nil0])] ++ nestC n (tmX ((byP tm P).set q1 [])),29⟩) ?_ (fun st' hg => ⟨_,hg,?_⟩)
    ·simp [hn0,hn1,g26,g25,hep,hrl,hrp,hq1,hq1z]
     have hg25 : hget (eput (nestC n (tmX (byP tm P))) 25 (Ob.rowd 1 ((ownR 25).set q1 [D.nil0]))) 25 = some (.rowd 1 ((ownR 25).set q1 [D.nil0])) := by rw [hget_eput,if_pos rfl]
     refine (Gh.adoptR 25 q1 2 (by omega) ((ownR 25).set q1 [.nil0]) (by simp [hg25]) (by simp [hrl,hq1])).trans ?_
     simp only [tmX_set]
     refine Gh.canon (ids := (List.range 25).set q1 29) (l' := 25) (x' := 26) (es := [27,q1]) (Hx := [(28,.row 2 (l.map tmE)),(27,.cells [I 0,.nil0])]) 29 hB0 (nestOk_set (now := n) hX (by omega) (by omega) ?_ ?_ ?_ (fun j hj hjp => ?_)) (by simp [hX]) (by omega) (by simp [canL]) ?_ ?_ (by simp [canL] <;> omega)
     ·simp only [hget_eput,hget]
      rw [if_neg (by omega),if_neg (by omega),if_neg (by omega),if_neg (by omega),if_neg (by omega)];exact g26
     ·simp only [hget_eput]
      rw [if_pos trivial]
      simp
     ·simp only [hget_eput]
      rw [if_neg (by omega),if_pos trivial];rfl
     ·simp only [hget_eput,hget]
      rw [if_neg (by omega),if_neg (by omega),if_neg (by omega),if_neg (by omega),if_neg (by omega)]
     ·intro p hp
      simp at hp
      rcases hp with rfl | rfl
      ·refine ⟨by omega,by omega,trivial,?_⟩
       show hget _ q1 = _
       simp only [hget_eput,hget]
       rw [if_neg (by omega),if_neg (by omega),if_neg (by omega),if_neg (by omega),if_neg (by omega),gq];rfl
      ·refine ⟨by omega,by omega,by simp,?_⟩
       show hget _ 27 = _
       simp [hget_eput]
     ·intro p hp
      simp at hp
      rcases hp with rfl | rfl
      ·refine ⟨by show q1 ≠ 26;omega,by show q1 ≠ 25;omega,fun hm => ?_⟩
       have hm : q1 ∈ (List.range 25).set q1 29 := hm
       obtain ⟨i,hi⟩ := zF hm
       rw [List.getElem?_set] at hi
       split at hi
       ·split at hi
        ·simp at hi <;> omega
        ·cases hi
       ·rename_i hne
        have hi25 : i < 25 := by have := (zB.1 hi).1;simpa using this
        rw [List.getElem?_range hi25] at hi
        simp at hi;omega
      ·refine ⟨by show (27 : Nat) ≠ 26;omega,by show (27 : Nat) ≠ 25;omega,fun hm => ?_⟩
       have hm : 27 ∈ (List.range 25).set q1 29 := hm
       rcases List.mem_or_eq_of_mem_set hm with h | h
       ·have := List.mem_range.1 h;omega
       ·omega
    ·obtain ⟨PJ,hPJ⟩ : ∃ PJ : Nat → Int × Int → Nat,PJ = fun j t => if P t = q1 then (if t ∈ l.take j then plN n t else 25) else P t := ⟨_,rfl⟩
     have hPJ0 : (byP tm P).set q1 [] = byP tm (PJ 0) := by
      rw [byP_out tm P q1 (by omega),hPJ]
      exact byP_congr fun t _ => by simp
     rw [hPJ0]
     simp
     refine W.loopS (fun j : Nat => ⟨[(89,I j),(88,I l.length),(87,.own 28),(58,I 1),(57,.agg [I 512,I 24,I 64,I q1,I 8,I q2]),(5,.ptr 26 0),(2,.ptr 27 0)],(28,.row 2 (l.map tmE)) :: (27,.cells [I 0,.nil0]) :: nestC n (tmX (byP tm (PJ j))),29⟩)
      (fun m j => m = l.length - j ∧ j ≤ l.length) ?_ ?_
     ·exact ⟨_,0,Gh.envH (by simp) rfl rfl,rfl,by omega⟩
     rintro m j ⟨hm,hj⟩
     refine acode_sound [0,1,2,3,4,5,6,8,9,11,12,13,15,22,27,57,58,59,69,87,88,89,90,111,112,113,114] [12,16,26] _ _ _ ?_
     by_cases hjl : j < l.length
     ·obtain ⟨o,ho⟩ : ∃ o,o = l[j] := ⟨_,rfl⟩
      have hol : o ∈ l := ho ▸ List.getElem_mem hjl
      have hot : o ∈ tm := by rw [hl] at hol;exact (List.mem_filter.1 hol).1
      have hoP : P o = q1 := by rw [hl] at hol;simpa using (List.mem_filter.1 hol).2
      have hof := h.fit o hot
      have hnd : l.Nodup := by rw [hl];exact (srt_nodup h.srt).sublist List.filter_sublist
      have hnot : o ∉ l.take j := fun hm => by
       obtain ⟨i,hi⟩ := zF hm
       rw [List.getElem?_take] at hi
       split at hi
       ·rename_i hij
        obtain ⟨h1,h2⟩ := zB.1 hi
        rw [ho] at h2
        have := (List.getElem_inj hnd).1 h2
        omega
       ·cases hi
      have hpo : PJ j o = 25 := by rw [hPJ];simp [hoP,hnot]
      have hput := wput_hf n o.1 o.2 (byP tm (PJ j)) (plN n o) (byP_len _ _) hn0 (by omega) (by omega) (by omega) (plN_eq n o) (plN_lt n o) (fun l' hl' => by
       obtain ⟨p,_,rfl⟩ := byP_mem hl'
       have := List.length_filter_le (fun t => decide (PJ j t = p)) tm
       have := h.few
       omega) (by rw [byP_get _ _ _ (plN_lt n o)];exact List.Pairwise.filter _ h.srt)
      rw [byP_put h.srt (PJ j) o hot (plN n o) (plN_lt n o) (by omega)] at hput
      have hPn : byP tm (fun t => if t = o then plN n o else PJ j t) = byP tm (PJ (j + 1)) := byP_congr fun t _ => by
       rw [hPJ]
       simp only [List.take_succ_eq_append_getElem hjl,← ho,List.mem_append,List.mem_singleton]
       by_cases e : t = o
       ·subst e;simp [hoP]
       ·simp [e]
      rw [hPn] at hput
      have hXj := tmX_len (byP tm (PJ j))
      rw [byP_len] at hXj
      have hXk := tmX_len (byP tm (PJ (j + 1)))
      rw [byP_len] at hXk
      have ij : InR ((j : Int) + 1) := inW (by omega) (by omega)
      simp [hjl,← ho,tmE,ij]
      refine W.region (K := fun st' => Gh B st' ⟨[(89,I j),(88,I l.length),(87,.own 28),(58,I 1),(57,.agg [I 512,I 24,I 64,I q1,I 8,I q2]),(5,.ptr 26 0),(2,.ptr 27 0)],[(28,.row 2 (l.map tmE)),(27,.cells [I 0,.nil0])] ++ nestC n (tmX (byP tm (PJ (j + 1)))),29⟩) ?_ (fun st' hg => ⟨_,hg,?_⟩)
      ·simp
       refine WCall.nest hput (by omega) (by simp) rfl (by simp) (by simp) (by simp) (by simp) (fun j hj => by simp only [hget];rw [if_neg (by omega),if_neg (by omega),if_neg (by omega)]) (fun x hx => by simp at hx) ?_
       rintro ⟨e',H',n'⟩ ⟨h1,h2,⟨ids,hn,hids⟩,h4⟩
       simp at h1 h2 hn hids h4
       subst h1
       have k28 := h4 28 (by omega) (by omega)
       have k27 := h4 27 (by omega) (by omega)
       simp at k28 k27
       simp
       exact Gh.canonK (Hx := [(28,.row 2 (l.map tmE)),(27,.cells [I 0,.nil0])]) 29 hB0 hn (by omega) (by omega) (by simp [canK]) (by simp [canK,k28,k27]) (fun i hi => by have := hids i hi;omega) (by simp)
      ·simp [ij]
       exact ⟨_,j + 1,Gh.envH (by simp) rfl rfl,by omega,rfl,by omega⟩
     ·obtain rfl : j = l.length := by omega
      have hPe : byP tm (PJ l.length) = byP tm (posA now (2)) := byP_congr fun t ht => by
       rw [hPJ,hPs t]
       simp only [List.take_length,c,true_and]
       by_cases e : P t = q1
       ·have : t ∈ l := by rw [hl];exact List.mem_filter.2 ⟨ht,by simpa using e⟩
        simp [e,this]
       ·simp [e]
      have hXe := tmX_len (byP tm (posA now (2)))
      rw [byP_len] at hXe
      rw [hPe]
      simp [ik1]
      exact ⟨_,2,Gh.canonK (ids := List.range 25) (Hx := [(27,_)]) 28 hB0 (((nestOk_range n _ 25 hXe (by omega)).up 27 _ (by omega) (range_lt (by omega))).up 28 _ (by omega) (range_lt (by omega))) (by omega) (by omega) (by simp [canK]) (by simp) (fun i hi => .inl (range_lt (by omega) i hi)) (by simp),by omega,rfl,by omega⟩
   ·have hPe : byP tm P = byP tm (posA now (2)) := byP_congr fun t ht => by
     rw [hPs t,if_neg (fun e => c e.1)]
    have hXe := tmX_len (byP tm (posA now (2)))
    rw [byP_len] at hXe
    simp [hn0,hn1,c,g26,g25,hep,ik1]
    rw [hPe]
    exact ⟨_,2,Gh.canonK (ids := List.range 25) (Hx := [(27,_)]) 28 hB0 (((nestOk_range n _ 25 hXe (by omega)).up 27 _ (by omega) (range_lt (by omega))).up 28 _ (by omega) (range_lt (by omega))) (by omega) (by omega) (by simp [canK]) (by simp) (fun i hi => .inl (range_lt (by omega) i hi)) (by simp),by omega,rfl,by omega⟩

  · -- block 2
   obtain ⟨P,hP⟩ : ∃ P,P = posA now 2 := ⟨_,rfl⟩
   have hPs : ∀ t,posA now (3) t = if n % 8 = 0 ∧ P t = q2 then plN n t else P t := fun t => by
    have e : posA now (3) t = if (now + 1) % 8 = 0 ∧ posA now 2 t = qA (now + 1) 2 then plN (now + 1) t else posA now 2 t := rfl
    rw [e,hn1,hA2,← hP]
   have ik2 : InR (3) := inW (by omega) (by omega)
   simp only [← hP]
   have hX := tmX_len (byP tm P)
   rw [byP_len] at hX
   have g26 := hget_nest26 n (tmX (byP tm P))
   have g25 := hget_nest25 n (tmX (byP tm P))
   rw [hX] at g25
   have hep := eput_nest n (tmX (byP tm P))
   by_cases c : n % 8 = 0
   ·obtain ⟨l,hl⟩ : ∃ l,l = tm.filter fun t => decide (P t = q2) := ⟨_,rfl⟩
    have hLq : (byP tm P).getD q2 [] = l := by rw [hl];exact byP_get tm P q2 (by omega)
    have gq : hget (nestC n (tmX (byP tm P))) q2 = some (.row 2 (l.map tmE)) := by
     rw [hget_nestp n (tmX (byP tm P)) q2 (by omega) (by omega)]
     congr 2
     rw [← hLq]
     simp [tmX,zC,byP_len,hq2]
    have hl200 : l.length ≤ 200 := by rw [hl];exact Nat.le_trans (List.length_filter_le _ _) h.few
    have hrl : (ownR 25).length = 25 := ownR_len 25
    have hrp := ownR_get 25 q2 (by omega)
    simp [hn0,hn1,c,g26,g25,hep,hrl,hrp,hq2,hq2z]
    refine W.draw (K := fun st' => Gh B st' ⟨[(58,I 2),(57,.agg [I 512,I 24,I 64,I q1,I 8,I q2]),(9,.own 28),(5,.ptr 26 0),(2,.ptr 27 0)],[(28,.row 2 (l.map tmE)),(27,.cells [I 0,.nil0])] ++ nestC n (tmX ((byP tm P).set q2 [])),29⟩) ?_ (fun st' hg => ⟨_,hg,?_⟩)
    ·simp [hn0,hn1,g26,g25,hep,hrl,hrp,hq2,hq2z]
     have hg25 : hget (eput (nestC n (tmX (byP tm P))) 25 (Ob.rowd 1 ((ownR 25).set q2 [D.nil0]))) 25 = some (.rowd 1 ((ownR 25).set q2 [D.nil0])) := by rw [hget_eput,if_pos rfl]
     refine (Gh.adoptR 25 q2 2 (by omega) ((ownR 25).set q2 [.nil0]) (by simp [hg25]) (by simp [hrl,hq2])).trans ?_
     simp only [tmX_set]
     refine Gh.canon (ids := (List.range 25).set q2 29) (l' := 25) (x' := 26) (es := [27,q2]) (Hx := [(28,.row 2 (l.map tmE)),(27,.cells [I 0,.nil0])]) 29 hB0 (nestOk_set (now := n) hX (by omega) (by omega) ?_ ?_ ?_ (fun j hj hjp => ?_)) (by simp [hX]) (by omega) (by simp [canL]) ?_ ?_ (by simp [canL] <;> omega)
     ·simp only [hget_eput,hget]
      rw [if_neg (by omega),if_neg (by omega),if_neg (by omega),if_neg (by omega),if_neg (by omega)];exact g26
     ·simp only [hget_eput]
      rw [if_pos trivial]
      simp
     ·simp only [hget_eput]
      rw [if_neg (by omega),if_pos trivial];rfl
     ·simp only [hget_eput,hget]
      rw [if_neg (by omega),if_neg (by omega),if_neg (by omega),if_neg (by omega),if_neg (by omega)]
     ·intro p hp
      simp at hp
      rcases hp with rfl | rfl
      ·refine ⟨by omega,by omega,trivial,?_⟩
       show hget _ q2 = _
       simp only [hget_eput,hget]
       rw [if_neg (by omega),if_neg (by omega),if_neg (by omega),if_neg (by omega),if_neg (by omega),gq];rfl
      ·refine ⟨by omega,by omega,by simp,?_⟩
       show hget _ 27 = _
       simp [hget_eput]
     ·intro p hp
      simp at hp
      rcases hp with rfl | rfl
      ·refine ⟨by show q2 ≠ 26;omega,by show q2 ≠ 25;omega,fun hm => ?_⟩
       have hm : q2 ∈ (List.range 25).set q2 29 := hm
       obtain ⟨i,hi⟩ := zF hm
       rw [List.getElem?_set] at hi
       split at hi
       ·split at hi
        ·simp at hi <;> omega
        ·cases hi
       ·rename_i hne
        have hi25 : i < 25 := by have := (zB.1 hi).1;simpa using this
        rw [List.getElem?_range hi25] at hi
        simp at hi;omega
      ·refine ⟨by show (27 : Nat) ≠ 26;omega,by show (27 : Nat) ≠ 25;omega,fun hm => ?_⟩
       have hm : 27 ∈ (List.range 25).set q2 29 := hm
       rcases List.mem_or_eq_of_mem_set hm with h | h
       ·have := List.mem_range.1 h;omega
       ·omega
    ·obtain ⟨PJ,hPJ⟩ : ∃ PJ : Nat → Int × Int → Nat,PJ = fun j t => if P t = q2 then (if t ∈ l.take j then plN n t else 25) else P t := ⟨_,rfl⟩
     have hPJ0 : (byP tm P).set q2 [] = byP tm (PJ 0) := by
      rw [byP_out tm P q2 (by omega),hPJ]
      exact byP_congr fun t _ => by simp
     rw [hPJ0]
     simp
     refine W.loopS (fun j : Nat => ⟨[(89,I j),(88,I l.length),(87,.own 28),(58,I 2),(57,.agg [I 512,I 24,I 64,I q1,I 8,I q2]),(5,.ptr 26 0),(2,.ptr 27 0)],(28,.row 2 (l.map tmE)) :: (27,.cells [I 0,.nil0]) :: nestC n (tmX (byP tm (PJ j))),29⟩)
      (fun m j => m = l.length - j ∧ j ≤ l.length) ?_ ?_
     ·exact ⟨_,0,Gh.envH (by simp) rfl rfl,rfl,by omega⟩
     rintro m j ⟨hm,hj⟩
     refine acode_sound [0,1,2,3,4,5,6,8,9,11,12,13,15,22,27,57,58,59,69,87,88,89,90,111,112,113,114] [12,16,26] _ _ _ ?_
     by_cases hjl : j < l.length
     ·obtain ⟨o,ho⟩ : ∃ o,o = l[j] := ⟨_,rfl⟩
      have hol : o ∈ l := ho ▸ List.getElem_mem hjl
      have hot : o ∈ tm := by rw [hl] at hol;exact (List.mem_filter.1 hol).1
      have hoP : P o = q2 := by rw [hl] at hol;simpa using (List.mem_filter.1 hol).2
      have hof := h.fit o hot
      have hnd : l.Nodup := by rw [hl];exact (srt_nodup h.srt).sublist List.filter_sublist
      have hnot : o ∉ l.take j := fun hm => by
       obtain ⟨i,hi⟩ := zF hm
       rw [List.getElem?_take] at hi
       split at hi
       ·rename_i hij
        obtain ⟨h1,h2⟩ := zB.1 hi
        rw [ho] at h2
        have := (List.getElem_inj hnd).1 h2
        omega
       ·cases hi
      have hpo : PJ j o = 25 := by rw [hPJ];simp [hoP,hnot]
      have hput := wput_hf n o.1 o.2 (byP tm (PJ j)) (plN n o) (byP_len _ _) hn0 (by omega) (by omega) (by omega) (plN_eq n o) (plN_lt n o) (fun l' hl' => by
       obtain ⟨p,_,rfl⟩ := byP_mem hl'
       have := List.length_filter_le (fun t => decide (PJ j t = p)) tm
       have := h.few
       omega) (by rw [byP_get _ _ _ (plN_lt n o)];exact List.Pairwise.filter _ h.srt)
      rw [byP_put h.srt (PJ j) o hot (plN n o) (plN_lt n o) (by omega)] at hput
      have hPn : byP tm (fun t => if t = o then plN n o else PJ j t) = byP tm (PJ (j + 1)) := byP_congr fun t _ => by
       rw [hPJ]
       simp only [List.take_succ_eq_append_getElem hjl,← ho,List.mem_append,List.mem_singleton]
       by_cases e : t = o
       ·subst e;simp [hoP]
       ·simp [e]
      rw [hPn] at hput
      have hXj := tmX_len (byP tm (PJ j))
      rw [byP_len] at hXj
      have hXk := tmX_len (byP tm (PJ (j + 1)))
      rw [byP_len] at hXk
      have ij : InR ((j : Int) + 1) := inW (by omega) (by omega)
      simp [hjl,← ho,tmE,ij]
      refine W.region (K := fun st' => Gh B st' ⟨[(89,I j),(88,I l.length),(87,.own 28),(58,I 2),(57,.agg [I 512,I 24,I 64,I q1,I 8,I q2]),(5,.ptr 26 0),(2,.ptr 27 0)],[(28,.row 2 (l.map tmE)),(27,.cells [I 0,.nil0])] ++ nestC n (tmX (byP tm (PJ (j + 1)))),29⟩) ?_ (fun st' hg => ⟨_,hg,?_⟩)
      ·simp
       refine WCall.nest hput (by omega) (by simp) rfl (by simp) (by simp) (by simp) (by simp) (fun j hj => by simp only [hget];rw [if_neg (by omega),if_neg (by omega),if_neg (by omega)]) (fun x hx => by simp at hx) ?_
       rintro ⟨e',H',n'⟩ ⟨h1,h2,⟨ids,hn,hids⟩,h4⟩
       simp at h1 h2 hn hids h4
       subst h1
       have k28 := h4 28 (by omega) (by omega)
       have k27 := h4 27 (by omega) (by omega)
       simp at k28 k27
       simp
       exact Gh.canonK (Hx := [(28,.row 2 (l.map tmE)),(27,.cells [I 0,.nil0])]) 29 hB0 hn (by omega) (by omega) (by simp [canK]) (by simp [canK,k28,k27]) (fun i hi => by have := hids i hi;omega) (by simp)
      ·simp [ij]
       exact ⟨_,j + 1,Gh.envH (by simp) rfl rfl,by omega,rfl,by omega⟩
     ·obtain rfl : j = l.length := by omega
      have hPe : byP tm (PJ l.length) = byP tm (posA now (3)) := byP_congr fun t ht => by
       rw [hPJ,hPs t]
       simp only [List.take_length,c,true_and]
       by_cases e : P t = q2
       ·have : t ∈ l := by rw [hl];exact List.mem_filter.2 ⟨ht,by simpa using e⟩
        simp [e,this]
       ·simp [e]
      have hXe := tmX_len (byP tm (posA now (3)))
      rw [byP_len] at hXe
      rw [hPe]
      simp [ik2]
      exact ⟨_,3,Gh.canonK (ids := List.range 25) (Hx := [(27,_)]) 28 hB0 (((nestOk_range n _ 25 hXe (by omega)).up 27 _ (by omega) (range_lt (by omega))).up 28 _ (by omega) (range_lt (by omega))) (by omega) (by omega) (by simp [canK]) (by simp) (fun i hi => .inl (range_lt (by omega) i hi)) (by simp),by omega,rfl,by omega⟩
   ·have hPe : byP tm P = byP tm (posA now (3)) := byP_congr fun t ht => by
     rw [hPs t,if_neg (fun e => c e.1)]
    have hXe := tmX_len (byP tm (posA now (3)))
    rw [byP_len] at hXe
    simp [hn0,hn1,c,g26,g25,hep,ik2]
    rw [hPe]
    exact ⟨_,3,Gh.canonK (ids := List.range 25) (Hx := [(27,_)]) 28 hB0 (((nestOk_range n _ 25 hXe (by omega)).up 27 _ (by omega) (range_lt (by omega))).up 28 _ (by omega) (range_lt (by omega))) (by omega) (by omega) (by simp [canK]) (by simp) (fun i hi => .inl (range_lt (by omega) i hi)) (by simp),by omega,rfl,by omega⟩
  · -- the timers of this tick
   have hPe : byP tm (posA now 3) = byP tm (plN n) := byP_congr fun t ht => by rw [posA_end now t hnow (h.fit t ht).1,hn1]
   simp only [hPe]
   obtain ⟨i,hi⟩ : ∃ i : Nat,n % 8 = (i : Int) := ⟨(n % 8).toNat,by omega⟩
   have hi8 : i < 8 := by omega
   have hi25 : i < 25 := by omega
   have hi25z : (i : Int) < 25 := by omega
   have hnow2 : ∀ t ∈ tm,plN n t = i ↔ t.1 = n := fun t ht => by
    have hf := h.fit t ht
    constructor
    ·intro e
     exact plN_now n t.1 t.2 ⟨by rw [e];omega,hn0⟩ (by omega)
    ·intro e
     unfold plN placeM
     rw [e,if_pos rfl,hi];rfl
   obtain ⟨l,hl⟩ : ∃ l,l = tm.filter fun t => decide (plN n t = i) := ⟨_,rfl⟩
   have hlE : l = tm.filter fun t => decide (t.1 = n) := by
    rw [hl];exact List.filter_congr fun t ht => by simp only [hnow2 t ht]
   have hLi : (byP tm (plN n)).getD i [] = l := by rw [hl];exact byP_get tm _ i hi25
   have hl200 : l.length ≤ 200 := by rw [hl];exact Nat.le_trans (List.length_filter_le _ _) h.few
   have hout : (byP tm (plN n)).set i [] = R1 := by
    rw [hR1,byP_out tm _ i hi25]
    unfold byP
    refine List.map_congr_left fun p hp => ?_
    have := List.mem_range.1 hp
    rw [List.filter_filter]
    refine List.filter_congr fun t ht => ?_
    have e1 := hnow2 t ht
    by_cases e : t.1 = n
    ·have e2 := e1.2 e
     have : ¬ 25 = p := by omega
     simp [e2,e,this]
    ·have e2 : ¬ plN n t = i := fun h => e (e1.1 h)
     simp [e2,e]
   have hX := tmX_len (byP tm (plN n))
   rw [byP_len] at hX
   have g26 := hget_nest26 n (tmX (byP tm (plN n)))
   have g25 := hget_nest25 n (tmX (byP tm (plN n)))
   rw [hX] at g25
   have hep := eput_nest n (tmX (byP tm (plN n)))
   have gq : hget (nestC n (tmX (byP tm (plN n)))) i = some (.row 2 (l.map tmE)) := by
    rw [hget_nestp n _ i (by omega) (by omega)]
    congr 2
    rw [← hLi]
    simp [tmX,zC,byP_len,hi25]
   have hrl : (ownR 25).length = 25 := ownR_len 25
   have hrp := ownR_get 25 i hi25
   have hpn : ∀ m,25 ≤ m → ¬ i = m := fun m h e => by omega
   have ii : InR (i : Int) := inW (by omega) (by omega)
   have hl2 : l.map (fun t => [I t.2]) = R2 := by rw [hR2,hlE]
   generalize hLL : byP tm (plN n) = LL at hX g26 g25 hep gq hLi hout ⊢
   have hLl : LL.length = 25 := by rw [← hLL];exact byP_len _ _
   simp [hn0,hi,g26,g25,gq,hpn,hrl,hrp,hi25,hi25z,ii]
   have hcan : (List.range 25).getD i 0 = i := by simp [zC,List.getElem?_range,hi25]
   refine W.loopS (fun j : Nat => ⟨[(113,I j),(112,I l.length),(111,.own i),(13,I i),(12,.own 28),(5,.ptr 26 0),(2,.ptr 27 0)],(28,.row 1 ((l.take j).map fun t => [I t.2])) :: (27,.cells [I 0,.nil0]) :: nestC n (tmX LL),29⟩)
    (fun m j => m = l.length - j ∧ j ≤ l.length) ?_ ?_
   ·refine ⟨_,0,(Gh.adopt 12 1 (by omega) (by simp)).trans ?_,rfl,by omega⟩
    exact Gh.envH (by simp) (by simp) rfl
   ·rintro m j ⟨hm,hj⟩
    refine acode_sound [0,1,2,3,4,5,6,8,9,11,12,13,15,22,27,57,58,59,69,87,88,89,90,111,112,113,114] [12,16,26] _ _ _ ?_
    by_cases hjl : j < l.length
    ·obtain ⟨o,ho⟩ : ∃ o,o = l[j] := ⟨_,rfl⟩
     have ij : InR ((j : Int) + 1) := inW (by omega) (by omega)
     have hcap : (j + 1) * 8 ≤ 140737488355328 := by omega
     have hmin : min j l.length = j := by omega
     have htk : (l.map (fun t => [I t.2])).take (j + 1) = (l.map (fun t => [I t.2])).take j ++ [[I o.2]] := by
      rw [← List.map_take,← List.map_take,List.take_succ_eq_append_getElem hjl,← ho];simp
     have hher : herase (nestC n (tmX LL)) 28 = nestC n (tmX LL) := herase_same _ 28 fun p hp => by
      rcases nest_mem hp with rfl | rfl | ⟨h1,h2⟩
      ·show (26 : Nat) ≠ 28;omega
      ·show (25 : Nat) ≠ 28;omega
      ·omega
     simp [gq,hpn,hjl,← ho,tmE,ij,hcap,hmin,hher]
     refine ⟨_,j + 1,Gh.canon (ids := List.range 25) (l' := 25) (x' := 26) (es := [27,31]) (Hx := [(28,_),(27,_)]) 29 hB0 ?_ (by omega) (by omega) ?_ ?_ ?_ (by simp [canL]),by omega,rfl,by omega⟩
     ·repeat' (first | exact nestOk_range n _ 25 hX (by omega) | refine NestOk.up _ _ (by omega) (range_lt (by omega)) ?_)
     ·simp [canL,hi25];omega
     ·simp [canL,htk]
     ·simp [canL]
    ·obtain rfl : j = l.length := by omega
     rw [List.take_length,hl2]
     simp
     have hXo : (tmX R1).length = 25 := by rw [← hout,tmX_len];simp [hLl]
     have hgo : tmX R1 = (tmX LL).set i [] := by rw [← hout,tmX_set];rfl
     refine W.region (K := fun st' => Gh B st' ⟨[(12,.own 28),(5,.ptr 26 0),(2,.ptr 27 0)],[(28,.row 1 R2),(27,.cells [I 0,.nil0])] ++ nestC n (tmX R1),29⟩) ?_ (fun st' hg => ⟨_,hg,?_⟩)
     ·simp [g26,g25,gq,hpn,hrl,hrp,hi25,hi25z,hep]
      have hg25 : hget (eput (nestC n (tmX LL)) 25 (Ob.rowd 1 ((ownR 25).set i [D.nil0]))) 25 = some (.rowd 1 ((ownR 25).set i [D.nil0])) := by rw [hget_eput,if_pos rfl]
      refine (Gh.adoptR 25 i 2 (by omega) ((ownR 25).set i [.nil0]) (by simp [hg25]) (by simp [hrl,hi25])).trans ?_
      rw [hgo]
      refine Gh.canonK (ids := (List.range 25).set i 29) (Hx := [(28,.row 1 R2),(27,.cells [I 0,.nil0])]) 29 hB0 (nestOk_set (now := n) hX (by omega) (by omega) ?_ ?_ ?_ (fun j hj hjp => ?_)) (by simp [hX]) (by omega) (by simp [canK]) (by simp [hget_eput,canK]) (fun k hk => ?_) (by simp)
      ·simp only [hget_eput,hget]
       rw [if_neg (by omega),if_neg (by omega),if_neg (by omega),if_neg (by omega),if_neg (by omega)];exact g26
      ·simp only [hget_eput]
       rw [if_pos trivial]
       simp
      ·simp only [hget_eput]
       rw [if_neg (by omega),if_pos trivial]
      ·simp only [hget_eput,hget]
       rw [if_neg (by omega),if_neg (by omega),if_neg (by omega),if_neg (by omega),if_neg (by omega)]
      ·rcases List.mem_or_eq_of_mem_set hk with h | rfl
       ·exact .inl (List.mem_range.1 h)
       ·exact .inr (Nat.le_refl _)
     ·have g26' := hget_nest26 n (tmX R1)
      have g25' := hget_nest25 n (tmX R1)
      rw [hXo] at g25'
      have hR1l : R1.length = 25 := by rw [← hout];simp [hLl]
      have hbw' : omap (omap (brwC ((28,.row 1 R2) :: (27,.cells [I n,.own 25]) :: nestC n (tmX R1)) 3)) (ownR 25) = some (lsR R1) := brw_ls _ 2 n R1 hR1l fun q hq => up2 (by omega) (by omega) q hq
      simp [g26',g25',hbw']
def whM (now : Int) (tm : List (Int × Int)) : D := whLD now (byP tm (plN now))
def nilR (d : D) : D := match d with | .nil0 => .rows 2 [] | d => d
theorem Gh.rowN {B : Base} {st : St} (id sz : Nat) (xs : List (List D)) (hh : hget st.heap id = some (.row sz xs)) : Gh B st ⟨st.env,eput st.heap id (.row sz (xs.map (List.map nilR))),st.nx⟩ := by
 intro s Z a w hr
 have hob := hr.h.ob _ _ hh
 have hlt := hr.h.lt _ _ hh
 refine ⟨s,Z,hr.env,hr.elt,hr.size,hr.defers,?_⟩
 have hnew : ObOk s Z w (.row sz (xs.map (List.map nilR))) (s id) := RowOk.map nilR hob fun row hrow d hd u hu => by
  cases d with
  | nil0 => cases hu;exact VT.rnil _ _ _
  | _ => exact hu
 have hhe : ∀ i ob,hget (eput st.heap id (.row sz (xs.map (List.map nilR)))) i = some ob → ∃ ob0,hget st.heap i = some ob0 := fun i ob h => by
  rw [hget_eput] at h
  split at h
  ·rename_i e;subst e;exact ⟨_,hh⟩
  ·exact ⟨_,h⟩
 refine ⟨fun i ob h => ?_,fun i ob h => ?_,fun i i' ob ob' b h h' hne hb => ?_,hr.h.zok,fun i ob b o h hb => ?_,fun i ob b h hb => ?_,hr.h.fr,hr.h.n0,hr.h.bs,hr.h.bz,hr.h.bn⟩
 ·have h9 : hget (eput st.heap id (.row sz (xs.map (List.map nilR)))) i = some ob := h
  rw [hget_eput] at h9
  by_cases e : i = id
  ·rw [if_pos e] at h9;rw [e,← Option.some.inj h9];exact hnew
  ·rw [if_neg e] at h9;exact hr.h.ob i ob h9
 ·have h9 : hget (eput st.heap id (.row sz (xs.map (List.map nilR)))) i = some ob := h
  rw [hget_eput] at h9
  by_cases e : i = id
  ·rw [if_pos e] at h9;rw [e,← Option.some.inj h9];exact ⟨hlt.1,trivial⟩
  ·rw [if_neg e] at h9;exact hr.h.lt i ob h9
 ·obtain ⟨o1,h1⟩ := hhe i ob h
  obtain ⟨o2,h2⟩ := hhe i' ob' h'
  exact hr.h.apart i i' o1 o2 b h1 h2 hne hb
 ·obtain ⟨o1,h1⟩ := hhe i ob h
  exact hr.h.zap i o1 b o h1 hb
 ·obtain ⟨o1,h1⟩ := hhe i ob h
  exact hr.h.mine i o1 b h1 hb
theorem byP_nil (pos : Int × Int → Nat) : lsR (byP [] pos) = List.replicate 25 [.rows 2 []] := by
 unfold byP lsR
 simp [List.range_succ]
theorem wnew_code : cfun Tryz.prog [] 47 = some ⟨(.seq (qR 0 [oX 2 (.alloc [qZ,.nil0]),oK 3 0]) (.seq (.seq (qR 1 [oM 4 0,oX 5 (.bin .lss (.t 4) (kI 0)),oM 6 5,oG 7 (.mov (.t 0)) 6 false,oG 8 (.bin .gtr (.t 7) (kI 1099511627776)) 6 false,oX 9 (.pick (.t 6) (.k qT) (.t 8))]) (.cond 9 (.seq (qR 2 [oX 10 (.build [qZ,.nil0] []),oS 2 2 10,oK 3 2]) .ret) .skip)) (.seq (qR 3 [oM 11 0,oX 12 (.mks 1 24 [.nil0] (kI 25) (kI 25)),oX 13 (.build [qZ,.nil0] [(0,(1,(.t 11))),(1,(1,(.t 12)))]),oS 2 2 13,oK 3 0]) .ret))),[(.c 2 true 2),(.t 3)],14⟩ := by kernel_rfl
theorem wnewM (now : Int) (n0 : 0 ≤ now) (n1 : now ≤ 1099511627776) : PF Tryz.prog 47 [I now] (.tup [whM now [],I 0]) := by
 have c1 : ¬ now < 0 := by omega
 have c2 : ¬ 1099511627776 < now := by omega
 refine pO wnew_code [0,2,3,9] [3] fun B hBN hB0 => ?_
 unfold whM whLD
 rw [byP_nil]
 simp [c1,c2]
 refine W.region (K := fun st' => Gh B st' ⟨[(3,I 0),(2,.ptr 0 0)],[(1,.row 1 (List.replicate 25 [.rows 2 []])),(0,.cells [I now,.own 1])],2⟩) ?_ (fun st' hg => ⟨_,hg,?_⟩)
 ·simp
  refine (Gh.rowN 1 1 (List.replicate 25 [.nil0]) (by simp)).trans (Gh.envH (by simp) (by simp [nilR]) rfl)
 ·simp
theorem insT_mem {t x : Int × Int} {l : List (Int × Int)} : x ∈ insT t l ↔ x = t ∨ x ∈ l := by
 unfold insT
 constructor
 ·intro h
  rcases List.mem_append.1 h with h | h
  ·rcases List.mem_append.1 h with h | h
   ·exact .inr (List.mem_of_mem_take h)
   ·exact .inl (List.mem_singleton.1 h)
  ·exact .inr (List.mem_of_mem_drop h)
 ·intro h
  rcases h with rfl | h
  ·simp
  ·rw [← List.take_append_drop (lowT t l) l] at h
   rcases List.mem_append.1 h with h | h <;> simp [h]
theorem insT_srt {t : Int × Int} {l : List (Int × Int)} (h : SrtT l) (hn : ∀ x ∈ l,x.2 ≠ t.2) : SrtT (insT t l) := by
 have hlow := fun j hj hji => lowB_lt (fun x : Int × Int => decide (ord2 x.1 x.2 t.1 t.2 < 0)) l j hj hji
 have hge := lowB_ge (fun x : Int × Int => decide (ord2 x.1 x.2 t.1 t.2 < 0)) l
 have hA : ∀ x ∈ l.take (lowT t l),x.1 < t.1 ∨ (x.1 = t.1 ∧ x.2 < t.2) := fun x hx => by
  obtain ⟨i,hi⟩ := zF hx
  rw [List.getElem?_take] at hi
  split at hi
  ·rename_i hlt
   obtain ⟨h1,h2⟩ := zB.1 hi
   have := hlow i h1 hlt
   rw [h2] at this
   exact ord2_neg.1 (by simpa using this)
  ·cases hi
 have hC : ∀ x ∈ l.drop (lowT t l),t.1 < x.1 ∨ (t.1 = x.1 ∧ t.2 < x.2) := fun x hx => by
  obtain ⟨i,hi⟩ := zF hx
  rw [List.getElem?_drop] at hi
  obtain ⟨h1,h2⟩ := zB.1 hi
  have hlt : lowT t l < l.length := by omega
  have h3 := hge hlt
  have hne := hn x (h2 ▸ List.getElem_mem h1)
  have h4 : ¬ ord2 x.1 x.2 t.1 t.2 < 0 := fun hh => by
   have := srt_mono h t (lowT t l) (lowT t l + i) hlt h1 (by omega) (by rw [h2];exact hh)
   unfold lowT at this
   simp [this] at h3
  rw [ord2_neg] at h4
  omega
 unfold SrtT insT
 rw [List.append_assoc,List.singleton_append,List.pairwise_append]
 refine ⟨h.sublist (List.take_sublist _ _),List.pairwise_cons.2 ⟨hC,h.sublist (List.drop_sublist _ _)⟩,fun a ha b hb => ?_⟩
 have h1 := hA a ha
 rcases List.mem_cons.1 hb with rfl | hb
 ·exact h1
 ·have h2 := hC b hb
  omega
theorem byP_ins {tm : List (Int × Int)} (hs : SrtT tm) (pos : Int × Int → Nat) (t : Int × Int) (hn : ∀ x ∈ tm,x.2 ≠ t.2) (hp : pos t < 25) :
  (byP tm pos).set (pos t) (insT t ((byP tm pos).getD (pos t) [])) = byP (insT t tm) pos := by
 have h1 : byP tm pos = byP (insT t tm) fun x => if x = t then 25 else pos x := by
  unfold byP
  refine List.map_congr_left fun p hp => ?_
  have := List.mem_range.1 hp
  have e : ∀ l : List (Int × Int),(∀ x ∈ l,x ∈ tm) → l.filter (fun x => decide ((if x = t then 25 else pos x) = p)) = l.filter fun x => decide (pos x = p) := fun l hl => List.filter_congr fun x hx => by
   have : x ≠ t := fun e => by have := hn x (hl x hx);rw [e] at this;exact this rfl
   simp [this]
  unfold insT
  rw [List.filter_append,List.filter_append,e _ fun x hx => List.mem_of_mem_take hx,e _ fun x hx => List.mem_of_mem_drop hx]
  have h2 : ¬ 25 = p := by omega
  simp only [List.filter_cons,List.filter_nil,if_true,h2,decide_false,Bool.false_eq_true,if_false,List.append_nil]
  rw [← List.filter_append,List.take_append_drop]
 rw [h1,byP_put (insT_srt hs hn) _ t (insT_mem.2 (.inl rfl)) (pos t) hp (by simp)]
 refine byP_congr fun x _ => ?_
 by_cases e : x = t
 ·simp [e]
 ·simp [e]
theorem WhOk.sub {now : Int} {tm : List (Int × Int)} (h : WhOk now tm) (q : Int × Int → Bool) : WhOk now (tm.filter q) :=
 ⟨h.n0,h.n1,List.Pairwise.filter _ h.srt,fun x hx => h.fit x (List.mem_filter.1 hx).1,h.ids.sublist (List.filter_sublist.map _),Nat.le_trans (List.length_filter_le _ _) h.few⟩
theorem mem_lists {tm : List (Int × Int)} {now : Int} {l : List (Int × Int)} {t : Int × Int} (hl : l ∈ byP tm (plN now)) (ht : t ∈ l) : t ∈ tm := by
 obtain ⟨p,_,rfl⟩ := byP_mem hl
 exact (List.mem_filter.1 ht).1
theorem lists_mem {tm : List (Int × Int)} {now : Int} {t : Int × Int} (ht : t ∈ tm) : ∃ l ∈ byP tm (plN now),t ∈ l :=
 ⟨tm.filter fun x => decide (plN now x = plN now t),List.mem_map.2 ⟨plN now t,List.mem_range.2 (plN_lt now t),rfl⟩,List.mem_filter.2 ⟨ht,by simp⟩⟩
theorem warmM (now : Int) (tm : List (Int × Int)) (h : WhOk now tm) (t : Int × Int) (hf : now < t.1 ∧ t.1 ≤ now + 500 ∧ t.1 ≤ 1099511627776 ∧ 0 ≤ t.2 ∧ t.2 < 200) (hn : ∀ x ∈ tm,x.2 ≠ t.2) :
  PF Tryz.prog 120 [whM now tm,I t.2,I t.1] (.tup [whM now (insT t tm),I 0]) := by
 have := warm_pf now t.1 t.2 (byP tm (plN now)) (plN now t) (byP_ok h) (by simp [fitsB];omega) (plN_eq now t) (plN_lt now t) (fun l hl x hx => hn x (mem_lists hl hx))
 rw [byP_ins h.srt (plN now) t hn (plN_lt now t)] at this
 exact this
theorem del_filter {l : List (Int × Int)} (hnd : l.Nodup) (k : Nat) (hk : k < l.length) : l.take k ++ l.drop (k + 1) = l.filter fun t => decide (t ≠ l[k]) := by
 have e : l = l.take k ++ l[k] :: l.drop (k + 1) := by rw [List.getElem_cons_drop,List.take_append_drop]
 obtain ⟨A,hA⟩ : ∃ A,A = l.take k := ⟨_,rfl⟩
 obtain ⟨C,hC⟩ : ∃ C,C = l.drop (k + 1) := ⟨_,rfl⟩
 obtain ⟨x,hx⟩ : ∃ x,x = l[k] := ⟨_,rfl⟩
 rw [← hA,← hC,← hx] at e ⊢
 rw [e] at hnd ⊢
 obtain ⟨h1,h2,h3⟩ := List.nodup_append.1 hnd
 obtain ⟨h4,h5⟩ := List.nodup_cons.1 h2
 rw [List.filter_append,List.filter_cons]
 have f1 : A.filter (fun t => decide (t ≠ x)) = A := List.filter_eq_self.2 fun a ha => by simpa using h3 a ha x List.mem_cons_self
 have f2 : C.filter (fun t => decide (t ≠ x)) = C := List.filter_eq_self.2 fun c hc => by
  have : c ≠ x := fun e => h4 (e ▸ hc)
  simpa using this
 rw [f1,f2]
 simp
theorem wcan0M (now : Int) (tm : List (Int × Int)) (h : WhOk now tm) (id : Int) (hn : ∀ x ∈ tm,x.2 ≠ id) :
  PF Tryz.prog 67 [whM now tm,I id] (.tup [.agg [I 0,.rows 1 []],I 8]) :=
 wcan0_pf now id (byP tm (plN now)) (byP_ok h) fun l hl t ht => hn t (mem_lists hl ht)
theorem wcanM (now : Int) (tm : List (Int × Int)) (h : WhOk now tm) (id : Int) (hn : ∃ x ∈ tm,x.2 = id) :
  PF Tryz.prog 67 [whM now tm,I id] (.tup [whM now (tm.filter fun t => decide (t.2 ≠ id)),I 0]) := by
 obtain ⟨x,hx,e⟩ := hn
 obtain ⟨l,hl,hxl⟩ := lists_mem (now := now) hx
 obtain ⟨i,k,hi,hk,hki,hpf⟩ := wcan_pf now id (byP tm (plN now)) (byP_ok h) ⟨l,hl,x,hxl,e⟩
 have hL := byP_len tm (plN now)
 have hli : (byP tm (plN now))[i] = tm.filter fun t => decide (plN now t = i) := by
  have := byP_get tm (plN now) i (by omega)
  rw [zC,zE hi] at this
  exact this
 have hnd : ((byP tm (plN now))[i]).Nodup := by rw [hli];exact (srt_nodup h.srt).sublist List.filter_sublist
 obtain ⟨t0,ht0⟩ : ∃ t0,t0 = (byP tm (plN now))[i][k] := ⟨_,rfl⟩
 have hdel := del_filter hnd k hk
 rw [← ht0] at hki hdel
 have hmem : t0 ∈ (byP tm (plN now))[i] := ht0 ▸ List.getElem_mem hk
 rw [hli] at hmem
 obtain ⟨hm1,hm2⟩ := List.mem_filter.1 hmem
 have hpos : plN now t0 = i := by simpa using hm2
 have huniq : ∀ t ∈ tm,t.2 = id ↔ t = t0 := fun t ht => by
  constructor
  ·intro e2
   obtain ⟨p,hp⟩ := zF ht
   obtain ⟨q,hq⟩ := zF hm1
   obtain ⟨p1,p2⟩ := zB.1 hp
   obtain ⟨q1,q2⟩ := zB.1 hq
   have hpq : p = q := (List.getElem_inj (h₀ := by simpa using p1) (h₁ := by simpa using q1) h.ids).1 (by simp [p2,q2,e2,hki])
   subst hpq
   rw [← p2,← q2]
  ·rintro rfl;exact hki
 have hset : (byP tm (plN now)).set i ((byP tm (plN now))[i].take k ++ (byP tm (plN now))[i].drop (k + 1)) = byP (tm.filter fun t => decide (t.2 ≠ id)) (plN now) := by
  rw [hdel,hli]
  apply List.ext_getElem?
  intro j
  unfold byP
  rw [List.getElem?_set,List.getElem?_map,List.getElem?_map]
  by_cases hj : j < 25
  ·rw [List.getElem?_range hj]
   by_cases e2 : i = j
   ·subst e2
    simp [hj,List.filter_filter]
    refine List.filter_congr fun t ht => ?_
    have := huniq t ht
    by_cases e3 : t = t0
    ·simp [e3,hki]
    ·have : ¬ t.2 = id := fun h => e3 (this.1 h)
     simp [e3,this]
   ·simp [e2,List.filter_filter]
    refine List.filter_congr fun t ht => ?_
    have := huniq t ht
    by_cases e3 : t = t0
    ·subst e3
     have : ¬ plN now t = j := by omega
     simp [this]
    ·have : ¬ t.2 = id := fun h => e3 (this.1 h)
     simp [this]
  ·rw [List.getElem?_eq_none (by simp;omega)]
   simp;omega
 rw [hset] at hpf
 exact hpf
def lrT (now : Int) (tm : List (Int × Int)) : List (List D) := lsR (byP tm (plN now))
theorem lrT_len (now : Int) (tm : List (Int × Int)) : (lrT now tm).length = 25 := by simp [lrT,lsR,byP_len]
theorem whM_def (now : Int) (tm : List (Int × Int)) : whM now tm = .agg [I now,.rows 1 (lrT now tm)] := rfl
theorem may0_code : cfun Tryz.prog [] 102 = some ⟨(.seq (qR 0 [oX 2 (.mov (.k qF))]) (.seq (.seq (qR 1 [oM 6 0,oH 7 6,oX 8 (.bin .gtr (.t 7) (kI 12))]) (.cond 8 (.seq (qR 2 [oX 2 (.mov (.k qF))]) .ret) .skip)) (.seq (qR 3 [oK 3 (-1)]) (.seq (.seq (qR 4 [oM 9 0,oH 10 9,oK 11 0]) (.block 0 (.loop (.seq (qR 5 [oX 12 (.bin .lss (.t 11) (.t 10))]) (.seq (.cond 12 .skip (.exit 0)) (.seq (.block 1 (.seq (qR 6 [oI 13 3 9 11,oA 14 3 13,oX 5 (.alloc [qZ,qZ,qZ]),oS 3 5 14]) (.seq (.seq (qR 7 [oF 15 0 5,oL 16 1 15,oM 17 3,oX 18 (.bin .leq (.t 16) (.t 17)),oM 19 18,oG 20 (.fad 0 (.t 5)) 19 false,oG 21 (.load false 1 (.t 20)) 19 false,oG 22 (.bin .geq (.t 21) (kI 12)) 19 false,oX 23 (.pick (.t 19) (.k qT) (.t 22)),oM 24 23,oG 25 (.fad 1 (.t 5)) 24 false,oG 26 (.load false 1 (.t 25)) 24 false,oG 27 (.bin .lss (.t 26) (kI 0)) 24 false,oX 28 (.pick (.t 24) (.k qT) (.t 27)),oM 29 28,oG 30 (.fad 1 (.t 5)) 29 false,oG 31 (.load false 1 (.t 30)) 29 false,oG 32 (.bin .gtr (.t 31) (kI 8)) 29 false,oX 33 (.pick (.t 29) (.k qT) (.t 32)),oM 34 33,oG 35 (.fad 2 (.t 5)) 34 false,oG 36 (.load false 1 (.t 35)) 34 false,oG 37 (.bin .lss (.t 36) (kI 0)) 34 false,oX 38 (.pick (.t 34) (.k qT) (.t 37)),oM 39 38,oG 40 (.fad 2 (.t 5)) 39 false,oG 41 (.load false 1 (.t 40)) 39 false,oG 42 (.bin .gtr (.t 41) (kI 40)) 39 false,oX 43 (.pick (.t 39) (.k qT) (.t 42))]) (.cond 43 (.seq (qR 8 [oX 2 (.mov (.k qF))]) .ret) .skip)) (qR 9 [oF 44 0 5,oL 45 1 44,oM 3 45])))) (qR 10 [oX 46 (.bin .add (.t 11) (kI 1)),oM 11 46]))))))) (.seq (qR 11 [oX 2 (.mov (.k qT))]) .ret))))),[(.t 2)],47⟩ := by kernel_rfl
theorem may0_pf : PF Tryz.prog 102 [.nil0] (.bool true) := by
 refine pO may0_code [0,2,3,5,8,9,10,11,12,43] [] fun B hBN hB0 => ?_
 simp
 refine W.loopS (fun y : Nat => ⟨[(11,I 0),(10,I 0),(9,.nil0),(3,I (-1)),(2,.bool false),(0,.nil0)],[],0⟩)
  (fun n y => n = 0 ∧ y = 0) ?_ ?_
 ·exact ⟨_,0,(gr0 [] hB0 (by simp) (by simp) (.inr rfl)),rfl,rfl⟩
 ·rintro n i ⟨rfl,rfl⟩
  refine acode_sound [0,2,3,5,8,9,10,11,12,43] [] _ _ _ ?_
  simp
theorem caps0_code : cfun Tryz.prog [] 61 = some ⟨(.seq (qR 0 [oX 8 (.mov (.k .nil0)),oK 9 0]) (.seq (.seq (qR 1 [oM 16 0,oX 17 (.call 102 [(.t 16)]),oX 18 (.not (.t 17))]) (.cond 18 (.seq (qR 2 [oX 8 (.mov (.k .nil0)),oK 9 6]) .ret) .skip)) (.seq (.seq (qR 3 [oM 19 1,oM 20 2,oX 21 (.call 42 [(.t 19),(.t 20)]),oX 22 (.not (.t 21)),oM 23 22,oG 24 (.mov (.t 3)) 23 false,oG 25 (.bin .lss (.t 24) (kI 0)) 23 false,oX 26 (.pick (.t 23) (.k qT) (.t 25)),oM 27 26,oG 28 (.mov (.t 3)) 27 false,oG 29 (.bin .gtr (.t 28) (kI 40)) 27 false,oX 30 (.pick (.t 27) (.k qT) (.t 29))]) (.cond 30 (.seq (qR 4 [oX 8 (.mov (.k .nil0)),oK 9 2]) .ret) .skip)) (.seq (qR 5 [oK 10 0]) (.seq (.seq (qR 6 [oM 31 0,oH 32 31,oK 33 0]) (.block 0 (.loop (.seq (qR 7 [oX 34 (.bin .lss (.t 33) (.t 32))]) (.seq (.cond 34 .skip (.exit 0)) (.seq (.block 1 (.seq (qR 8 [oI 35 3 31 33,oA 36 3 35,oX 12 (.alloc [qZ,qZ,qZ]),oS 3 12 36]) (qR 9 [oM 37 10,oF 38 1 12,oL 39 1 38,oX 40 (.bin .add (.t 37) (.t 39)),oM 10 40]))) (qR 10 [oX 41 (.bin .add (.t 33) (kI 1)),oM 33 41]))))))) (.seq (qR 11 [oM 42 0,oH 43 42,oX 44 (.mks 1 8 [qZ] (.t 43) (.t 43)),oM 13 44]) (.seq (.seq (qR 12 [oM 45 0,oH 46 45,oK 47 0]) (.block 2 (.loop (.seq (qR 13 [oX 48 (.bin .lss (.t 47) (.t 46))]) (.seq (.cond 48 .skip (.exit 2)) (.seq (.block 3 (.seq (qR 14 [oM 49 47,oI 50 3 45 47,oA 51 3 50,oX 15 (.alloc [qZ,qZ,qZ]),oM 14 49,oS 3 15 51]) (.seq (qR 15 [oF 52 1 15,oL 53 1 52,oX 54 (.bin .gtr (.t 53) (kI 0))]) (.cond 54 (qR 16 [oM 56 13,oM 57 14,oM 58 1,oM 59 2,oM 60 3,oF 61 1 15,oL 62 1 61,oM 63 10,oX 64 (.call 24 [(.t 58),(.t 59),(.t 60),(.t 62),(.t 63)]),oM 55 64,oE 65 55 0,oE 66 55 1,oI 67 1 56 57,oS 1 67 65]) .skip)))) (qR 17 [oX 68 (.bin .add (.t 47) (kI 1)),oM 47 68]))))))) (.seq (qR 18 [oM 69 13,oM 8 69,oK 9 0]) .ret)))))))),[(.t 8),(.t 9)],70⟩ := by kernel_rfl
theorem caps0_pf (num den : Int) : PF Tryz.prog 61 [.nil0,I num,I den,I 0] (.tup (if factorB num den = true then [.rows 1 [],I 0] else [.nil0,I 2])) := by
 have h1 := may0_pf
 have h2 := factor_pf num den
 by_cases hf : factorB num den = true
 ·rw [hf] at h2
  refine pO caps0_code [0,1,2,3,8,9,10,12,13,14,15,18,30,31,32,33,34,45,46,47,48,54] [] fun B hBN hB0 => ?_
  repeat' (first
   | simp [hf]
   | refine ⟨wcS ?_,?_⟩
   | (refine WCall.pf (h1) ?_ ?_ ?_ ?_;iterate 3 (solve|simp [hf]))
   | (refine WCall.pf (h2) ?_ ?_ ?_ ?_;iterate 3 (solve|simp [hf]))
   | with_reducible refine aI ?_ ?_ ?_)
  refine W.loopS (fun y : Nat => ⟨[(33,I 0),(32,I 0),(31,.nil0),(10,I 0),(9,I 0),(8,.nil0),(3,I 0),(2,I den),(1,I num),(0,.nil0)],[],0⟩)
   (fun n y => n = 0 ∧ y = 0) ?_ ?_
  ·exact ⟨_,0,(gr0 [] hB0 (by simp) (by simp) (.inr rfl)),rfl,rfl⟩
  rintro n i ⟨rfl,rfl⟩
  refine acode_sound [0,1,2,3,8,9,10,12,13,14,15,18,30,31,32,33,34,45,46,47,48,54] [] _ _ _ ?_
  repeat' (first
   | simp
   | refine ⟨wcS ?_,?_⟩
   | (refine WCall.pf (h1) ?_ ?_ ?_ ?_;iterate 3 (solve|simp))
   | with_reducible refine aI ?_ ?_ ?_)
  refine W.loopS (fun y : Nat => ⟨[(47,I 0),(46,I 0),(45,.nil0),(13,.own 0),(10,I 0),(9,I 0),(8,.nil0),(3,I 0),(2,I den),(1,I num),(0,.nil0)],[(0,.row 1 [])],1⟩)
   (fun n y => n = 0 ∧ y = 0) ?_ ?_
  ·exact ⟨_,0,(gr0 [] hB0 (by simp) (by simp) (.inr rfl)),rfl,rfl⟩
  rintro n i ⟨rfl,rfl⟩
  refine acode_sound [0,1,2,3,8,9,10,12,13,14,15,18,30,31,32,33,34,45,46,47,48,54] [] _ _ _ ?_
  repeat' (first
   | simp
   | refine ⟨wcS ?_,?_⟩
   | (refine WCall.pf (h1) ?_ ?_ ?_ ?_;iterate 3 (solve|simp))
   | with_reducible refine aI ?_ ?_ ?_)
 ·rw [Bool.not_eq_true] at hf
  rw [hf] at h2
  refine pO caps0_code [0,1,2,3,8,9,10,12,13,14,15,18,30,31,32,33,34,45,46,47,48,54] [] fun B hBN hB0 => ?_
  repeat' (first
   | simp [hf]
   | refine ⟨wcS ?_,?_⟩
   | (refine WCall.pf (h1) ?_ ?_ ?_ ?_;iterate 3 (solve|simp [hf]))
   | (refine WCall.pf (h2) ?_ ?_ ?_ ?_;iterate 3 (solve|simp [hf]))
   | with_reducible refine aI ?_ ?_ ?_)
theorem cwithin_code : cfun Tryz.prog [] 60 = some ⟨(.seq (qR 0 [oX 6 (.mov (.k qF))]) (.seq (qR 1 [oM 7 0,oM 8 1,oX 9 (.bin .geq (.t 7) (.t 8)),oM 10 9,oG 11 (.mov (.t 0)) 10 true,oG 12 (.mov (.t 2)) 10 true,oG 13 (.bin .leq (.t 11) (.t 12)) 10 true,oX 14 (.pick (.t 10) (.t 13) (.k qF)),oM 6 14]) .ret)),[(.t 6)],15⟩ := by kernel_rfl
def withinB (x lo hi : Int) : Bool := decide (lo ≤ x ∧ x ≤ hi)
theorem cwithin_pf (x lo hi : Int) : PF Tryz.prog 60 [I x,I lo,I hi] (.bool (withinB x lo hi)) := by
 refine pO cwithin_code [0,1,2,6] [] fun B hBN hB0 => ?_
 simp [withinB]
theorem withinB_t {x lo hi : Int} (h : lo ≤ x ∧ x ≤ hi) : withinB x lo hi = true := decide_eq_true h
structure Cfg where
 slots : Int
 num : Int
 den : Int
 tries : Int
 c4 : Int
 c5 : Int
 c6 : Int
 c7 : Int
 c8 : Int
 c9 : Int
 bud : Budget
 wat : Wtch
def Cfg.D (c : Cfg) : List D := [I c.slots,I c.num,I c.den,I c.tries,I c.c4,I c.c5,I c.c6,I c.c7,I c.c8,I c.c9,I c.bud.num,I c.bud.den,I c.bud.burst,I c.wat.window,I c.wat.fails,I c.wat.hold]
structure Cfg.Ok (c : Cfg) : Prop where
 f : factorB c.num c.den = true
 w0 : 1 ≤ c.slots ∧ c.slots ≤ 40
 w3 : 0 ≤ c.tries ∧ c.tries ≤ 12
 w4 : 0 ≤ c.c4 ∧ c.c4 ≤ 500
 w5 : 1 ≤ c.c5 ∧ c.c5 ≤ 500
 w6 : 1 ≤ c.c6 ∧ c.c6 ≤ 500
 w7 : 1 ≤ c.c7 ∧ c.c7 ≤ 500
 w8 : 0 ≤ c.c8 ∧ c.c8 ≤ 20
 w9 : 0 ≤ c.c9 ∧ c.c9 ≤ 100
 b : c.bud.Ok
 w : c.wat.Ok
theorem ccheck_code : cfun Tryz.prog [] 44 = some ⟨(.seq (qR 0 [oB 1 0,oK 2 0]) (.seq (qR 1 [oF 7 4 1,oL 8 1 7,oX 9 (.call 60 [(.t 8),(kI 0),(kI 500)]),oM 10 9,oG 11 (.fad 5 (.t 1)) 10 true,oG 12 (.load false 1 (.t 11)) 10 true,oG 13 (.call 60 [(.t 12),(kI 1),(kI 500)]) 10 true,oX 14 (.pick (.t 10) (.t 13) (.k qF)),oM 15 14,oG 16 (.fad 6 (.t 1)) 15 true,oG 17 (.load false 1 (.t 16)) 15 true,oG 18 (.call 60 [(.t 17),(kI 1),(kI 500)]) 15 true,oX 19 (.pick (.t 15) (.t 18) (.k qF)),oM 20 19,oG 21 (.fad 7 (.t 1)) 20 true,oG 22 (.load false 1 (.t 21)) 20 true,oG 23 (.call 60 [(.t 22),(kI 1),(kI 500)]) 20 true,oX 24 (.pick (.t 20) (.t 23) (.k qF)),oM 3 24]) (.seq (qR 2 [oF 26 1 1,oL 27 1 26,oF 28 2 1,oL 29 1 28,oX 30 (.call 61 [(.k .nil0),(.t 27),(.t 29),(kI 0)]),oM 25 30,oE 31 25 0,oE 32 25 1,oM 4 31,oM 5 32]) (.seq (.seq (qR 3 [oM 33 3,oX 34 (.not (.t 33)),oM 35 34,oG 36 (.mov (.t 5)) 35 false,oG 37 (.bin .neq (.t 36) (kI 0)) 35 false,oX 38 (.pick (.t 35) (.k qT) (.t 37)),oM 39 38,oG 40 (.fad 0 (.t 1)) 39 false,oG 41 (.load false 1 (.t 40)) 39 false,oG 42 (.call 60 [(.t 41),(kI 1),(kI 40)]) 39 false,oG 43 (.not (.t 42)) 39 false,oX 44 (.pick (.t 39) (.k qT) (.t 43)),oM 45 44,oG 46 (.fad 3 (.t 1)) 45 false,oG 47 (.load false 1 (.t 46)) 45 false,oG 48 (.call 60 [(.t 47),(kI 0),(kI 12)]) 45 false,oG 49 (.not (.t 48)) 45 false,oX 50 (.pick (.t 45) (.k qT) (.t 49)),oM 51 50,oG 52 (.fad 8 (.t 1)) 51 false,oG 53 (.load false 1 (.t 52)) 51 false,oG 54 (.call 60 [(.t 53),(kI 0),(kI 20)]) 51 false,oG 55 (.not (.t 54)) 51 false,oX 56 (.pick (.t 51) (.k qT) (.t 55)),oM 57 56,oG 58 (.fad 9 (.t 1)) 57 false,oG 59 (.load false 1 (.t 58)) 57 false,oG 60 (.call 60 [(.t 59),(kI 0),(kI 100)]) 57 false,oG 61 (.not (.t 60)) 57 false,oX 62 (.pick (.t 57) (.k qT) (.t 61))]) (.cond 62 (.seq (qR 4 [oK 2 2]) .ret) .skip)) (.seq (.seq (qR 5 [oF 63 10 1,oA 64 3 63,oX 65 (.call 62 [(.t 64)]),oM 6 65]) (.seq (qR 6 [oM 66 6,oX 67 (.bin .neq (.t 66) (kI 0))]) (.cond 67 (.seq (qR 7 [oM 68 6,oM 2 68]) .ret) .skip))) (.seq (qR 8 [oF 69 13 1,oA 70 3 69,oX 71 (.call 63 [(.t 70)]),oM 2 71]) .ret)))))),[(.t 2)],72⟩ := by kernel_rfl
theorem ccheck_pf (c : Cfg) (h : c.Ok) : PF Tryz.prog 44 [.agg c.D] (I 0) := by
 have e1 := cwithin_pf c.c4 0 500
 have e2 := cwithin_pf c.c5 1 500
 have e3 := cwithin_pf c.c6 1 500
 have e4 := cwithin_pf c.c7 1 500
 have e5 := cwithin_pf c.slots 1 40
 have e6 := cwithin_pf c.tries 0 12
 have e7 := cwithin_pf c.c8 0 20
 have e8 := cwithin_pf c.c9 0 100
 rw [withinB_t h.w4] at e1
 rw [withinB_t h.w5] at e2
 rw [withinB_t h.w6] at e3
 rw [withinB_t h.w7] at e4
 rw [withinB_t h.w0] at e5
 rw [withinB_t h.w3] at e6
 rw [withinB_t h.w8] at e7
 rw [withinB_t h.w9] at e8
 have hc := caps0_pf c.num c.den
 rw [if_pos h.f] at hc
 have hb := bcheck_pf c.bud
 rw [if_pos h.b] at hb
 have hw := hcheck_pf c.wat h.w
 unfold Budget.D at hb
 unfold Wtch.D at hw
 refine pO (h3 := by simp [Cfg.D]) ccheck_code [0,1,2,3,5,6,62,67] [] fun B hBN hB0 => ?_
 repeat' (first
  | simp [Cfg.D]
  | refine ⟨wcS ?_,?_⟩
  | (refine WCall.pf (e1) ?_ ?_ ?_ ?_;iterate 3 (solve|simp [Cfg.D]))
  | (refine WCall.pf (e2) ?_ ?_ ?_ ?_;iterate 3 (solve|simp [Cfg.D]))
  | (refine WCall.pf (e3) ?_ ?_ ?_ ?_;iterate 3 (solve|simp [Cfg.D]))
  | (refine WCall.pf (e4) ?_ ?_ ?_ ?_;iterate 3 (solve|simp [Cfg.D]))
  | (refine WCall.pf (e5) ?_ ?_ ?_ ?_;iterate 3 (solve|simp [Cfg.D]))
  | (refine WCall.pf (e6) ?_ ?_ ?_ ?_;iterate 3 (solve|simp [Cfg.D]))
  | (refine WCall.pf (e7) ?_ ?_ ?_ ?_;iterate 3 (solve|simp [Cfg.D]))
  | (refine WCall.pf (e8) ?_ ?_ ?_ ?_;iterate 3 (solve|simp [Cfg.D]))
  | (refine WCall.pf (hc) ?_ ?_ ?_ ?_;iterate 3 (solve|simp [Cfg.D]))
  | (refine WCall.pf (hb) ?_ ?_ ?_ ?_;iterate 3 (solve|simp [Cfg.D]))
  | (refine WCall.pf (hw) ?_ ?_ ?_ ?_;iterate 3 (solve|simp [Cfg.D]))
  | with_reducible refine aI ?_ ?_ ?_)
theorem config_code : cfun Tryz.prog [] 30 = some ⟨(.seq (qR 0 [oB 1 0,oX 2 (.alloc [qZ,qZ,qZ,qZ,qZ,qZ,qZ,qZ,qZ,qZ,qZ,qZ,qZ,qZ,qZ,qZ])]) (.seq (qR 1 [oF 4 2 1,oL 5 1 4,oX 6 (.call 31 [(.t 5),(kI 20)]),oX 7 (.bin .add (kI 1) (.t 6)),oM 3 7]) (.seq (.draw 2 (qN (oF 8 0 1) (qN (oL 9 1 8) (qN (oM 12 3) (qN (oF 13 1 1) (qN (oL 14 1 13) (qN (oM 15 3) (qN (oX 16 (.bin .sub (kI 20) (.t 15))) (qN (oX 17 (.bin .add (.t 16) (kI 1))) (qN (oM 20 3) (qN (oF 21 3 1) (qN (oL 22 1 21) (qN (oF 24 4 1) (qN (oL 25 1 24) (qN (oF 27 5 1) (qN (oL 28 1 27) (qN (oF 31 6 1) (qN (oL 32 1 31) (qN (oF 35 7 1) (qN (oL 36 1 35) (qN (oF 39 8 1) (qN (oL 40 1 39) (qN (oF 42 9 1) (qN (oL 43 1 42) (qN (oF 45 10 1) (qN (oX 46 (.iada 3 1 (.t 45) (kI 0))) (qN (oL 47 1 46) (qN (oF 48 10 1) (qN (oX 49 (.iada 3 1 (.t 48) (kI 1))) (qN (oL 50 1 49) (qN (oF 51 10 1) (qN (oX 52 (.iada 3 1 (.t 51) (kI 2))) (qN (oL 53 1 52) (qN (oF 55 13 1) (qN (oX 56 (.iada 3 1 (.t 55) (kI 0))) (qN (oL 57 1 56) (qN (oF 58 13 1) (qN (oX 59 (.iada 3 1 (.t 58) (kI 1))) (qN (oL 60 1 59) (qN (oF 61 13 1) (qN (oX 62 (.iada 3 1 (.t 61) (kI 2))) (qN (oL 63 1 62) (qN (oX 64 (.bin .rem (.t 63) (kI 20))) (qN (oX 10 (.call 31 [(.t 9),(kI 8)])) (qN (oX 11 (.bin .add (kI 1) (.t 10))) (qN (oX 18 (.call 31 [(.t 14),(.t 17)])) (qN (oX 19 (.bin .add (.t 12) (.t 18))) (qN (oX 23 (.call 31 [(.t 22),(kI 4)])) (qN (oX 26 (.call 31 [(.t 25),(kI 6)])) (qN (oX 29 (.call 31 [(.t 28),(kI 5)])) (qN (oX 30 (.bin .add (kI 1) (.t 29))) (qN (oX 33 (.call 31 [(.t 32),(kI 6)])) (qN (oX 34 (.bin .add (kI 1) (.t 33))) (qN (oX 37 (.call 31 [(.t 36),(kI 4)])) (qN (oX 38 (.bin .add (kI 1) (.t 37))) (qN (oX 41 (.call 31 [(.t 40),(kI 4)])) (qN (oX 44 (.call 31 [(.t 43),(kI 101)])) (qN (oX 54 (.call 48 [(.t 47),(.t 50),(.t 53)])) (qN (oX 65 (.call 49 [(.t 57),(.t 60),(.t 64)])) (qN (oX 66 (.build [qZ,qZ,qZ,qZ,qZ,qZ,qZ,qZ,qZ,qZ,qZ,qZ,qZ,qZ,qZ,qZ] [(0,(1,(.t 11))),(1,(1,(.t 19))),(2,(1,(.t 20))),(3,(1,(.t 23))),(4,(1,(.t 26))),(5,(1,(.t 30))),(6,(1,(.t 34))),(7,(1,(.t 38))),(8,(1,(.t 41))),(9,(1,(.t 44))),(10,(3,(.t 54))),(13,(3,(.t 65)))])) (.one false (oS 16 2 66) .done))))))))))))))))))))))))))))))))))))))))))))))))))))))))))))) .ret))),[(.c 2 true 16)],67⟩ := by kernel_rfl
def remZ (z : Int) : Int := if 0 ≤ z then z % 20 else -(-z % 20)
def cfgOf (a0 a1 a2 a3 a4 a5 a6 a7 a8 a9 a10 a11 a12 a13 a14 a15 : Int) : Cfg :=
 ⟨1 + pickedZ a0 8,(1 + pickedZ a2 20) + pickedZ a1 (20 - (1 + pickedZ a2 20) + 1),1 + pickedZ a2 20,pickedZ a3 4,pickedZ a4 6,1 + pickedZ a5 5,1 + pickedZ a6 6,1 + pickedZ a7 4,pickedZ a8 4,pickedZ a9 101,budgetOf a10 a11 a12,watchOf a13 a14 (remZ a15)⟩
theorem cfgOf_ok (a0 a1 a2 a3 a4 a5 a6 a7 a8 a9 a10 a11 a12 a13 a14 a15 : Int) : (cfgOf a0 a1 a2 a3 a4 a5 a6 a7 a8 a9 a10 a11 a12 a13 a14 a15).Ok := by
 have h0 := pickedZ_range a0 8 (by omega)
 have h2 := pickedZ_range a2 20 (by omega)
 have h1 := pickedZ_range a1 (20 - (1 + pickedZ a2 20) + 1) (by omega)
 have h3 := pickedZ_range a3 4 (by omega)
 have h4 := pickedZ_range a4 6 (by omega)
 have h5 := pickedZ_range a5 5 (by omega)
 have h6 := pickedZ_range a6 6 (by omega)
 have h7 := pickedZ_range a7 4 (by omega)
 have h8 := pickedZ_range a8 4 (by omega)
 have h9 := pickedZ_range a9 101 (by omega)
 exact ⟨decide_eq_true (by simp only [cfgOf];omega),by simp only [cfgOf];omega,by simp only [cfgOf];omega,by simp only [cfgOf];omega,by simp only [cfgOf];omega,by simp only [cfgOf];omega,by simp only [cfgOf];omega,by simp only [cfgOf];omega,by simp only [cfgOf];omega,budgetOf_ok _ _ _,watchOf_ok _ _ _⟩
theorem config_pf (a0 a1 a2 a3 a4 a5 a6 a7 a8 a9 a10 a11 a12 a13 a14 a15 : Int) (i0 : InR a0) (i1 : InR a1) (i2 : InR a2) (i3 : InR a3) (i4 : InR a4) (i5 : InR a5) (i6 : InR a6) (i7 : InR a7) (i8 : InR a8) (i9 : InR a9) (i10 : InR a10) (i11 : InR a11) (i12 : InR a12) (i13 : InR a13) (i14 : InR a14) (i15 : InR a15) :
  PF Tryz.prog 30 [.agg [I a0,I a1,I a2,I a3,I a4,I a5,I a6,I a7,I a8,I a9,I a10,I a11,I a12,I a13,I a14,I a15]] (.agg (cfgOf a0 a1 a2 a3 a4 a5 a6 a7 a8 a9 a10 a11 a12 a13 a14 a15).D) := by
 have h0 := pickedZ_range a0 8 (by omega)
 have h2 := pickedZ_range a2 20 (by omega)
 have h3 := pickedZ_range a3 4 (by omega)
 have h4 := pickedZ_range a4 6 (by omega)
 have h5 := pickedZ_range a5 5 (by omega)
 have h6 := pickedZ_range a6 6 (by omega)
 have h7 := pickedZ_range a7 4 (by omega)
 have h8 := pickedZ_range a8 4 (by omega)
 have h9 := pickedZ_range a9 101 (by omega)
 have hr : (if 0 ≤ a15 then a15 % 20 else -(-a15 % 20)) = remZ a15 := rfl
 have ht : InR (remZ a15) := by unfold remZ;split <;> exact inR (by omega) (by omega)
 have p0 := picked_pf a0 8 i0 (by omega)
 have p2 := picked_pf a2 20 i2 (by omega)
 have p3 := picked_pf a3 4 i3 (by omega)
 have p4 := picked_pf a4 6 i4 (by omega)
 have p5 := picked_pf a5 5 i5 (by omega)
 have p6 := picked_pf a6 6 i6 (by omega)
 have p7 := picked_pf a7 4 i7 (by omega)
 have p8 := picked_pf a8 4 i8 (by omega)
 have p9 := picked_pf a9 101 i9 (by omega)
 have pb := budget_pf a10 a11 a12 i10 i11 i12
 have pw := watch_pf a13 a14 (remZ a15) i13 i14 ht
 unfold cfgOf
 generalize pickedZ a0 8 = b0 at *
 generalize pickedZ a2 20 = b2 at *
 generalize pickedZ a3 4 = b3 at *
 generalize pickedZ a4 6 = b4 at *
 generalize pickedZ a5 5 = b5 at *
 generalize pickedZ a6 6 = b6 at *
 generalize pickedZ a7 4 = b7 at *
 generalize pickedZ a8 4 = b8 at *
 generalize pickedZ a9 101 = b9 at *
 generalize budgetOf a10 a11 a12 = bb at *
 generalize watchOf a13 a14 (remZ a15) = ww at *
 obtain ⟨d,hd⟩ : ∃ d,d = 1 + b2 := ⟨_,rfl⟩
 have h1 := pickedZ_range a1 (20 - d + 1) (by omega)
 have p1 := picked_pf a1 (20 - d + 1) i1 (by omega)
 rw [← hd]
 generalize pickedZ a1 (20 - d + 1) = b1 at *
 have j0 : InR (1 + b0) := inR (by omega) (by omega)
 have j1 : InR (d + b1) := inR (by omega) (by omega)
 have j2 : InR d := inR (by omega) (by omega)
 have j3 : InR (20 - d) := inR (by omega) (by omega)
 have j4 : InR (20 - d + 1) := inR (by omega) (by omega)
 have j5 : InR (1 + b5) := inR (by omega) (by omega)
 have j6 : InR (1 + b6) := inR (by omega) (by omega)
 have j7 : InR (1 + b7) := inR (by omega) (by omega)
 unfold Budget.D at pb
 unfold Wtch.D at pw
 refine pO config_code [0,1,2,3] [] fun B hBN hB0 => ?_
 repeat' (first
  | simp [Cfg.D,← hd,j0,j1,j2,j3,j4,j5,j6,j7,ht,hr]
  | refine ⟨wcS ?_,?_⟩
  | (refine WCall.pf (p0) ?_ ?_ ?_ ?_;iterate 3 (solve|simp [Cfg.D,← hd,j0,j1,j2,j3,j4,j5,j6,j7,ht,hr]))
  | (refine WCall.pf (p1) ?_ ?_ ?_ ?_;iterate 3 (solve|simp [Cfg.D,← hd,j0,j1,j2,j3,j4,j5,j6,j7,ht,hr]))
  | (refine WCall.pf (p2) ?_ ?_ ?_ ?_;iterate 3 (solve|simp [Cfg.D,← hd,j0,j1,j2,j3,j4,j5,j6,j7,ht,hr]))
  | (refine WCall.pf (p3) ?_ ?_ ?_ ?_;iterate 3 (solve|simp [Cfg.D,← hd,j0,j1,j2,j3,j4,j5,j6,j7,ht,hr]))
  | (refine WCall.pf (p4) ?_ ?_ ?_ ?_;iterate 3 (solve|simp [Cfg.D,← hd,j0,j1,j2,j3,j4,j5,j6,j7,ht,hr]))
  | (refine WCall.pf (p5) ?_ ?_ ?_ ?_;iterate 3 (solve|simp [Cfg.D,← hd,j0,j1,j2,j3,j4,j5,j6,j7,ht,hr]))
  | (refine WCall.pf (p6) ?_ ?_ ?_ ?_;iterate 3 (solve|simp [Cfg.D,← hd,j0,j1,j2,j3,j4,j5,j6,j7,ht,hr]))
  | (refine WCall.pf (p7) ?_ ?_ ?_ ?_;iterate 3 (solve|simp [Cfg.D,← hd,j0,j1,j2,j3,j4,j5,j6,j7,ht,hr]))
  | (refine WCall.pf (p8) ?_ ?_ ?_ ?_;iterate 3 (solve|simp [Cfg.D,← hd,j0,j1,j2,j3,j4,j5,j6,j7,ht,hr]))
  | (refine WCall.pf (p9) ?_ ?_ ?_ ?_;iterate 3 (solve|simp [Cfg.D,← hd,j0,j1,j2,j3,j4,j5,j6,j7,ht,hr]))
  | (refine WCall.pf (pb) ?_ ?_ ?_ ?_;iterate 3 (solve|simp [Cfg.D,← hd,j0,j1,j2,j3,j4,j5,j6,j7,ht,hr]))
  | (refine WCall.pf (pw) ?_ ?_ ?_ ?_;iterate 3 (solve|simp [Cfg.D,← hd,j0,j1,j2,j3,j4,j5,j6,j7,ht,hr]))
  | with_reducible refine aI ?_ ?_ ?_)
theorem sixteen {r : List Int} (h : r.length = 16) : ∃ a0 a1 a2 a3 a4 a5 a6 a7 a8 a9 a10 a11 a12 a13 a14 a15,r = [a0,a1,a2,a3,a4,a5,a6,a7,a8,a9,a10,a11,a12,a13,a14,a15] := by
 match r,h with
 | [a0,a1,a2,a3,a4,a5,a6,a7,a8,a9,a10,a11,a12,a13,a14,a15],_ => exact ⟨_,_,_,_,_,_,_,_,_,_,_,_,_,_,_,_,rfl⟩
end Go.Proofs.YtibemmkfcjlmpaaGreat
namespace Go.Proofs.YtibemmkfcjlmpaaGreat
open Go.RowKit Go.Shelf
attribute [local go_sem] Oper.semAt_some
theorem ralong_in (a : Option Addr) (m c : Nat) (z : Int) (n : Nat) (w : World) :
  CallsIn Fence.wide n Tryz.prog 154 #[.slice a m c,.int .i64 z] w fun e w' => e = .returned (.func (.func 174) #[] #[.pointer (some ⟨w.heap.size,0,none⟩),.pointer (some ⟨w.heap.size + 1,0,none⟩)]) ∧
   w' = (w.alloc (.cells #[.slice a m c] 44)).alloc (.cells #[.int .i64 z] 3) := by
 refine callsIn_of_wp Tryz.func154 rfl trivial ?_ rfl
 simp only [Tryz.ntmps154,List.size_toArray,List.length_cons,List.length_nil,Nat.reduceAdd,Nat.reduceSub,Array.replicate_succ,Array.replicate_zero,List.push_toArray,List.append_toArray,List.nil_append,List.cons_append]
 gi_wp2
 go_ret
 exact ⟨by simp,rfl⟩
def rotL {α : Type} (xs : List α) (f : Nat) : List α := xs.drop f ++ xs.take f
theorem rotL_len {α : Type} (xs : List α) (f : Nat) (h : f ≤ xs.length) : (rotL xs f).length = xs.length := by simp [rotL];omega
theorem rotL_get {α : Type} (xs : List α) (f k : Nat) (hf : f ≤ xs.length) (hk : k < xs.length) : (rotL xs f)[k]? = xs[(f + k) % xs.length]? := by
 unfold rotL
 by_cases h : f + k < xs.length
 ·rw [List.getElem?_append_left (by simp;omega),List.getElem?_drop,Nat.mod_eq_of_lt h]
 ·have e : (f + k) % xs.length = f + k - xs.length := by
   rw [Nat.mod_eq_sub_mod (by omega),Nat.mod_eq_of_lt (by omega)]
  rw [List.getElem?_append_right (by simp;omega),List.length_drop,List.getElem?_take,if_pos (by omega),e]
  congr 1
  omega
theorem rotL_take {α : Type} (xs : List α) (f k : Nat) (x : α) (h : (rotL xs f)[k]? = some x) : (rotL xs f).take (k + 1) = (rotL xs f).take k ++ [x] := by
 rw [List.take_add_one,h];rfl
def Kc (n bo : Nat) (A B : World) : Prop := ∀ p v,p.block < n → p.block ≠ bo → A.cell? p = some v → B.cell? p = some v
theorem Kc.below {n bo : Nat} {A B : World} (h : Below A.heap.size A B) : Kc n bo A B := fun p v _ _ hv => by
 rw [h.cell (World.block_lt_of_cell? A p hv)];exact hv
structure Rd (W : World) (n bo b1 b2 b off cap : Nat) (a : Option Addr) (z : Int) (xs : List (Int × Int)) : Prop where
 l1 : b1 < n ∧ b1 ≠ bo
 l2 : b2 < n ∧ b2 ≠ bo
 l3 : xs ≠ [] → a = some ⟨b,off,none⟩ ∧ b < n ∧ b ≠ bo
 c1 : W.cell? ⟨b1,0,none⟩ = some (.slice a xs.length cap)
 c2 : W.cell? ⟨b2,0,none⟩ = some (.int .i64 z)
 c3 : ∀ i x,xs[i]? = some x → W.cell? ⟨b,off + i * 2,none⟩ = some (.int .i64 x.1) ∧ W.cell? ⟨b,off + i * 2 + 1,none⟩ = some (.int .i64 x.2)
theorem Rd.keep {A B : World} {n bo b1 b2 b off cap : Nat} {a : Option Addr} {z : Int} {xs : List (Int × Int)} (h : Rd A n bo b1 b2 b off cap a z xs) (hk : Kc n bo A B) : Rd B n bo b1 b2 b off cap a z xs :=
 ⟨h.l1,h.l2,h.l3,hk _ _ h.l1.1 h.l1.2 h.c1,hk _ _ h.l2.1 h.l2.2 h.c2,fun i x hx => by
  have hne : xs ≠ [] := by rintro rfl;simp at hx
  obtain ⟨_,h1,h2⟩ := h.l3 hne
  exact ⟨hk _ _ h1 h2 (h.c3 i x hx).1,hk _ _ h1 h2 (h.c3 i x hx).2⟩⟩
theorem vt_spots {W : World} {b off cap : Nat} {a : Option Addr} {xs : List (Int × Int)} (hcap : xs.length ≤ cap) (ha : xs ≠ [] → a = some ⟨b,off,none⟩)
  (hc : ∀ i x,xs[i]? = some x → W.cell? ⟨b,off + i * 2,none⟩ = some (.int .i64 x.1) ∧ W.cell? ⟨b,off + i * 2 + 1,none⟩ = some (.int .i64 x.2)) :
  VT (fun b o => W.cell? ⟨b,o,none⟩) (.rows 2 (xs.map fun x : Int × Int => [I x.1,I x.2])) (.slice a xs.length cap) := by
 by_cases h0 : xs = []
 ·subst h0;exact VT.rnil _ _ _
 obtain rfl := ha h0
 have := VT.rows (Z := fun b o => W.cell? ⟨b,o,none⟩) 2 (xs.map fun x : Int × Int => [I x.1,I x.2]) b off cap (fun i j => .int .i64 (if j = 0 then (xs.getD i (0,0)).1 else (xs.getD i (0,0)).2)) (by simpa using hcap) ?_ ?_
 ·simpa using this
 ·intro i row j d hi hj
  rw [List.getElem?_map] at hi
  cases hx : xs[i]? with
  | none => rw [hx] at hi;cases hi
  | some x =>
   rw [hx] at hi
   simp only [Option.map_some,zA] at hi
   subst hi
   match j,hj with
   | 0,hj => exact ⟨by omega,by simpa [hx] using (hc i x hx).1⟩
   | 1,hj => exact ⟨by omega,by simpa [hx] using (hc i x hx).2⟩
   | j + 2,hj => simp at hj
 ·intro i row j d hi hj
  rw [List.getElem?_map] at hi
  cases hx : xs[i]? with
  | none => rw [hx] at hi;cases hi
  | some x =>
   rw [hx] at hi
   simp only [Option.map_some,zA] at hi
   subst hi
   have hg : xs.getD i (0,0) = x := by rw [zC,hx];rfl
   match j,hj with
   | 0,hj => simp at hj;subst hj;simp only [hg,if_true];exact VT.int _ _
   | 1,hj => simp at hj;subst hj;simp only [hg,Nat.one_ne_zero,if_false];exact VT.int _ _
   | j + 2,hj => simp at hj
theorem grown_of_below {A B : World} (h : Below A.heap.size A B) : A.grownBy B none := ⟨h.os,h.tape,h.output,h.size,fun k hk _ => h.block k hk⟩
def fromM (z : Int) (xs : List (Int × Int)) : Nat := lowB (fun x => decide (ord2 x.1 x.2 z (-1) < 0)) xs
def spV (x : Int × Int) : Array Value := #[.agg #[.int .i64 x.1,.int .i64 x.2]]
theorem bsf_in (a : Option Addr) (cap : Nat) (z : Int) (xs : List (Int × Int)) (n : Nat) (W : World) (hl : xs.length ≤ 1000000)
  (hmono : ∀ i j (hi : i < xs.length) (hj : j < xs.length),i ≤ j → ord2 xs[j].1 xs[j].2 z (-1) < 0 → ord2 xs[i].1 xs[i].2 z (-1) < 0)
  (hV : VT (fun b o => W.cell? ⟨b,o,none⟩) (.rows 2 (xs.map fun x : Int × Int => [I x.1,I x.2])) (.slice a xs.length cap)) :
  CallsIn Fence.wide n Tryz.prog 175 #[.slice a xs.length cap,.agg #[.int .i64 z,.int .i64 (-1)],.func (.func 136) #[] #[]] W
   fun e w' => (∃ t : Bool,e = .returned (.tuple #[.int .i64 (fromM z xs),.bool t])) ∧ Below W.heap.size W w' := by
 have hpf := spbsf_pf (fun x : Int × Int => [I x.1,I x.2]) xs 136 z (-1) (fun x => ord2 x.1 x.2 z (-1)) hl (fun x _ => ⟨rfl,fun d hd => by simp at hd;rcases hd with rfl | rfl <;> rfl⟩) (fun s _ => rord_pf s.1 s.2 z (-1)) hmono
 refine (hpf.wide (fun b o => W.cell? ⟨b,o,none⟩) W _ (fun _ _ _ h => h) rfl ?_).mono ?_
 ·intro j x hx
  match j,hx with
  | 0,hx => simp at hx;subst hx;exact hV
  | 1,hx =>
   simp at hx;subst hx
   refine ⟨_,rfl,rfl,fun k y hy => ?_⟩
   match k,hy with
   | 0,hy => simp at hy;subst hy;exact VT.int _ _
   | 1,hy => simp at hy;subst hy;exact VT.int _ _
   | k + 2,hy => simp at hy
  | 2,hx => simp at hx;subst hx;exact VT.fn _ _ _ rfl (fun j d hd => by simp at hd)
  | j + 3,hx => simp at hx
 ·rintro e w' ⟨v,Z',rfl,hr,_,hb⟩
  refine ⟨?_,hb⟩
  obtain ⟨us,rfl,hs,hu⟩ := hr
  have u0 := hu 0 _ rfl
  have u1 := hu 1 _ rfl
  match us,hs,u0,u1 with
  | ⟨[p,q]⟩,_,u0,u1 =>
   have e0 : p = .int .i64 (fromM z xs) := by
    have : VT Z' (I (fromM z xs)) p := u0
    cases this;rfl
   obtain ⟨t,e1⟩ : ∃ t,q = .bool t := by
    have : VT Z' (.bool _) q := u1
    cases this;exact ⟨_,rfl⟩
   exact ⟨t,by rw [e0,e1]⟩
theorem ralong1_in (n : Nat) (hn1 : 1 ≤ n) (l b1 b2 b off cap n0 bo : Nat) (a : Option Addr) (z : Int) (xs : List (Int × Int)) (J Jx : List (Int × Int) → World → Prop) (W : World) (hl : xs.length ≤ 1000000) (hcap : xs.length ≤ cap)
  (hmono : ∀ i j (hi : i < xs.length) (hj : j < xs.length),i ≤ j → ord2 xs[j].1 xs[j].2 z (-1) < 0 → ord2 xs[i].1 xs[i].2 z (-1) < 0)
  (hn : n0 ≤ W.heap.size) (hJ : AbidesFrom W.heap.size J)
  (hY : ∀ pre x W1,J pre W1 → pre.length < xs.length → YieldAt Fence.wide (n - 1) Tryz.prog l (spV x) W1 fun e W' =>
   (e = .returned (.bool true) ∧ J (pre ++ [x]) W' ∧ Kc n0 bo W1 W') ∨ (e = .returned (.bool false) ∧ Jx (pre ++ [x]) W'))
  (hR : Rd W n0 bo b1 b2 b off cap a z xs) (hJ0 : J [] W) :
  CallsIn Fence.wide n Tryz.prog 174 (#[.func (.yield l) #[] #[]] ++ #[.pointer (some ⟨b1,0,none⟩),.pointer (some ⟨b2,0,none⟩)]) W fun e W' => (∃ v,e = .returned v) ∧
   ((∃ ys,ys = rotL xs (fromM z xs) ∧ J ys W') ∨ (∃ pre,True ∧ Jx pre W')) := by
 have hfle : fromM z xs ≤ xs.length := lowB_le _ _
 obtain ⟨f,hf⟩ : ∃ f,f = fromM z xs := ⟨_,rfl⟩
 have hbsf := fun W' hV => bsf_in a cap z xs (n - 1) W' hl hmono hV
 rw [← hf] at hfle hbsf ⊢
 clear hf
 refine callsIn_of_wp Tryz.func174 rfl trivial ?_ rfl
 simp only [Tryz.ntmps174,List.size_toArray,List.length_cons,List.length_nil,Nat.reduceAdd,Nat.reduceSub,Array.replicate_succ,Array.replicate_zero,List.push_toArray,List.append_toArray,List.nil_append,List.cons_append]
 have w1 : Fence.wide.fn 175 := trivial
 have hc1 := hR.c1
 have hc2 := hR.c2
 gi_wp2_with (gi_at_call 175;refine (hbsf _ (vt_spots hcap (fun h => (hR.l3 h).1) hR.c3)).mono ?_;rintro e w' ⟨⟨t,rfl⟩,hb⟩;have hR' : Rd w' n0 bo b1 b2 b off cap a z xs := hR.keep (Kc.below hb);have hd1 := hR'.c1;have hd2 := hR'.c2)
 have hJ1 : J [] w' := hJ [] W w' none hJ0 (grown_of_below hb) (fun r e => by cases e)
 have hJ2 : AbidesFrom w'.heap.size J := fun s A B row hs hg hr => hJ s A B row hs hg fun r e => ⟨Nat.le_trans hb.size (hr r e).1,(hr r e).2⟩
 gi_loopw [16] (fun p wr => ∃ k : Nat,p = .int .i64 k ∧ k ≤ xs.length ∧ J ((rotL xs f).take k) wr ∧ Rd wr n0 bo b1 b2 b off cap a z xs)
  (fun p wr => match p with | .int _ m => xs.length - m.toNat | _ => 0)
 case atStart => exact ⟨0,rfl,Nat.zero_le _,hJ1,hR'⟩
 case round =>
  obtain ⟨k,rfl,hk,hJk,hRk⟩ := hrel
  have e1 := hRk.c1
  by_cases hlt : k < xs.length
  ·have hlt' : (k : Int) < xs.length := by omega
   have h0 : 0 < xs.length := by omega
   have ha := (hRk.l3 (by rintro rfl;simp at h0)).1
   subst ha
   obtain ⟨x,hx⟩ : ∃ x,(rotL xs f)[k]? = some x := ⟨_,zE (by rw [rotL_len xs f hfle];exact hlt)⟩
   have hx2 : xs[(f + k) % xs.length]? = some x := by rw [← rotL_get xs f k hfle hlt];exact hx
   obtain ⟨g1,g2⟩ := hRk.c3 _ x hx2
   gi_wp2
   refine wpIn_region_still_tail 10 (by kernel_rfl) (by kernel_rfl) ?_
   obtain ⟨w2,hw2⟩ : ∃ w2,w2 = ({ wr with drawn := wr.drawn + 1 } : World) := ⟨_,rfl⟩
   have hb2 : Below wr.heap.size wr w2 := by rw [hw2];exact ⟨rfl,rfl,rfl,Nat.le_refl _,fun _ _ => rfl⟩
   replace hJk : J ((rotL xs f).take k) w2 := hJ2 _ wr w2 none hJk (grown_of_below hb2) (fun r e => by cases e)
   replace hRk : Rd w2 n0 bo b1 b2 b off cap _ z xs := hRk.keep (Kc.below hb2)
   replace e1 := hRk.c1
   replace g1 := (hRk.c3 _ x hx2).1
   replace g2 := (hRk.c3 _ x hx2).2
   rw [← hw2]
   clear hw2 hb2
   simp only [List.take_succ_cons,List.take_zero,List.drop_succ_cons,List.drop_zero]
   repeat still_step
   have hwr : IntKind.i64.wrap ((f : Int) + k) = ((f + k : Nat) : Int) := by rw [wrap_in ⟨by omega,by omega⟩];omega
   have h0' : ¬ (xs.length : Int) = 0 := by omega
   have htm : Int.tmod ((f + k : Nat) : Int) (xs.length : Int) = (((f + k) % xs.length : Nat) : Int) := by rw [Int.tmod_eq_emod_of_nonneg (by omega)];rfl
   have hmlt : (f + k) % xs.length < xs.length := Nat.mod_lt _ h0
   have hw3 : IntKind.i64.wrap (((f + k) % xs.length : Nat) : Int) = (((f + k) % xs.length : Nat) : Int) := wrap_in ⟨by omega,by omega⟩
   rw [hwr]
   obtain ⟨q,hq⟩ : ∃ q,q = (f + k) % xs.length := ⟨_,rfl⟩
   rw [← hq] at htm hw3 g1 g2 hmlt
   obtain ⟨p,hp⟩ : ∃ p,p = f + k := ⟨_,rfl⟩
   rw [← hp] at htm ⊢
   clear hwr hq hp
   have hne : ¬ xs = [] := by rintro rfl;simp at h0
   refine wpStill_step fun K hK => ?_
   simp [go_sem,Oper.still,Oper.stillUpon,h0',htm,hw3,hne]
   refine hK _ ?_
   clear hK K
   repeat still_step
   refine wpStill_nil ?_
   obtain ⟨fn,tmps,assign,body,hy,hRd⟩ := hY _ x w2 hJk (by rw [List.length_take,rotL_len xs f hfle];omega)
   simp only [spV] at hy
   gi_wp2
   refine hRd.mono ?_
   rintro e W3 (⟨rfl,hJ3,hk3⟩ | ⟨rfl,hJx3⟩)
   ·gi_wp2
    go_roundw
    case rel => exact ⟨k + 1,by simp,by omega,by rw [rotL_take xs f k x hx];exact hJ3,hRk.keep hk3⟩
    case measure => simp;omega
   ·gi_wp2
    refine bodyPost_ret (results_none rfl _ _ _) rfl ?_
    exact ⟨⟨_,rfl⟩,.inr ⟨_,trivial,hJx3⟩⟩
  ·have hkl : k = xs.length := by omega
   subst hkl
   gi_wp2
   go_end0
   exact ⟨⟨_,rfl⟩,.inl ⟨_,rfl,by rw [List.take_of_length_le (by rw [rotL_len xs f hfle];exact Nat.le_refl _)] at hJk;exact hJk⟩⟩
end Go.Proofs.YtibemmkfcjlmpaaGreat
namespace Go.Proofs.YtibemmkfcjlmpaaGreat
open Go.RowKit Go.Shelf Go.Lib Go.Sort
def sortSp_ren : Go.Shelf.Ren := ⟨fun | 6 => 135 | 15 => 169 | 14 => 168 | 28 => 193 | 29 => 194 | 20 => 185 | 21 => 186 | 22 => 187 | 23 => 188 | 24 => 189 | 25 => 190 | 26 => 191 | 27 => 192 | 46 => 199 | 47 => 200 | 48 => 201 | 49 => 202 | 50 => 203 | 57 => 206 | n => n,
 fun | 22 => 44 | 24 => 162 | 25 => 246 | 3 => 3 | 39 => 282 | 0 => 0 | 53 => 302 | 55 => 304 | 4 => 4 | 46 => 296 | 45 => 295 | 50 => 276 | 5 => 5 | 9 => 9 | 66 => 306 | 70 => 150 | 76 => 313 | 77 => 206 | n => n,
 fun | n => n⟩
theorem sortSp : SlLaysF0.n6 Tryz.prog sortSp_ren := {
 mixed := by kernel_rfl,
 f6 := ⟨Tryz.f135.name,by decide,Tryz.func135.trans (congrArg some (by kernel_rfl))⟩,
 f14 := ⟨Tryz.f168.name,by decide,Tryz.func168.trans (congrArg some (by kernel_rfl))⟩,
 f15 := Tryz.func169.trans (congrArg some (by kernel_rfl)),
 f20 := ⟨Tryz.f185.name,by decide,Tryz.func185.trans (congrArg some (by kernel_rfl))⟩,
 f21 := ⟨Tryz.f186.name,by decide,Tryz.func186.trans (congrArg some (by kernel_rfl))⟩,
 f22 := ⟨Tryz.f187.name,by decide,Tryz.func187.trans (congrArg some (by kernel_rfl))⟩,
 f23 := ⟨Tryz.f188.name,by decide,Tryz.func188.trans (congrArg some (by kernel_rfl))⟩,
 f24 := ⟨Tryz.f189.name,by decide,Tryz.func189.trans (congrArg some (by kernel_rfl))⟩,
 f25 := ⟨Tryz.f190.name,by decide,Tryz.func190.trans (congrArg some (by kernel_rfl))⟩,
 f26 := ⟨Tryz.f191.name,by decide,Tryz.func191.trans (congrArg some (by kernel_rfl))⟩,
 f27 := ⟨Tryz.f192.name,by decide,Tryz.func192.trans (congrArg some (by kernel_rfl))⟩,
 f28 := Tryz.func193.trans (congrArg some (by kernel_rfl)),
 f29 := Tryz.func194.trans (congrArg some (by kernel_rfl)),
 f46 := ⟨Tryz.f199.name,by decide,Tryz.func199.trans (congrArg some (by kernel_rfl))⟩,
 f47 := Tryz.func200.trans (congrArg some (by kernel_rfl)),
 f48 := Tryz.func201.trans (congrArg some (by kernel_rfl)),
 f49 := ⟨Tryz.f202.name,by decide,Tryz.func202.trans (congrArg some (by kernel_rfl))⟩,
 f50 := ⟨Tryz.f203.name,by decide,Tryz.func203.trans (congrArg some (by kernel_rfl))⟩,
 f57 := ⟨Tryz.f206.name,by decide,Tryz.func206.trans (congrArg some (by kernel_rfl))⟩,
 t0 := Tryz.underlying0,
 a0 := Tryz.isAgg0,
 z0 := Tryz.sizeOf0,
 v0 := Tryz.zeroValue0,
 t3 := Tryz.underlying3,
 a3 := Tryz.isAgg3,
 z3 := Tryz.sizeOf3,
 v3 := Tryz.zeroValue3,
 t4 := Tryz.underlying4,
 a4 := Tryz.isAgg4,
 z4 := Tryz.sizeOf4,
 v4 := Tryz.zeroValue4,
 t5 := Tryz.underlying5,
 a5 := Tryz.isAgg5,
 z5 := Tryz.sizeOf5,
 v5 := Tryz.zeroValue5,
 t9 := Tryz.underlying9,
 a9 := Tryz.isAgg9,
 z9 := Tryz.sizeOf9,
 v9 := Tryz.zeroValue9,
 t22 := Tryz.underlying44,
 a22 := Tryz.isAgg44,
 z22 := Tryz.sizeOf44,
 v22 := Tryz.zeroValue44,
 t25 := Tryz.underlying246,
 a25 := Tryz.isAgg246,
 z25 := Tryz.sizeOf246,
 v25 := Tryz.zeroValue246,
 t39 := Tryz.underlying282,
 a39 := Tryz.isAgg282,
 z39 := Tryz.sizeOf282,
 v39 := Tryz.zeroValue282,
 t45 := Tryz.underlying295,
 a45 := Tryz.isAgg295,
 z45 := Tryz.sizeOf295,
 v45 := Tryz.zeroValue295,
 t46 := Tryz.underlying296,
 a46 := Tryz.isAgg296,
 z46 := Tryz.sizeOf296,
 v46 := Tryz.zeroValue296,
 t50 := Tryz.underlying276,
 a50 := Tryz.isAgg276,
 z50 := Tryz.sizeOf276,
 v50 := Tryz.zeroValue276,
 t53 := Tryz.underlying302,
 a53 := Tryz.isAgg302,
 z53 := Tryz.sizeOf302,
 v53 := Tryz.zeroValue302,
 t55 := Tryz.underlying304,
 a55 := Tryz.isAgg304,
 z55 := Tryz.sizeOf304,
 v55 := Tryz.zeroValue304,
 t66 := Tryz.underlying306,
 a66 := Tryz.isAgg306,
 z66 := Tryz.sizeOf306,
 v66 := Tryz.zeroValue306,
 t70 := Tryz.underlying150,
 a70 := Tryz.isAgg150,
 z70 := Tryz.sizeOf150,
 v70 := Tryz.zeroValue150,
 t76 := Tryz.underlying313,
 a76 := Tryz.isAgg313,
 z76 := Tryz.sizeOf313,
 v76 := Tryz.zeroValue313,
 t77 := Tryz.underlying206,
 a77 := Tryz.isAgg206,
 z77 := Tryz.sizeOf206,
 v77 := Tryz.zeroValue206 }
def cmpIn_ren : Go.Shelf.Ren := ⟨fun | 5 => 171 | 7 => 195 | n => n,
 fun | 22 => 3 | 3 => 3 | 4 => 4 | n => n,
 fun | n => n⟩
theorem cmpIn : SlLaysC2.n5 Tryz.prog cmpIn_ren := {
 mixed := by kernel_rfl,
 f5 := ⟨Tryz.f171.name,by decide,Tryz.func171.trans (congrArg some (by kernel_rfl))⟩,
 f7 := ⟨Tryz.f195.name,by decide,Tryz.func195.trans (congrArg some (by kernel_rfl))⟩,
 t3 := Tryz.underlying3,
 a3 := Tryz.isAgg3,
 z3 := Tryz.sizeOf3,
 v3 := Tryz.zeroValue3,
 t4 := Tryz.underlying4,
 a4 := Tryz.isAgg4,
 z4 := Tryz.sizeOf4,
 v4 := Tryz.zeroValue4,
 t22 := Tryz.underlying3,
 a22 := Tryz.isAgg3,
 z22 := Tryz.sizeOf3,
 v22 := Tryz.zeroValue3 }
def orZ (x y : Int) : Int := if x ≠ 0 then x else y
theorem or_calls (b off c : Nat) (x y : Int) (W : World) (hx : W.cell? ⟨b,off,none⟩ = some (.int .i64 x)) (hy : W.cell? ⟨b,off + 1,none⟩ = some (.int .i64 y)) :
  Calls Tryz.prog 170 #[.slice (some ⟨b,off,none⟩) 2 c] W fun e w' => e = .returned (.int .i64 (orZ x y)) ∧ w' = W := by
 go_enter Tryz.func170,Tryz.ntmps170
 go_wp2
 go_loop [5,8] (fun _ i => ∃ k : Nat,k ≤ 2 ∧ i = .int .i64 k ∧ (0 < k → x = 0) ∧ (1 < k → y = 0)) (fun _ i => match i with | .int _ m => 2 - m.toNat | _ => 0)
 case atStart => exact ⟨0,Nat.zero_le _,rfl,by simp,by simp⟩
 case round =>
  obtain ⟨k,hk,rfl,h1,h2⟩ := hrel
  rcases (show k = 0 ∨ k = 1 ∨ k = 2 by omega) with rfl | rfl | rfl
  ·go_wp2
   ·go_ret
    refine ⟨?_,rfl⟩
    unfold orZ
    simp_all
   ·refine ⟨⟨1,by omega,rfl,fun _ => by simp_all,fun h => by omega⟩,by simp⟩
  ·obtain rfl := h1 (by omega)
   go_wp2
   ·go_ret
    refine ⟨?_,rfl⟩
    unfold orZ
    simp_all
   ·refine ⟨⟨2,by omega,rfl,fun _ => by simp_all,fun _ => by simp_all⟩,by simp⟩
  ·obtain rfl := h1 (by omega)
   obtain rfl := h2 (by omega)
   go_wp2
   go_ret
   exact ⟨rfl,rfl⟩
def cfSp (a b : Int × Int) : Int := orZ (Lib.compareInt a.1 b.1) (Lib.compareInt a.2 b.2)
theorem order_calls (a b : Int × Int) (W : World) : Calls Tryz.prog 136 #[.agg #[.int .i64 a.1,.int .i64 a.2],.agg #[.int .i64 b.1,.int .i64 b.2]] W fun e w' => e = .returned (.int .i64 (cfSp a b)) ∧ ∃ q os',w' = grow (W.drewN q) os' := by
 have hcon := fun x y W' => AnyG.cmp_Compare_int cmpIn x y W'
 change ∀ x y W',Calls Tryz.prog 171 _ _ _ at hcon
 have hor := or_calls
 obtain ⟨a1,a2⟩ := a
 obtain ⟨b1,b2⟩ := b
 unfold cfSp
 simp only
 go_enter Tryz.func136,Tryz.ntmps136
 go_wp2
 obtain ⟨w1,hw1⟩ : ∃ w1,w1 = ((W.alloc (.cells #[.int .i64 a1,.int .i64 a2] 162)).alloc (.cells #[.int .i64 b1,.int .i64 b2] 162)) := ⟨_,rfl⟩
 have hg1 : w1 = grow W #[.cells #[.int .i64 a1,.int .i64 a2] 162,.cells #[.int .i64 b1,.int .i64 b2] 162] := by rw [hw1,alloc_eq_grow,alloc_eq_grow,grow_grow];rfl
 have c1 : w1.cell? ⟨W.heap.size,0,none⟩ = some (.int .i64 a1) := by rw [hg1];simp [World.cell?,grow]
 have c2 : w1.cell? ⟨W.heap.size,1,none⟩ = some (.int .i64 a2) := by rw [hg1];simp [World.cell?,grow]
 have c3 : w1.cell? ⟨W.heap.size + 1,0,none⟩ = some (.int .i64 b1) := by rw [hg1];simp [World.cell?,grow]
 have c4 : w1.cell? ⟨W.heap.size + 1,1,none⟩ = some (.int .i64 b2) := by rw [hg1];simp [World.cell?,grow]
 rw [← hw1]
 clear hw1
 refine wp_region_still_tail 10 (by kernel_rfl) (by kernel_rfl) ?_
 obtain ⟨w2,hw2⟩ : ∃ w2,w2 = ({ w1 with drawn := w1.drawn + 1 } : World) := ⟨_,rfl⟩
 have hg2 : ∃ os',w2 = grow (W.drewN 1) os' := ⟨_,by rw [hw2,hg1];rfl⟩
 replace c1 : w2.cell? ⟨W.heap.size,0,none⟩ = some (.int .i64 a1) := by rw [hw2];exact c1
 replace c2 : w2.cell? ⟨W.heap.size,1,none⟩ = some (.int .i64 a2) := by rw [hw2];exact c2
 replace c3 : w2.cell? ⟨W.heap.size + 1,0,none⟩ = some (.int .i64 b1) := by rw [hw2];exact c3
 replace c4 : w2.cell? ⟨W.heap.size + 1,1,none⟩ = some (.int .i64 b2) := by rw [hw2];exact c4
 rw [← hw2]
 clear hw2 hg1
 simp only [List.take_succ_cons,List.take_zero,List.drop_succ_cons,List.drop_zero]
 repeat still_step
 still_call (hcon _ _ _)
 repeat still_step
 still_call (hcon _ _ _)
 refine wpStill_nil ?_
 have d1 : ∀ l1 l2 : Value,(w2.alloc (.cells #[l1,l2] 3)).cell? ⟨w2.heap.size,0,none⟩ = some l1 := fun l1 l2 => by rw [alloc_eq_grow];unfold World.cell? grow;simp only [Array.getElem?_append_right (Nat.le_refl _),Nat.sub_self];rfl
 have d2 : ∀ l1 l2 : Value,(w2.alloc (.cells #[l1,l2] 3)).cell? ⟨w2.heap.size,0 + 1,none⟩ = some l2 := fun l1 l2 => by rw [alloc_eq_grow];unfold World.cell? grow;simp only [Array.getElem?_append_right (Nat.le_refl _),Nat.sub_self];rfl
 go_wp2_with (go_at_call 170;refine (hor w2.heap.size 0 2 (Lib.compareInt a1 b1) (Lib.compareInt a2 b2) _ (d1 _ _) (d2 _ _)).mono ?_;rintro e w' ⟨rfl,rfl⟩)
 go_ret
 obtain ⟨os',rfl⟩ := hg2
 rw [alloc_eq_grow,grow_grow]
 exact ⟨rfl,1,_,rfl⟩
def spE (a : Int × Int) : List D := [I a.1,I a.2]
def encSp (a : Int × Int) : List Value := [.int .i64 a.1,.int .i64 a.2]
theorem ltSp (a b : Int × Int) : ltOf cfSp a b = decide (a.1 < b.1 ∨ (a.1 = b.1 ∧ a.2 < b.2)) := by
 unfold ltOf cfSp orZ Lib.compareInt
 obtain ⟨a1,a2⟩ := a
 obtain ⟨b1,b2⟩ := b
 simp only
 by_cases h1 : a1 < b1 <;> by_cases h2 : b1 < a1 <;> by_cases h3 : a2 < b2 <;> by_cases h4 : b2 < a2 <;> simp [h1,h2,h3,h4] <;> omega
theorem swoSp : SWO (ltOf cfSp) where
 irrefl x := by rw [ltSp];simp
 trans x y z h1 h2 := by rw [ltSp] at *;simp at *;omega
 ntrans x y z h1 h2 := by rw [ltSp] at *;simp at *;omega
theorem totSp (x y : Int × Int) (h1 : ltOf cfSp x y = false) (h2 : ltOf cfSp y x = false) : x = y := by
 rw [ltSp] at *
 simp at *
 exact Prod.ext (by omega) (by omega)
def sortM (l : List (Int × Int)) : List (Int × Int) := l.mergeSort fun x y => !(ltOf cfSp) y x
theorem sortM_len (l : List (Int × Int)) : (sortM l).length = l.length := List.length_mergeSort l
theorem vtInt {Z : Cells} {z : Int} {v : Value} (h : VT Z (I z) v) : v = .int .i64 z := by cases h;rfl
theorem spsort_hf (xs : List (Int × Int)) (h0 : xs ≠ []) (hl : xs.length < 1000000) :
  HF Tryz.prog 135 [.own 0,.fn 136 []] [(0,.row 2 (xs.map spE))] 1 (fun d H' nx' => d = .tup [] ∧ H' = [(0,.row 2 ((sortM xs).map spE))] ∧ nx' = 1) := by
 refine ⟨by kernel_rfl,fun F s Z w vs hR hlen hv => ?_⟩
 obtain ⟨v0,v1,rfl⟩ : ∃ v0 v1,vs = #[v0,v1] := by
  match vs,hlen with
  | ⟨[v0,v1]⟩,_ => exact ⟨_,_,rfl⟩
 have e0 : v0 = s 0 := (hv 0 _ rfl).1
 have e1 := hv 1 _ rfl
 have hob : RowOk (VT Z) w 2 (xs.map spE) (s 0) := hR.ob 0 _ rfl
 obtain ⟨k1,k2,⟨h,_⟩ | ⟨g,cap,cur,e,k3,k4,k5,k6,k7,k8⟩⟩ := hob
 ·exact absurd (List.map_eq_nil_iff.1 h) h0
 rw [List.length_map] at k3 k5
 have hx0 : 0 < xs.length := List.length_pos_iff.2 h0
 have hgl : g < w.heap.size := Array.getElem?_eq_some_iff.1 k4 |>.1
 have hsz : cur.size = cap * 2 := k7
 have hcl : xs.length * 2 ≤ cur.size := by omega
 have hcell : ∀ i (hi : i < xs.length),cur.getD (i * 2 + 0) undef = .int .i64 xs[i].1 ∧ cur.getD (i * 2 + 1) undef = .int .i64 xs[i].2 := fun i hi =>
  ⟨vtInt <| k8 i (spE xs[i]) 0 (I xs[i].1) (by rw [List.getElem?_map,zE hi];rfl) rfl,vtInt <| k8 i (spE xs[i]) 1 (I xs[i].2) (by rw [List.getElem?_map,zE hi];rfl) rfl⟩
 have hH : HoldsK encSp 2 w g 0 xs.toArray := fun t ht => by
  rw [size_flatK,List.size_toArray] at ht
  have hi : t / 2 < xs.length := by omega
  obtain ⟨c1,c2⟩ := hcell (t / 2) hi
  have hcu : w.cell? ⟨g,0 + t,none⟩ = some (cur.getD t undef) := by
   unfold World.cell?
   simp only [k4,Nat.zero_add]
   rw [Array.getD_eq_getD_getElem?,Array.getElem?_eq_getElem (by omega)]
   rfl
  have hfz : w.frozen? ⟨g,0 + t,none⟩ = false := by
   unfold World.frozen?
   simp only [k4]
   rfl
  refine ⟨?_,hfz⟩
  rw [hcu,get_flatK _ _ _ _ (by rw [List.size_toArray];exact ht)]
  have hx : xs.toArray[t / 2]! = xs[t / 2] := by simp [hi]
  rw [hx]
  rcases (show t % 2 = 0 ∨ t % 2 = 1 by omega) with hm | hm
  ·rw [hm,show cur.getD t undef = cur.getD (t / 2 * 2 + 0) undef by rw [show t / 2 * 2 + 0 = t by omega],c1]
   simp [encSp]
  ·rw [hm,show cur.getD t undef = cur.getD (t / 2 * 2 + 1) undef by rw [show t / 2 * 2 + 1 = t by omega],c2]
   simp [encSp]
 have eg : ∀ args w,(callFunc 136 args).run Tryz.prog w = .ok (.enter 136 args) w := enters_of Tryz.func136 (by kernel_rfl) rfl
 have hcmp : CmpLays Tryz.prog 136 #[] encSp 2 cfSp g 0 xs.toArray.size w := fun m os dk _ x y => order_calls x y _
 have hcon := AnyQ.slices_SortFunc_total sortSp 2 Tryz.isAgg162 Tryz.sizeOf162 encSp (fun _ => rfl) (fun x v hv => by simp [encSp] at hv;rcases hv with rfl | rfl <;> rfl) cfSp swoSp 136 #[] g 0 cap xs.toArray w eg hcmp hH hgl (by simp;omega) totSp
 change Calls Tryz.prog 135 _ _ _ at hcon
 have e2 : v1 = .func (.func 136) #[] #[] := by
  cases e1 with
  | fn _ _ us h1 _ => obtain rfl : us = #[] := Array.eq_empty_of_size_eq_zero h1;rfl
 rw [e0,e2,k3]
 refine Calls.mono (by simpa using hcon) ?_
 rintro e' w' ⟨rfl,n,os,rfl⟩
 obtain ⟨ys,hys⟩ : ∃ ys,ys = sortM xs := ⟨_,rfl⟩
 have hyl : ys.length = xs.length := by rw [hys];exact sortM_len xs
 rw [show (xs.mergeSort fun x y => !(ltOf cfSp) y x) = ys from hys.symm,← hys]
 obtain ⟨w1,hw1⟩ : ∃ w1,w1 = putRowK encSp 2 (Sort.ahead w n) g 0 ys.toArray := ⟨_,rfl⟩
 have hwg : w1.heap[g]? = some (.cells (putCells id 0 (flatK encSp 2 ys.toArray) cur) e (0,0)) := by
  rw [hw1]
  simp [putRowK,putRow,mapBlock,Sort.ahead,Array.getElem?_modify,k4,onCells]
 have hon : Only g w w1 := by
  rw [hw1]
  refine ⟨rfl,rfl,rfl,by simp [putRowK,putRow,mapBlock,Sort.ahead],fun j hj => ?_⟩
  simp [putRowK,putRow,mapBlock,Sort.ahead,Array.getElem?_modify,Ne.symm hj]
 have hH1 : HoldsK encSp 2 w1 g 0 ys.toArray := by
  rw [hw1]
  exact holdsK_putRowK _ _ _ _ _ xs.toArray _ hH (by simp [hyl])
 have hzs : (putCells id 0 (flatK encSp 2 ys.toArray) cur).size = cap * 2 := by simp [putCells,hsz]
 have hyc : ∀ i (hi : i < ys.length) c,c < 2 → (putCells id 0 (flatK encSp 2 ys.toArray) cur).getD (i * 2 + c) undef = (encSp ys[i])[c]! := fun i hi c hc => by
  have h1 := (HoldsK.cell hH1 (i := i) (c := c) (by simpa using hi) hc).1
  unfold World.cell? at h1
  simp only [hwg,Nat.zero_add] at h1
  have h2 : ys.toArray[i]! = ys[i] := by simp [hi]
  rw [h2] at h1
  have h3 : (putCells id 0 (flatK encSp 2 ys.toArray) cur)[i * 2 + c]? = some (encSp ys[i])[c]! := h1
  rw [Array.getD_eq_getD_getElem?,h3]
  rfl
 have hlast : (eput [(0,Ob.row 2 (xs.map spE))] 0 (Ob.row 2 (ys.map spE))) = [(0,Ob.row 2 (ys.map spE))] := by simp [eput]
 have hrel : RelH ⟨0,F,w,1,s,Z⟩ s Z [(0,.row 2 (ys.map spE))] 1 w1 := by
  rw [← hlast]
  refine hR.write (id := 0) rfl (k := g) (by rw [k3];simp [blk];omega) hon ?_ ?_
  ·refine ⟨by omega,fun row hr => ?_,.inr ⟨g,cap,_,e,by rw [k3,List.length_map,hyl],hwg,by rw [List.length_map,hyl];exact k5,k6,hzs,fun i row j d hi hj => ?_⟩⟩
   ·obtain ⟨y,_,rfl⟩ := List.mem_map.1 hr;rfl
   ·rw [List.getElem?_map] at hi
    cases hy : ys[i]? with
    | none => rw [hy] at hi;cases hi
    | some y =>
     obtain ⟨hil,rfl⟩ := zB.1 hy
     rw [hy] at hi
     obtain rfl : spE ys[i] = row := Option.some.inj hi
     match j,hj with
     | 0,hj => obtain rfl : I ys[i].1 = d := Option.some.inj hj;rw [hyc i hil 0 (by omega)];exact .int _ _
     | 1,hj => obtain rfl : I ys[i].2 = d := Option.some.inj hj;rw [hyc i hil 1 (by omega)];exact .int _ _
     | j + 2,hj => simp [spE] at hj
  ·simp [LtO]
 refine ⟨.tuple #[],.tup [],_,1,s,Z,rfl,⟨#[],rfl,rfl,fun j x h => by simp at h⟩,by simp [LtR],?_,rfl,rfl,rfl⟩
 have hb : Below w1.heap.size w1 (sortWorldK encSp 2 w g 0 n ys.toArray os) := by
  have : sortWorldK encSp 2 w g 0 n ys.toArray os = grow w1 os := by rw [hw1];rfl
  rw [this]
  refine ⟨rfl,rfl,rfl,by simp [grow],fun k hk => by simp [grow,Array.getElem?_append,hk]⟩
 exact hrel.call hb (Zx.refl hrel.zok hb)
theorem spsort0_hf : HF Tryz.prog 135 [.own 0,.fn 136 []] [(0,.row 2 [])] 1 (fun d H' nx' => d = .tup [] ∧ H' = [(0,.row 2 [])] ∧ nx' = 1) := by
 refine ⟨by kernel_rfl,fun F s Z w vs hR hlen hv => ?_⟩
 obtain ⟨v0,v1,rfl⟩ : ∃ v0 v1,vs = #[v0,v1] := by
  match vs,hlen with
  | ⟨[v0,v1]⟩,_ => exact ⟨_,_,rfl⟩
 have e0 : v0 = s 0 := (hv 0 _ rfl).1
 have hob : RowOk (VT Z) w 2 [] (s 0) := hR.ob 0 _ rfl
 obtain ⟨p,cap,hs⟩ : ∃ p cap,s 0 = .slice p 0 cap := by
  obtain ⟨_,_,⟨_,a,h⟩ | ⟨g,cap,_,_,h,_⟩⟩ := hob
  ·exact ⟨a,0,h⟩
  ·exact ⟨_,cap,h⟩
 have hcon := AnyF.slices_SortFunc_none sortSp p cap v1 w
 change Calls Tryz.prog 135 _ _ _ at hcon
 rw [e0,hs]
 refine Calls.mono hcon ?_
 rintro e' w' ⟨rfl,hw⟩
 subst hw
 exact ⟨.tuple #[],.tup [],_,1,s,Z,rfl,⟨#[],rfl,rfl,fun j x h => by simp at h⟩,by simp [LtR],hR,rfl,rfl,rfl⟩
theorem spsortA_hf (xs : List (Int × Int)) (hl : xs.length < 1000000) :
  HF Tryz.prog 135 [.own 0,.fn 136 []] [(0,.row 2 (xs.map spE))] 1 (fun d H' nx' => d = .tup [] ∧ H' = [(0,.row 2 ((sortM xs).map spE))] ∧ nx' = 1) := by
 by_cases h : xs = []
 ·subst h
  have : sortM [] = [] := by unfold sortM;exact List.mergeSort_nil
  rw [this]
  exact spsort0_hf
 ·exact spsort_hf xs h hl
end Go.Proofs.YtibemmkfcjlmpaaGreat
namespace Go.Proofs.YtibemmkfcjlmpaaGreat
open Go.RowKit
attribute [local simp] AK_at acode_seq acode_region acode_draw acode_cond CB_u acode_block acode_loop acode_exit acode_scope acode_ret acode_skip seqQ_n seqQ_e seqQ_r blockQ_n blockQ_e blockQ_r TK_at OK_at SK_at aops_nil aops_cons asch_done asch_one asch_two asch_top astep aop_eq isLoud aloud aloud1 isWrite qv evS strip gof eget hget putO eput herase oks opnds gS afin afin0 binD arith D.cells takeD fillD keep trim envOf Fin aresl aresv resD argOk pickV isP deq deqs boundD slD lenD isT isSl ptrIds chunks mn_min mx_max splice_one splice_more Rbr_at Rfr_at frR frV frC flatC brwR brwV brwC omap leR leV leC leL leVL rnR rnV rnC rnO rho_0 hputs herases rnS LtS LtR LtV LtC LtO lget noV noC flatR flatV rho
attribute [local simp ↓] CB_t CB_f
theorem inG {z : Int} (h1 : -9223372036854775808 ≤ z) (h2 : z ≤ 9223372036854775807) : InR z := ⟨h1,h2⟩
theorem hspot_pf (b i : Int) (hb : 0 ≤ b) (hb' : b < 12) (hi : 0 ≤ i) (hi' : i < 32) : PF Tryz.prog 167 [I b,I i] (.tup [I (spotN b.toNat i.toNat : Nat),I 0]) := by
 refine ⟨by kernel_rfl,fun Z w vs hz hl hv => ?_⟩
 obtain ⟨v0,v1,rfl⟩ : ∃ v0 v1,vs = #[v0,v1] := by
  match vs,hl with
  | ⟨[v0,v1]⟩,_ => exact ⟨_,_,rfl⟩
 have e0 : v0 = .int .i64 b := vtInt (hv 0 _ rfl)
 have e1 : v1 = .int .i64 i := vtInt (hv 1 _ rfl)
 subst e0 e1
 refine (hashSpot_any b i w hb hb' hi hi').mono fun e w' ⟨he,hB⟩ => ⟨_,Z,he,⟨_,rfl,rfl,fun j x h => ?_⟩,Zx.refl hz hB,hB⟩
 match j,h with
 | 0,h => obtain rfl := Option.some.inj h;exact VT.int _ _
 | 1,h => obtain rfl := Option.some.inj h;exact VT.int _ _
 | j + 2,h => simp at h
theorem hkey_pf (k : Int) (h0 : 0 ≤ k) (h1 : k < 4294967296) : PF Tryz.prog 153 [I k] (.tup [I (keyN k.toNat : Nat),I 0]) := by
 refine ⟨by kernel_rfl,fun Z w vs hz hl hv => ?_⟩
 obtain ⟨v0,rfl⟩ : ∃ v0,vs = #[v0] := by
  match vs,hl with
  | ⟨[v0]⟩,_ => exact ⟨_,rfl⟩
 have e0 : v0 = .int .i64 k := vtInt (hv 0 _ rfl)
 subst e0
 refine (hashKey_any k w h0 h1).mono fun e w' ⟨he,hB⟩ => ⟨_,Z,he,⟨_,rfl,rfl,fun j x h => ?_⟩,Zx.refl hz hB,hB⟩
 match j,h with
 | 0,h => obtain rfl := Option.some.inj h;exact VT.int _ _
 | 1,h => obtain rfl := Option.some.inj h;exact VT.int _ _
 | j + 2,h => simp at h
def spotAt (b i : Nat) : Int × Int := ((spotN b i : Nat),b)
def spotsM (b n : Nat) : List (Int × Int) := (List.range n).map (spotAt b)
theorem spotsM_succ (b n : Nat) : spotsM b (n + 1) = spotsM b n ++ [spotAt b n] := by unfold spotsM;rw [List.range_succ,List.map_append];rfl
theorem spotsM_len (b n : Nat) : (spotsM b n).length = n := by simp [spotsM]
theorem rspots_code : cfun Tryz.prog [] 134 = some ⟨(.seq (qR 0 [oX 4 (.mov (.k .nil0))]) (.seq (qR 1 [oX 5 (.mov (.k .nil0))]) (.seq (.seq (qR 2 [oM 9 1,oX 10 (.bin .mul (.t 9) (kI 4)),oK 11 0]) (.block 0 (.loop (.seq (qR 3 [oX 12 (.bin .lss (.t 11) (.t 10))]) (.seq (.cond 12 .skip (.exit 0)) (.seq (.block 1 (.seq (qR 4 [oM 13 11,oM 6 13]) (.seq (qR 5 [oM 15 0,oM 16 6,oX 17 (.call 167 [(.t 15),(.t 16)]),oM 14 17,oE 18 14 0,oE 19 14 1,oM 7 18,oM 8 19]) (qR 6 [oM 20 5,oM 21 7,oM 22 0,oX 23 (.build [qZ,qZ] [(0,(1,(.t 21))),(1,(1,(.t 22)))]),oX 24 (.bslice 2 1 [qZ,qZ] [(0,(.t 23))]),oX 25 (.app 2 16 [qZ,qZ] (.t 20) (.t 24)),oM 5 25])))) (qR 7 [oX 26 (.bin .add (.t 11) (kI 1)),oM 11 26]))))))) (.seq (qR 8 [oM 27 5,oM 4 27]) .ret)))),[(.t 4)],28⟩ := by kernel_rfl
theorem rspots_pf (b w : Nat) (hb : b < 12) (hw : w ≤ 8) : PF Tryz.prog 134 [I b,I w] (.rows 2 ((spotsM b (4 * w)).map spE)) := by
 have i1 : InR ((w : Int) * 4) := inG (by omega) (by omega)
 refine pO rspots_code [0,1,4,5,6,7,10,11,12] [] fun B hBN hB0 => ?_
 simp [i1]
 refine W.loopS (fun i : Nat => ⟨[(11,I i),(10,I ((w : Int) * 4)),(5,.own 0),(4,.nil0),(1,I w),(0,I b)],[(0,.row 2 ((spotsM b i).map spE))],1⟩)
  (fun n i => n = 4 * w - i ∧ i ≤ 4 * w) ?_ ?_
 ·refine ⟨_,0,(Gh.adopt 5 2 (by omega) (by simp)).trans ?_,rfl,by omega⟩
  simp
  exact (gr0 [0] hB0 (by simp [spotsM]) (by simp [spotsM]) (.inl (by simp [spotsM])))
 rintro n i ⟨hn,hi⟩
 refine acode_sound [0,1,4,5,6,7,10,11,12] [] _ _ _ ?_
 by_cases hlt : i < 4 * w
 ·have hz : (i : Int) < w * 4 := by omega
  have hs := hspot_pf b i (by omega) (by omega) (by omega) (by omega)
  rw [Int.toNat_natCast,Int.toNat_natCast] at hs
  have hsl := spotsM_len b i
  have hcap : (i + 1) * 16 ≤ 140737488355328 := by omega
  have ii : InR ((i : Int) + 1) := inG (by omega) (by omega)
  have hss := spotsM_succ b i
  repeat' (first
   | simp [hz,hsl,hcap,ii]
   | refine ⟨wcS ?_,?_⟩
   | (refine WCall.pf (hs) ?_ ?_ ?_ ?_;iterate 3 (solve|simp [hz,hsl,hcap,ii]))
   | with_reducible refine aI ?_ ?_ ?_)
  all_goals exact ⟨_,i + 1,(gr0 [2] hB0 (by simp [hss,spE,spotAt]) (by simp [hss,spE,spotAt]) (.inl (by simp [hss,spE,spotAt]))),by omega,rfl,by omega⟩
 ·obtain rfl : i = 4 * w := by omega
  have hz : ¬ (4 * (w : Int)) < w * 4 := by omega
  simp [hz]
structure WOk (ws : List Nat) : Prop where
 len : ws.length = 12
 le : ∀ w ∈ ws,w ≤ 8
def wantM (ws : List Nat) (k : Nat) : List (Int × Int) := (List.range k).flatMap fun b => spotsM b (4 * ws.getD b 0)
def ringM (ws : List Nat) : List (Int × Int) := sortM (wantM ws 12)
def isB (b : Nat) (s : Int × Int) : Bool := decide (s.2 = (b : Int))
def cntS (l : List (Int × Int)) : List Int := (List.range 12).map fun b => ((l.countP (isB b) : Nat) : Int)
theorem wantM_succ (ws : List Nat) (k : Nat) : wantM ws (k + 1) = wantM ws k ++ spotsM k (4 * ws.getD k 0) := by unfold wantM;rw [List.range_succ,List.flatMap_append];simp
theorem wantM_len (ws : List Nat) (h : WOk ws) : ∀ k,(wantM ws k).length ≤ 32 * k
 | 0 => by simp [wantM]
 | k + 1 => by
  have ih := wantM_len ws h k
  have : ws.getD k 0 ≤ 8 := by
   by_cases hk : k < ws.length
   ·rw [zC,zE hk];exact h.le _ (List.getElem_mem hk)
   ·rw [zC,List.getElem?_eq_none (by omega)];simp
  rw [wantM_succ,List.length_append,spotsM_len];omega
theorem spotsM_mem {b n : Nat} {s : Int × Int} (h : s ∈ spotsM b n) : s.2 = (b : Int) := by
 obtain ⟨i,_,rfl⟩ := List.mem_map.1 h;rfl
theorem wantM_mem {ws : List Nat} {k : Nat} {s : Int × Int} (h : s ∈ wantM ws k) : 0 ≤ s.2 ∧ s.2 < k := by
 obtain ⟨b,hb,hs⟩ := List.mem_flatMap.1 h
 have := spotsM_mem hs
 have := List.mem_range.1 hb
 omega
theorem ringM_perm (ws : List Nat) : (ringM ws).Perm (wantM ws 12) := List.mergeSort_perm _ _
theorem ringM_mem {ws : List Nat} {s : Int × Int} (h : s ∈ ringM ws) : 0 ≤ s.2 ∧ s.2 < 12 := wantM_mem ((ringM_perm ws).mem_iff.1 h)
theorem ringM_len (ws : List Nat) (h : WOk ws) : (ringM ws).length ≤ 384 := by rw [(ringM_perm ws).length_eq];exact wantM_len ws h 12
theorem cnt_spots (b c n : Nat) : (spotsM c n).countP (isB b) = if c = b then n else 0 := by
 by_cases h : c = b
 ·rw [if_pos h,List.countP_eq_length.2 fun s hs => by have := spotsM_mem hs;simp [isB,this,h],spotsM_len]
 ·rw [if_neg h]
  refine List.countP_eq_zero.2 fun s hs => ?_
  have := spotsM_mem hs
  simp [isB,this];omega
theorem cnt_want (ws : List Nat) (b : Nat) : ∀ k,(wantM ws k).countP (isB b) = if b < k then 4 * ws.getD b 0 else 0
 | 0 => by simp [wantM]
 | k + 1 => by
  rw [wantM_succ,List.countP_append,cnt_want ws b k,cnt_spots]
  rcases Nat.lt_trichotomy b k with h | h | h
  ·rw [if_pos h,if_neg (by omega),if_pos (by omega)];rfl
  ·subst h;rw [if_neg (by omega),if_pos rfl,if_pos (by omega)];omega
  ·rw [if_neg (by omega),if_neg (by omega),if_neg (by omega)]
theorem cnt_ring (ws : List Nat) (b : Nat) (hb : b < 12) : (ringM ws).countP (isB b) = 4 * ws.getD b 0 := by
 rw [(ringM_perm ws).countP_eq,cnt_want,if_pos hb]
def byM (ws : List Nat) (k : Nat) : List Int := (List.range 12).map fun b => if b < k then ((ws.getD b 0 : Nat) : Int) else ((4 * ws.getD b 0 : Nat) : Int)
theorem cnt_byM (ws : List Nat) : cntS (ringM ws) = byM ws 0 := by
 unfold cntS byM
 refine List.map_congr_left fun b hb => ?_
 rw [cnt_ring ws b (List.mem_range.1 hb),if_neg (by omega)]
theorem cntS_succ (l : List (Int × Int)) (i : Nat) (h : i < l.length) (b : Nat) (hb : l[i].2 = b) (hb2 : b < 12) : cntS (l.take (i + 1)) = (cntS (l.take i)).set b (((l.take i).countP (isB b) : Nat) + 1) := by
 rw [List.take_succ_eq_append_getElem h]
 refine List.ext_getElem (by simp [cntS]) fun j h1 h2 => ?_
 have hj : j < 12 := by simpa [cntS] using h1
 rw [List.getElem_set]
 simp only [cntS,List.getElem_map,List.getElem_range,List.countP_append,List.countP_cons,List.countP_nil]
 by_cases hjb : b = j
 ·subst hjb;simp [isB,hb]
 ·rw [if_neg hjb]
  have : isB j l[i] = false := by simp [isB,hb];omega
  simp [this]
theorem cntS_bd (l : List (Int × Int)) (b : Nat) : ((l.countP (isB b) : Nat) : Int) ≤ l.length := by
 have := List.countP_le_length (p := isB b) (l := l);omega
theorem byM_set (ws : List Nat) (k : Nat) (hk : k < 12) : (byM ws k).set k ((ws.getD k 0 : Nat) : Int) = byM ws (k + 1) := by
 refine List.ext_getElem (by simp [byM]) fun j h1 h2 => ?_
 rw [List.getElem_set]
 simp only [byM,List.getElem_map,List.getElem_range]
 by_cases h : k = j
 ·subst h;rw [if_pos rfl,if_pos (by omega)]
 ·rw [if_neg h]
  by_cases h3 : j < k
  ·rw [if_pos h3,if_pos (by omega)]
  ·rw [if_neg h3,if_neg (by omega)]
theorem speq2 (l : List (Int × Int)) (hl : l.length ≤ 1000000) : PF Tryz.prog 113 [.rows 2 (l.map spE),.rows 2 (l.map spE)] (.bool true) := speq_pf l hl
theorem rnI (f : Nat → Nat) : rnC f ∘ I = I := rfl
theorem spliceI (l : List Int) (b : Nat) (z : Int) (h : b < l.length) : splice (l.map I) b [D.int IntKind.i64 z] = (l.set b z).map I := by
 rw [splice_one _ _ _ (by simpa using h),List.map_set]
theorem omapI (H : List (Nat × Ob)) (nx : Nat) : ∀ l : List Nat,omap (brwC H nx) (l.map fun w : Nat => I (w : Int)) = some (l.map fun w : Nat => I (w : Int))
 | [] => rfl
 | x :: t => by simp [omapI H nx t]
theorem leLI : ∀ l : List Nat,leL (l.map fun w : Nat => I (w : Int)) (l.map fun w : Nat => I (w : Int))
 | [] => by simp
 | x :: t => by simp [leLI t]
theorem rwei_code : cfun Tryz.prog [] 128 = some ⟨(.seq (qR 0 [oB 1 0,oX 2 (.alloc [qZ,qZ,qZ,qZ,qZ,qZ,qZ,qZ,qZ,qZ,qZ,qZ]),oX 3 (.mov (.k qF))]) (.seq (qR 1 [oX 4 (.alloc [qZ,qZ,qZ,qZ,qZ,qZ,qZ,qZ,qZ,qZ,qZ,qZ])]) (.seq (.seq (qR 2 [oF 10 0 1,oL 11 1 10,oH 12 11,oK 13 0]) (.block 0 (.loop (.seq (qR 3 [oX 14 (.bin .lss (.t 13) (.t 12))]) (.seq (.cond 14 .skip (.exit 0)) (.seq (.block 1 (.seq (qR 4 [oI 15 2 11 13,oA 16 2 15,oX 6 (.alloc [qZ,qZ]),oS 2 6 16]) (.seq (.seq (qR 5 [oF 17 1 6,oL 18 1 17,oX 19 (.bin .lss (.t 18) (kI 0)),oM 20 19,oG 21 (.fad 1 (.t 6)) 20 false,oG 22 (.load false 1 (.t 21)) 20 false,oG 23 (.bin .geq (.t 22) (kI 12)) 20 false,oX 24 (.pick (.t 20) (.k qT) (.t 23))]) (.cond 24 (.seq (qR 6 [oA 25 12 4,oS 12 2 25,oX 3 (.mov (.k qF))]) .ret) .skip)) (qR 7 [oF 26 1 6,oL 27 1 26,oX 28 (.iada 12 1 (.t 4) (.t 27)),oL 29 1 28,oX 30 (.bin .add (.t 29) (kI 1)),oX 31 (.iada 12 1 (.t 4) (.t 27)),oS 1 31 30])))) (qR 8 [oX 32 (.bin .add (.t 13) (kI 1)),oM 13 32]))))))) (.seq (qR 9 [oX 7 (.mov (.k .nil0))]) (.seq (.seq (qR 10 [oA 33 12 4,oK 34 0]) (.block 2 (.loop (.seq (qR 11 [oX 35 (.bin .lss (.t 34) (kI 12))]) (.seq (.cond 35 .skip (.exit 2)) (.seq (.block 3 (.seq (qR 12 [oM 36 34,oX 37 (.ida false 12 1 (.t 33) (.t 34)),oM 8 36,oM 9 37]) (.seq (.seq (qR 13 [oM 38 9,oX 39 (.bin .rem (.t 38) (kI 4)),oX 40 (.bin .neq (.t 39) (kI 0)),oM 41 40,oG 42 (.mov (.t 9)) 41 false,oG 43 (.bin .gtr (.t 42) (kI 32)) 41 false,oX 44 (.pick (.t 41) (.k qT) (.t 43))]) (.cond 44 (.seq (qR 14 [oA 45 12 4,oS 12 2 45,oX 3 (.mov (.k qF))]) .ret) .skip)) (.seq (qR 15 [oM 46 8,oM 47 9,oX 48 (.bin .quo (.t 47) (kI 4)),oX 49 (.iada 12 1 (.t 4) (.t 46)),oS 1 49 48]) (qR 16 [oM 50 7,oM 51 8,oM 52 8,oX 53 (.iada 12 1 (.t 4) (.t 52)),oL 54 1 53,oX 55 (.call 134 [(.t 51),(.t 54)]),oX 56 (.app 2 16 [qZ,qZ] (.t 50) (.t 55)),oM 7 56]))))) (qR 17 [oX 57 (.bin .add (.t 34) (kI 1)),oM 34 57]))))))) (.seq (qR 18 [oM 58 7,oX 59 (.call 135 [(.t 58),(.k (.fn 136 []))])]) (.seq (.draw 19 (qN (oA 60 12 4) (qN (oM 61 7) (qN (oF 62 0 1) (qN (oL 63 1 62) (qN (oX 64 (.call 113 [(.t 61),(.t 63)])) (.one false (oS 12 2 60) (qN (oM 3 64) .done)))))))) .ret))))))),[(.c 2 true 12),(.t 3)],65⟩ := by kernel_rfl
theorem rwei_pf (ws : List Nat) (h : WOk ws) : PF Tryz.prog 128 [.agg [.rows 2 ((ringM ws).map spE)]] (.tup [.agg (ws.map fun w : Nat => I (w : Int)),.bool true]) := by
 have hrl := ringM_len ws h
 have heq := speq2 (ringM ws) (by omega)
 refine pO rwei_code [0,1,2,3,4,6,7,8,9,11,12,13,14,24,33,34,35,44] [] fun B hBN hB0 => ?_
 simp
 refine W.loopS (fun i : Nat => ⟨[(13,I i),(12,I (ringM ws).length),(11,.rows 2 ((ringM ws).map spE)),(4,.ptr 2 0),(3,.bool false),(2,.ptr 1 0),(1,.ptr 0 0)],[(2,.cells ((cntS ((ringM ws).take i)).map I)),(1,.cells [I 0,I 0,I 0,I 0,I 0,I 0,I 0,I 0,I 0,I 0,I 0,I 0]),(0,.cells [.rows 2 ((ringM ws).map spE)])],3⟩)
  (fun n i => n = (ringM ws).length - i ∧ i ≤ (ringM ws).length) ?_ ?_
 ·exact ⟨_,0,(gr0 [0,1,2] hB0 (by simp [cntS,List.range_succ]) (by simp [cntS,List.range_succ]) (.inl (by simp [cntS,List.range_succ]))),rfl,by omega⟩
 rintro n i ⟨hn,hi⟩
 refine acode_sound [0,1,2,3,4,6,7,8,9,11,12,13,14,24,33,34,35,44] [] _ _ _ ?_
 by_cases hlt : i < (ringM ws).length
 ·obtain ⟨o,ho⟩ : ∃ o,o = (ringM ws)[i] := ⟨_,rfl⟩
  have hm : o ∈ ringM ws := ho ▸ List.getElem_mem hlt
  have hmm := ringM_mem hm
  obtain ⟨b,hb⟩ : ∃ b : Nat,o.2 = b := ⟨o.2.toNat,by omega⟩
  have hb2 : b < 12 := by omega
  have hbd := cntS_bd ((ringM ws).take i) b
  have hll : ((ringM ws).take i).length ≤ 384 := by simp;omega
  have hst := cntS_succ (ringM ws) i hlt b (ho ▸ hb) hb2
  have hlc : (cntS ((ringM ws).take i)).length = 12 := by simp [cntS]
  obtain ⟨c,hc⟩ : ∃ c,c = ((ringM ws).take i).countP (isB b) := ⟨_,rfl⟩
  rw [← hc] at hst hbd
  have hat : (cntS ((ringM ws).take i))[b]? = some (c : Int) := by simp [cntS,hc,List.getElem?_range,hb2]
  have ii : InR ((i : Int) + 1) := inG (by omega) (by omega)
  have ic : InR ((c : Int) + 1) := inG (by omega) (by omega)
  have c1 : ¬ (b : Int) < 0 := by omega
  have c2 : ¬ (12 : Int) ≤ b := by omega
  have hspl := spliceI (cntS ((ringM ws).take i)) b ((c : Int) + 1) (by rw [hlc];exact hb2)
  rw [← hst] at hspl
  simp [hlt,← ho,spE,hb,hat,hlc,ii,ic,c1,c2,hspl]
  exact ⟨by omega,by omega,by omega,by omega,_,i + 1,(gr0 [0,1,2] hB0 (by simp [rnI]) (by simp [rnI]) (.inl (by simp [rnI]))),by omega,rfl,by omega⟩
 ·obtain rfl : i = (ringM ws).length := by omega
  simp only [List.take_length,cnt_byM]
  have hlb : ∀ k,(byM ws k).length = 12 := fun k => by simp [byM]
  have htk : ∀ k,((byM ws k).map I).take 12 = (byM ws k).map I := fun k => List.take_of_length_le (by simp [hlb])
  simp [hlb,htk]
  refine W.loopS (fun k : Nat => ⟨[(34,I k),(33,.agg ((byM ws 0).map I)),(7,.own 3),(4,.ptr 2 0),(3,.bool false),(2,.ptr 1 0),(1,.ptr 0 0)],[(3,.row 2 ((wantM ws k).map spE)),(2,.cells ((byM ws k).map I)),(1,.cells [I 0,I 0,I 0,I 0,I 0,I 0,I 0,I 0,I 0,I 0,I 0,I 0]),(0,.cells [.rows 2 ((ringM ws).map spE)])],4⟩)
   (fun n k => n = 12 - k ∧ k ≤ 12) ?_ ?_
  ·refine ⟨_,0,(Gh.adopt 7 2 (by omega) (by simp)).trans ?_,rfl,by omega⟩
   simp
   exact (gr0 [0,1,2,3] hB0 (by simp [wantM,rnI]) (by simp [wantM,rnI]) (.inl (by simp [wantM,rnI])))
  rintro n k ⟨hn,hk⟩
  refine acode_sound [0,1,2,3,4,6,7,8,9,11,12,13,14,24,33,34,35,44] [] _ _ _ ?_
  by_cases hlt : k < 12
  ·have hz : (k : Int) < 12 := by omega
   obtain ⟨w,hw⟩ : ∃ w,w = ws.getD k 0 := ⟨_,rfl⟩
   have hw8 : w ≤ 8 := by
    rw [hw,zC,zE (by rw [h.len];exact hlt)]
    exact h.le _ (List.getElem_mem _)
   have hset := byM_set ws k hlt
   rw [← hw] at hset
   have hat0 : (byM ws 0)[k]? = some ((4 * w : Nat) : Int) := by simp [byM,List.getElem?_range,hlt,hw]
   have hatk : (byM ws (k + 1))[k]? = some (w : Int) := by simp [byM,List.getElem?_range,hlt,hw]
   have hsp := rspots_pf k w hlt hw8
   have hws := wantM_succ ws k
   rw [← hw] at hws
   have hwl := wantM_len ws h k
   have hsl := spotsM_len k (4 * w)
   have ii : InR ((k : Int) + 1) := inG (by omega) (by omega)
   have c8 : ¬ (32 : Int) < 4 * w := by omega
   have hq : 4 * (w : Int) / 4 = w := by omega
   have hspl := spliceI (byM ws k) k (w : Int) (by rw [hlb];exact hlt)
   rw [hset] at hspl
   have hcap : (wantM ws k).length + 4 * w ≤ 1000 := by omega
   have g1 : 0 < 12 - k := by omega
   have g2 : k ≤ 11 := by omega
   have g3 : (0 : Int) ≤ 4 * w := by omega
   have iw : InR (w : Int) := inG (by omega) (by omega)
   have hcap2 : ((wantM ws k).length + 4 * w) * 16 ≤ 140737488355328 := by omega
   repeat' (first
    | simp [hz,hlb,htk,hat0,c8,hq,hspl,hatk,ii,hwl,hsl,g1,g2,g3,iw,hcap2]
    | refine ⟨wcS ?_,?_⟩
    | (refine WCall.pf (hsp) ?_ ?_ ?_ ?_;iterate 3 (solve|simp [hz,hlb,htk,hat0,c8,hq,hspl,hatk,ii,hwl,hsl,g1,g2,g3,iw,hcap2]))
    | with_reducible refine aI ?_ ?_ ?_)
   exact ⟨fun row a b h1 h2 => by subst h2;rfl,_,k + 1,(gr0 [0,1,2,4] hB0 (by simp [hws,rnI]) (by simp [hws,rnI]) (.inl (by simp [hws,rnI]))),by omega,rfl,by omega⟩
  ·obtain rfl : k = 12 := by omega
   simp [hlb,htk]
   refine WCall.hf [3] (spsortA_hf (wantM ws 12) (by have := wantM_len ws h 12;omega)) (by simp) rfl rfl (by decide) (by simp) (by simp) (by simp) (by simp) (by simp) ?_
   rintro d H' nx' ⟨rfl,rfl,rfl⟩
   have hsr : sortM (wantM ws 12) = ringM ws := rfl
   have hs0 : splice [I 0,I 0,I 0,I 0,I 0,I 0,I 0,I 0,I 0,I 0,I 0,I 0] 0 ((byM ws 12).map I) = (byM ws 12).map I := by simp [splice,hlb]
   have hb12 : (byM ws 12).map I = ws.map fun w : Nat => I (w : Int) := by
    refine List.ext_getElem (by simp [byM,h.len]) fun j h1 h2 => ?_
    have hj : j < 12 := by simpa [byM] using h1
    simp [byM,hj,zE (show j < ws.length by rw [h.len];exact hj)]
   have hw12 : ws.length = 12 := h.len
   have htw : (ws.map fun w : Nat => I (w : Int)).take 12 = ws.map fun w : Nat => I (w : Int) := List.take_of_length_le (by simp [h.len])
   rw [hb12] at hs0
   repeat' (first
    | simp [hlb,htk,hsr,hs0,hb12,hw12,htw,omapI,leLI]
    | refine ⟨wcS ?_,?_⟩
    | (refine WCall.pf (heq) ?_ ?_ ?_ ?_;iterate 3 (solve|simp [hlb,htk,hsr,hs0,hb12,hw12,htw,omapI,leLI]))
    | with_reducible refine aI ?_ ?_ ?_)
end Go.Proofs.YtibemmkfcjlmpaaGreat
namespace Go.Proofs.YtibemmkfcjlmpaaGreat
open Go.RowKit Go.Shelf
attribute [local go_sem] Oper.semAt_some
theorem wei_in (w0 w1 w2 w3 w4 w5 w6 w7 w8 w9 w10 w11 : Nat) (h : WOk [w0,w1,w2,w3,w4,w5,w6,w7,w8,w9,w10,w11]) (sl : Value) (n : Nat) (W : World)
  (hV : VT (fun b o => W.cell? ⟨b,o,none⟩) (.rows 2 ((ringM [w0,w1,w2,w3,w4,w5,w6,w7,w8,w9,w10,w11]).map fun x : Int × Int => [I x.1,I x.2])) sl) :
  CallsIn Fence.wide n Tryz.prog 128 #[.agg #[sl]] W fun e w' => e = .returned (.tuple #[.agg #[.int .i64 w0,.int .i64 w1,.int .i64 w2,.int .i64 w3,.int .i64 w4,.int .i64 w5,.int .i64 w6,.int .i64 w7,.int .i64 w8,.int .i64 w9,.int .i64 w10,.int .i64 w11],.bool true]) ∧ Below W.heap.size W w' := by
 refine ((rwei_pf _ h).wide (fun b o => W.cell? ⟨b,o,none⟩) W _ (fun _ _ _ h => h) rfl ?_).mono ?_
 ·intro j x hx
  match j,hx with
  | 0,hx =>
   simp at hx;subst hx
   refine ⟨_,rfl,rfl,fun k y hy => ?_⟩
   match k,hy with
   | 0,hy => simp at hy;subst hy;exact hV
   | k + 1,hy => simp at hy
  | j + 1,hx => simp at hx
 ·rintro e w' ⟨v,Z',rfl,hr,_,hb⟩
  refine ⟨?_,hb⟩
  obtain ⟨us,rfl,hs,hu⟩ := hr
  have u0 := hu 0 _ rfl
  have u1 := hu 1 _ rfl
  match us,hs,u0,u1 with
  | ⟨[p,q]⟩,_,u0,u1 =>
   have e1 : q = .bool true := by
    have : VT Z' (.bool true) q := u1
    cases this;rfl
   obtain ⟨vs,e0,hs',hv⟩ := u0
   have e0 : p = .agg vs := e0
   match vs,hs',hv,e0 with
   | ⟨[a0,a1,a2,a3,a4,a5,a6,a7,a8,a9,a10,a11]⟩,_,hv,e0 =>
    have key : ∀ (j : Nat) (z : Int),([w0,w1,w2,w3,w4,w5,w6,w7,w8,w9,w10,w11].map fun w : Nat => I (w : Int))[j]? = some (I z) → (#[a0,a1,a2,a3,a4,a5,a6,a7,a8,a9,a10,a11] : Array Value).getD j undef = .int .i64 z := fun j z hj => by
     have : VT Z' (I z) _ := hv j _ hj
     generalize (#[a0,a1,a2,a3,a4,a5,a6,a7,a8,a9,a10,a11] : Array Value).getD j undef = u at *
     cases this;rfl
    have k0 := key 0 w0 rfl
    have k1 := key 1 w1 rfl
    have k2 := key 2 w2 rfl
    have k3 := key 3 w3 rfl
    have k4 := key 4 w4 rfl
    have k5 := key 5 w5 rfl
    have k6 := key 6 w6 rfl
    have k7 := key 7 w7 rfl
    have k8 := key 8 w8 rfl
    have k9 := key 9 w9 rfl
    have k10 := key 10 w10 rfl
    have k11 := key 11 w11 rfl
    simp only [Array.getD_eq_getD_getElem?,List.getElem?_toArray,List.getElem?_cons_zero,List.getElem?_cons_succ,Option.getD_some] at k0 k1 k2 k3 k4 k5 k6 k7 k8 k9 k10 k11
    subst k0 k1 k2 k3 k4 k5 k6 k7 k8 k9 k10 k11
    rw [e0,e1]
theorem key_in (k : Int) (h0 : 0 ≤ k) (h1 : k < 4294967296) (n : Nat) (W : World) :
  CallsIn Fence.wide n Tryz.prog 153 #[.int .i64 k] W fun e w' => e = .returned (.tuple #[.int .i64 ((keyN k.toNat : Nat) : Int),.int .i64 0]) ∧ Below W.heap.size W w' := by
 refine ((hkey_pf k h0 h1).wide (fun _ _ => none) W _ (fun _ _ _ h => by cases h) rfl ?_).mono ?_
 ·intro j x hx
  match j,hx with
  | 0,hx => simp at hx;subst hx;exact VT.int _ _
  | j + 1,hx => simp at hx
 ·rintro e w' ⟨v,Z',rfl,hr,_,hb⟩
  refine ⟨?_,hb⟩
  obtain ⟨us,rfl,hs,hu⟩ := hr
  have u0 := hu 0 _ rfl
  have u1 := hu 1 _ rfl
  match us,hs,u0,u1 with
  | ⟨[p,q]⟩,_,u0,u1 =>
   have e0 : p = .int .i64 ((keyN k.toNat : Nat) : Int) := by
    have : VT Z' (I ((keyN k.toNat : Nat) : Int)) p := u0
    cases this;rfl
   have e1 : q = .int .i64 0 := by
    have : VT Z' (I 0) q := u1
    cases this;rfl
   rw [e0,e1]
theorem vt_introw {W : World} {base : Nat} {e : TypeId} {v : Value} {out : List Int} (h : W.ownsRow base e 1 v out.length (out.map (Value.int .i64))) :
  VT (fun b o => if base ≤ b then W.cell? ⟨b,o,none⟩ else none) (.rows 1 (out.map fun z => [I z])) v := by
 have h0 := h
 obtain ⟨_,h2⟩ := h
 rcases h2 with ⟨h1,h2⟩ | ⟨g,cap,cur,rfl,hg,hh,hn,hcap,hsz,htake⟩
 ·have hx : out = [] := List.length_eq_zero_iff.1 h2
  subst hx
  rw [h1]
  exact VT.rnil _ _ _
 ·have := VT.rows (Z := fun b o => if base ≤ b then W.cell? ⟨b,o,none⟩ else none) 1 (out.map fun z : Int => [I z]) g 0 cap (fun i j => .int .i64 (out.getD i 0)) (by simpa using hn) ?_ ?_
  ·simpa using this
  ·intro i row j d hi hj
   rw [List.getElem?_map] at hi
   cases hx : out[i]? with
   | none => rw [hx] at hi;cases hi
   | some x =>
    rw [hx] at hi
    simp only [Option.map_some,zA] at hi
    subst hi
    match j,hj with
    | 0,hj =>
     have hil : i < out.length := (zB.1 hx).1
     have hc := h0.cellAt i (by omega)
     refine ⟨by omega,?_⟩
     rw [if_pos hg,show 0 + i * 1 + 0 = i by omega,hc,List.getElem?_map,hx]
     simp [hx]
    | j + 1,hj => simp at hj
  ·intro i row j d hi hj
   rw [List.getElem?_map] at hi
   cases hx : out[i]? with
   | none => rw [hx] at hi;cases hi
   | some x =>
    rw [hx] at hi
    simp only [Option.map_some,zA] at hi
    subst hi
    match j,hj with
    | 0,hj => simp at hj;subst hj;simp only [zC,hx,Option.getD_some];exact VT.int _ _
    | j + 1,hj => simp at hj
theorem con_in (out : List Int) (z : Int) (v : Value) (base : Nat) (e : TypeId) (n : Nat) (W : World) (hl : out.length ≤ 1000000) (h : W.ownsRow base e 1 v out.length (out.map (Value.int .i64))) :
  CallsIn Fence.wide n Tryz.prog 155 #[v,.int .i64 z] W fun e w' => e = .returned (.bool (decide (z ∈ out))) ∧ Below W.heap.size W w' := by
 refine ((icon_pf out z hl).wide (fun b o => if base ≤ b then W.cell? ⟨b,o,none⟩ else none) W _ (fun b o u hu => by
  by_cases hb : base ≤ b
  ·rwa [if_pos hb] at hu
  ·rw [if_neg hb] at hu;cases hu) rfl ?_).mono ?_
 ·intro j x hx
  match j,hx with
  | 0,hx => simp at hx;subst hx;exact vt_introw h
  | 1,hx => simp at hx;subst hx;exact VT.int _ _
  | j + 2,hx => simp at hx
 ·rintro e w' ⟨v,Z',rfl,hr,_,hb⟩
  refine ⟨?_,hb⟩
  have : VT Z' (.bool (decide (z ∈ out))) v := hr
  cases this;rfl
def dedM : List (Int × Int) → List Int := List.foldl (fun out s => if s.2 ∈ out then out else out ++ [s.2]) []
theorem dedM_snoc (l : List (Int × Int)) (s : Int × Int) : dedM (l ++ [s]) = if s.2 ∈ dedM l then dedM l else dedM l ++ [s.2] := by unfold dedM;rw [List.foldl_append];rfl
theorem dedM_len (l : List (Int × Int)) : (dedM l).length ≤ l.length := by
 suffices h : ∀ (l : List (Int × Int)) (acc : List Int),(l.foldl (fun out s => if s.2 ∈ out then out else out ++ [s.2]) acc).length ≤ acc.length + l.length by simpa [dedM] using h l []
 intro l
 induction l with
 | nil => intro acc;simp
 | cons s t ih =>
  intro acc
  simp only [List.foldl_cons,List.length_cons]
  refine Nat.le_trans (ih _) ?_
  split <;> simp <;> omega
attribute [local go_sem] Oper.semAt_some
theorem cell_alloc_l' {W : World} {a : Addr} {v : Value} (o : Obj) (h : W.cell? a = some v) : (W.alloc o).cell? a = some v := cell_kept h (World.grownBy_alloc W o none) (fun r e => by cases e)
theorem two_new (W : World) (x y : Value) (t : TypeId) (j : Nat) (u : Value) (h : [x,y][j]? = some u) : (W.alloc (.cells #[x,y] t)).cell? ⟨W.heap.size,j,none⟩ = some u := by
 unfold World.cell?
 simp only [World.alloc_heap_new]
 match j,h with
 | 0,h => simpa using h
 | 1,h => simpa using h
 | j + 2,h => simp at h
theorem ownsLe {w : World} {b b' : Nat} {e : TypeId} {sz n : Nat} {v : Value} {xs : List Value} (hle : b' ≤ b) (h : w.ownsRow b e sz v n xs) : w.ownsRow b' e sz v n xs :=
 ⟨h.1,h.2.imp id fun ⟨g,cap,cur,h1,h2,r⟩ => ⟨g,cap,cur,h1,Nat.le_trans hle h2,r⟩⟩
theorem intInfo : (Tryz.prog.info? 3).map (fun i => (i.zero,i.size,i.bytes)) = some (some (.int .i64 0),1,8) := by kernel_rfl
theorem intsUnder : Tryz.prog.underlying 103 = some (.slice 3) := by kernel_rfl
theorem kc_app {W w1 : World} {n bo : Nat} {e : TypeId} {sz k : Nat} {v v' : Value} {xs : List Value} {tmp : Obj} (hrow : W.ownsRow n e sz v k xs) (hgrow : (W.alloc tmp).grownBy w1 v.ownBlock) : Kc n bo W (w1.setCell ⟨bo,0,none⟩ v') := fun p u hp hne hu => by
 have h1 : (W.alloc tmp).cell? p = some u := cell_alloc_l' tmp hu
 have h2 : w1.cell? p = some u := by
  rw [World.cell?_of_block (hgrow.block p.block (World.block_lt_of_cell? _ _ h1) ?_)]
  ·exact h1
  ·rcases hrow.2 with ⟨rfl,_⟩ | ⟨g,cap,cur,rfl,hg,_⟩
   ·simp [Value.ownBlock]
   ·simp [Value.ownBlock];omega
 rw [World.cell?_of_block (Below.heap_setCell _ _ _ _ (by exact hne))]
 exact h2
theorem boxB {w w' : World} {B : Nat} {t : TypeId} {v : Value} (h : Boxed w B t v) (hb : Below w.heap.size w w') : Boxed w' B t v := (hb.block B h.lt).trans h
theorem keepsB {w w' : World} (hb : Below w.heap.size w w') : KeepsOthers w w' := ⟨hb.size,fun k o hk _ => by rw [hb.block k (Array.getElem?_eq_some_iff.1 hk).1];exact hk⟩
theorem kc_t {n bo : Nat} {A B C : World} (h : Kc n bo A B) (k : Kc n bo B C) : Kc n bo A C := fun p v h1 h2 h3 => k p v h1 h2 (h p v h1 h2 h3)
theorem kc_b {n bo : Nat} {w : World} (hn : n ≤ w.heap.size) (W : World) (l : Nat) (o o' : Obj) (hl : w.heap.size ≤ l) (h : W.heap[l]? = some o) (_ : o.isCells = false) (_ : o.isWalk = false) : Kc n bo W (W.putObj l o') := fun p v h1 _ hv => by
 rw [World.cell?_of_block (World.putObj_heap_other (by omega))];exact hv
theorem rwalk_in (w0 w1 w2 w3 w4 w5 w6 w7 w8 w9 w10 w11 : Nat) (h : WOk [w0,w1,w2,w3,w4,w5,w6,w7,w8,w9,w10,w11]) (k k2 : Int) (hkey : ∀ n W,CallsIn Fence.wide n Tryz.prog 153 #[.int .i64 k] W fun e w' => e = .returned (.tuple #[.int .i64 k2,.int .i64 0]) ∧ Below W.heap.size W w') (a : Option Addr) (b off cap : Nat) (W : World) (xs : List (Int × Int)) (hxs : ringM [w0,w1,w2,w3,w4,w5,w6,w7,w8,w9,w10,w11] = xs)
  (hcap : xs.length ≤ cap) (ha : xs ≠ [] → a = some ⟨b,off,none⟩ ∧ b < W.heap.size)
  (hc : ∀ i x,xs[i]? = some x → W.cell? ⟨b,off + i * 2,none⟩ = some (.int .i64 x.1) ∧ W.cell? ⟨b,off + i * 2 + 1,none⟩ = some (.int .i64 x.2))
  (hmono : ∀ z i j (hi : i < xs.length) (hj : j < xs.length),i ≤ j → ord2 xs[j].1 xs[j].2 z (-1) < 0 → ord2 xs[i].1 xs[i].2 z (-1) < 0) :
  CallsIn Fence.wide 3 Tryz.prog 115 #[.agg #[.slice a xs.length cap],.int .i64 k] W fun e w' => ∃ v,e = .returned (.tuple #[v,.int .i64 0]) ∧
   w'.ownsRow W.heap.size 3 1 v (dedM (rotL xs (fromM k2 xs))).length ((dedM (rotL xs (fromM k2 xs))).map (Value.int .i64)) ∧ Below W.heap.size W w' := by
 have hlen : xs.length ≤ 384 := hxs ▸ ringM_len _ h
 have hwei := fun n W' hV => wei_in w0 w1 w2 w3 w4 w5 w6 w7 w8 w9 w10 w11 h (.slice a xs.length cap) n W' hV
 rw [hxs] at hwei
 obtain ⟨i0,hi,hz0,hz1,hz2⟩ := info_parts intInfo
 have f1 : Fence.wide.fn 128 := trivial
 have f2 : Fence.wide.fn 153 := trivial
 have f3 : Fence.wide.fn 154 := trivial
 have f4 : Fence.wide.fn 155 := trivial
 have keep : ∀ {A B : World},Below A.heap.size A B → Below W.heap.size W A → (∀ i x,xs[i]? = some x → B.cell? ⟨b,off + i * 2,none⟩ = some (.int .i64 x.1) ∧ B.cell? ⟨b,off + i * 2 + 1,none⟩ = some (.int .i64 x.2)) := fun {A B} h1 h2 i x hx => by
  have hne : xs ≠ [] := by rintro rfl;simp at hx
  have hb := (ha hne).2
  have h3 : Below W.heap.size W B := h2.trans (h1.mono h2.size)
  obtain ⟨q1,q2⟩ := hc i x hx
  exact ⟨(h3.cell (p := ⟨b,off + i * 2,none⟩) hb).trans q1,(h3.cell (p := ⟨b,off + i * 2 + 1,none⟩) hb).trans q2⟩
 refine callsIn_of_wp_marks Tryz.func115 rfl trivial ?_ rfl
 simp only [Tryz.ntmps115,List.size_toArray,List.length_cons,List.length_nil,Nat.reduceAdd,Nat.reduceSub,Array.replicate_succ,Array.replicate_zero,List.push_toArray,List.append_toArray,List.nil_append,List.cons_append]
 have b0 := Boxed.new W 46 (.slice a xs.length cap)
 have hB0 : Below W.heap.size W (W.alloc (.cells #[.slice a xs.length cap] 46)) := (Below.refl _ W).alloc (Nat.le_refl _) _
 have hB0' : Below W.heap.size W (W.alloc (.cells #[.slice a xs.length cap] 46)) := hB0
 gi_wp2_with (gi_at_call 128;refine (hwei _ _ (vt_spots hcap (fun h => (ha h).1) (keep (A := W) hB0' (Below.refl _ W)))).mono ?_;rintro e v1 ⟨rfl,hb1⟩)
 refine (hkey 2 _).mono ?_
 rintro e v2 ⟨rfl,hb2⟩
 have hB1 : Below W.heap.size W v1 := hB0.trans (hb1.mono hB0.size)
 have c1 : v1.cell? ⟨W.heap.size,0,none⟩ = some (.slice a xs.length cap) := (hb1.cell (p := ⟨W.heap.size,0,none⟩) (by simp)).trans b0.cell
 have hS1 : W.heap.size < v1.heap.size := World.block_lt_of_cell? v1 _ c1
 have hB2 : Below W.heap.size W v2 := (hB1.alloc (Nat.le_of_lt hS1) _).trans (hb2.mono (by simp;omega))
 have c2 : v2.cell? ⟨W.heap.size,0,none⟩ = some (.slice a xs.length cap) := (hb2.cell (p := ⟨W.heap.size,0,none⟩) (by simp;omega)).trans (cell_alloc_l' _ c1)
 have hS2 : W.heap.size < v2.heap.size := World.block_lt_of_cell? v2 _ c2
 have c3 : (v2.alloc (.cells #[.slice none 0 0] 103)).cell? ⟨W.heap.size,0,none⟩ = some (.slice a xs.length cap) := cell_alloc_l' _ c2
 gi_wp2_with (gi_at_call 154;refine (ralong_in a xs.length cap _ 2 _).mono ?_;rintro e v3 ⟨rfl,hv3⟩)
 obtain ⟨u3,hu3⟩ : ∃ u3,u3 = (((v2.alloc (.cells #[.slice none 0 0] 103)).alloc (.cells #[.slice a xs.length cap] 44)).alloc (.cells #[.int .i64 k2] 3)) := ⟨_,rfl⟩
 have s3 : u3.heap.size = v2.heap.size + 3 := by rw [hu3];simp
 have bO : Boxed u3 v2.heap.size 103 (.slice none 0 0) := by rw [hu3];exact ((Boxed.new v2 _ _).alloc _).alloc _
 have bL : u3.cell? ⟨v2.heap.size + 1,0,none⟩ = some (.slice a xs.length cap) := by
  have := (Boxed.new (v2.alloc (.cells #[.slice none 0 0] 103)) 44 (.slice a xs.length cap)).alloc (.cells #[.int .i64 k2] 3)
  rw [← hu3,World.size_alloc] at this;exact this.cell
 have bA : u3.cell? ⟨v2.heap.size + 1 + 1,0,none⟩ = some (.int .i64 k2) := by
  have := Boxed.new ((v2.alloc (.cells #[.slice none 0 0] 103)).alloc (.cells #[.slice a xs.length cap] 44)) 3 (.int .i64 k2)
  rw [← hu3,World.size_alloc,World.size_alloc] at this;exact this.cell
 have hB23 : Below v2.heap.size v2 u3 := by rw [hu3];exact (((Below.refl _ v2).alloc (Nat.le_refl _) _).alloc (by simp) _).alloc (by simp;omega) _
 have hB3 : Below W.heap.size W u3 := hB2.trans (hB23.mono hB2.size)
 rw [← hu3]
 clear hu3
 have hRd : Rd u3 u3.heap.size v2.heap.size (v2.heap.size + 1) (v2.heap.size + 1 + 1) b off cap a k2 xs :=
  ⟨by omega,by omega,fun hne => by obtain ⟨q1,q2⟩ := ha hne;exact ⟨q1,by omega,by omega⟩,bL,bA,keep hB23 hB2⟩
 have hseq : SeqStopsK Fence.wide 2 Tryz.prog 174 #[.pointer (some ⟨v2.heap.size + 1,0,none⟩),.pointer (some ⟨v2.heap.size + 1 + 1,0,none⟩)] spV (Kc u3.heap.size v2.heap.size) (fun ys => ys = rotL xs (fromM k2 xs)) (fun _ => True) xs.length u3 :=
  fun l J Jx W' hW hJ hJx hY h0 => ralong1_in 2 (by omega) l _ _ b off cap u3.heap.size v2.heap.size a k2 xs J Jx W' (by omega) hcap (hmono k2) hW.size hJ hY (hRd.keep (Kc.below hW)) h0
 refine wpIn_rangeFunc_ownH (F := Fence.wide) (n := 3) rfl (by omega) (gf := 174) rfl trivial (enters_of Tryz.func174 (by kernel_rfl) rfl) hseq
  kc_t (kc_b (Nat.le_refl _)) (Below.refl _ _) (fun _ => rfl)
  (fun pre W' => (∃ v,Boxed W' v2.heap.size 103 v ∧ W'.ownsRow u3.heap.size 3 1 v (dedM pre).length ((dedM pre).map (Value.int .i64))) ∧ Below W.heap.size W W')
  (fun _ _ _ => False) ?hI (fun _ _ _ _ _ hs _ _ => hs) ⟨⟨_,bO,World.ownsRow_nil _ _ _ _⟩,hB3⟩
  (fun x a' W' => ∃ B,W'.cell? ⟨B,0,none⟩ = some (.int .i64 x.1) ∧ W'.cell? ⟨B,1,none⟩ = some (.int .i64 x.2) ∧ a' = { tmps := #[.agg #[.slice a xs.length cap],.int .i64 k,.pointer (some ⟨W.heap.size,0,none⟩),undef,.slice none 0 0,.int .i64 0,.pointer (some ⟨v1.heap.size,0,none⟩),.bool true,.int .i64 k2,.int .i64 0,.pointer (some ⟨v2.heap.size,0,none⟩),.pointer (some ⟨B,0,none⟩),
   .tuple #[.agg #[.int .i64 w0,.int .i64 w1,.int .i64 w2,.int .i64 w3,.int .i64 w4,.int .i64 w5,.int .i64 w6,.int .i64 w7,.int .i64 w8,.int .i64 w9,.int .i64 w10,.int .i64 w11],.bool true],.agg #[.slice a xs.length cap],.tuple #[.agg #[.int .i64 w0,.int .i64 w1,.int .i64 w2,.int .i64 w3,.int .i64 w4,.int .i64 w5,.int .i64 w6,.int .i64 w7,.int .i64 w8,.int .i64 w9,.int .i64 w10,.int .i64 w11],.bool true],.agg #[.int .i64 w0,.int .i64 w1,.int .i64 w2,.int .i64 w3,.int .i64 w4,.int .i64 w5,.int .i64 w6,.int .i64 w7,.int .i64 w8,.int .i64 w9,.int .i64 w10,.int .i64 w11],.bool true,.bool true,.bool false,.tuple #[.int .i64 k2,.int .i64 0],.int .i64 k,.tuple #[.int .i64 k2,.int .i64 0],.int .i64 k2,.int .i64 0,.int .i64 0,.bool false,undef,.pointer (some ⟨W.heap.size,0,none⟩),.slice a xs.length cap,.int .i64 k2,
   .func (.func 174) #[] #[.pointer (some ⟨v2.heap.size + 1,0,none⟩),.pointer (some ⟨v2.heap.size + 1 + 1,0,none⟩)],.agg #[.int .i64 x.1,.int .i64 x.2],undef,undef,undef,undef,undef,undef,undef,undef,undef,undef,undef],defers := [] })
  ?hAx ?assign ?body ?done ?stop
 case hI =>
  refine OwnFrom.and (Own.from ?_ _) (ownFrom_below (Nat.le_refl _) (by omega))
  have := holdsRow_own u3.heap.size v2.heap.size 103 3 1 (fun pre => (dedM pre).length) (fun pre => (dedM pre).map (Value.int .i64)) (fun _ _ => True)
  rintro s A B row ⟨v,g1,g2⟩ hg hr
  obtain ⟨v',g3,g4,_⟩ := this s A B row ⟨v,g1,g2,trivial⟩ hg hr
  exact ⟨v',g3,g4⟩
 case hAx =>
  rintro x a' s A B row ⟨Bs,q2,q3,q4⟩ hg hr
  exact ⟨Bs,cell_kept q2 hg (fun r e => (hr r e).2),cell_kept q3 hg (fun r e => (hr r e).2),q4⟩
 case assign =>
  intro l pre x W' K hI hK
  simp only [spV]
  gi_wp2
  obtain ⟨⟨v,g1,g2⟩,g3⟩ := hI
  have hsW : W.heap.size ≤ W'.heap.size := g3.size
  refine hK _ _ ((KeepsOthers.alloc W' _).from _) (Kc.below ((Below.refl _ W').alloc (Nat.le_refl _) _)) ⟨⟨v,g1.alloc _,g2.alloc _⟩,g3.alloc hsW _⟩ ⟨W'.heap.size,?_,?_,rfl⟩
  ·exact two_new W' _ _ _ 0 _ rfl
  ·exact two_new W' _ _ _ 1 _ rfl
 case body =>
  rintro l pre x a' W' hl ⟨r0,hlr⟩ ⟨⟨v,hv,hrow⟩,hB⟩ ⟨B,q1,q2,rfl⟩ hlt
  have hul : u3.heap.size ≤ W'.heap.size := by have := (Array.getElem?_eq_some_iff.1 hlr).1;omega
  have hc := hv.cell
  have hpl : (dedM pre).length ≤ pre.length := dedM_len pre
  have hsz : W.heap.size ≤ v2.heap.size := hB2.size
  gi_wp2_with (first | (gi_at_call 155;refine (con_in (dedM pre) x.2 v u3.heap.size 3 _ W' (by omega) hrow).mono ?_;rintro e W2 ⟨rfl,hb2⟩;have hv2 := boxB hv hb2;have hrow2 := owns_call hrow hb2;have hcW2 := hv2.cell;have q2' := (hb2.cell (p := ⟨B,1,none⟩) (World.block_lt_of_cell? W' _ q2)).trans q2;have hBW := hB.trans (hb2.mono hB.size);have hvlt := hv2.lt) | (gi_at_builtin;refine wpListIn_append_own _ rfl _ _ 103 rfl u3.heap.size 3 i0 (.int .i64 0) 1 8 intsUnder hi hz0 hz1 hz2 rfl (by decide) _ _ _ rfl (hrow2.alloc _) ⟨W2.heap.size,0,none⟩ 1 1 [.int .i64 x.2] rfl rfl (cell_one_new _ _ _) (by simp [Value.oneCell']) (by unfold maxLen;omega) (by omega) (by have := hb2.size;simp;omega) ?_;intro v' w1 hown' hgrow _;obtain ⟨g',cap',rfl⟩ := ownsRow_succ hown';obtain ⟨hv1,hv2',hr2,hk2,hb2'⟩ := hv2.appended (by decide) (ownsLe hB3.size hrow2) hBW.size hsz (ownsLe hB3.size hown') hgrow;have hc1 := hv1.cell;have hf1 := hv1.frozen))
  ·have hm : ¬ x.2 ∈ dedM pre := by simpa using ‹(!decide (x.2 ∈ dedM pre)) = true›
   refine ⟨((keepsB hb2).trans hk2).from _,kc_t (Kc.below hb2) (kc_app hrow2 hgrow),⟨_,hv2',?_⟩,hBW.trans hb2'⟩
   rw [dedM_snoc,if_neg hm]
   have := hown'.kept (grownBy_setCell' w1 v2.heap.size (.slice (some ⟨g',0,none⟩) ((dedM pre).length + 1) cap')) (.inr (hv1.not_row (by decide) hown').symm)
   simpa using this
  ·have hm : x.2 ∈ dedM pre := by simpa using ‹(!decide (x.2 ∈ dedM pre)) = false›
   exact ⟨(keepsB hb2).from _,Kc.below hb2,⟨v,hv2,by rw [dedM_snoc,if_pos hm];exact hrow2⟩,hB.trans (hb2.mono hB.size)⟩
 case done =>
  rintro D ys W' hD rfl ⟨⟨v,hv,hrow⟩,hB⟩ hK
  have hc := hv.cell
  gi_wp2
  refine ⟨by simp,.inl ⟨_,_,rfl,run_takeDeferred hK,?_⟩⟩
  refine ⟨.tuple #[v,.int .i64 0],by simp [results,Sem.run_bind,Sem.run_pure,Result.andThen,Tryz.func115,Tryz.f115],v,rfl,ownsLe hB3.size (ownsRow_putObj hrow _ hK rfl),hB.trans (belowK_b (w := u3) hB3.size W' D _ _ (by omega) hK rfl rfl)⟩
 case stop =>
  rintro D c pre W' _ _ h _
  exact h.elim
end Go.Proofs.YtibemmkfcjlmpaaGreat
namespace Go.Proofs.YtibemmkfcjlmpaaGreat
open Go.RowKit Go.Sort
attribute [local simp] AK_at acode_seq acode_region acode_draw acode_cond CB_u acode_block acode_loop acode_exit acode_scope acode_ret acode_skip seqQ_n seqQ_e seqQ_r blockQ_n blockQ_e blockQ_r TK_at OK_at SK_at aops_nil aops_cons asch_done asch_one asch_two asch_top astep aop_eq isLoud aloud aloud1 isWrite qv evS strip gof eget hget putO eput herase oks opnds gS afin afin0 binD arith D.cells takeD fillD keep trim envOf Fin aresl aresv resD argOk pickV isP deq deqs boundD slD lenD isT isSl ptrIds chunks mn_min mx_max splice_one splice_more Rbr_at Rfr_at frR frV frC flatC brwR brwV brwC omap leR leV leC leL leVL rnR rnV rnC rnO rho_0 hputs herases rnS LtS LtR LtV LtC LtO lget noV noC flatR flatV rho
attribute [local simp ↓] CB_t CB_f
theorem sortM_pw (l : List (Int × Int)) : List.Pairwise (fun a b => (!(ltOf cfSp) b a) = true) (sortM l) := by
 refine List.pairwise_mergeSort (fun a b c h1 h2 => ?_) (fun a b => ?_) l
 ·rw [ltSp] at *;simp at *;omega
 ·rw [ltSp,ltSp];simp;omega
theorem sortM_perm {l m : List (Int × Int)} (h : l.Perm m) : sortM l = sortM m := by
 refine List.Perm.eq_of_pairwise (le := fun a b => (!(ltOf cfSp) b a) = true) (fun a b _ _ h1 h2 => ?_) (sortM_pw l) (sortM_pw m) ((List.mergeSort_perm l _).trans (h.trans (List.mergeSort_perm m _).symm))
 simp only [Bool.not_eq_true'] at h1 h2
 exact totSp a b h2 h1
theorem want_add (ws : List Nat) (b w : Nat) (hb : ws.getD b 0 = 0) (hl : b < ws.length) : ∀ k,(wantM (ws.set b w) k).Perm (wantM ws k ++ if b < k then spotsM b (4 * w) else [])
 | 0 => by simp [wantM]
 | k + 1 => by
  have ih := want_add ws b w hb hl k
  rw [wantM_succ,wantM_succ]
  by_cases hk : b = k
  ·subst hk
   have e : (ws.set b w).getD b 0 = w := by simp [zC,hl]
   rw [e,hb,if_pos (by omega)]
   rw [if_neg (by omega),List.append_nil] at ih
   have : spotsM b (4 * 0) = [] := rfl
   rw [this,List.append_nil]
   exact ih.append_right _
  ·have e : (ws.set b w).getD k 0 = ws.getD k 0 := by simp [zC,List.getElem?_set_ne hk]
   rw [e]
   by_cases h2 : b < k
   ·rw [if_pos h2] at ih
    rw [if_pos (by omega)]
    refine (ih.append_right _).trans ?_
    rw [List.append_assoc,List.append_assoc]
    exact List.Perm.append_left _ List.perm_append_comm
   ·rw [if_neg h2,List.append_nil] at ih
    rw [if_neg (by omega),List.append_nil]
    exact ih.append_right _
theorem ring_add (ws : List Nat) (h : WOk ws) (b w : Nat) (hb : b < 12) (h0 : ws.getD b 0 = 0) : sortM (ringM ws ++ spotsM b (4 * w)) = ringM (ws.set b w) := by
 refine sortM_perm ?_
 have h1 := want_add ws b w h0 (by rw [h.len];exact hb) 12
 rw [if_pos hb] at h1
 exact ((ringM_perm ws).append_right _).trans h1.symm
theorem WOk.set {ws : List Nat} (h : WOk ws) (b w : Nat) (hw : w ≤ 8) : WOk (ws.set b w) :=
 ⟨by rw [List.length_set];exact h.len,fun x hx => by
  rcases List.mem_or_eq_of_mem_set hx with h1 | h1
  ·exact h.le x h1
  ·omega⟩
theorem spl12 {l : List Nat} (h : l.length = 12) : splice [I 0,I 0,I 0,I 0,I 0,I 0,I 0,I 0,I 0,I 0,I 0,I 0] 0 (l.map fun w : Nat => I (w : Int)) = l.map fun w : Nat => I (w : Int) := by simp [splice,h]
theorem els_sp (l : List (Int × Int)) : Els 2 spE l := fun x hx => ⟨rfl,fun d hd => by simp [spE] at hd;rcases hd with rfl | rfl <;> rfl⟩
theorem radd_code : cfun Tryz.prog [] 94 = some ⟨(.seq (qR 0 [oB 3 0,oX 6 (.alloc [.nil0]),oK 7 0]) (.seq (qR 1 [oA 12 1 3,oX 13 (.call 128 [(.t 12)]),oM 11 13,oE 14 11 0,oE 15 11 1,oX 8 (.alloc [qZ,qZ,qZ,qZ,qZ,qZ,qZ,qZ,qZ,qZ,qZ,qZ]),oS 12 8 14,oM 9 15]) (.seq (.block 0 (.seq (qR 2 [oM 17 9,oX 18 (.not (.t 17)),oM 16 18]) (.cond 16 (.seq (qR 3 [oX 19 (.build [.nil0] []),oS 1 6 19,oK 7 6]) .ret) (.seq (qR 4 [oM 21 1,oX 22 (.bin .lss (.t 21) (kI 0)),oM 23 22,oG 24 (.mov (.t 1)) 23 false,oG 25 (.bin .geq (.t 24) (kI 12)) 23 false,oX 26 (.pick (.t 23) (.k qT) (.t 25)),oM 27 26,oG 28 (.mov (.t 2)) 27 false,oG 29 (.bin .lss (.t 28) (kI 1)) 27 false,oX 30 (.pick (.t 27) (.k qT) (.t 29)),oM 31 30,oG 32 (.mov (.t 2)) 31 false,oG 33 (.bin .gtr (.t 32) (kI 8)) 31 false,oX 34 (.pick (.t 31) (.k qT) (.t 33)),oM 20 34]) (.cond 20 (.seq (qR 5 [oX 35 (.build [.nil0] []),oS 1 6 35,oK 7 2]) .ret) (.seq (qR 6 [oM 37 1,oX 38 (.iada 12 1 (.t 8) (.t 37)),oL 39 1 38,oX 40 (.bin .gtr (.t 39) (kI 0)),oM 36 40]) (.cond 36 (.seq (qR 7 [oX 41 (.build [.nil0] []),oS 1 6 41,oK 7 7]) .ret) .skip))))))) (.seq (qR 8 [oF 42 0 3,oL 43 1 42,oX 44 (.call 77 [(.t 43)]),oM 45 1,oM 46 2,oX 47 (.call 134 [(.t 45),(.t 46)]),oX 48 (.app 2 16 [qZ,qZ] (.t 44) (.t 47)),oM 10 48]) (.seq (qR 9 [oM 49 10,oX 50 (.call 135 [(.t 49),(.k (.fn 136 []))])]) (.seq (qR 10 [oM 51 10,oX 52 (.build [.nil0] [(0,(1,(.t 51)))]),oS 1 6 52,oK 7 0]) .ret)))))),[(.c 6 true 1),(.t 7)],53⟩ := by kernel_rfl
theorem radd_pf (ws : List Nat) (h : WOk ws) (b w : Nat) (hb : b < 12) (hw : 1 ≤ w ∧ w ≤ 8) (h0 : ws.getD b 0 = 0) :
  PF Tryz.prog 94 [.agg [.rows 2 ((ringM ws).map spE)],I b,I w] (.tup [.agg [.rows 2 ((ringM (ws.set b w)).map spE)],I 0]) := by
 have hwe := rwei_pf ws h
 have hsp := rspots_pf b w hb hw.2
 have hrl := ringM_len ws h
 have hsl := spotsM_len b (4 * w)
 have hra := ring_add ws h b w hb h0
 have hcl := spcln_hf spE (ringM ws) (by omega) (els_sp _)
 have hl12 := h.len
 have hs0 := spl12 h.len
 have htw : (ws.map fun w : Nat => I (w : Int)).take 12 = ws.map fun w : Nat => I (w : Int) := List.take_of_length_le (by simp [h.len])
 have hat : ws[b]? = some 0 := by
  rw [zC,zE (by omega)] at h0
  rw [zE (by omega)]
  simpa using h0
 have c1 : ¬ (b : Int) < 0 := by omega
 have c2 : ¬ (12 : Int) ≤ b := by omega
 have c3 : ¬ (w : Int) < 1 := by omega
 have c4 : ¬ (8 : Int) < w := by omega
 have hb1 : (b : Int) < 12 := by omega
 have hb2 : b ≤ 11 := by omega
 have hb3 : 0 < 12 - b := by omega
 refine pO radd_code [0,1,2,3,6,7,8,9,10,16,20,36] [] fun B hBN hB0 => ?_
 repeat' (first
  | simp [hl12,hs0,htw,hat,c1,c2,c3,c4,hb1,hb2,hb3]
  | refine ⟨wcS ?_,?_⟩
  | (refine WCall.pf (hwe) ?_ ?_ ?_ ?_;iterate 3 (solve|simp [hl12,hs0,htw,hat,c1,c2,c3,c4,hb1,hb2,hb3]))
  | with_reducible refine aI ?_ ?_ ?_)
 have hcap : ((ringM ws).length + 4 * w) * 16 ≤ 140737488355328 := by omega
 have hcap0 : 4 * w * 16 ≤ 140737488355328 := by omega
 have hw0 : ¬ spotsM b (4 * w) = [] := fun e => by rw [e] at hsl;simp at hsl;omega
 refine WCall.hf0 hcl (by simp) (by simp) (by simp) (by simp) ?_
 rintro d H' nx' (⟨rfl,hnil,rfl,rfl⟩ | ⟨rfl,rfl,rfl⟩)
 ·rw [hnil] at hra ⊢
  repeat' (first
   | simp [hsl,hcap0,hw0]
   | refine ⟨wcS ?_,?_⟩
   | (refine WCall.pf (hsp) ?_ ?_ ?_ ?_;iterate 3 (solve|simp [hsl,hcap0,hw0]))
   | with_reducible refine aI ?_ ?_ ?_)
  refine ⟨fun row x y h1 h2 => by subst h2;rfl,?_⟩
  refine WCall.hf [3] (spsortA_hf (spotsM b (4 * w)) (by omega)) (by simp) rfl rfl (by decide) (by simp) (by simp) (by simp) (by simp) (by simp) ?_
  rintro d H' nx' ⟨rfl,rfl,rfl⟩
  rw [List.nil_append] at hra
  simp [hra]
 ·skip
  repeat' (first
   | simp [hsl,hcap]
   | refine ⟨wcS ?_,?_⟩
   | (refine WCall.pf (hsp) ?_ ?_ ?_ ?_;iterate 3 (solve|simp [hsl,hcap]))
   | with_reducible refine aI ?_ ?_ ?_)
  refine ⟨fun row x y h1 h2 => by subst h2;rfl,?_⟩
  rw [← List.map_append]
  refine WCall.hf [5] (spsortA_hf (ringM ws ++ spotsM b (4 * w)) (by rw [List.length_append];omega)) (by simp) rfl rfl (by decide) (by simp) (by simp) (by simp) (by simp) (by simp) ?_
  rintro d H' nx' ⟨rfl,rfl,rfl⟩
  simp [hra]
end Go.Proofs.YtibemmkfcjlmpaaGreat
namespace Go.Proofs.YtibemmkfcjlmpaaGreat
open Go.RowKit
def walkM (ws : List Nat) (z : Int) : List Int := dedM (rotL (ringM ws) (fromM z (ringM ws)))
theorem ring_mono (ws : List Nat) (z : Int) (i j : Nat) (hi : i < (ringM ws).length) (hj : j < (ringM ws).length) (hij : i ≤ j) (h : ord2 (ringM ws)[j].1 (ringM ws)[j].2 z (-1) < 0) : ord2 (ringM ws)[i].1 (ringM ws)[i].2 z (-1) < 0 := by
 by_cases e : i = j
 ·subst e;exact h
 have hp := List.pairwise_iff_getElem.1 (sortM_pw (wantM ws 12)) i j hi hj (by omega)
 rw [ltSp] at hp
 simp at hp
 rw [ord2_neg] at *
 unfold ringM at *
 omega
theorem WOk.twelve {ws : List Nat} (h : WOk ws) : ∃ w0 w1 w2 w3 w4 w5 w6 w7 w8 w9 w10 w11,ws = [w0,w1,w2,w3,w4,w5,w6,w7,w8,w9,w10,w11] := by
 match ws,h.len with
 | [w0,w1,w2,w3,w4,w5,w6,w7,w8,w9,w10,w11],_ => exact ⟨_,_,_,_,_,_,_,_,_,_,_,_,rfl⟩
theorem rwalk_pfn (ws : List Nat) (h : WOk ws) (k : Int) (hk0 : 0 ≤ k) (hk1 : k < 4294967296) :
  PFn Tryz.prog 115 [.agg [.rows 2 ((ringM ws).map spE)],I k] (.tup [.rows 1 ((walkM ws (keyN k.toNat : Nat)).map fun z => [I z]),I 0]) := by
 refine ⟨by kernel_rfl,fun Z w vs hz hl hv => ?_⟩
 match vs,hl,hv with
 | ⟨[p,q]⟩,_,hv =>
  obtain ⟨us,e0,hs,hu⟩ : VV s0 Z (.agg [.rows 2 ((ringM ws).map spE)]) p := hv 0 _ rfl
  have e1 : q = .int .i64 k := by
   have : VT Z (I k) q := hv 1 _ rfl
   cases this;rfl
  match us,hs,hu,e0 with
  | ⟨[sl]⟩,_,hu,e0 =>
   subst e0 e1
   have hV : VT Z (.rows 2 ((ringM ws).map spE)) sl := hu 0 _ rfl
   obtain ⟨a,b,off,cap,rfl,hcap,ha,hc⟩ : ∃ a b off cap,sl = .slice a (ringM ws).length cap ∧ (ringM ws).length ≤ cap ∧ (ringM ws ≠ [] → a = some ⟨b,off,none⟩ ∧ b < w.heap.size) ∧
     ∀ i x,(ringM ws)[i]? = some x → w.cell? ⟨b,off + i * 2,none⟩ = some (.int .i64 x.1) ∧ w.cell? ⟨b,off + i * 2 + 1,none⟩ = some (.int .i64 x.2) := by
    generalize hys : (ringM ws).map spE = ys at hV
    cases hV with
    | rnil _ a cap =>
     have h0 : ringM ws = [] := List.map_eq_nil_iff.1 hys
     exact ⟨a,0,0,cap,by rw [h0];rfl,by simp [h0],fun hne => absurd h0 hne,fun i x hx => by rw [h0] at hx;simp at hx⟩
    | rows _ _ b off cap c h1 h2 h3 =>
     have hlen : ys.length = (ringM ws).length := by rw [← hys];simp
     have hcell : ∀ i x,(ringM ws)[i]? = some x → w.cell? ⟨b,off + i * 2,none⟩ = some (.int .i64 x.1) ∧ w.cell? ⟨b,off + i * 2 + 1,none⟩ = some (.int .i64 x.2) := fun i x hx => by
      have hy : ys[i]? = some (spE x) := by rw [← hys,List.getElem?_map,hx];rfl
      have g0 := (h2 i _ 0 _ hy rfl).2
      have g1 := (h2 i _ 1 _ hy rfl).2
      have v0 := h3 i _ 0 _ hy rfl
      have v1 := h3 i _ 1 _ hy rfl
      have k0 := vtInt v0
      have k1 := vtInt v1
      rw [k0] at g0
      rw [k1] at g1
      exact ⟨hz _ _ _ g0,hz _ _ _ g1⟩
     refine ⟨_,b,off,cap,by rw [hlen],by omega,fun hne => ⟨rfl,?_⟩,hcell⟩
     obtain ⟨x,hx⟩ := List.exists_mem_of_ne_nil _ hne
     obtain ⟨i,hi⟩ := zF hx
     exact World.block_lt_of_cell? w _ (hcell i x hi).1
   obtain ⟨w0,w1,w2,w3,w4,w5,w6,w7,w8,w9,w10,w11,hwe⟩ := WOk.twelve h
   ·subst hwe
    refine callsIn_wide.1 (CallsIn.mono (rwalk_in w0 w1 w2 w3 w4 w5 w6 w7 w8 w9 w10 w11 h k (keyN k.toNat : Nat) (fun n W => key_in k hk0 hk1 n W) a b off cap w _ rfl hcap ha hc (fun z i j hi hj => ring_mono _ z i j hi hj)) ?_)
    rintro e w' ⟨v,rfl,hrow,hB⟩
    refine ⟨_,fun b o => if w.heap.size ≤ b then w'.cell? ⟨b,o,none⟩ else none,rfl,?_,fun b o u hu => ?_,hB⟩
    ·refine ⟨_,rfl,rfl,fun j x hx => ?_⟩
     match j,hx with
     | 0,hx => simp at hx;subst hx;exact vt_introw hrow
     | 1,hx => simp at hx;subst hx;exact VT.int _ _
     | j + 2,hx => simp at hx
    ·simp only at hu
     split at hu
     ·rename_i hb;exact ⟨hb,hu⟩
     ·cases hu
def rg0 : List Nat := [0,0,0,0,0,0,0,0,0,0,0,0]
theorem ring0 : ringM rg0 = [] := by
 have : wantM rg0 12 = [] := by simp [wantM,rg0,List.range_succ,spotsM]
 unfold ringM
 rw [this]
 exact List.mergeSort_nil
theorem ded_go (l : List (Int × Int)) : ∀ acc : List Int,acc.Nodup → ((l.foldl (fun out s => if s.2 ∈ out then out else out ++ [s.2]) acc).Nodup ∧ ∀ z,z ∈ l.foldl (fun out s => if s.2 ∈ out then out else out ++ [s.2]) acc ↔ z ∈ acc ∨ ∃ s ∈ l,s.2 = z) := by
 induction l with
 | nil => intro acc h;exact ⟨h,fun z => by simp⟩
 | cons s t ih =>
  intro acc h
  simp only [List.foldl_cons]
  by_cases hm : s.2 ∈ acc
  ·rw [if_pos hm]
   obtain ⟨h1,h2⟩ := ih acc h
   refine ⟨h1,fun z => ?_⟩
   rw [h2]
   constructor
   ·rintro (h3 | ⟨u,h3,h4⟩)
    ·exact .inl h3
    ·exact .inr ⟨u,List.mem_cons_of_mem _ h3,h4⟩
   ·rintro (h3 | ⟨u,h3,h4⟩)
    ·exact .inl h3
    ·rcases List.mem_cons.1 h3 with rfl | h3
     ·exact .inl (h4 ▸ hm)
     ·exact .inr ⟨u,h3,h4⟩
  ·rw [if_neg hm]
   obtain ⟨h1,h2⟩ := ih (acc ++ [s.2]) (by
    rw [List.nodup_append]
    refine ⟨h,by simp,fun a ha b hb => ?_⟩
    simp at hb
    subst hb
    rintro rfl
    exact hm ha)
   refine ⟨h1,fun z => ?_⟩
   rw [h2]
   constructor
   ·rintro (h3 | ⟨u,h3,h4⟩)
    ·rcases List.mem_append.1 h3 with h3 | h3
     ·exact .inl h3
     ·simp at h3;exact .inr ⟨s,List.mem_cons_self,h3.symm⟩
    ·exact .inr ⟨u,List.mem_cons_of_mem _ h3,h4⟩
   ·rintro (h3 | ⟨u,h3,h4⟩)
    ·exact .inl (List.mem_append_left _ h3)
    ·rcases List.mem_cons.1 h3 with rfl | h3
     ·exact .inl (by simp [h4])
     ·exact .inr ⟨u,h3,h4⟩
theorem dedM_nodup (l : List (Int × Int)) : (dedM l).Nodup := (ded_go l [] (by simp)).1
theorem dedM_mem (l : List (Int × Int)) (z : Int) : z ∈ dedM l ↔ ∃ s ∈ l,s.2 = z := by
 have := (ded_go l [] (by simp)).2 z
 simpa [dedM] using this
theorem rotL_mem {α : Type} (l : List α) (f : Nat) (x : α) : x ∈ rotL l f ↔ x ∈ l := by
 unfold rotL
 rw [List.mem_append,or_comm,← List.mem_append,List.take_append_drop]
theorem walkM_nodup (ws : List Nat) (z : Int) : (walkM ws z).Nodup := dedM_nodup _
theorem walkM_bd (ws : List Nat) (z x : Int) (h : x ∈ walkM ws z) : 0 ≤ x ∧ x < 12 := by
 obtain ⟨s,h1,rfl⟩ := (dedM_mem _ _).1 h
 exact ringM_mem ((rotL_mem _ _ _).1 h1)
structure Flw where
 slot : Int
 gen : Int
 key : Int
 backend : Int
 serving : Bool
 tries : Int
 due : Int
 deriving DecidableEq,Inhabited
def Flw.D (f : Flw) : List D := [I f.slot,I f.gen,I f.key,I f.backend,.bool f.serving,I f.tries,I f.due]
structure Evt where
 kind : Int
 key : Int
 slot : Int
 gen : Int
 good : Bool
 req : Int
 backend : Int
 weight : Int
 deriving DecidableEq,Inhabited
def Evt.D (e : Evt) : List D := [I e.kind,I e.key,I e.slot,I e.gen,.bool e.good,I e.req,I e.backend,I e.weight]
structure Gt where
 c : Cfg
 now : Int
 tb : List TSlot
 fl : List Flw
 L : List Lif
 R : List Rqs
 ws : List Nat
 hl : List Hlth
 tok : Int
 wn : Int
 tm : List (Int × Int)
 out : List Outp
def hzero : Hlth := ⟨[],false,0,0⟩
def lifeM (L : List Lif) (b : Int) : Lif := (ofM L b).1
def stateM (L : List Lif) (b : Int) : Int := (lifeM L b).state
def isOut (hl : List Hlth) (b : Int) : Bool := (hl.getD b.toNat hzero).out
def rampM (weight since now warm : Int) : Int := if warm ≤ now - since then weight else max (weight * (now - since) / warm) 1
def loadOf (g : Gt) (but : Int) (x : Lif) : Load :=
 ⟨x.backend,if isOut g.hl x.backend = true then 0 else rampM x.weight x.since g.now g.c.c4,(cntB g.tb x.backend : Int) - if 0 ≤ but ∧ (g.tb.getD but.toNat tzero).backend = x.backend then 1 else 0⟩
def loadsM (g : Gt) (but : Int) : List Load := (g.L.filter fun x => decide (x.state = 2)).map (loadOf g but)
def walkK (ws : List Nat) (key : Int) : List Int := walkM ws ((keyN key.toNat : Nat) : Int)
def pickG (g : Gt) (key but : Int) : Int × Int :=
 pickM (walkK g.ws key) (loadsM g but) g.c.num g.c.den ((g.fl.length : Int) - if 0 ≤ but then 1 else 0) g.c.tries
def rmT (tm : List (Int × Int)) (slot : Int) : List (Int × Int) := tm.filter fun t => decide (t.2 ≠ slot)
def armT (tm : List (Int × Int)) (slot at_ : Int) : List (Int × Int) := insT (at_,slot) (rmT tm slot)
def Gt.put (g : Gt) (o : Outp) : Gt := { g with out := g.out ++ [o] }
def Gt.dueA (g : Gt) (i : Nat) (at_ : Int) : Gt := { g with tm := armT g.tm (g.fl.getD i default).slot at_,fl := g.fl.set i { g.fl.getD i default with due := at_ } }
def goneO (b req : Int) : Outp := ⟨9,0,0,b,req,0,0⟩
def Gt.spared (g : Gt) (b : Int) : Gt :=
 if stateM g.L b = 3 ∧ cntB g.tb b = 0 then { g with L := (finishM g.L b).1,out := g.out ++ [goneO b (lifeM g.L b).req] } else g
def Gt.dropA (g : Gt) (i : Nat) (o : Outp) : Gt :=
 let f := g.fl.getD i default
 { g with fl := g.fl.eraseIdx i,tb := g.tb.set f.slot.toNat ⟨f.gen + 1,false,0,0⟩,tm := rmT g.tm f.slot,out := g.out ++ [{ o with slot := f.slot,gen := f.gen,backend := f.backend }] }
def Gt.drop (g : Gt) (i : Nat) (o : Outp) : Gt := (g.dropA i o).spared (g.fl.getD i default).backend
def actN (L : List Lif) : Nat := L.countP fun x => decide (x.state = 2)
def outN (L : List Lif) (hl : List Hlth) : Nat := L.countP fun x => decide (x.state = 2) && isOut hl x.backend
def allowM (out act most : Int) : Bool := decide ((out + 1) * 100 ≤ most * act)
def Gt.note (g : Gt) (b : Int) (failed : Bool) : Gt :=
 { g with hl := g.hl.set b.toNat (noteH g.c.wat (g.hl.getD b.toNat hzero) failed g.now (allowM (outN g.L g.hl) (actN g.L) g.c.c9 && decide (stateM g.L b = 2))).1 }
def resetO (why : Int) : Outp := ⟨6,0,0,0,0,0,why⟩
def Gt.moved (g : Gt) (i : Nat) (b tok : Int) : Gt :=
 let f := g.fl.getD i default
 { g with tok := tok,tb := g.tb.set f.slot.toNat ⟨f.gen,true,f.key,b⟩,fl := g.fl.set i { f with backend := b,tries := f.tries + 1,due := g.now + g.c.c7 },tm := armT g.tm f.slot (g.now + g.c.c7),out := g.out ++ [⟨5,f.slot,f.gen,b,0,0,0⟩] }
def Gt.failed (g : Gt) (i : Nat) (why : Int) : Gt :=
 let f := g.fl.getD i default
 let g1 := g.note f.backend true
 if f.tries = g.c.c8 ∨ g.tok < g.c.bud.den then g1.drop i (resetO why)
 else if (pickG g1 f.key f.slot).2 ≠ 0 then g1.drop i (resetO 4)
 else if f.backend ≠ (pickG g1 f.key f.slot).1 then (g1.moved i (pickG g1 f.key f.slot).1 (g.tok - g.c.bud.den)).spared f.backend
 else g1.moved i (pickG g1 f.key f.slot).1 (g.tok - g.c.bud.den)
def posF (fl : List Flw) (slot : Int) : Nat := lowB (fun f => decide (f.slot < slot)) fl
def insF (fl : List Flw) (f : Flw) : List Flw := fl.take (posF fl f.slot) ++ [f] ++ fl.drop (posF fl f.slot)
def freeZ (tb : List TSlot) : Int := idxZ tfree tb
def Gt.taken (g : Gt) (s : Nat) (key b : Int) : Gt :=
 let gen := (g.tb.getD s tzero).gen
 { g with tb := g.tb.set s ⟨gen,true,key,b⟩,fl := insF g.fl ⟨s,gen,key,b,false,0,g.now + g.c.c7⟩,tm := armT g.tm s (g.now + g.c.c7),tok := min (g.tok + g.c.bud.num) g.c.bud.full,out := g.out ++ [⟨1,s,gen,b,0,0,0⟩] }
def Gt.opened (g : Gt) (key : Int) : Gt :=
 if freeZ g.tb < 0 then g.put ⟨2,0,0,0,0,9,0⟩
 else if (pickG g key (-1)).2 ≠ 0 then g.put ⟨2,0,0,0,0,11,0⟩
 else g.taken (freeZ g.tb).toNat key (pickG g key (-1)).1
def findF (fl : List Flw) (slot : Int) : Int := idxZ (fun f => decide (f.slot = slot)) fl
def Gt.served (g : Gt) (i : Nat) : Gt := { g with fl := g.fl.set i { g.fl.getD i default with serving := true } }
def Gt.flow (g : Gt) (e : Evt) : Gt :=
 if (getM g.tb e.slot e.gen).2 ≠ 0 then g.put ⟨10,0,0,0,0,(getM g.tb e.slot e.gen).2,0⟩
 else
  let i := (findF g.fl e.slot).toNat
  let f := g.fl.getD i default
  if e.kind = 3 then g.drop i ⟨7,0,0,0,0,0,0⟩
  else if e.kind = 2 then (if f.serving = true then g.dueA i (g.now + g.c.c6) else g).put ⟨3,e.slot,e.gen,f.backend,0,0,0⟩
  else if f.serving = true then g.put ⟨10,0,0,0,0,7,0⟩
  else if e.good = true then (((g.served i).note f.backend false).dueA i (g.now + g.c.c6)).put ⟨4,e.slot,e.gen,f.backend,0,0,0⟩
  else g.failed i 3
def reqOf (e : Evt) : Rqs := ⟨e.req,if e.kind = 6 then 2 else 1,e.backend,e.weight,0⟩
def Gt.ask (g : Gt) (e : Evt) : Gt :=
 let a := askM g.L g.R (reqOf e) g.now g.c.c5
 let g1 := { g with L := a.L,R := a.R,out := g.out ++ [⟨8,0,0,0,e.req,a.answer,0⟩] }
 if a.fresh = false ∨ a.answer ≠ 0 ∨ e.kind ≠ 6 then g1
 else if stateM g.L e.backend = 1 then g1.put (goneO e.backend e.req)
 else Gt.spared { g1 with ws := g1.ws.set e.backend.toNat 0 } e.backend
def wokenW (L : List Lif) : List Int → List Nat → List Nat
 | [],ws => ws
 | x :: l,ws => wokenW L l (ws.set x.toNat (lifeM L x).weight.toNat)
def wokenH : List Int → List Hlth → List Hlth
 | [],hl => hl
 | x :: l,hl => wokenH l (hl.set x.toNat hzero)
def Gt.tick0 (g : Gt) : Gt :=
  { g with now := g.now + 1, wn := g.wn + 1, tm := g.tm.filter (fun t => decide (t.1 ≠ g.wn + 1)), L := wakeM g.L (g.now + 1), ws := wokenW (wakeM g.L (g.now + 1)) (wokenM g.L) g.ws,
           hl := (wokenH (wokenM g.L) g.hl).map fun h => (backH h (g.now + 1)).1 }
def offM (g : Gt) : List Int := (g.tm.filter fun t => decide (t.1 = g.wn + 1)).map (·.2)
def Gt.off1 (g : Gt) (slot : Int) : Gt :=
 let i := (findF g.fl slot).toNat
 if (g.fl.getD i default).serving = true then g.drop i (resetO 1) else g.failed i 5
def Gt.offs (g : Gt) : List Int → Gt
 | [] => g
 | s :: l => (g.off1 s).offs l
def Gt.cut1 (g : Gt) : List Hnd → Gt
 | [] => g
 | h :: l => (g.drop (findF g.fl h.1).toNat (resetO 2)).cut1 l
def Gt.cuts (g : Gt) : List Lif → Gt
 | [] => g
 | x :: l => (if x.state ≠ 3 ∨ g.now < x.til then g else g.cut1 (ofL g.tb x.backend)).cuts l
def Gt.tick (g : Gt) : Gt :=
 let g1 := g.tick0.offs (offM g)
 g1.cuts g1.L
def Gt.step (g : Gt) (e : Evt) : Gt :=
 if e.kind = 1 then g.opened e.key else if e.kind = 5 ∨ e.kind = 6 then g.ask e else if e.kind = 7 then g.tick else g.flow e
def Gt.done (g : Gt) (e : Evt) : Gt := { g with out := [] }.step e
structure FlT (tb : List TSlot) (fl : List Flw) : Prop where
 so : fl.Pairwise fun x y => x.slot < y.slot
 at_ : ∀ f ∈ fl,0 ≤ f.slot ∧ f.slot < tb.length ∧ tb.getD f.slot.toNat tzero = ⟨f.gen,true,f.key,f.backend⟩
 al : ∀ s,s < tb.length → (tb.getD s tzero).used = true → ∃ f ∈ fl,f.slot = (s : Int)
theorem FlT.uniq {tb : List TSlot} {fl : List Flw} (h : FlT tb fl) {f f' : Flw} (hf : f ∈ fl) (hf' : f' ∈ fl) (e : f.slot = f'.slot) : f = f' := by
 obtain ⟨i,hi⟩ := zF hf
 obtain ⟨j,hj⟩ := zF hf'
 obtain ⟨i1,i2⟩ := zB.1 hi
 obtain ⟨j1,j2⟩ := zB.1 hj
 have hp := List.pairwise_iff_getElem.1 h.so
 rcases Nat.lt_trichotomy i j with hl | hl | hl
 ·have := hp i j i1 j1 hl;rw [i2,j2] at this;omega
 ·subst hl;rw [← i2,← j2]
 ·have := hp j i j1 i1 hl;rw [i2,j2] at this;omega
theorem find_at {fl : List Flw} (hs : fl.Pairwise fun x y => x.slot < y.slot) {i : Nat} (hi : i < fl.length) : findF fl fl[i].slot = i := by
 refine idxZ_at _ fl i hi (fun j hj => ?_) (by simp)
 have := List.pairwise_iff_getElem.1 hs j i (by omega) hi hj
 simp;omega
theorem find_mem {fl : List Flw} (hs : fl.Pairwise fun x y => x.slot < y.slot) {f : Flw} (hf : f ∈ fl) : ∃ h : (findF fl f.slot).toNat < fl.length,fl[(findF fl f.slot).toNat] = f ∧ 0 ≤ findF fl f.slot ∧ fl.getD (findF fl f.slot).toNat default = f := by
 obtain ⟨i,hi⟩ := zF hf
 obtain ⟨i1,rfl⟩ := zB.1 hi
 have := find_at hs i1
 rw [this]
 refine ⟨by simpa using i1,by simp,by omega,by simp [zC,i1]⟩
theorem getD_at {α : Type} {l : List α} {i : Nat} (d : α) (h : i < l.length) : l.getD i d = l[i] := by simp [zC,h]
theorem mem_erase {α : Type} {l : List α} {i : Nat} {x : α} (h : x ∈ l.eraseIdx i) : ∃ j,∃ h : j < l.length,j ≠ i ∧ l[j] = x := by
 obtain ⟨k,hk⟩ := zF h
 rw [List.getElem?_eraseIdx] at hk
 split at hk
 ·obtain ⟨h1,h2⟩ := zB.1 hk
  exact ⟨k,h1,by omega,h2⟩
 ·obtain ⟨h1,h2⟩ := zB.1 hk
  exact ⟨k + 1,h1,by omega,h2⟩
theorem erase_mem {α : Type} {l : List α} {i j : Nat} (hj : j < l.length) (hn : j ≠ i) : l[j] ∈ l.eraseIdx i := by
 rcases Nat.lt_or_gt_of_ne hn with h | h
 ·refine zD (i := j) ?_
  rw [List.getElem?_eraseIdx,if_pos h,zE hj]
 ·refine zD (i := j - 1) ?_
  rw [List.getElem?_eraseIdx,if_neg (by omega),show j - 1 + 1 = j by omega,zE hj]
theorem FlT.slot_lt {tb : List TSlot} {fl : List Flw} (h : FlT tb fl) {i j : Nat} (hi : i < fl.length) (hj : j < fl.length) (hn : i ≠ j) : fl[i].slot ≠ fl[j].slot := by
 have hp := List.pairwise_iff_getElem.1 h.so
 rcases Nat.lt_or_gt_of_ne hn with hl | hl
 ·have := hp i j hi hj hl;omega
 ·have := hp j i hj hi hl;omega
theorem FlT.drop {tb : List TSlot} {fl : List Flw} (h : FlT tb fl) {i : Nat} (hi : i < fl.length) {s : TSlot} (hs : s.used = false) : FlT (tb.set fl[i].slot.toNat s) (fl.eraseIdx i) := by
 have h0 := h.at_ _ (List.getElem_mem hi)
 refine ⟨h.so.sublist (List.eraseIdx_sublist _ _),fun f hf => ?_,fun s' hs' hu => ?_⟩
 ·obtain ⟨j,hj,hji,rfl⟩ := mem_erase hf
  have h1 := h.at_ _ (List.getElem_mem hj)
  have hne := h.slot_lt hj hi hji
  rw [getD_set,if_neg (by omega),List.length_set]
  exact h1
 ·rw [List.length_set] at hs'
  rw [getD_set] at hu
  split at hu
  ·rw [hs] at hu;cases hu
  ·rename_i hc
   obtain ⟨f,hf,he⟩ := h.al s' hs' hu
   obtain ⟨j,hj⟩ := zF hf
   obtain ⟨j1,rfl⟩ := zB.1 hj
   refine ⟨_,erase_mem j1 (i := i) (fun e => ?_),he⟩
   subst e;omega
theorem FlT.upd {tb : List TSlot} {fl : List Flw} (h : FlT tb fl) {i : Nat} (hi : i < fl.length) {f : Flw} (e1 : f.slot = fl[i].slot) : FlT (tb.set f.slot.toNat ⟨f.gen,true,f.key,f.backend⟩) (fl.set i f) := by
 have h0 := h.at_ _ (List.getElem_mem hi)
 refine ⟨?_,fun x hx => ?_,fun s' hs' hu => ?_⟩
 ·rw [List.pairwise_iff_getElem]
  intro a b ha hb hab
  simp only [List.length_set] at ha hb
  have := List.pairwise_iff_getElem.1 h.so a b ha hb hab
  rw [List.getElem_set,List.getElem_set]
  split
  ·rename_i e;subst e
   rw [if_neg (by omega),e1];exact this
  ·split
   ·rename_i e;subst e;rw [e1];exact this
   ·exact this
 ·obtain ⟨j,hj⟩ := zF hx
  obtain ⟨j1,j2⟩ := zB.1 hj
  rw [List.getElem_set] at j2
  split at j2
  ·subst j2
   rw [getD_set,if_pos (by omega),List.length_set]
   exact ⟨by omega,by omega,rfl⟩
  ·rename_i hne
   simp only [List.length_set] at j1
   subst j2
   have h1 := h.at_ _ (List.getElem_mem j1)
   have hne := h.slot_lt j1 hi (fun e => hne e.symm)
   refine ⟨h1.1,by simpa using h1.2.1,?_⟩
   rw [getD_set,if_neg (by omega)]
   exact h1.2.2
 ·rw [List.length_set] at hs'
  rw [getD_set] at hu
  by_cases hc : s' = f.slot.toNat
  ·exact ⟨f,zD (i := i) (by rw [List.getElem?_set];simp [hi]),by omega⟩
  ·rw [if_neg (by omega)] at hu
   obtain ⟨x,hx,he⟩ := h.al s' hs' hu
   obtain ⟨j,hj⟩ := zF hx
   obtain ⟨j1,rfl⟩ := zB.1 hj
   have hji : j ≠ i := fun e => by subst e;omega
   exact ⟨_,zD (i := j) (by rw [List.getElem?_set,if_neg (by omega),zE j1]),he⟩
theorem insF_mem {fl : List Flw} {f x : Flw} : x ∈ insF fl f ↔ x = f ∨ x ∈ fl := by
 unfold insF
 constructor
 ·intro h
  rcases List.mem_append.1 h with h | h
  ·rcases List.mem_append.1 h with h | h
   ·exact .inr (List.mem_of_mem_take h)
   ·exact .inl (List.mem_singleton.1 h)
  ·exact .inr (List.mem_of_mem_drop h)
 ·intro h
  rcases h with rfl | h
  ·simp
  ·rw [← List.take_append_drop (posF fl f.slot) fl] at h
   rcases List.mem_append.1 h with h | h <;> simp [h]
theorem insF_so {fl : List Flw} (h : fl.Pairwise fun x y => x.slot < y.slot) {f : Flw} (hn : ∀ x ∈ fl,x.slot ≠ f.slot) : (insF fl f).Pairwise fun x y => x.slot < y.slot := by
 have hlt : ∀ j (h : j < fl.length),j < posF fl f.slot → fl[j].slot < f.slot := fun j h hj => of_decide_eq_true (lowB_lt (fun x : Flw => decide (x.slot < f.slot)) fl j h hj)
 have hge : ∀ h : posF fl f.slot < fl.length,¬ fl[posF fl f.slot].slot < f.slot := fun h => of_decide_eq_false (lowB_ge (fun x : Flw => decide (x.slot < f.slot)) fl h)
 unfold insF
 generalize posF fl f.slot = p at hlt hge
 have hp := List.pairwise_iff_getElem.1 h
 rw [List.append_assoc,List.pairwise_append]
 refine ⟨h.sublist (List.take_sublist _ _),?_,fun a ha b hb => ?_⟩
 ·rw [List.singleton_append,List.pairwise_cons]
  refine ⟨fun y hy => ?_,h.sublist (List.drop_sublist _ _)⟩
  obtain ⟨j,hj⟩ := zF hy
  rw [List.getElem?_drop] at hj
  obtain ⟨hj1,hj2⟩ := zB.1 hj
  have hpl : p < fl.length := by omega
  have h1 := hge hpl
  have h2 := hn fl[p] (List.getElem_mem hpl)
  rcases Nat.eq_zero_or_pos j with h0 | h0
  ·subst h0
   simp only [Nat.add_zero] at hj2
   rw [← hj2];omega
  ·have := hp p (p + j) hpl hj1 (by omega)
   rw [hj2] at this;omega
 ·obtain ⟨j,hj⟩ := zF ha
  rw [List.getElem?_take] at hj
  split at hj
  ·rename_i hjp
   obtain ⟨hj1,hj2⟩ := zB.1 hj
   have h1 := hlt j hj1 hjp
   rw [hj2] at h1
   rcases List.mem_append.1 hb with hb | hb
   ·rw [List.mem_singleton.1 hb];exact h1
   ·obtain ⟨k,hk⟩ := zF hb
    rw [List.getElem?_drop] at hk
    obtain ⟨hk1,hk2⟩ := zB.1 hk
    have := hp j (p + k) hj1 hk1 (by omega)
    rw [hj2,hk2] at this;exact this
  ·cases hj
theorem FlT.ins {tb : List TSlot} {fl : List Flw} (h : FlT tb fl) {s : Nat} (hs : s < tb.length) (hu : (tb.getD s tzero).used = false) {f : Flw} (e : f.slot = (s : Int)) : FlT (tb.set s ⟨f.gen,true,f.key,f.backend⟩) (insF fl f) := by
 have hn : ∀ x ∈ fl,x.slot ≠ f.slot := fun x hx e2 => by
  have h1 := h.at_ x hx
  have : x.slot.toNat = s := by omega
  rw [this] at h1
  rw [h1.2.2] at hu
  cases hu
 refine ⟨insF_so h.so hn,fun x hx => ?_,fun s' hs' hu' => ?_⟩
 ·rcases insF_mem.1 hx with rfl | hx
  ·rw [getD_set,if_pos (by omega),List.length_set]
   exact ⟨by omega,by omega,rfl⟩
  ·have h1 := h.at_ x hx
   have h2 := hn x hx
   rw [getD_set,if_neg (by omega),List.length_set]
   exact h1
 ·rw [List.length_set] at hs'
  by_cases hc : s' = s
  ·exact ⟨f,insF_mem.2 (.inl rfl),by omega⟩
  ·rw [getD_set,if_neg (by omega)] at hu'
   obtain ⟨x,hx,he⟩ := h.al s' hs' hu'
   exact ⟨x,insF_mem.2 (.inr hx),he⟩
theorem FlT.slots {tb : List TSlot} {fl : List Flw} (h : FlT tb fl) : fl.map (·.slot) = ((List.range tb.length).filter fun s => (tb.getD s tzero).used).map fun s : Nat => (s : Int) := by
 refine inc_eq _ _ (List.pairwise_map.2 h.so) ?_ fun z => ?_
 ·rw [List.pairwise_map]
  exact List.Pairwise.imp (fun h => by omega) (List.Pairwise.filter _ List.pairwise_lt_range)
 ·constructor
  ·intro hz
   obtain ⟨f,hf,rfl⟩ := List.mem_map.1 hz
   have h1 := h.at_ f hf
   exact List.mem_map.2 ⟨f.slot.toNat,List.mem_filter.2 ⟨List.mem_range.2 (by omega),by rw [h1.2.2]⟩,by omega⟩
  ·intro hz
   obtain ⟨s,hs,rfl⟩ := List.mem_map.1 hz
   obtain ⟨h1,h2⟩ := List.mem_filter.1 hs
   obtain ⟨f,hf,e⟩ := h.al s (List.mem_range.1 h1) h2
   exact List.mem_map.2 ⟨f,hf,e⟩
theorem FlT.cnt {tb : List TSlot} {fl : List Flw} (h : FlT tb fl) (b : Int) : cntB tb b = fl.countP fun f => decide (f.backend = b) := by
 have h1 : (fl.countP fun f => decide (f.backend = b)) = (fl.map (·.slot)).countP fun z : Int => decide ((tb.getD z.toNat tzero).backend = b) := by
  rw [List.countP_map]
  refine List.countP_congr fun f hf => ?_
  have := h.at_ f hf
  simp only [Function.comp]
  rw [this.2.2]
 rw [h1,h.slots,cntB_range,List.countP_map,List.countP_filter]
 refine List.countP_congr fun s _ => ?_
 simp [Bool.and_comm]
theorem FlT.used {tb : List TSlot} {fl : List Flw} (h : FlT tb fl) : tb.countP (·.used) = fl.length := by
 have h1 := congrArg List.length h.slots
 rw [List.length_map,List.length_map,← List.countP_eq_length_filter] at h1
 rw [h1]
 have : tb = (List.range tb.length).map fun s => tb.getD s tzero := by
  apply List.ext_getElem (by simp)
  intro i h1 h2
  simp [zC,h1]
 conv => lhs;rw [this]
 rw [List.countP_map];rfl
theorem FlT.got {tb : List TSlot} {fl : List Flw} (h : FlT tb fl) {slot gen : Int} (hg : (getM tb slot gen).2 = 0) : ∃ f ∈ fl,f.slot = slot ∧ f.gen = gen := by
 obtain ⟨h1,h2,_,h3,h4⟩ := getM_in tb slot gen hg
 obtain ⟨f,hf,e⟩ := h.al slot.toNat (by omega) h3
 have h5 := h.at_ f hf
 have : f.slot = slot := by omega
 refine ⟨f,hf,this,?_⟩
 rw [this] at h5
 rw [h5.2.2] at h4
 exact h4
def TmT (now : Int) (fl : List Flw) (tm : List (Int × Int)) : Prop := ∀ t,t ∈ tm ↔ ∃ f ∈ fl,now < f.due ∧ t = (f.due,f.slot)
theorem rmT_mem {tm : List (Int × Int)} {s : Int} {t : Int × Int} : t ∈ rmT tm s ↔ t ∈ tm ∧ t.2 ≠ s := by
 unfold rmT;rw [List.mem_filter];simp
theorem armT_mem {tm : List (Int × Int)} {s z : Int} {t : Int × Int} : t ∈ armT tm s z ↔ t = (z,s) ∨ (t ∈ tm ∧ t.2 ≠ s) := by
 unfold armT;rw [insT_mem,rmT_mem]
theorem rmT_srt {tm : List (Int × Int)} (h : SrtT tm) (s : Int) : SrtT (rmT tm s) := List.Pairwise.filter _ h
theorem armT_srt {tm : List (Int × Int)} (h : SrtT tm) (s z : Int) : SrtT (armT tm s z) := insT_srt (rmT_srt h s) fun x hx => (rmT_mem.1 hx).2
theorem TmT.wh {now : Int} {tb : List TSlot} {fl : List Flw} {tm : List (Int × Int)} (h : TmT now fl tm) (hs : SrtT tm) (hf : FlT tb fl) (h40 : tb.length ≤ 40) (n0 : 0 ≤ now) (n1 : now ≤ 2000000) (hd : ∀ f ∈ fl,f.due ≤ now + 500) : WhOk now tm := by
 have hslot : ∀ t ∈ tm,0 ≤ t.2 ∧ t.2 < 40 := fun t ht => by
  obtain ⟨f,hm,_,rfl⟩ := (h t).1 ht
  have := hf.at_ f hm
  show 0 ≤ f.slot ∧ f.slot < 40
  omega
 have hid : (tm.map (·.2)).Nodup := by
  unfold List.Nodup
  rw [List.pairwise_map]
  refine List.Pairwise.imp_of_mem (fun {a b} ha hb hab e => ?_) hs
  obtain ⟨f,hm,_,rfl⟩ := (h a).1 ha
  obtain ⟨f',hm',_,rfl⟩ := (h b).1 hb
  have := hf.uniq hm hm' e
  subst this
  simp at hab
 refine ⟨n0,by omega,hs,fun t ht => ?_,hid,?_⟩
 ·have h1 := hslot t ht
  obtain ⟨f,hm,h2,rfl⟩ := (h t).1 ht
  have := hd f hm
  exact ⟨h2,this,by show f.due ≤ _;omega,h1.1,by omega⟩
 ·have : (tm.map (·.2)).length ≤ 40 := by
   have hsub : (tm.map (·.2)) ⊆ (List.range 40).map fun n : Nat => (n : Int) := fun z hz => by
    obtain ⟨t,ht,rfl⟩ := List.mem_map.1 hz
    have := hslot t ht
    exact List.mem_map.2 ⟨t.2.toNat,List.mem_range.2 (by omega),by omega⟩
   have := List.Nodup.length_le_of_subset hid hsub
   simpa using this
  rw [List.length_map] at this
  omega
theorem TmT.arm {tb : List TSlot} {now : Int} {fl : List Flw} {tm : List (Int × Int)} (h : TmT now fl tm) (hf : FlT tb fl) {i : Nat} (hi : i < fl.length) {z : Int} (hz : now < z) {f : Flw} (e1 : f.slot = fl[i].slot) (e2 : f.due = z) : TmT now (fl.set i f) (armT tm fl[i].slot z) := by
 intro t
 rw [armT_mem,h t]
 constructor
 ·rintro (rfl | ⟨⟨x,hx,hd,rfl⟩,hne⟩)
  ·exact ⟨f,zD (i := i) (by rw [List.getElem?_set];simp [hi]),by omega,by rw [e1,e2]⟩
  ·obtain ⟨j,hj⟩ := zF hx
   obtain ⟨j1,rfl⟩ := zB.1 hj
   have hji : j ≠ i := fun e => by subst e;exact hne rfl
   exact ⟨_,zD (i := j) (by rw [List.getElem?_set,if_neg (by omega),zE j1]),hd,rfl⟩
 ·rintro ⟨x,hx,hd,rfl⟩
  obtain ⟨j,hj⟩ := zF hx
  obtain ⟨j1,j2⟩ := zB.1 hj
  rw [List.getElem_set] at j2
  split at j2
  ·subst j2;left;rw [e1,e2]
  ·rename_i hne
   simp only [List.length_set] at j1
   subst j2
   exact .inr ⟨⟨_,List.getElem_mem j1,hd,rfl⟩,hf.slot_lt j1 hi (fun e => hne e.symm)⟩
theorem TmT.drop {tb : List TSlot} {now : Int} {fl : List Flw} {tm : List (Int × Int)} (h : TmT now fl tm) (hf : FlT tb fl) {i : Nat} (hi : i < fl.length) : TmT now (fl.eraseIdx i) (rmT tm fl[i].slot) := by
 intro t
 rw [rmT_mem,h t]
 constructor
 ·rintro ⟨⟨x,hx,hd,rfl⟩,hne⟩
  obtain ⟨j,hj⟩ := zF hx
  obtain ⟨j1,rfl⟩ := zB.1 hj
  have hji : j ≠ i := fun e => by subst e;exact hne rfl
  exact ⟨_,erase_mem j1 hji,hd,rfl⟩
 ·rintro ⟨x,hx,hd,rfl⟩
  obtain ⟨j,hj,hji,rfl⟩ := mem_erase hx
  exact ⟨⟨_,List.getElem_mem hj,hd,rfl⟩,hf.slot_lt hj hi hji⟩
theorem TmT.ins {now : Int} {fl : List Flw} {tm : List (Int × Int)} (h : TmT now fl tm) {f : Flw} (hn : ∀ x ∈ fl,x.slot ≠ f.slot) (hd : now < f.due) : TmT now (insF fl f) (armT tm f.slot f.due) := by
 intro t
 rw [armT_mem,h t]
 constructor
 ·rintro (rfl | ⟨⟨x,hx,hd,rfl⟩,hne⟩)
  ·exact ⟨f,insF_mem.2 (.inl rfl),hd,rfl⟩
  ·exact ⟨x,insF_mem.2 (.inr hx),hd,rfl⟩
 ·rintro ⟨x,hx,hd,rfl⟩
  rcases insF_mem.1 hx with rfl | hx
  ·exact .inl rfl
  ·exact .inr ⟨⟨x,hx,hd,rfl⟩,hn x hx⟩
abbrev SrtL (L : List Lif) : Prop := L.Pairwise fun x y => x.backend < y.backend
theorem life_cases (L : List Lif) (b : Int) : (∃ x ∈ L,x.backend = b ∧ lifeM L b = x) ∨ ((∀ x ∈ L,x.backend ≠ b) ∧ lifeM L b = default) := by
 unfold lifeM
 rw [ofM_find]
 cases h : L.find? (qB b) with
 | some x =>
  have := List.find?_some h
  exact .inl ⟨x,List.mem_of_find?_eq_some h,by simpa [qB] using this,rfl⟩
 | none => exact .inr ⟨fun x hx e => by simpa [qB,e] using List.find?_eq_none.1 h x hx,rfl⟩
theorem srt_uniq {L : List Lif} (hs : SrtL L) {x y : Lif} (hx : x ∈ L) (hy : y ∈ L) (e : x.backend = y.backend) : x = y := by
 obtain ⟨i,hi⟩ := zF hx
 obtain ⟨j,hj⟩ := zF hy
 obtain ⟨i1,i2⟩ := zB.1 hi
 obtain ⟨j1,j2⟩ := zB.1 hj
 have hp := List.pairwise_iff_getElem.1 hs
 rcases Nat.lt_trichotomy i j with hl | hl | hl
 ·have := hp i j i1 j1 hl;rw [i2,j2] at this;omega
 ·subst hl;rw [← i2,← j2]
 ·have := hp j i j1 i1 hl;rw [i2,j2] at this;omega
theorem life_mem {L : List Lif} (hs : SrtL L) {x : Lif} (hx : x ∈ L) : lifeM L x.backend = x := by
 rcases life_cases L x.backend with ⟨y,hy,e,h⟩ | ⟨h,_⟩
 ·rw [h];exact srt_uniq hs hy hx e
 ·exact absurd rfl (h x hx)
theorem state_mem {L : List Lif} {b : Int} (h : stateM L b ≠ 0) : lifeM L b ∈ L ∧ (lifeM L b).backend = b := by
 rcases life_cases L b with ⟨y,hy,e,h2⟩ | ⟨_,h2⟩
 ·rw [h2];exact ⟨hy,e⟩
 ·unfold stateM at h;rw [h2] at h;exact absurd rfl h
theorem life_set {L : List Lif} (hs : SrtL L) {i : Nat} (hi : i < L.length) {x : Lif} (hx : x.backend = L[i].backend) (b : Int) : lifeM (L.set i x) b = if b = x.backend then x else lifeM L b := by
 by_cases e : b = x.backend
 ·rw [if_pos e,e]
  exact life_mem (set_sorted hs hi hx) (zD (i := i) (by rw [List.getElem?_set];simp [hi]))
 ·rw [if_neg e]
  unfold lifeM
  rw [ofM_find,ofM_find,find_set hi (fun h => e (h.symm.trans hx.symm)) (fun h => e h.symm)]
def actW (x : Lif) : Nat := if x.state = 2 then x.weight.toNat else 0
def wsOf (L : List Lif) : List Nat := (List.range 12).map fun b : Nat => actW (lifeM L b)
theorem wsOf_ok {L : List Lif} (h : ∀ x ∈ L,LifOk x) : WOk (wsOf L) := by
 refine ⟨by simp [wsOf],fun w hw => ?_⟩
 obtain ⟨b,_,rfl⟩ := List.mem_map.1 hw
 unfold actW
 split
 ·rename_i h2
  rcases life_cases L b with ⟨x,hx,_,e⟩ | ⟨_,e⟩
  ·rw [e];have := (h x hx).w1;omega
  ·rw [e] at h2;cases h2
 ·omega
theorem wsOf_get (L : List Lif) (b : Nat) (hb : b < 12) : (wsOf L).getD b 0 = actW (lifeM L b) := by simp [wsOf,zC,hb]
theorem wsOf_congr {L L' : List Lif} (h : ∀ b : Nat,b < 12 → actW (lifeM L b) = actW (lifeM L' b)) : wsOf L = wsOf L' := List.map_congr_left fun b hb => h b (List.mem_range.1 hb)
theorem wsOf_set {L L' : List Lif} (k : Nat) (h : ∀ b : Nat,b < 12 → b ≠ k → actW (lifeM L' b) = actW (lifeM L b)) (w : Nat) (hk : k < 12 → actW (lifeM L' k) = w) : wsOf L' = (wsOf L).set k w := by
 apply List.ext_getElem (by simp [wsOf])
 intro b h1 h2
 have hb : b < 12 := by simpa [wsOf] using h1
 rw [List.getElem_set]
 by_cases e : k = b
 ·subst e;simp [wsOf,hk hb]
 ·rw [if_neg e];simp [wsOf,h b hb (fun h => e h.symm)]
theorem cnt_perm {α : Type} (p : α → Bool) {l : List α} {i : Nat} (hi : i < l.length) : l.countP p = (l.eraseIdx i).countP p + if p l[i] = true then 1 else 0 := by
 have e : l = l.take i ++ l[i] :: l.drop (i + 1) := by rw [List.getElem_cons_drop,List.take_append_drop]
 conv => lhs;rw [e]
 rw [List.eraseIdx_eq_take_drop_succ,List.countP_append,List.countP_append,List.countP_cons]
 omega
theorem cnt_set {α : Type} (p : α → Bool) {l : List α} {i : Nat} (hi : i < l.length) (x : α) : (l.set i x).countP p + (if p l[i] = true then 1 else 0) = l.countP p + if p x = true then 1 else 0 := by
 have h1 := cnt_perm p hi
 have h2 := cnt_perm p (l := l.set i x) (i := i) (by simpa using hi)
 rw [List.getElem_set_self,List.eraseIdx_set_eq] at h2
 omega
theorem insF_cnt (p : Flw → Bool) (fl : List Flw) (f : Flw) : (insF fl f).countP p = fl.countP p + if p f = true then 1 else 0 := by
 unfold insF
 have e : fl = fl.take (posF fl f.slot) ++ fl.drop (posF fl f.slot) := (List.take_append_drop _ _).symm
 conv => rhs;rw [e]
 rw [List.countP_append,List.countP_append,List.countP_append,List.countP_cons,List.countP_nil]
 omega
structure Mid (g : Gt) (n : Nat) (ex : Int) : Prop where
 c : g.c.Ok
 n0 : 0 ≤ g.now
 n1 : g.now ≤ n
 nn : n ≤ 1000000
 wn : g.wn = g.now
 tok : TOk g.tb
 tl : (g.tb.length : Int) = g.c.slots
 gens : ∀ s ∈ g.tb,s.gen + (if s.used = true then 1 else 0) ≤ n
 bk : BookOk g.L g.R
 since : ∀ x ∈ g.L,x.since ≤ g.now
 dr : ∀ x ∈ g.L,x.state = 3 → g.now ≤ x.til ∧ x.til ≤ g.now + g.c.c5 ∧ (x.backend ≠ ex → 0 < cntB g.tb x.backend)
 ws : g.ws = wsOf g.L
 hn : g.hl.length = 12
 hok : ∀ h ∈ g.hl,h.Ok g.c.wat ∧ (h.out = true → g.now < h.til ∧ h.til ≤ g.now + 500)
 tk0 : 0 ≤ g.tok
 tk1 : g.tok ≤ g.c.bud.full
 fs : FlT g.tb g.fl
 fe : ∀ f ∈ g.fl,0 ≤ f.tries ∧ f.tries ≤ g.c.c8 ∧ g.now ≤ f.due ∧ f.due ≤ g.now + (if f.serving = true then g.c.c6 else g.c.c7) ∧ (stateM g.L f.backend = 2 ∨ stateM g.L f.backend = 3)
 ts : SrtT g.tm
 tt : TmT g.now g.fl g.tm
theorem Mid.due {g : Gt} {n : Nat} {ex : Int} (h : Mid g n ex) {f : Flw} (hf : f ∈ g.fl) : f.due ≤ g.now + 500 := by
 have h1 := h.fe f hf
 have h6 := h.c.w6
 have h7 := h.c.w7
 obtain ⟨_,_,_,h2,_⟩ := h1
 split at h2 <;> omega
theorem Mid.wh {g : Gt} {n : Nat} {ex : Int} (h : Mid g n ex) : WhOk g.now g.tm := h.tt.wh h.ts h.fs h.tok.2.1 h.n0 (by have := h.n1;have := h.nn;omega) fun f hf => h.due hf
theorem Mid.flow {g : Gt} {n : Nat} {ex : Int} (h : Mid g n ex) {f : Flw} (hf : f ∈ g.fl) : 0 ≤ f.slot ∧ f.slot < g.tb.length ∧ g.tb.getD f.slot.toNat tzero = ⟨f.gen,true,f.key,f.backend⟩ ∧ 0 ≤ f.gen ∧ f.gen < 1048576 ∧ 0 ≤ f.key ∧ f.key ≤ 4294967295 ∧ 0 ≤ f.backend ∧ f.backend < 12 := by
 obtain ⟨h1,h2,h3⟩ := h.fs.at_ f hf
 have hm : g.tb.getD f.slot.toNat tzero ∈ g.tb := getD_mem _ (by omega)
 have ho := h.tok.2.2 _ hm
 rw [h3] at ho
 obtain ⟨o1,_,o2⟩ := ho
 obtain ⟨o3,o4,o5,o6,o7⟩ := o2 rfl
 exact ⟨h1,h2,h3,o1,o3,o4,o5,o6,o7⟩
theorem finish_set {L : List Lif} (hs : SrtL L) {b : Int} (h3 : stateM L b = 3) : ∃ i,∃ h : i < L.length,L[i] = lifeM L b ∧ L[i].backend = b ∧ finishM L b = (L.set i { lifeM L b with state := 4 },0) := by
 obtain ⟨hm,hb⟩ := state_mem (b := b) (L := L) (by omega)
 have hf : 0 ≤ findM L b := idxZ_some (qB b) L ⟨_,hm,by simp [qB,hb]⟩
 obtain ⟨h1,h2,h4⟩ := findM_at hf
 have he : L[(findM L b).toNat] = lifeM L b := srt_uniq hs (List.getElem_mem h1) hm (h2.trans hb.symm)
 refine ⟨_,h1,he,h2,?_⟩
 unfold finishM
 simp only
 rw [if_neg (by omega),h4,he,if_pos (show (lifeM L b).state = 3 from h3)]
theorem Mid.spared {g : Gt} {n : Nat} {b : Int} (h : Mid g n b) : Mid (g.spared b) n (-1) := by
 unfold Gt.spared
 split
 ·rename_i hc
  obtain ⟨h3,h0⟩ := hc
  obtain ⟨i,hi,hl,hb,he⟩ := finish_set h.bk.sorted h3
  have hx : ({ lifeM g.L b with state := 4 } : Lif).backend = g.L[i].backend := by rw [hl]
  have hls := life_set h.bk.sorted hi hx
  have hbe : ({ lifeM g.L b with state := 4 } : Lif).backend = b := hx.trans hb
  rw [hbe] at hls
  have hlo := h.bk.lok _ (List.getElem_mem hi)
  have hok : LifOk { lifeM g.L b with state := 4 } := by
   rw [← hl]
   exact ⟨hlo.b0,hlo.b1,hlo.w0,hlo.w1,hlo.s0,hlo.s1,hlo.u0,hlo.u1,hlo.r0,hlo.r1,.inr (.inr (.inr rfl))⟩
  have hmem : ∀ x ∈ g.L.set i { lifeM g.L b with state := 4 },x = { lifeM g.L b with state := 4 } ∨ (x ∈ g.L ∧ x.backend ≠ b) := fun x hx2 => by
   obtain ⟨j,hj⟩ := zF hx2
   obtain ⟨j1,j2⟩ := zB.1 hj
   rw [List.getElem_set] at j2
   split at j2
   ·exact .inl j2.symm
   ·rename_i hne
    simp only [List.length_set] at j1
    subst j2
    refine .inr ⟨List.getElem_mem j1,fun e => ?_⟩
    have hp := List.pairwise_iff_getElem.1 h.bk.sorted
    rcases Nat.lt_or_gt_of_ne hne with hl2 | hl2
    ·have := hp i j hi j1 hl2;omega
    ·have := hp j i j1 hi hl2;omega
  have hfe : (finishM g.L b).1 = g.L.set i { lifeM g.L b with state := 4 } := by rw [he]
  have hnof : ∀ f ∈ g.fl,f.backend ≠ b := fun f hf e => by
   rw [h.fs.cnt,List.countP_eq_zero] at h0
   exact h0 f hf (by simp [e])
  have hst : ∀ b',b' ≠ b → stateM (g.L.set i { lifeM g.L b with state := 4 }) b' = stateM g.L b' := fun b' hn => by
   unfold stateM;rw [hls,if_neg hn]
  refine ⟨h.c,h.n0,h.n1,h.nn,h.wn,h.tok,h.tl,h.gens,?_,?_,?_,?_,h.hn,h.hok,h.tk0,h.tk1,h.fs,?_,h.ts,h.tt⟩
  ·show BookOk (finishM g.L b).1 g.R
   rw [hfe]
   exact h.bk.set hi hx hok
  ·show ∀ x ∈ (finishM g.L b).1,x.since ≤ g.now
   rw [hfe]
   intro x hx2
   rcases hmem x hx2 with rfl | ⟨h1,_⟩
   ·have := h.since _ (List.getElem_mem hi);rw [hl] at this;exact this
   ·exact h.since x h1
  ·show ∀ x ∈ (finishM g.L b).1,x.state = 3 → g.now ≤ x.til ∧ x.til ≤ g.now + g.c.c5 ∧ (x.backend ≠ -1 → 0 < cntB g.tb x.backend)
   rw [hfe]
   intro x hx2 h33
   rcases hmem x hx2 with rfl | ⟨h1,h2⟩
   ·cases h33
   ·have := h.dr x h1 h33
    exact ⟨this.1,this.2.1,fun _ => this.2.2 h2⟩
  ·show g.ws = wsOf (finishM g.L b).1
   rw [hfe,h.ws]
   refine wsOf_congr fun b' hb' => ?_
   rw [hls]
   split
   ·rename_i e
    rw [e]
    unfold stateM at h3
    simp [actW,h3]
   ·rfl
  ·show ∀ f ∈ g.fl,0 ≤ f.tries ∧ f.tries ≤ g.c.c8 ∧ g.now ≤ f.due ∧ f.due ≤ g.now + (if f.serving = true then g.c.c6 else g.c.c7) ∧ (stateM (finishM g.L b).1 f.backend = 2 ∨ stateM (finishM g.L b).1 f.backend = 3)
   rw [hfe]
   intro f hf
   rw [hst _ (hnof f hf)]
   exact h.fe f hf
 ·rename_i hc
  refine { h with dr := fun x hx h3 => ?_ }
  have := h.dr x hx h3
  refine ⟨this.1,this.2.1,fun _ => ?_⟩
  by_cases e : x.backend = b
  ·have h4 : stateM g.L b = 3 := by unfold stateM;rw [← e,life_mem h.bk.sorted hx];exact h3
   have h5 : ¬ cntB g.tb b = 0 := fun h0 => hc ⟨h4,h0⟩
   rw [e];omega
  ·exact this.2.2 e
theorem tok_setC {tb : List TSlot} (h : TOk tb) (s : Nat) (v : TSlot) (hv : v.ok) : TOk (tb.set s v) := by
 obtain ⟨h1,h2,h3⟩ := h
 exact ⟨by simpa using h1,by simpa using h2,fun x hx => (List.mem_or_eq_of_mem_set hx).elim (h3 x) (fun e => e ▸ hv)⟩
theorem Mid.dropA {g : Gt} {n : Nat} (h : Mid g n (-1)) {i : Nat} (hi : i < g.fl.length) (o : Outp) : Mid (g.dropA i o) n (g.fl.getD i default).backend := by
 have hm := List.getElem_mem hi
 obtain ⟨s0,s1,s2,g0,g1,_,_,b0,b1⟩ := h.flow hm
 have hgen := h.gens _ (getD_mem (l := g.tb) tzero (j := g.fl[i].slot.toNat) (by omega))
 rw [s2] at hgen
 simp only [if_true] at hgen
 unfold Gt.dropA
 rw [getD_at _ hi]
 have hfs := h.fs.drop hi (s := ⟨g.fl[i].gen + 1,false,0,0⟩) rfl
 refine ⟨h.c,h.n0,h.n1,h.nn,h.wn,?_,?_,?_,h.bk,h.since,?_,h.ws,h.hn,h.hok,h.tk0,h.tk1,hfs,?_,rmT_srt h.ts _,h.tt.drop h.fs hi⟩
 ·exact tok_setC h.tok _ _ ⟨by show 0 ≤ g.fl[i].gen + 1;omega,fun _ => ⟨by show g.fl[i].gen + 1 ≤ _;omega,rfl,rfl⟩,fun h => by cases h⟩
 ·simpa using h.tl
 ·intro s hs
  rcases List.mem_or_eq_of_mem_set hs with hs | rfl
  ·exact h.gens s hs
  ·simpa using hgen
 ·intro x hx h3
  have := h.dr x hx h3
  refine ⟨this.1,this.2.1,fun hne => ?_⟩
  show 0 < cntB (g.tb.set g.fl[i].slot.toNat ⟨g.fl[i].gen + 1,false,0,0⟩) x.backend
  rw [hfs.cnt]
  have h4 := this.2.2 (by have := (h.bk.lok x hx).b0;omega)
  rw [h.fs.cnt,cnt_perm _ hi,if_neg (by simp;exact fun e => hne e.symm)] at h4
  exact h4
 ·intro f hf
  obtain ⟨j,hj,_,rfl⟩ := mem_erase hf
  exact h.fe _ (List.getElem_mem hj)
theorem Mid.drop {g : Gt} {n : Nat} (h : Mid g n (-1)) {i : Nat} (hi : i < g.fl.length) (o : Outp) : Mid (g.drop i o) n (-1) := (h.dropA hi o).spared
theorem noteH_ok {w : Wtch} (hw : w.Ok) {h : Hlth} (hh : h.Ok w) {now : Int} (ht : h.out = true → now < h.til ∧ h.til ≤ now + 500) (n0 : 0 ≤ now) (n1 : now ≤ 2000000) (failed may : Bool) :
  (noteH w h failed now may).1.Ok w ∧ ((noteH w h failed now may).1.out = true → now < (noteH w h failed now may).1.til ∧ (noteH w h failed now may).1.til ≤ now + 500) := by
 obtain ⟨w1,w2,w3,w4,w5,w6⟩ := hw
 obtain ⟨a1,a2,a3,a4,a5,a6⟩ := hh
 have hp := pushM_len w.window.toNat h.marks failed (by omega) (by omega)
 unfold noteH
 simp only
 split
 ·exact ⟨⟨by show ((pushM _ _ _).length : Int) ≤ _;omega,a2,a3,a4,a5,a6⟩,ht⟩
 ·have hb := pow_bd h.times.toNat (by omega)
  have h1 : 1 ≤ w.hold * 2 ^ h.times.toNat := Int.le_trans (by omega) (Int.mul_le_mul w5 hb.1 (by omega) (by omega))
  refine ⟨⟨by simp;omega,by show 0 ≤ min _ _;omega,by show min _ _ ≤ _;omega,by show 0 ≤ now + min _ _;omega,by show now + min _ _ ≤ _;omega,fun h => by cases h⟩,fun _ => ?_⟩
  show now < now + min _ _ ∧ now + min _ _ ≤ _
  omega
theorem Mid.note {g : Gt} {n : Nat} {ex : Int} (h : Mid g n ex) (b : Int) (hb : 0 ≤ b ∧ b < 12) (failed : Bool) : Mid (g.note b failed) n ex := by
 have hm : g.hl.getD b.toNat hzero ∈ g.hl := getD_mem _ (by rw [h.hn];omega)
 have ho := h.hok _ hm
 have := noteH_ok h.c.w ho.1 ho.2 h.n0 (by have := h.n1;have := h.nn;omega) failed (allowM (outN g.L g.hl) (actN g.L) g.c.c9 && decide (stateM g.L b = 2))
 refine { h with hn := by simpa [Gt.note] using h.hn,hok := fun x hx => ?_ }
 rcases List.mem_or_eq_of_mem_set hx with hx | rfl
 ·exact h.hok x hx
 ·exact this
theorem ramp_bd {w since now warm : Int} (w1 : 1 ≤ w) (hs : since ≤ now) (w0 : 0 ≤ warm) : 1 ≤ rampM w since now warm ∧ rampM w since now warm ≤ w := by
 unfold rampM
 split
 ·omega
 ·rename_i hc
  have h1 : w * (now - since) / warm ≤ w := by
   refine Int.ediv_le_of_le_mul (by omega) ?_
   exact Int.mul_le_mul_of_nonneg_left (by omega) (by omega)
  omega
def ButOk (g : Gt) (but : Int) : Prop := but < 0 ∨ ∃ f ∈ g.fl,f.slot = but
theorem Mid.load {g : Gt} {n : Nat} {ex : Int} (h : Mid g n ex) {but : Int} (hb : ButOk g but) {x : Lif} (hx : x ∈ g.L) : 0 ≤ (loadOf g but x).weight ∧ (loadOf g but x).weight ≤ 8 ∧ 0 ≤ (loadOf g but x).flows ∧ (loadOf g but x).flows ≤ 40 ∧ (isOut g.hl x.backend = false → 0 < (loadOf g but x).weight) ∧ (0 < (loadOf g but x).weight → isOut g.hl x.backend = false) := by
 have ho := h.bk.lok x hx
 have hr := ramp_bd ho.w0 (h.since x hx) h.c.w4.1
 have h8 := ho.w1
 have hw : (loadOf g but x).weight = if isOut g.hl x.backend = true then 0 else rampM x.weight x.since g.now g.c.c4 := rfl
 have hf : (loadOf g but x).flows = (cntB g.tb x.backend : Int) - if 0 ≤ but ∧ (g.tb.getD but.toNat tzero).backend = x.backend then 1 else 0 := rfl
 have hc := cntB_le g.tb x.backend
 have h40 := h.tok.2.1
 refine ⟨?_,?_,?_,?_,?_,?_⟩
 ·rw [hw];split <;> omega
 ·rw [hw];split <;> omega
 ·rw [hf]
  split
  ·rename_i hc2
   rcases hb with hb | ⟨f,hm,rfl⟩
   ·omega
   ·have h1 := (h.fs.at_ f hm).2.2
    rw [h1] at hc2
    have : 0 < cntB g.tb x.backend := by
     rw [h.fs.cnt,List.countP_pos_iff]
     exact ⟨f,hm,by simpa using hc2.2⟩
    omega
  ·omega
 ·rw [hf];split <;> omega
 ·intro h1;rw [hw,h1];simp;omega
 ·intro h1
  rw [hw] at h1
  cases he : isOut g.hl x.backend with
  | false => rfl
  | true => rw [he] at h1;simp at h1
theorem mayL_sorted (F : Lif → Load) (hF : ∀ x,(F x).backend = x.backend) : ∀ (L : List Lif) (p : Int),SrtL L → (∀ x ∈ L,p < x.backend) → (∀ x ∈ L,(F x).backend < 12 ∧ 0 ≤ (F x).weight ∧ (F x).weight ≤ 8 ∧ 0 ≤ (F x).flows ∧ (F x).flows ≤ 40) → mayL p (L.map F)
 | [],_,_,_,_ => trivial
 | x :: L,p,hs,hp,hb => by
  obtain ⟨h1,h2⟩ := List.pairwise_cons.1 hs
  have hx := hb x (by simp)
  refine ⟨⟨by rw [hF];exact hp x (by simp),hx.1,hx.2⟩,?_⟩
  rw [hF]
  exact mayL_sorted F hF L x.backend h2 h1 fun y hy => hb y (List.mem_cons_of_mem _ hy)
theorem Mid.loads {g : Gt} {n : Nat} {ex : Int} (h : Mid g n ex) {but : Int} (hb : ButOk g but) : mayL (-1) (loadsM g but) ∧ (loadsM g but).length ≤ 12 ∧ LOk (loadsM g but) := by
 have hm : ∀ x ∈ g.L.filter (fun x => decide (x.state = 2)),x ∈ g.L := fun x hx => (List.mem_filter.1 hx).1
 refine ⟨?_,?_,fun y hy => ?_⟩
 ·refine mayL_sorted (loadOf g but) (fun x => rfl) _ _ (List.Pairwise.filter _ h.bk.sorted) (fun x hx => ?_) fun x hx => ?_
  ·have := (h.bk.lok x (hm x hx)).b0;omega
  ·have h1 := h.load hb (hm x hx)
   exact ⟨(h.bk.lok x (hm x hx)).b1,h1.1,h1.2.1,h1.2.2.1,h1.2.2.2.1⟩
 ·unfold loadsM
  rw [List.length_map]
  exact Nat.le_trans (List.length_filter_le _ _) h.bk.ll
 ·obtain ⟨x,hx,rfl⟩ := List.mem_map.1 hy
  have h1 := h.load hb (hm x hx)
  exact ⟨h1.1,h1.2.1,h1.2.2.1,h1.2.2.2.1⟩
theorem Mid.picked {g : Gt} {n : Nat} {ex : Int} (h : Mid g n ex) {key but : Int} (hb : ButOk g but) (hp : (pickG g key but).2 = 0) :
  ∃ x ∈ g.L,x.state = 2 ∧ x.backend = (pickG g key but).1 ∧ isOut g.hl x.backend = false ∧
   (loadOf g but x).flows < capOf g.c.num g.c.den ((g.fl.length : Int) - if 0 ≤ but then 1 else 0) (sumW (loadsM g but)) (loadOf g but x) := by
 obtain ⟨h1,h2,h3⟩ := h.loads hb
 unfold pickG pickM at hp ⊢
 obtain ⟨nf,hnf⟩ : ∃ nf,nf = (g.fl.length : Int) - if 0 ≤ but then 1 else 0 := ⟨_,rfl⟩
 rw [← hnf] at hp ⊢
 split at hp
 ·cases hp
 ·rename_i hz
  rw [if_neg hz]
  split at hp
  ·cases hp
  ·rename_i hk
   rw [if_neg hk]
   obtain ⟨k,hkk⟩ : ∃ k : Nat,pickI (walkK g.ws key) (loadsM g but) (capsOf (loadsM g but) g.c.num g.c.den nf) g.c.tries = k := ⟨(pickI (walkK g.ws key) (loadsM g but) (capsOf (loadsM g but) g.c.num g.c.den nf) g.c.tries).toNat,by omega⟩
   rw [hkk]
   have hkl : ∃ (h2 : k < (loadsM g but).length),0 < (loadsM g but)[k].weight ∧ roomB (loadsM g but) (capsOf (loadsM g but) g.c.num g.c.den nf) k = true := by
    unfold pickI at hkk
    split at hkk
    ·have := (leastN_at (loadsM g but) _ h3 _ (Nat.le_refl _)).2 k hkk
     refine ⟨this.1,?_,this.2.2.1⟩
     have h4 := this.2.1
     rwa [getD_at _ this.1] at h4
    ·exact alongZ_at _ _ _ _ _ hkk
   obtain ⟨hl,hw,hr⟩ := hkl
   have hg := getD_at zload hl
   obtain ⟨x,hx,he⟩ := List.mem_map.1 (List.getElem_mem hl)
   obtain ⟨hx1,hx2⟩ := List.mem_filter.1 hx
   have hx2 : x.state = 2 := by simpa using hx2
   rw [← he] at hw
   have hld := h.load hb hx1
   refine ⟨x,hx1,hx2,?_,hld.2.2.2.2.2 hw,?_⟩
   ·show x.backend = ((loadsM g but).getD (k : Int).toNat zload).backend
    rw [Int.toNat_natCast,hg,← he];rfl
   ·have hr2 : ((loadsM g but).getD k zload).flows < (capsOf (loadsM g but) g.c.num g.c.den nf).getD k 0 := of_decide_eq_true hr
    rw [hg,← he] at hr2
    unfold capsOf at hr2
    rw [getD_at _ (by simpa using hl),List.getElem_map,← he] at hr2
    exact hr2
theorem Mid.pickedB {g : Gt} {n : Nat} {ex : Int} (h : Mid g n ex) {key but : Int} (hb : ButOk g but) (hp : (pickG g key but).2 = 0) : stateM g.L (pickG g key but).1 = 2 ∧ 0 ≤ (pickG g key but).1 ∧ (pickG g key but).1 < 12 := by
 obtain ⟨x,hx,h2,e,_⟩ := h.picked hb hp
 have := h.bk.lok x hx
 refine ⟨?_,by rw [← e];exact this.b0,by rw [← e];exact this.b1⟩
 unfold stateM
 rw [← e,life_mem h.bk.sorted hx];exact h2
theorem Mid.up {g : Gt} {n : Nat} {ex : Int} (h : Mid g n ex) (hn : n + 1 ≤ 1000000) : Mid g (n + 1) ex :=
 { h with n1 := by have := h.n1;omega,nn := hn,gens := fun s hs => by have := h.gens s hs;omega }
theorem Mid.put {g : Gt} {n : Nat} {ex : Int} (h : Mid g n ex) (o : Outp) : Mid (g.put o) n ex := { h with }
theorem Mid.moved {g : Gt} {n : Nat} (h : Mid g n (-1)) {i : Nat} (hi : i < g.fl.length) {b tok : Int} (hb : stateM g.L b = 2) (b0 : 0 ≤ b) (b1 : b < 12) (t0 : 0 ≤ tok) (t1 : tok ≤ g.c.bud.full) (ht : (g.fl.getD i default).tries ≠ g.c.c8) (hsv : (g.fl.getD i default).serving = false) : Mid (g.moved i b tok) n (g.fl.getD i default).backend := by
 have hm := List.getElem_mem hi
 obtain ⟨s0,s1,s2,g0,g1,k0,k1,_,_⟩ := h.flow hm
 have hgen := h.gens _ (getD_mem (l := g.tb) tzero (j := g.fl[i].slot.toNat) (by omega))
 rw [s2] at hgen
 simp only [if_true] at hgen
 unfold Gt.moved
 rw [getD_at _ hi] at ht hsv ⊢
 obtain ⟨f,hf⟩ : ∃ f,f = g.fl[i] := ⟨_,rfl⟩
 rw [← hf] at ht hsv s0 s1 s2 g0 g1 k0 k1 hgen ⊢
 obtain ⟨f',hf'⟩ : ∃ f' : Flw,f' = { f with backend := b,tries := f.tries + 1,due := g.now + g.c.c7 } := ⟨_,rfl⟩
 simp only [← hf']
 have e1 : f'.slot = g.fl[i].slot := by rw [hf',← hf]
 have hfs := h.fs.upd hi e1
 have e2 : f'.slot = f.slot := by rw [hf']
 have e3 : f'.gen = f.gen := by rw [hf']
 have e4 : f'.key = f.key := by rw [hf']
 have e5 : f'.backend = b := by rw [hf']
 rw [e2,e3,e4,e5] at hfs
 have hw7 := h.c.w7
 have htt := h.tt.arm h.fs hi (z := g.now + g.c.c7) (by omega) e1 (by rw [hf'])
 rw [← hf] at htt
 refine ⟨h.c,h.n0,h.n1,h.nn,h.wn,?_,?_,?_,h.bk,h.since,?_,h.ws,h.hn,h.hok,t0,t1,hfs,?_,armT_srt h.ts _ _,htt⟩
 ·exact tok_setC h.tok _ _ ⟨g0,fun h => (by cases h),fun _ => ⟨g1,k0,k1,b0,b1⟩⟩
 ·simpa using h.tl
 ·intro s hs
  rcases List.mem_or_eq_of_mem_set hs with hs | rfl
  ·exact h.gens s hs
  ·simpa using hgen
 ·intro x hx h3
  have := h.dr x hx h3
  refine ⟨this.1,this.2.1,fun hne => ?_⟩
  show 0 < cntB (g.tb.set f.slot.toNat ⟨f.gen,true,f.key,b⟩) x.backend
  have h4 := this.2.2 (by have := (h.bk.lok x hx).b0;omega)
  rw [h.fs.cnt] at h4
  rw [hfs.cnt]
  have h5 := cnt_set (fun f : Flw => decide (f.backend = x.backend)) hi f'
  rw [← hf,if_neg (by simp;exact fun e => hne e.symm)] at h5
  omega
 ·intro x hx
  rcases List.mem_or_eq_of_mem_set hx with hx | rfl
  ·exact h.fe x hx
  ·have := h.fe f (hf ▸ hm)
   rw [hf']
   refine ⟨by show 0 ≤ f.tries + 1;omega,by show f.tries + 1 ≤ g.c.c8;omega,by show g.now ≤ g.now + g.c.c7;omega,?_,.inl hb⟩
   show g.now + g.c.c7 ≤ g.now + (if f.serving = true then g.c.c6 else g.c.c7)
   rw [hsv];simp
theorem Mid.dueA {g : Gt} {n : Nat} {ex : Int} (h : Mid g n ex) {i : Nat} (hi : i < g.fl.length) {z : Int} (z0 : g.now < z) (z1 : z ≤ g.now + (if (g.fl.getD i default).serving = true then g.c.c6 else g.c.c7)) : Mid (g.dueA i z) n ex := by
 have hm := List.getElem_mem hi
 have h0 := h.fs.at_ _ hm
 unfold Gt.dueA
 rw [getD_at _ hi] at z1 ⊢
 obtain ⟨f,hf⟩ : ∃ f,f = g.fl[i] := ⟨_,rfl⟩
 rw [← hf] at z1 h0 ⊢
 obtain ⟨f',hf'⟩ : ∃ f' : Flw,f' = { f with due := z } := ⟨_,rfl⟩
 simp only [← hf']
 have e1 : f'.slot = g.fl[i].slot := by rw [hf',← hf]
 have hfs := h.fs.upd hi e1
 have e2 : g.tb.set f'.slot.toNat ⟨f'.gen,true,f'.key,f'.backend⟩ = g.tb := by
  have e3 : (⟨f'.gen,true,f'.key,f'.backend⟩ : TSlot) = g.tb.getD f.slot.toNat tzero := by rw [h0.2.2,hf']
  have e4 : f'.slot = f.slot := by rw [hf']
  rw [e3,e4,getD_at _ (by omega)]
  exact List.set_getElem_self _
 rw [e2] at hfs
 have htt := h.tt.arm h.fs hi z0 e1 (by rw [hf'])
 rw [← hf] at htt
 refine ⟨h.c,h.n0,h.n1,h.nn,h.wn,h.tok,h.tl,h.gens,h.bk,h.since,h.dr,h.ws,h.hn,h.hok,h.tk0,h.tk1,hfs,?_,armT_srt h.ts _ _,htt⟩
 intro x hx
 rcases List.mem_or_eq_of_mem_set hx with hx | rfl
 ·exact h.fe x hx
 ·have := h.fe f (hf ▸ hm)
  rw [hf']
  exact ⟨this.1,this.2.1,by show g.now ≤ z;omega,z1,this.2.2.2.2⟩
theorem served_due (g : Gt) (i : Nat) (hi : i < g.fl.length) (b z : Int) (failed : Bool) : (((g.served i).note b failed).dueA i z).fl = g.fl.set i { g.fl.getD i default with serving := true,due := z } ∧
  (((g.served i).note b failed).dueA i z).tm = armT g.tm (g.fl.getD i default).slot z := by
 unfold Gt.dueA Gt.note Gt.served
 simp [zC,hi]
theorem Mid.serve {g : Gt} {n : Nat} {ex : Int} (h : Mid g n ex) {i : Nat} (hi : i < g.fl.length) (b : Int) (hb : 0 ≤ b ∧ b < 12) (failed : Bool) : Mid (((g.served i).note b failed).dueA i (g.now + g.c.c6)) n ex := by
 have hn := h.note b hb failed
 have hm := List.getElem_mem hi
 have h0 := h.fs.at_ _ hm
 obtain ⟨s1,s2⟩ := served_due g i hi b (g.now + g.c.c6) failed
 have h6 := h.c.w6
 rw [getD_at _ hi] at s1 s2
 obtain ⟨f,hf⟩ : ∃ f,f = g.fl[i] := ⟨_,rfl⟩
 rw [← hf] at s1 s2 h0
 obtain ⟨f',hf'⟩ : ∃ f' : Flw,f' = { f with serving := true,due := g.now + g.c.c6 } := ⟨_,rfl⟩
 rw [← hf'] at s1
 have e1 : f'.slot = g.fl[i].slot := by rw [hf',← hf]
 have hfs := h.fs.upd hi e1
 have e2 : g.tb.set f'.slot.toNat ⟨f'.gen,true,f'.key,f'.backend⟩ = g.tb := by
  have e3 : (⟨f'.gen,true,f'.key,f'.backend⟩ : TSlot) = g.tb.getD f.slot.toNat tzero := by rw [h0.2.2,hf']
  have e4 : f'.slot = f.slot := by rw [hf']
  rw [e3,e4,getD_at _ (by omega)]
  exact List.set_getElem_self _
 rw [e2] at hfs
 have htt := h.tt.arm h.fs hi (z := g.now + g.c.c6) (by omega) e1 (by rw [hf'])
 rw [← hf] at htt
 have hfe : ∀ x ∈ g.fl.set i f',0 ≤ x.tries ∧ x.tries ≤ g.c.c8 ∧ g.now ≤ x.due ∧ x.due ≤ g.now + (if x.serving = true then g.c.c6 else g.c.c7) ∧ (stateM g.L x.backend = 2 ∨ stateM g.L x.backend = 3) := by
  intro x hx
  rcases List.mem_or_eq_of_mem_set hx with hx | rfl
  ·exact h.fe x hx
  ·have := h.fe f (hf ▸ hm)
   rw [hf']
   exact ⟨this.1,this.2.1,by show g.now ≤ g.now + g.c.c6;omega,by simp,this.2.2.2.2⟩
 exact ⟨hn.c,hn.n0,hn.n1,hn.nn,hn.wn,hn.tok,hn.tl,hn.gens,hn.bk,hn.since,hn.dr,hn.ws,hn.hn,hn.hok,hn.tk0,hn.tk1,by rw [s1];exact hfs,by rw [s1];exact hfe,by rw [s2];exact armT_srt h.ts _ _,by rw [s1,s2];exact htt⟩
theorem Mid.taken {g : Gt} {n : Nat} (h : Mid g n (-1)) {s : Nat} (hs : s < g.tb.length) (hfree : tfree (g.tb.getD s tzero) = true) {key b : Int} (k0 : 0 ≤ key) (k1 : key ≤ 4294967295) (hb : stateM g.L b = 2) (b0 : 0 ≤ b) (b1 : b < 12) (hn : n + 1 ≤ 1000000) : Mid (g.taken s key b) (n + 1) (-1) := by
 have hu := h.up hn
 have hm := getD_mem (l := g.tb) tzero hs
 have ho := h.tok.2.2 _ hm
 have hgen := h.gens _ hm
 unfold tfree at hfree
 rw [Bool.and_eq_true] at hfree
 have hus : (g.tb.getD s tzero).used = false := by simpa using hfree.1
 have hgm : (g.tb.getD s tzero).gen < 1048576 := by simpa using hfree.2
 rw [hus] at hgen
 simp only [Bool.false_eq_true,if_false] at hgen
 obtain ⟨f,hf⟩ : ∃ f : Flw,f = ⟨s,(g.tb.getD s tzero).gen,key,b,false,0,g.now + g.c.c7⟩ := ⟨_,rfl⟩
 have hfs := h.fs.ins hs hus (f := f) (by rw [hf])
 have hw7 := h.c.w7
 have hno : ∀ x ∈ g.fl,x.slot ≠ f.slot := fun x hx e2 => by
  have h1 := h.fs.at_ x hx
  have : x.slot.toNat = s := by rw [e2,hf];simp
  rw [this] at h1
  rw [h1.2.2] at hus
  cases hus
 have htt := h.tt.ins hno (by rw [hf];show g.now < g.now + g.c.c7;omega)
 have hbud := h.c.b
 have hfull := hbud.full
 obtain ⟨⟨⟨⟨⟨q1,_⟩,_⟩,_⟩,_⟩,_⟩ := hbud
 have hk0 := h.tk0
 unfold Gt.taken
 simp only [← hf]
 have e1 : armT g.tm (s : Int) (g.now + g.c.c7) = armT g.tm f.slot f.due := by rw [hf]
 have e2 : g.tb.set s ⟨(g.tb.getD s tzero).gen,true,key,b⟩ = g.tb.set s ⟨f.gen,true,f.key,f.backend⟩ := by rw [hf]
 rw [e1,e2]
 refine ⟨h.c,h.n0,hu.n1,hn,h.wn,?_,?_,?_,h.bk,h.since,?_,h.ws,h.hn,h.hok,by show (0 : Int) ≤ min (g.tok + g.c.bud.num) g.c.bud.full;omega,by show min (g.tok + g.c.bud.num) g.c.bud.full ≤ g.c.bud.full;omega,hfs,?_,armT_srt h.ts _ _,htt⟩
 ·refine tok_setC h.tok _ _ ?_
  rw [hf]
  exact ⟨ho.1,fun h => (by cases h),fun _ => ⟨hgm,k0,k1,b0,b1⟩⟩
 ·simpa using h.tl
 ·intro s2 hs2
  rcases List.mem_or_eq_of_mem_set hs2 with hs2 | rfl
  ·exact hu.gens s2 hs2
  ·rw [hf];simp only [if_true];omega
 ·intro x hx h3
  have := h.dr x hx h3
  refine ⟨this.1,this.2.1,fun hne => ?_⟩
  have h4 := this.2.2 hne
  rw [h.fs.cnt] at h4
  show 0 < cntB (g.tb.set s ⟨f.gen,true,f.key,f.backend⟩) x.backend
  rw [hfs.cnt,insF_cnt]
  omega
 ·intro x hx
  rcases insF_mem.1 hx with rfl | hx
  ·rw [hf]
   have := h.c.w8
   exact ⟨by show (0 : Int) ≤ 0;omega,by show (0 : Int) ≤ g.c.c8;omega,by show g.now ≤ g.now + g.c.c7;omega,by simp,.inl hb⟩
  ·exact h.fe x hx
theorem Mid.failed {g : Gt} {n : Nat} (h : Mid g n (-1)) {i : Nat} (hi : i < g.fl.length) (why : Int) (hsv : (g.fl.getD i default).serving = false) : Mid (g.failed i why) n (-1) := by
 have hm := List.getElem_mem hi
 have hb := h.flow hm
 have hg := getD_at default hi
 have hn := h.note (g.fl.getD i default).backend (by rw [hg];omega) true
 have hk0 := h.tk0
 have hk1 := h.tk1
 have hbud := h.c.b
 obtain ⟨⟨⟨⟨⟨_,_⟩,q1⟩,_⟩,_⟩,_⟩ := hbud
 unfold Gt.failed
 simp only
 split
 ·exact hn.drop hi _
 ·rename_i hc
  split
  ·exact hn.drop hi _
  ·rename_i hp
   have hp : (pickG (g.note (g.fl.getD i default).backend true) (g.fl.getD i default).key (g.fl.getD i default).slot).2 = 0 := by
    rcases Decidable.em ((pickG (g.note (g.fl.getD i default).backend true) (g.fl.getD i default).key (g.fl.getD i default).slot).2 = 0) with h | h
    ·exact h
    ·exact absurd h hp
   have hpk := hn.pickedB (.inr ⟨_,hm,by rw [hg]⟩) hp
   have hmv := hn.moved (tok := g.tok - g.c.bud.den) hi hpk.1 hpk.2.1 hpk.2.2 (by omega) (by show g.tok - g.c.bud.den ≤ g.c.bud.full;omega) (fun e => hc (.inl e)) hsv
   split
   ·exact hmv.spared
   ·rename_i he
    have he : (g.fl.getD i default).backend = (pickG (g.note (g.fl.getD i default).backend true) (g.fl.getD i default).key (g.fl.getD i default).slot).1 := Decidable.not_not.1 he
    refine { hmv with dr := fun x hx h3 => ?_ }
    have h1 := hmv.dr x hx h3
    refine ⟨h1.1,h1.2.1,fun _ => h1.2.2 fun e => ?_⟩
    have h4 := life_mem hn.bk.sorted (x := x) hx
    have h5 : stateM g.L x.backend = 3 := by unfold stateM;rw [show lifeM g.L x.backend = x from h4];exact h3
    have h6 : stateM g.L x.backend = 2 := by
     rw [e]
     show stateM g.L (g.fl.getD i default).backend = 2
     rw [he];exact hpk.1
    omega
theorem free_at {tb : List TSlot} (h : ¬ freeZ tb < 0) : ∃ hl : (freeZ tb).toNat < tb.length,tfree (tb.getD (freeZ tb).toNat tzero) = true ∧ ∀ j,j < (freeZ tb).toNat → tfree (tb.getD j tzero) = false := by
 obtain ⟨h1,h2,h3⟩ := idxZ_get tfree tb (by unfold freeZ at h;omega)
 refine ⟨h1,by show tfree (tb.getD (idxZ tfree tb).toNat tzero) = true;rw [getD_at _ h1];exact h2,fun j hj => ?_⟩
 have := h3 j hj
 rwa [getD_at _ (Nat.lt_trans hj h1)]
theorem Mid.opened {g : Gt} {n : Nat} (h : Mid g n (-1)) {key : Int} (k0 : 0 ≤ key) (k1 : key ≤ 4294967295) (hn : n + 1 ≤ 1000000) : Mid (g.opened key) (n + 1) (-1) := by
 unfold Gt.opened
 split
 ·exact (h.up hn).put _
 ·rename_i hf
  obtain ⟨h1,h2,_⟩ := free_at hf
  split
  ·exact (h.up hn).put _
  ·rename_i hp
   have hp := Decidable.not_not.1 hp
   have hpk := h.pickedB (.inl (by omega)) hp
   exact h.taken h1 h2 k0 k1 hpk.1 hpk.2.1 hpk.2.2 hn
theorem Mid.flowed {g : Gt} {n : Nat} (h : Mid g n (-1)) (e : Evt) : Mid (g.flow e) n (-1) := by
 unfold Gt.flow
 split
 ·exact h.put _
 ·rename_i hg
  obtain ⟨f,hf,e1,e2⟩ := h.fs.got (Decidable.not_not.1 hg)
  obtain ⟨hi,he,_,hgd⟩ := find_mem h.fs.so hf
  have hb := h.flow hf
  have h6 := h.c.w6
  simp only
  rw [← e1]
  split
  ·exact h.drop hi _
  ·split
   ·split
    ·rename_i hs
     exact (h.dueA hi (by omega) (by rw [hs];simp)).put _
    ·exact h.put _
   ·split
    ·exact h.put _
    ·rename_i hs
     split
     ·exact (h.serve hi _ (by rw [hgd];omega) false).put _
     ·exact h.failed hi 3 (by simpa using hs)
theorem set_mem {L : List Lif} (hs : SrtL L) {i : Nat} (hi : i < L.length) {x0 : Lif} (hx : x0.backend = L[i].backend) (x : Lif) : x ∈ L.set i x0 ↔ x = x0 ∨ (x ∈ L ∧ x.backend ≠ x0.backend) := by
 have hp := List.pairwise_iff_getElem.1 hs
 constructor
 ·intro hx2
  obtain ⟨j,hj⟩ := zF hx2
  obtain ⟨j1,j2⟩ := zB.1 hj
  rw [List.getElem_set] at j2
  split at j2
  ·exact .inl j2.symm
  ·rename_i hne
   simp only [List.length_set] at j1
   subst j2
   refine .inr ⟨List.getElem_mem j1,fun e => ?_⟩
   rcases Nat.lt_or_gt_of_ne hne with hl2 | hl2
   ·have := hp i j hi j1 hl2;omega
   ·have := hp j i j1 hi hl2;omega
 ·rintro (rfl | ⟨hm,hne⟩)
  ·exact zD (i := i) (by rw [List.getElem?_set];simp [hi])
  ·obtain ⟨j,hj⟩ := zF hm
   obtain ⟨j1,rfl⟩ := zB.1 hj
   have hji : i ≠ j := fun e => by subst e;exact hne hx.symm
   exact zD (i := j) (by rw [List.getElem?_set,if_neg hji,zE j1])
theorem life_upd {L L' : List Lif} (hs : SrtL L) (hs' : SrtL L') {x0 : Lif} (hm : ∀ x,x ∈ L' ↔ x = x0 ∨ (x ∈ L ∧ x.backend ≠ x0.backend)) (b : Int) : lifeM L' b = if b = x0.backend then x0 else lifeM L b := by
 split
 ·rename_i e;rw [e];exact life_mem hs' ((hm x0).2 (.inl rfl))
 ·rename_i e
  rcases life_cases L b with ⟨x,hx,e1,e2⟩ | ⟨h1,e2⟩
  ·rw [e2,← e1];exact life_mem hs' ((hm x).2 (.inr ⟨hx,fun h => e (e1.symm.trans h)⟩))
  ·rw [e2]
   rcases life_cases L' b with ⟨x,hx,e3,e4⟩ | ⟨_,e4⟩
   ·rcases (hm x).1 hx with rfl | ⟨h2,_⟩
    ·exact absurd e3.symm e
    ·exact absurd e3 (h1 x h2)
   ·exact e4
theorem Mid.life {g : Gt} {n : Nat} (h : Mid g n (-1)) {L' : List Lif} {R' : List Rqs} (hb : BookOk L' R') {x0 : Lif} (hm : ∀ x,x ∈ L' ↔ x = x0 ∨ (x ∈ g.L ∧ x.backend ≠ x0.backend))
  (hsi : x0.since ≤ g.now) (hd : x0.state = 3 → g.now ≤ x0.til ∧ x0.til ≤ g.now + g.c.c5) {ws' : List Nat} (hw : ws' = wsOf L') (hf : ∀ f ∈ g.fl,f.backend = x0.backend → x0.state = 2 ∨ x0.state = 3) (out : List Outp) :
  Mid { g with L := L',R := R',ws := ws',out := out } n x0.backend := by
 have hl := life_upd h.bk.sorted hb.sorted hm
 refine ⟨h.c,h.n0,h.n1,h.nn,h.wn,h.tok,h.tl,h.gens,hb,?_,?_,hw,h.hn,h.hok,h.tk0,h.tk1,h.fs,?_,h.ts,h.tt⟩
 ·intro x hx
  rcases (hm x).1 hx with rfl | ⟨h1,_⟩
  ·exact hsi
  ·exact h.since x h1
 ·intro x hx h3
  rcases (hm x).1 hx with rfl | ⟨h1,h2⟩
  ·exact ⟨(hd h3).1,(hd h3).2,fun e => absurd rfl e⟩
  ·have := h.dr x h1 h3
   exact ⟨this.1,this.2.1,fun _ => this.2.2 (by have := (h.bk.lok x h1).b0;omega)⟩
 ·intro f hf2
  have h1 := h.fe f hf2
  refine ⟨h1.1,h1.2.1,h1.2.2.1,h1.2.2.2.1,?_⟩
  show (lifeM L' f.backend).state = 2 ∨ (lifeM L' f.backend).state = 3
  rw [hl]
  split
  ·rename_i e;exact hf f hf2 e
  ·exact h1.2.2.2.2
theorem Mid.strong {g : Gt} {n : Nat} {b : Int} (h : Mid g n b) (hb : stateM g.L b ≠ 3) : Mid g n (-1) := by
 refine { h with dr := fun x hx h3 => ?_ }
 have h1 := h.dr x hx h3
 refine ⟨h1.1,h1.2.1,fun _ => h1.2.2 fun e => hb ?_⟩
 unfold stateM
 rw [← e,life_mem h.bk.sorted hx];exact h3
theorem ask_cases {L : List Lif} {R : List Rqs} (hb : BookOk L R) (r : Rqs) (now d : Int) :
  ((askM L R r now d).L = L ∧ ((askM L R r now d).fresh = false ∨ (askM L R r now d).answer ≠ 0)) ∨
  ((askM L R r now d).fresh = true ∧ (askM L R r now d).answer = 0 ∧ r.kind = 1 ∧ (stateM L r.backend = 0 ∨ stateM L r.backend = 4) ∧ (∀ x,x ∈ (askM L R r now d).L ↔ x = ⟨r.backend,1,r.weight,0,0,0⟩ ∨ (x ∈ L ∧ x.backend ≠ r.backend))) ∨
  ((askM L R r now d).fresh = true ∧ (askM L R r now d).answer = 0 ∧ r.kind ≠ 1 ∧ (stateM L r.backend = 1 ∨ stateM L r.backend = 2) ∧
   (∀ x,x ∈ (askM L R r now d).L ↔ x = { lifeM L r.backend with state := if stateM L r.backend = 1 then 4 else 3,til := now + d,req := r.id } ∨ (x ∈ L ∧ x.backend ≠ r.backend))) := by
 unfold askM
 split
 ·exact .inl ⟨rfl,.inl rfl⟩
 ·split
  ·exact .inl ⟨rfl,.inl rfl⟩
  ·split
   ·rename_i hk
    unfold joinM
    split
    ·exact .inl ⟨rfl,.inr (by simp)⟩
    ·split
     ·rename_i hf
      obtain ⟨h1,h2,h3⟩ := findM_at hf
      have hlm : lifeM L r.backend = L[(findM L r.backend).toNat] := (congrArg (lifeM L) h2.symm).trans (life_mem hb.sorted (List.getElem_mem h1))
      split
      ·rename_i h4
       refine .inr (.inl ⟨rfl,rfl,hk,.inr ?_,fun x => ?_⟩)
       ·unfold stateM;rw [hlm,← h3];exact h4
       ·exact set_mem hb.sorted h1 (x0 := ⟨r.backend,1,r.weight,0,0,0⟩) h2.symm x
      ·exact .inl ⟨rfl,.inr (by simp)⟩
     ·rename_i hf
      have hn := findM_neg (Int.not_le.1 hf)
      refine .inr (.inl ⟨rfl,rfl,hk,.inl ?_,fun x => ?_⟩)
      ·rcases life_cases L r.backend with ⟨y,hy,e,_⟩ | ⟨_,e⟩
       ·exact absurd e (hn y hy)
       ·unfold stateM;rw [e];rfl
      ·constructor
       ·intro h
        rcases List.mem_append.1 h with h | h
        ·rcases List.mem_append.1 h with h | h
         ·exact .inr ⟨List.mem_of_mem_take h,hn _ (List.mem_of_mem_take h)⟩
         ·exact .inl (List.mem_singleton.1 h)
        ·exact .inr ⟨List.mem_of_mem_drop h,hn _ (List.mem_of_mem_drop h)⟩
       ·rintro (rfl | ⟨h,_⟩)
        ·simp
        ·rw [← List.take_append_drop (joinPos L r.backend) L] at h
         rcases List.mem_append.1 h with h | h <;> simp [h]
   ·rename_i hk
    unfold retireM
    simp only
    split
    ·exact .inl ⟨rfl,.inr (by simp)⟩
    ·rename_i hf
     obtain ⟨h1,h2,h3⟩ := findM_at (by omega : 0 ≤ findM L r.backend)
     have hlm : lifeM L r.backend = L[(findM L r.backend).toNat] := (congrArg (lifeM L) h2.symm).trans (life_mem hb.sorted (List.getElem_mem h1))
     rw [h3]
     split
     ·exact .inl ⟨rfl,.inr (by simp)⟩
     ·split
      ·exact .inl ⟨rfl,.inr (by simp)⟩
      ·rename_i h4 h5
       have hst : stateM L r.backend = (L[(findM L r.backend).toNat]).state := by unfold stateM;rw [hlm]
       refine .inr (.inr ⟨by simp,by simp,hk,?_,fun x => ?_⟩)
       ·have := (hb.lok _ (List.getElem_mem h1)).st
        rw [hst];omega
       ·rw [hst,hlm]
        have := set_mem hb.sorted h1 (x0 := { L[(findM L r.backend).toNat] with state := if (L[(findM L r.backend).toNat]).state = 1 then 4 else 3,til := now + d,req := r.id }) rfl x
        rw [show ({ L[(findM L r.backend).toNat] with state := if (L[(findM L r.backend).toNat]).state = 1 then 4 else 3,til := now + d,req := r.id } : Lif).backend = r.backend from h2] at this
        exact this
def EvtOk (e : Evt) : Prop := 1 ≤ e.kind ∧ e.kind ≤ 7 ∧ 0 ≤ e.key ∧ e.key ≤ 4294967295 ∧ 0 ≤ e.req ∧ e.req ≤ 1048576 ∧ 0 ≤ e.backend ∧ e.backend < 12 ∧ (e.kind = 5 → 1 ≤ e.weight ∧ e.weight ≤ 8)
theorem reqOf_ok {e : Evt} (h : EvtOk e) : RqsOk (reqOf e) := by
 obtain ⟨_,_,_,_,h1,h2,_⟩ := h
 refine ⟨h1,h2,?_⟩
 show (if e.kind = 6 then (2 : Int) else 1) = 1 ∨ (if e.kind = 6 then (2 : Int) else 1) = 2
 split <;> simp
theorem Mid.asked {g : Gt} {n : Nat} (h : Mid g n (-1)) {e : Evt} (he : EvtOk e) : Mid (g.ask e) n (-1) := by
 have hn1 := h.n1
 have hnn := h.nn
 have h5 := h.c.w5
 have hbk := ask_ok h.bk (reqOf e) (reqOf_ok he) g.now g.c.c5 h.n0 (by omega) (by omega) h5.2
 have hc := ask_cases h.bk (reqOf e) g.now g.c.c5
 unfold Gt.ask
 obtain ⟨a,ha⟩ : ∃ a,a = askM g.L g.R (reqOf e) g.now g.c.c5 := ⟨_,rfl⟩
 rw [← ha] at hbk hc
 simp only [← ha]
 rcases hc with ⟨h1,h2⟩ | ⟨h1,h2,h3,h4,h6⟩ | ⟨h1,h2,h3,h4,h6⟩
 ·rw [if_pos (by rcases h2 with h2 | h2;exact .inl h2;exact .inr (.inl h2))]
  refine { h with bk := hbk,since := ?_,dr := ?_,ws := ?_,fe := ?_ }
  ·rw [h1];exact h.since
  ·rw [h1];exact h.dr
  ·rw [h1];exact h.ws
  ·rw [h1];exact h.fe
 ·have hk6 : e.kind ≠ 6 := fun hk => by
   have : (reqOf e).kind = 2 := by simp [reqOf,hk]
   omega
  rw [if_pos (.inr (.inr hk6))]
  have hu := life_upd h.bk.sorted hbk.sorted (x0 := ⟨(reqOf e).backend,1,(reqOf e).weight,0,0,0⟩) h6
  have hw : g.ws = wsOf a.L := by
   rw [h.ws]
   refine wsOf_congr fun b' hb' => ?_
   rw [hu]
   split
   ·rename_i e1
    have e1 : (b' : Int) = (reqOf e).backend := e1
    rw [e1]
    unfold stateM at h4
    simp only [actW]
    rw [if_neg (by omega),if_neg (by simp)]
   ·rfl
  have := h.life hbk (x0 := ⟨(reqOf e).backend,1,(reqOf e).weight,0,0,0⟩) h6 h.n0 (fun h => by cases h) hw (fun f hf e1 => by
   have := (h.fe f hf).2.2.2.2
   rw [show f.backend = (reqOf e).backend from e1] at this
   omega) (g.out ++ [⟨8,0,0,0,e.req,a.answer,0⟩])
  refine this.strong ?_
  show (lifeM a.L (reqOf e).backend).state ≠ 3
  rw [hu,if_pos rfl];simp
 ·have hk6 : e.kind = 6 := by
   have : (reqOf e).kind = if e.kind = 6 then 2 else 1 := rfl
   rw [this] at h3
   split at h3
   ·assumption
   ·exact absurd rfl h3
  rw [if_neg (by rintro (h | h | h);rw [h1] at h;cases h;exact h h2;exact h hk6)]
  obtain ⟨x0,hx0⟩ : ∃ x0 : Lif,x0 = { lifeM g.L (reqOf e).backend with state := if stateM g.L (reqOf e).backend = 1 then 4 else 3,til := g.now + g.c.c5,req := (reqOf e).id } := ⟨_,rfl⟩
  have hlm := state_mem (L := g.L) (b := (reqOf e).backend) (by omega)
  have hxb : x0.backend = (reqOf e).backend := by rw [hx0];exact hlm.2
  have hxs : x0.state = if stateM g.L (reqOf e).backend = 1 then 4 else 3 := by rw [hx0]
  have hxt : x0.til = g.now + g.c.c5 := by rw [hx0]
  have hxe : x0.since = (lifeM g.L (reqOf e).backend).since := by rw [hx0]
  rw [← hx0] at h6
  rw [← hxb] at h6
  have hu := life_upd h.bk.sorted hbk.sorted h6
  have hbe : (reqOf e).backend = e.backend := rfl
  have hsn := h.since _ hlm.1
  split
  ·rename_i hst
   rw [hbe,hst] at hxs
   have hw : g.ws = wsOf a.L := by
    rw [h.ws]
    refine wsOf_congr fun b' hb' => ?_
    rw [hu]
    split
    ·rename_i e1
     rw [e1,hxb,hbe]
     unfold stateM at hst
     simp [actW,hst,hxs]
    ·rfl
   have := h.life hbk h6 (by omega) (fun h => by rw [hxs] at h;cases h) hw (fun f hf e1 => by
    have := (h.fe f hf).2.2.2.2
    rw [e1,hxb,hbe] at this
    omega) (g.out ++ [⟨8,0,0,0,e.req,a.answer,0⟩])
   have := this.strong (by
    show (lifeM a.L x0.backend).state ≠ 3
    rw [hu,if_pos rfl,hxs];simp)
   exact this.put _
  ·rename_i hst
   have h2' : stateM g.L e.backend = 2 := by rw [hbe] at h4;omega
   rw [hbe,if_neg hst] at hxs
   have hb0 := h.bk.lok _ hlm.1
   have hbb : 0 ≤ e.backend ∧ e.backend < 12 := by
    have e9 := hlm.2
    rw [hbe] at e9
    rw [← e9];exact ⟨hb0.b0,hb0.b1⟩
   have hw : g.ws.set e.backend.toNat 0 = wsOf a.L := by
    rw [h.ws]
    refine (wsOf_set e.backend.toNat (fun b' hb' hne => ?_) 0 fun _ => ?_).symm
    ·rw [hu,if_neg (by rw [hxb,hbe];omega)]
    ·rw [hu,if_pos (by rw [hxb,hbe];omega)]
     simp [actW,hxs]
   have := h.life hbk h6 (by omega) (fun _ => by omega) hw (fun f hf e1 => .inr hxs) (g.out ++ [⟨8,0,0,0,e.req,a.answer,0⟩])
   rw [hxb,hbe] at this
   exact this.spared
structure Rest (g : Gt) (n : Nat) : Prop where
 mid : Mid g n (-1)
 late : ∀ f ∈ g.fl,g.now < f.due
 dr : ∀ x ∈ g.L,x.state = 3 → g.now < x.til
theorem wake_life (L : List Lif) (now b : Int) : lifeM (wakeM L now) b = wakeX now (lifeM L b) := by
 unfold lifeM
 rw [ofM_find,ofM_find]
 unfold wakeM
 rw [List.find?_map]
 have : (qB b ∘ wakeX now) = qB b := by
  funext x
  simp only [Function.comp,qB,wakeX]
  split <;> rfl
 rw [this]
 cases h : L.find? (qB b) with
 | some x => rfl
 | none => rfl
theorem wokenW_get (L : List Lif) (b : Nat) : ∀ (l : List Int) (ws : List Nat),(∀ x ∈ l,0 ≤ x ∧ x < ws.length) → (wokenW L l ws).getD b 0 = if (b : Int) ∈ l then (lifeM L b).weight.toNat else ws.getD b 0
 | [],ws,_ => by simp [wokenW]
 | x :: l,ws,h => by
  have h0 := h x (by simp)
  unfold wokenW
  rw [wokenW_get L b l _ (fun y hy => by rw [List.length_set];exact h y (List.mem_cons_of_mem _ hy))]
  by_cases e : (b : Int) ∈ l
  ·rw [if_pos e,if_pos (List.mem_cons_of_mem _ e)]
  ·rw [if_neg e,getD_set]
   by_cases e2 : (b : Int) = x
   ·have e3 : b = x.toNat := by omega
    rw [if_pos ⟨e3,by omega⟩,if_pos (by rw [e2];simp),← e2]
   ·rw [if_neg (by omega),if_neg (by simp [e,e2])]
theorem wokenW_len (L : List Lif) : ∀ (l : List Int) (ws : List Nat),(wokenW L l ws).length = ws.length
 | [],ws => rfl
 | x :: l,ws => by unfold wokenW;rw [wokenW_len];simp
theorem wokenH_mem : ∀ (l : List Int) (hl : List Hlth) (h : Hlth),h ∈ wokenH l hl → h ∈ hl ∨ h = hzero
 | [],hl,h,hm => .inl hm
 | x :: l,hl,h,hm => by
  rcases wokenH_mem l _ h hm with h1 | h1
  ·rcases List.mem_or_eq_of_mem_set h1 with h1 | h1
   ·exact .inl h1
   ·exact .inr h1
  ·exact .inr h1
theorem wokenH_len : ∀ (l : List Int) (hl : List Hlth),(wokenH l hl).length = hl.length
 | [],hl => rfl
 | x :: l,hl => by unfold wokenH;rw [wokenH_len];simp
theorem woken_mem {L : List Lif} (hs : SrtL L) (b : Int) : b ∈ wokenM L ↔ stateM L b = 1 := by
 unfold wokenM
 rw [List.mem_map]
 constructor
 ·rintro ⟨x,hx,rfl⟩
  obtain ⟨h1,h2⟩ := List.mem_filter.1 hx
  unfold stateM
  rw [life_mem hs h1];simpa using h2
 ·intro h
  have := state_mem (L := L) (b := b) (by omega)
  exact ⟨_,List.mem_filter.2 ⟨this.1,by unfold stateM at h;simp [h]⟩,this.2⟩
theorem Rest.tick0 {g : Gt} {n : Nat} (h : Rest g n) (hn : n + 1 ≤ 1000000) : Mid g.tick0 (n + 1) (-1) := by
 have hm := h.mid
 have hn1 := hm.n1
 have hn0 := hm.n0
 have hbk := wake_ok hm.bk (g.now + 1) (by omega) (by omega)
 have hst : ∀ b,stateM (wakeM g.L (g.now + 1)) b = if stateM g.L b = 1 then 2 else stateM g.L b := fun b => by
  unfold stateM
  rw [wake_life]
  unfold wakeX
  split <;> simp_all
 have hwl : ∀ x ∈ wokenM g.L,0 ≤ x ∧ x < g.ws.length := fun x hx => by
  have := state_mem (L := g.L) (b := x) (by have := (woken_mem hm.bk.sorted x).1 hx;omega)
  have h2 := hm.bk.lok _ this.1
  rw [← this.2,hm.ws]
  have := h2.b0
  have := h2.b1
  simp [wsOf];omega
 refine ⟨hm.c,by show 0 ≤ g.now + 1;omega,by show g.now + 1 ≤ ((n + 1 : Nat) : Int);omega,hn,by show g.wn + 1 = g.now + 1;rw [hm.wn],hm.tok,hm.tl,fun s hs => by have := hm.gens s hs;omega,hbk,?_,?_,?_,?_,?_,hm.tk0,hm.tk1,hm.fs,?_,List.Pairwise.filter _ hm.ts,?_⟩
 ·show ∀ x ∈ wakeM g.L (g.now + 1),x.since ≤ g.now + 1
  intro x hx
  obtain ⟨y,hy,rfl⟩ := List.mem_map.1 hx
  have := hm.since y hy
  unfold wakeX
  split
  ·show g.now + 1 ≤ g.now + 1;omega
  ·omega
 ·show ∀ x ∈ wakeM g.L (g.now + 1),x.state = 3 → g.now + 1 ≤ x.til ∧ x.til ≤ g.now + 1 + g.c.c5 ∧ (x.backend ≠ -1 → 0 < cntB g.tb x.backend)
  intro x hx h3
  obtain ⟨y,hy,rfl⟩ := List.mem_map.1 hx
  unfold wakeX at h3 ⊢
  split at h3
  ·cases h3
  ·rename_i hc
   rw [if_neg hc]
   have h1 := hm.dr y hy h3
   have h2 := h.dr y hy h3
   exact ⟨by omega,by omega,h1.2.2⟩
 ·show wokenW (wakeM g.L (g.now + 1)) (wokenM g.L) g.ws = wsOf (wakeM g.L (g.now + 1))
  apply List.ext_getElem (by rw [wokenW_len,hm.ws];simp [wsOf])
  intro b h1 h2
  have hb : b < 12 := by simpa [wsOf] using h2
  have e1 := wokenW_get (wakeM g.L (g.now + 1)) b (wokenM g.L) g.ws hwl
  have e2 := wsOf_get (wakeM g.L (g.now + 1)) b hb
  rw [getD_at _ h1] at e1
  rw [getD_at _ h2] at e2
  rw [e1,e2,hm.ws,wsOf_get _ _ hb]
  by_cases hc : stateM g.L b = 1
  ·rw [if_pos ((woken_mem hm.bk.sorted _).2 hc)]
   have := hst b
   rw [if_pos hc] at this
   unfold stateM at this
   simp [actW,this]
  ·rw [if_neg (fun hh => hc ((woken_mem hm.bk.sorted _).1 hh)),wake_life]
   unfold stateM at hc
   unfold wakeX
   rw [if_neg hc]
 ·show ((wokenH (wokenM g.L) g.hl).map fun h => (backH h (g.now + 1)).1).length = 12
  rw [List.length_map,wokenH_len];exact hm.hn
 ·show ∀ x ∈ (wokenH (wokenM g.L) g.hl).map (fun h => (backH h (g.now + 1)).1),x.Ok g.c.wat ∧ (x.out = true → g.now + 1 < x.til ∧ x.til ≤ g.now + 1 + 500)
  intro x hx
  obtain ⟨y,hy,rfl⟩ := List.mem_map.1 hx
  have hw := hm.c.w
  have hy2 : y.Ok g.c.wat ∧ (y.out = true → g.now < y.til ∧ y.til ≤ g.now + 500) := by
   rcases wokenH_mem _ _ _ hy with h1 | rfl
   ·exact hm.hok y h1
   ·refine ⟨⟨by show ((([] : List Bool).length : Nat) : Int) ≤ _;have := hw.1;simp;omega,by show (0 : Int) ≤ 0;omega,by show (0 : Int) ≤ 10;omega,by show (0 : Int) ≤ 0;omega,by show (0 : Int) ≤ _;omega,fun _ => rfl⟩,fun h => by cases h⟩
  obtain ⟨⟨a1,a2,a3,a4,a5,a6⟩,hyo⟩ := hy2
  unfold backH
  split
  ·exact ⟨⟨a1,a2,a3,by show (0 : Int) ≤ 0;omega,by show (0 : Int) ≤ _;omega,fun _ => rfl⟩,fun h => by cases h⟩
  ·rename_i hc
   refine ⟨⟨a1,a2,a3,a4,a5,a6⟩,fun ho => ?_⟩
   have ho : y.out = true := ho
   have := hyo ho
   have h2 : ¬ y.til ≤ g.now + 1 := fun hh => hc ⟨ho,hh⟩
   show g.now + 1 < y.til ∧ y.til ≤ g.now + 1 + 500
   omega
 ·show ∀ f ∈ g.fl,0 ≤ f.tries ∧ f.tries ≤ g.c.c8 ∧ g.now + 1 ≤ f.due ∧ f.due ≤ g.now + 1 + (if f.serving = true then g.c.c6 else g.c.c7) ∧ (stateM (wakeM g.L (g.now + 1)) f.backend = 2 ∨ stateM (wakeM g.L (g.now + 1)) f.backend = 3)
  intro f hf
  have h1 := hm.fe f hf
  have h2 := h.late f hf
  rw [hst]
  refine ⟨h1.1,h1.2.1,by omega,by omega,?_⟩
  rw [if_neg (by omega)]
  exact h1.2.2.2.2
 ·show TmT (g.now + 1) g.fl (g.tm.filter fun t => decide (t.1 ≠ g.wn + 1))
  intro t
  rw [List.mem_filter,hm.tt t,hm.wn]
  constructor
  ·rintro ⟨⟨f,hf,hd,rfl⟩,h2⟩
   have h2 : f.due ≠ g.now + 1 := by simpa using h2
   exact ⟨f,hf,by omega,rfl⟩
  ·rintro ⟨f,hf,hd,rfl⟩
   exact ⟨⟨f,hf,by omega,rfl⟩,by simp;omega⟩
structure Same (g g' : Gt) : Prop where
 now : g'.now = g.now
 c : g'.c = g.c
 L : ∀ x ∈ g'.L,x ∈ g.L ∨ x.state = 4
theorem Same.refl (g : Gt) : Same g g := ⟨rfl,rfl,fun x h => .inl h⟩
theorem Same.trans {a b c : Gt} (h : Same a b) (h' : Same b c) : Same a c := ⟨h'.now.trans h.now,h'.c.trans h.c,fun x hx => (h'.L x hx).elim (h.L x) .inr⟩
theorem spared_same {g : Gt} (hs : SrtL g.L) (b : Int) : Same g (g.spared b) ∧ (g.spared b).fl = g.fl ∧ (g.spared b).tb = g.tb := by
 unfold Gt.spared
 split
 ·rename_i hc
  obtain ⟨i,hi,hl,hb,he⟩ := finish_set hs hc.1
  refine ⟨⟨rfl,rfl,fun x hx => ?_⟩,rfl,rfl⟩
  have hx : x ∈ (finishM g.L b).1 := hx
  rw [he] at hx
  rcases List.mem_or_eq_of_mem_set hx with h | rfl
  ·exact .inl h
  ·exact .inr rfl
 ·exact ⟨Same.refl g,rfl,rfl⟩
theorem drop_same {g : Gt} {n : Nat} (h : Mid g n (-1)) {i : Nat} (hi : i < g.fl.length) (o : Outp) : Same g (g.drop i o) ∧ (∀ f,f ∈ (g.drop i o).fl ↔ f ∈ g.fl ∧ f.slot ≠ (g.fl.getD i default).slot) := by
 have hs := spared_same (g := g.dropA i o) h.bk.sorted (g.fl.getD i default).backend
 refine ⟨(⟨rfl,rfl,fun x hx => .inl hx⟩ : Same g (g.dropA i o)).trans hs.1,fun f => ?_⟩
 unfold Gt.drop
 rw [hs.2.1,getD_at _ hi]
 show f ∈ g.fl.eraseIdx i ↔ _
 constructor
 ·intro hf
  obtain ⟨j,hj,hji,rfl⟩ := mem_erase hf
  exact ⟨List.getElem_mem hj,h.fs.slot_lt hj hi hji⟩
 ·rintro ⟨hf,hne⟩
  obtain ⟨j,hj⟩ := zF hf
  obtain ⟨j1,rfl⟩ := zB.1 hj
  exact erase_mem j1 fun e => by subst e;exact hne rfl
theorem failed_same {g : Gt} {n : Nat} (h : Mid g n (-1)) {i : Nat} (hi : i < g.fl.length) (why : Int) : Same g (g.failed i why) ∧ (∀ f ∈ (g.failed i why).fl,(f ∈ g.fl ∧ f.slot ≠ (g.fl.getD i default).slot) ∨ g.now < f.due) ∧
  (∀ f ∈ g.fl,f.slot ≠ (g.fl.getD i default).slot → f ∈ (g.failed i why).fl) := by
 have hb := h.flow (List.getElem_mem hi)
 have hg := getD_at default hi
 have hn := h.note (g.fl.getD i default).backend (by rw [hg];omega) true
 have hns : Same g (g.note (g.fl.getD i default).backend true) := ⟨rfl,rfl,fun x hx => .inl hx⟩
 have h7 := h.c.w7
 have hdr : ∀ o,Same g ((g.note (g.fl.getD i default).backend true).drop i o) ∧ (∀ f ∈ ((g.note (g.fl.getD i default).backend true).drop i o).fl,(f ∈ g.fl ∧ f.slot ≠ (g.fl.getD i default).slot) ∨ g.now < f.due) ∧
   (∀ f ∈ g.fl,f.slot ≠ (g.fl.getD i default).slot → f ∈ ((g.note (g.fl.getD i default).backend true).drop i o).fl) := fun o => by
  obtain ⟨h1,h2⟩ := drop_same hn hi o
  exact ⟨hns.trans h1,fun f hf => .inl ((h2 f).1 hf),fun f hf hne => (h2 f).2 ⟨hf,hne⟩⟩
 have hmv : ∀ b t,Same g ((g.note (g.fl.getD i default).backend true).moved i b t) ∧ (∀ f ∈ ((g.note (g.fl.getD i default).backend true).moved i b t).fl,(f ∈ g.fl ∧ f.slot ≠ (g.fl.getD i default).slot) ∨ g.now < f.due) ∧
   (∀ f ∈ g.fl,f.slot ≠ (g.fl.getD i default).slot → f ∈ ((g.note (g.fl.getD i default).backend true).moved i b t).fl) := fun b t => by
  refine ⟨⟨rfl,rfl,fun x hx => .inl hx⟩,fun f hf => ?_,fun f hf hne => ?_⟩
  ·obtain ⟨j,hj⟩ := zF (l := g.fl.set i _) hf
   obtain ⟨j1,j2⟩ := zB.1 hj
   rw [List.getElem_set] at j2
   split at j2
   ·subst j2;right;show g.now < g.now + g.c.c7;omega
   ·rename_i hne
    simp only [List.length_set] at j1
    left
    rw [hg]
    exact ⟨j2 ▸ List.getElem_mem j1,j2 ▸ h.fs.slot_lt j1 hi (fun e => hne e.symm)⟩
  ·obtain ⟨j,hj⟩ := zF hf
   obtain ⟨j1,rfl⟩ := zB.1 hj
   have hji : i ≠ j := fun e => by subst e;rw [hg] at hne;exact hne rfl
   exact zD (l := g.fl.set i _) (i := j) (by rw [List.getElem?_set,if_neg hji,zE j1])
 unfold Gt.failed
 simp only
 split
 ·exact hdr _
 ·split
  ·exact hdr _
  ·split
   ·obtain ⟨m1,m2,m3⟩ := hmv (pickG (g.note (g.fl.getD i default).backend true) (g.fl.getD i default).key (g.fl.getD i default).slot).1 (g.tok - g.c.bud.den)
    obtain ⟨s1,s2,s3⟩ := spared_same (g := (g.note (g.fl.getD i default).backend true).moved i (pickG (g.note (g.fl.getD i default).backend true) (g.fl.getD i default).key (g.fl.getD i default).slot).1 (g.tok - g.c.bud.den)) h.bk.sorted (g.fl.getD i default).backend
    exact ⟨m1.trans s1,by rw [s2];exact m2,by rw [s2];exact m3⟩
   ·exact hmv _ _
theorem off1_same {g : Gt} {n : Nat} (h : Mid g n (-1)) {f0 : Flw} (hf0 : f0 ∈ g.fl) : Mid (g.off1 f0.slot) n (-1) ∧ Same g (g.off1 f0.slot) ∧ (∀ f ∈ (g.off1 f0.slot).fl,(f ∈ g.fl ∧ f.slot ≠ f0.slot) ∨ g.now < f.due) ∧
  (∀ f ∈ g.fl,f.slot ≠ f0.slot → f ∈ (g.off1 f0.slot).fl) := by
 obtain ⟨hi,he,_,hgd⟩ := find_mem h.fs.so hf0
 unfold Gt.off1
 simp only
 split
 ·obtain ⟨h1,h2⟩ := drop_same h hi (resetO 1)
  rw [hgd] at h2
  exact ⟨h.drop hi _,h1,fun f hf => .inl ((h2 f).1 hf),fun f hf hne => (h2 f).2 ⟨hf,hne⟩⟩
 ·rename_i hs
  have := failed_same h hi 5
  rw [hgd] at this
  exact ⟨h.failed hi 5 (by simpa using hs),this.1,this.2.1,this.2.2⟩
theorem offs_same : ∀ (l : List Int) {g : Gt} {n : Nat},Mid g n (-1) → l.Nodup → (∀ s ∈ l,∃ f ∈ g.fl,f.slot = s) → (∀ f ∈ g.fl,g.now < f.due ∨ f.slot ∈ l) → Mid (g.offs l) n (-1) ∧ Same g (g.offs l) ∧ ∀ f ∈ (g.offs l).fl,g.now < f.due
 | [],g,n,h,_,_,hl => ⟨h,Same.refl g,fun f hf => (hl f hf).elim id fun h => by cases h⟩
 | s :: l,g,n,h,hnd,hs,hl => by
  obtain ⟨f0,hf0,rfl⟩ := hs s (by simp)
  obtain ⟨h1,h2,h3,h4⟩ := off1_same h hf0
  obtain ⟨n1,n2⟩ := List.nodup_cons.1 hnd
  have ih := offs_same l (g := g.off1 f0.slot) h1 n2 (fun s hs2 => by
   obtain ⟨f,hf,e⟩ := hs s (List.mem_cons_of_mem _ hs2)
   refine ⟨f,h4 f hf fun e2 => n1 ?_,e⟩
   rw [← e2,e];exact hs2) (fun f hf => by
   rw [h2.now]
   rcases h3 f hf with ⟨h5,h6⟩ | h5
   ·rcases hl f h5 with h7 | h7
    ·exact .inl h7
    ·rcases List.mem_cons.1 h7 with h8 | h8
     ·exact absurd h8 h6
     ·exact .inr h8
   ·exact .inl h5)
  rw [h2.now] at ih
  exact ⟨ih.1,h2.trans ih.2.1,ih.2.2⟩
theorem cut1_same (b : Int) : ∀ (l : List Hnd) {g : Gt} {n : Nat},Mid g n (-1) → (l.map (·.1)).Nodup → (∀ h ∈ l,∃ f ∈ g.fl,f.slot = h.1) → (∀ f ∈ g.fl,f.backend = b → ∃ h ∈ l,f.slot = h.1) →
  Mid (g.cut1 l) n (-1) ∧ Same g (g.cut1 l) ∧ (∀ f ∈ (g.cut1 l).fl,f ∈ g.fl ∧ f.backend ≠ b)
 | [],g,n,h,_,_,hl => ⟨h,Same.refl g,fun f hf => ⟨hf,fun e => by obtain ⟨_,h,_⟩ := hl f hf e;cases h⟩⟩
 | s :: l,g,n,h,hnd,hs,hl => by
  obtain ⟨f0,hf0,e0⟩ := hs s (by simp)
  obtain ⟨hi,he,_,hgd⟩ := find_mem h.fs.so hf0
  obtain ⟨h1,h2⟩ := drop_same h hi (resetO 2)
  have hd := h.drop hi (resetO 2)
  rw [hgd] at h2
  rw [e0] at hd h1 h2
  rw [List.map_cons] at hnd
  obtain ⟨n1,n2⟩ := List.nodup_cons.1 hnd
  have ih := cut1_same b l (g := g.drop (findF g.fl s.1).toNat (resetO 2)) hd n2 (fun s2 hs2 => by
   obtain ⟨f,hf,e⟩ := hs s2 (List.mem_cons_of_mem _ hs2)
   refine ⟨f,(h2 f).2 ⟨hf,fun e2 => n1 (List.mem_map.2 ⟨s2,hs2,by omega⟩)⟩,e⟩) (fun f hf hb => by
   obtain ⟨f1,f2⟩ := (h2 f).1 hf
   obtain ⟨s2,hs2,e⟩ := hl f f1 hb
   rcases List.mem_cons.1 hs2 with rfl | hs2
   ·exact absurd e f2
   ·exact ⟨s2,hs2,e⟩)
  exact ⟨ih.1,h1.trans ih.2.1,fun f hf => ⟨((h2 f).1 (ih.2.2 f hf).1).1,(ih.2.2 f hf).2⟩⟩
theorem ofL_mem {tb : List TSlot} {b : Int} {h : Hnd} : h ∈ ofL tb b ↔ h.1 < tb.length ∧ (tb.getD h.1 tzero).used = true ∧ (tb.getD h.1 tzero).backend = b ∧ (tb.getD h.1 tzero).gen = h.2 := by
 unfold ofL
 rw [List.mem_map]
 constructor
 ·rintro ⟨p,hp,rfl⟩
  obtain ⟨h1,h2⟩ := List.mem_filter.1 hp
  obtain ⟨h3,h4⟩ := List.mem_zipIdx' (x := p.1) (i := p.2) h1
  rw [getD_at _ h3,← h4]
  simp at h2
  exact ⟨h3,h2.1,h2.2,rfl⟩
 ·rintro ⟨h1,h2,h3,h4⟩
  rw [getD_at _ h1] at h2 h3 h4
  refine ⟨(tb[h.1],h.1),List.mem_filter.2 ⟨List.mem_zipIdx_iff_getElem?.2 (by simp [h1]),by simp [h2,h3]⟩,by show (h.1,tb[h.1].gen) = h;rw [h4]⟩
theorem ofL_nodup (tb : List TSlot) (b : Int) : ((ofL tb b).map (·.1)).Nodup := by
 unfold ofL
 rw [List.map_map]
 have : List.Nodup (tb.zipIdx.map Prod.snd) := by
  rw [List.zipIdx_map_snd]
  exact List.nodup_range'
 exact this.sublist (List.filter_sublist.map _)
theorem cuts_same : ∀ (l : List Lif) {g : Gt} {n : Nat},Mid g n (-1) → (∀ f ∈ g.fl,g.now < f.due) → (∀ y ∈ g.L,y.state = 3 → y.til ≤ g.now → y ∈ l) →
  Mid (g.cuts l) n (-1) ∧ Same g (g.cuts l) ∧ (∀ f ∈ (g.cuts l).fl,g.now < f.due) ∧ (∀ y ∈ (g.cuts l).L,y.state = 3 → g.now < y.til)
 | [],g,n,h,hla,hl => ⟨h,Same.refl g,hla,fun y hy h3 => by
   rcases Int.lt_or_le g.now y.til with h1 | h1
   ·exact h1
   ·exact absurd (hl y hy h3 h1) (by simp)⟩
 | x :: l,g,n,h,hla,hl => by
  unfold Gt.cuts
  split
  ·rename_i hc
   refine cuts_same l h hla fun y hy h3 ht => ?_
   rcases List.mem_cons.1 (hl y hy h3 ht) with rfl | h1
   ·rcases hc with hc | hc
    ·exact absurd h3 hc
    ·omega
   ·exact h1
  ·rename_i hc
   obtain ⟨h1,h2,h3⟩ := cut1_same x.backend (ofL g.tb x.backend) h (ofL_nodup _ _) (fun s hs => by
    obtain ⟨q1,q2,q3,q4⟩ := ofL_mem.1 hs
    exact h.fs.al s.1 q1 q2) (fun f hf hb => by
    obtain ⟨q1,q2,q3⟩ := h.fs.at_ f hf
    exact ⟨(f.slot.toNat,f.gen),ofL_mem.2 ⟨by show f.slot.toNat < _;omega,by show (g.tb.getD f.slot.toNat tzero).used = true;rw [q3],by show (g.tb.getD f.slot.toNat tzero).backend = _;rw [q3];exact hb,by show (g.tb.getD f.slot.toNat tzero).gen = _;rw [q3]⟩,by show f.slot = (f.slot.toNat : Int);omega⟩)
   have ih := cuts_same l (g := g.cut1 (ofL g.tb x.backend)) h1 (fun f hf => by rw [h2.now];exact hla f (h3 f hf).1) (fun y hy h4 ht => by
    rw [h2.now] at ht
    rcases h2.L y hy with h5 | h5
    ·rcases List.mem_cons.1 (hl y h5 h4 ht) with rfl | h6
     ·exfalso
      have h7 := (h1.dr y hy h4).2.2 (by have := (h1.bk.lok y hy).b0;omega)
      rw [h1.fs.cnt,List.countP_pos_iff] at h7
      obtain ⟨f,hf,h8⟩ := h7
      exact (h3 f hf).2 (by simpa using h8)
     ·exact h6
    ·omega)
   rw [h2.now] at ih
   exact ⟨ih.1,h2.trans ih.2.1,ih.2.2.1,ih.2.2.2⟩
theorem Rest.tick {g : Gt} {n : Nat} (h : Rest g n) (hn : n + 1 ≤ 1000000) : Rest g.tick (n + 1) := by
 have h0 := h.tick0 hn
 have hm := h.mid
 have hoff : ∀ s,s ∈ offM g ↔ ∃ f ∈ g.fl,f.due = g.now + 1 ∧ f.slot = s := fun s => by
  unfold offM
  rw [List.mem_map]
  constructor
  ·rintro ⟨t,ht,rfl⟩
   obtain ⟨h1,h2⟩ := List.mem_filter.1 ht
   obtain ⟨f,hf,_,rfl⟩ := (hm.tt t).1 h1
   rw [hm.wn] at h2
   exact ⟨f,hf,by simpa using h2,rfl⟩
  ·rintro ⟨f,hf,h1,rfl⟩
   refine ⟨(f.due,f.slot),List.mem_filter.2 ⟨(hm.tt _).2 ⟨f,hf,by omega,rfl⟩,by rw [hm.wn];simp [h1]⟩,rfl⟩
 have hnd : (offM g).Nodup := (hm.wh.ids).sublist (List.filter_sublist.map _)
 obtain ⟨h1,h2,h3⟩ := offs_same (offM g) (g := g.tick0) h0 hnd (fun s hs => by
  obtain ⟨f,hf,_,e⟩ := (hoff s).1 hs
  exact ⟨f,hf,e⟩) (fun f hf => by
  have := h.late f hf
  rcases Int.lt_or_le (g.now + 1) f.due with h5 | h5
  ·exact .inl h5
  ·exact .inr ((hoff _).2 ⟨f,hf,by omega,rfl⟩))
 obtain ⟨h4,h5,h6,h7⟩ := cuts_same (g.tick0.offs (offM g)).L h1 (fun f hf => by rw [h2.now];exact h3 f hf) (fun y hy _ _ => hy)
 unfold Gt.tick
 simp only
 refine ⟨h4,?_,?_⟩
 ·rw [h5.now];exact h6
 ·rw [h5.now];exact h7
theorem Rest.clean {g : Gt} {n : Nat} (h : Rest g n) : Rest { g with out := [] } n := ⟨{ h.mid with },h.late,h.dr⟩
theorem Rest.opened {g : Gt} {n : Nat} (h : Rest g n) {key : Int} (k0 : 0 ≤ key) (k1 : key ≤ 4294967295) (hn : n + 1 ≤ 1000000) : Rest (g.opened key) (n + 1) := by
 have hm := h.mid.opened k0 k1 hn
 have h7 := h.mid.c.w7
 refine ⟨hm,?_,?_⟩
 ·unfold Gt.opened
  split
  ·exact h.late
  ·split
   ·exact h.late
   ·intro f hf
    rcases insF_mem.1 hf with rfl | hf
    ·show g.now < g.now + g.c.c7;omega
    ·exact h.late f hf
 ·unfold Gt.opened
  split
  ·exact h.dr
  ·split
   ·exact h.dr
   ·exact h.dr
theorem dueA_fl {g : Gt} {i : Nat} {z : Int} {f : Flw} (hf : f ∈ (g.dueA i z).fl) : f ∈ g.fl ∨ f.due = z := by
 rcases List.mem_or_eq_of_mem_set hf with h | rfl
 ·exact .inl h
 ·exact .inr rfl
theorem Rest.flowed {g : Gt} {n : Nat} (h : Rest g n) (e : Evt) : Rest (g.flow e) n := by
 have hm := h.mid.flowed e
 suffices hh : (∀ f ∈ (g.flow e).fl,(g.flow e).now < f.due) ∧ (∀ x ∈ (g.flow e).L,x.state = 3 → (g.flow e).now < x.til) from ⟨hm,hh.1,hh.2⟩
 have h6 := h.mid.c.w6
 unfold Gt.flow
 split
 ·exact ⟨h.late,h.dr⟩
 ·rename_i hg
  obtain ⟨f,hf,e1,e2⟩ := h.mid.fs.got (Decidable.not_not.1 hg)
  obtain ⟨hi,he,_,hgd⟩ := find_mem h.mid.fs.so hf
  simp only
  rw [← e1]
  split
  ·obtain ⟨h1,h2⟩ := drop_same h.mid hi ⟨7,0,0,0,0,0,0⟩
   refine ⟨fun f hf => ?_,fun x hx h3 => ?_⟩
   ·rw [h1.now];exact h.late f ((h2 f).1 hf).1
   ·rw [h1.now];exact (h1.L x hx).elim (fun hx => h.dr x hx h3) (fun h4 => by omega)
  ·split
   ·split
    ·refine ⟨fun f hf => ?_,h.dr⟩
     rcases dueA_fl hf with h1 | h1
     ·exact h.late f h1
     ·show g.now < f.due;omega
    ·exact ⟨h.late,h.dr⟩
   ·split
    ·exact ⟨h.late,h.dr⟩
    ·split
     ·refine ⟨fun f hf => ?_,h.dr⟩
      have hf : f ∈ (((g.served (findF g.fl _).toNat).note _ false).dueA (findF g.fl _).toNat (g.now + g.c.c6)).fl := hf
      rw [(served_due g _ hi _ _ false).1] at hf
      rcases List.mem_or_eq_of_mem_set hf with h1 | rfl
      ·exact h.late f h1
      ·show g.now < g.now + g.c.c6;omega
     ·obtain ⟨h1,h2,_⟩ := failed_same h.mid hi 3
      refine ⟨fun f hf => ?_,fun x hx h3 => ?_⟩
      ·rw [h1.now];exact (h2 f hf).elim (fun h4 => h.late f h4.1) id
      ·rw [h1.now];exact (h1.L x hx).elim (fun hx => h.dr x hx h3) (fun h4 => by omega)
theorem Rest.asked {g : Gt} {n : Nat} (h : Rest g n) {e : Evt} (he : EvtOk e) : Rest (g.ask e) n := by
 have hm := h.mid.asked he
 have hc := ask_cases h.mid.bk (reqOf e) g.now g.c.c5
 have h5 := h.mid.c.w5
 have hbk := ask_ok h.mid.bk (reqOf e) (reqOf_ok he) g.now g.c.c5 h.mid.n0 (by have := h.mid.n1;have := h.mid.nn;omega) (by omega) h5.2
 have key : ∀ x ∈ (askM g.L g.R (reqOf e) g.now g.c.c5).L,x.state = 3 → g.now < x.til := by
  intro x hx h3
  rcases hc with ⟨h1,_⟩ | ⟨_,_,_,_,h6⟩ | ⟨_,_,_,_,h6⟩
  ·rw [h1] at hx;exact h.dr x hx h3
  ·rcases (h6 x).1 hx with rfl | ⟨h1,_⟩
   ·cases h3
   ·exact h.dr x h1 h3
  ·rcases (h6 x).1 hx with rfl | ⟨h1,_⟩
   ·show g.now < g.now + g.c.c5;omega
   ·exact h.dr x h1 h3
 suffices hh : (∀ f ∈ (g.ask e).fl,(g.ask e).now < f.due) ∧ (∀ x ∈ (g.ask e).L,x.state = 3 → (g.ask e).now < x.til) from ⟨hm,hh.1,hh.2⟩
 unfold Gt.ask
 simp only
 split
 ·exact ⟨h.late,key⟩
 ·split
  ·exact ⟨h.late,key⟩
  ·obtain ⟨s1,s2,s3⟩ := spared_same (g := { g with L := (askM g.L g.R (reqOf e) g.now g.c.c5).L,R := (askM g.L g.R (reqOf e) g.now g.c.c5).R,out := g.out ++ [⟨8,0,0,0,e.req,(askM g.L g.R (reqOf e) g.now g.c.c5).answer,0⟩],ws := g.ws.set e.backend.toNat 0 }) hbk.sorted e.backend
   refine ⟨fun f hf => ?_,fun x hx h3 => ?_⟩
   ·rw [s1.now];rw [s2] at hf;exact h.late f hf
   ·rw [s1.now];exact (s1.L x hx).elim (fun hx => key x hx h3) (fun h4 => by omega)
theorem Rest.up {g : Gt} {n : Nat} (h : Rest g n) (hn : n + 1 ≤ 1000000) : Rest g (n + 1) := ⟨h.mid.up hn,h.late,h.dr⟩
theorem Rest.done {g : Gt} {n : Nat} (h : Rest g n) {e : Evt} (he : EvtOk e) (hn : n + 1 ≤ 1000000) : Rest (g.done e) (n + 1) := by
 have hc := h.clean
 unfold Gt.done Gt.step
 split
 ·exact hc.opened he.2.2.1 he.2.2.2.1 hn
 ·split
  ·exact (hc.asked he).up hn
  ·split
   ·exact hc.tick hn
   ·exact (hc.flowed e).up hn
def begM (c : Cfg) : Gt := ⟨c,0,List.replicate c.slots.toNat tzero,[],[],[],List.replicate 12 0,List.replicate 12 hzero,c.bud.full,0,[],[]⟩
theorem beg_rest {c : Cfg} (h : c.Ok) : Rest (begM c) 0 := by
 have h0 := h.w0
 have hb := h.b.full
 have hs : ∀ s ∈ List.replicate c.slots.toNat tzero,s = tzero := fun s hs => (List.mem_replicate.1 hs).2
 refine ⟨⟨h,by show (0 : Int) ≤ 0;omega,by show (0 : Int) ≤ _;omega,by omega,rfl,?_,?_,?_,⟨by simp [begM],by simp [begM],by simp [begM],by simp [begM],List.Pairwise.nil,by simp [begM]⟩,by simp [begM],by simp [begM],by simp [begM,wsOf,lifeM,ofM,findM,idxZ,actW,List.range_succ];decide,by simp [begM],?_,hb.1,by show c.bud.full ≤ c.bud.full;omega,⟨List.Pairwise.nil,by simp [begM],?_⟩,by simp [begM],List.Pairwise.nil,?_⟩,by simp [begM],by simp [begM]⟩
 ·refine ⟨by simp [begM];omega,by simp [begM];omega,fun s hs2 => ?_⟩
  rw [hs s hs2]
  exact ⟨by show (0 : Int) ≤ 0;omega,fun _ => ⟨by show (0 : Int) ≤ _;omega,rfl,rfl⟩,fun h => by cases h⟩
 ·simp [begM];omega
 ·intro s hs2
  rw [hs s hs2];simp [tzero]
 ·intro x hx
  have hx := (List.mem_replicate.1 hx).2
  subst hx
  have hw := h.w
  exact ⟨⟨by show ((([] : List Bool).length : Nat) : Int) ≤ _;have := hw.1;simp [begM];omega,by show (0 : Int) ≤ 0;omega,by show (0 : Int) ≤ 10;omega,by show (0 : Int) ≤ 0;omega,by show (0 : Int) ≤ _;omega,fun _ => rfl⟩,fun h => by cases h⟩
 ·intro s hl hu
  exfalso
  have : (List.replicate c.slots.toNat tzero).getD s tzero = tzero := by
   rw [zC,List.getElem?_replicate];split <;> rfl
  have hu : ((List.replicate c.slots.toNat tzero).getD s tzero).used = true := hu
  rw [this] at hu
  cases hu
 ·intro t
  simp [begM]
theorem ofL_flows {g : Gt} {n : Nat} (h : Mid g n (-1)) (b : Int) : ∀ s ∈ ofL g.tb b,∃ f ∈ g.fl,f.slot = s.1 := fun s hs => by
 obtain ⟨q1,q2,q3,q4⟩ := ofL_mem.1 hs
 exact h.fs.al s.1 q1 q2
theorem cut1_mid {g : Gt} {n : Nat} (h : Mid g n (-1)) (b : Int) : Mid (g.cut1 (ofL g.tb b)) n (-1) := by
 refine (cut1_same b (ofL g.tb b) h (ofL_nodup _ _) (ofL_flows h b) fun f hf hb => ?_).1
 obtain ⟨q1,q2,q3⟩ := h.fs.at_ f hf
 exact ⟨(f.slot.toNat,f.gen),ofL_mem.2 ⟨by show f.slot.toNat < _;omega,by show (g.tb.getD f.slot.toNat tzero).used = true;rw [q3],by show (g.tb.getD f.slot.toNat tzero).backend = _;rw [q3];exact hb,by show (g.tb.getD f.slot.toNat tzero).gen = _;rw [q3]⟩,by show f.slot = (f.slot.toNat : Int);omega⟩
theorem off_flows {g : Gt} {n : Nat} (hm : Mid g n (-1)) : (offM g).Nodup ∧ ∀ s,s ∈ offM g ↔ ∃ f ∈ g.fl,f.due = g.now + 1 ∧ f.slot = s := by
 refine ⟨(hm.wh.ids).sublist (List.filter_sublist.map _),fun s => ?_⟩
 unfold offM
 rw [List.mem_map]
 constructor
 ·rintro ⟨t,ht,rfl⟩
  obtain ⟨h1,h2⟩ := List.mem_filter.1 ht
  obtain ⟨f,hf,_,rfl⟩ := (hm.tt t).1 h1
  rw [hm.wn] at h2
  exact ⟨f,hf,by simpa using h2,rfl⟩
 ·rintro ⟨f,hf,h1,rfl⟩
  refine ⟨(f.due,f.slot),List.mem_filter.2 ⟨(hm.tt _).2 ⟨f,hf,by omega,rfl⟩,by rw [hm.wn];simp [h1]⟩,rfl⟩
theorem Rest.offed {g : Gt} {n : Nat} (h : Rest g n) (hn : n + 1 ≤ 1000000) : Mid (g.tick0.offs (offM g)) (n + 1) (-1) ∧ Same g.tick0 (g.tick0.offs (offM g)) ∧ ∀ f ∈ (g.tick0.offs (offM g)).fl,g.now + 1 < f.due := by
 obtain ⟨hnd,hoff⟩ := off_flows h.mid
 exact offs_same (offM g) (g := g.tick0) (h.tick0 hn) hnd (fun s hs => by
  obtain ⟨f,hf,_,e⟩ := (hoff s).1 hs
  exact ⟨f,hf,e⟩) (fun f hf => by
  have := h.late f hf
  rcases Int.lt_or_le (g.now + 1) f.due with h5 | h5
  ·exact .inl h5
  ·exact .inr ((hoff _).2 ⟨f,hf,by omega,rfl⟩))
def flowsM (fl : List Flw) (b : Int) : Nat := fl.countP fun f => decide (f.backend = b)
def kN (k : Int) (l : List Outp) : Nat := l.countP fun o => decide (o.kind = k)
theorem kN_app (k : Int) (a b : List Outp) : kN k (a ++ b) = kN k a + kN k b := List.countP_append ..
structure OOk (o : Outp) : Prop where
 k0 : 1 ≤ o.kind
 k1 : o.kind ≤ 10
 w0 : 0 ≤ o.why
 w1 : o.why ≤ 5
 s0 : 0 ≤ o.slot
 s1 : o.slot < 40
 g0 : 0 ≤ o.gen
 g1 : o.gen ≤ 1048576
 b0 : 0 ≤ o.backend
 b1 : o.backend < 12
structure Mv (g g' : Gt) (l : List Outp) : Prop where
 out : g'.out = g.out ++ l
 now : g'.now = g.now
 c : g'.c = g.c
 R : g'.R = g.R
 ws : g'.ws = g.ws
 wn : g'.wn = g.wn
 len : g'.fl.length + kN 6 l + kN 7 l = g.fl.length
 tok : g'.tok = g.tok - g.c.bud.den * (kN 5 l : Nat)
 kd : ∀ o ∈ l,o.kind ≠ 1
 ag : ∀ o ∈ l,o.kind = 5 → stateM g.L o.backend = 2
 st : ∀ b,stateM g'.L b = stateM g.L b ∨ (stateM g.L b = 3 ∧ stateM g'.L b = 4)
 fw : ∀ b,stateM g.L b ≠ 2 → flowsM g'.fl b ≤ flowsM g.fl b
 ok : ∀ o ∈ l,OOk o
theorem Mv.refl (g : Gt) : Mv g g [] := ⟨by simp,rfl,rfl,rfl,rfl,rfl,by simp [kN],by simp [kN],by simp,by simp,fun b => .inl rfl,fun b _ => Nat.le_refl _,by simp⟩
theorem Mv.trans {a b c : Gt} {l m : List Outp} (h : Mv a b l) (h' : Mv b c m) : Mv a c (l ++ m) := by
 refine ⟨by rw [h'.out,h.out,List.append_assoc],h'.now.trans h.now,h'.c.trans h.c,h'.R.trans h.R,h'.ws.trans h.ws,h'.wn.trans h.wn,?_,?_,?_,?_,?_,?_,fun o ho => (List.mem_append.1 ho).elim (h.ok o) (h'.ok o)⟩
 ·have := h.len;have := h'.len
  rw [kN_app,kN_app];omega
 ·rw [h'.tok,h.tok,h.c,kN_app]
  generalize a.c.bud.den = d
  have : ((kN 5 l + kN 5 m : Nat) : Int) = (kN 5 l : Nat) + (kN 5 m : Nat) := by omega
  rw [this,Int.mul_add];omega
 ·intro o ho
  rcases List.mem_append.1 ho with ho | ho
  ·exact h.kd o ho
  ·exact h'.kd o ho
 ·intro o ho hk
  rcases List.mem_append.1 ho with ho | ho
  ·exact h.ag o ho hk
  ·have := h'.ag o ho hk
   rcases h.st o.backend with h1 | h1
   ·rw [h1] at this;exact this
   ·omega
 ·intro x
  rcases h.st x with h1 | h1
  ·rcases h'.st x with h2 | h2
   ·exact .inl (h2.trans h1)
   ·exact .inr ⟨by omega,h2.2⟩
  ·rcases h'.st x with h2 | h2
   ·exact .inr ⟨h1.1,by omega⟩
   ·omega
 ·intro x hx
  refine Nat.le_trans (h'.fw x ?_) (h.fw x hx)
  rcases h.st x with h1 | h1
  ·omega
  ·omega
theorem spared_mv {g : Gt} (hbk : BookOk g.L g.R) (b : Int) : ∃ l,Mv g (g.spared b) l ∧ (∀ o ∈ l,o.kind = 9) := by
 have hs := hbk.sorted
 unfold Gt.spared
 split
 ·rename_i hc
  obtain ⟨i,hi,hl,hb,he⟩ := finish_set hs hc.1
  have hlo := hbk.lok _ (List.getElem_mem hi)
  have hlo0 := hlo.b0
  have hlo1 := hlo.b1
  rw [hb] at hlo0 hlo1
  have hls := life_set hs hi (x := { lifeM g.L b with state := 4 }) (by rw [hl])
  have hbe : ({ lifeM g.L b with state := 4 } : Lif).backend = b := (congrArg Lif.backend hl).symm.trans hb
  rw [hbe] at hls
  refine ⟨[goneO b (lifeM g.L b).req],⟨rfl,rfl,rfl,rfl,rfl,rfl,by simp [kN,goneO],by simp [kN,goneO],by simp [goneO],by simp [goneO],fun x => ?_,fun x _ => Nat.le_refl _,fun o ho => by rw [List.mem_singleton.1 ho];exact ⟨by simp [goneO],by simp [goneO],by simp [goneO],by simp [goneO],by simp [goneO],by simp [goneO],by simp [goneO],by simp [goneO],hlo0,hlo1⟩⟩,by simp [goneO]⟩
  show stateM (finishM g.L b).1 x = _ ∨ _ ∧ stateM (finishM g.L b).1 x = 4
  rw [he]
  unfold stateM
  rw [hls]
  split
  ·rename_i e;rw [e];exact .inr ⟨hc.1,rfl⟩
  ·exact .inl rfl
 ·exact ⟨[],Mv.refl g,by simp⟩
theorem drop_mv {g : Gt} {n : Nat} (h : Mid g n (-1)) {i : Nat} (hi : i < g.fl.length) {o : Outp} (ho : o.kind = 6 ∨ o.kind = 7) (hw : 0 ≤ o.why ∧ o.why ≤ 5) : ∃ l,l ≠ [] ∧ Mv g (g.drop i o) l := by
 obtain ⟨l,h1,_⟩ := spared_mv (g := g.dropA i o) h.bk (g.fl.getD i default).backend
 have hg := getD_at default hi
 obtain ⟨o',ho'⟩ : ∃ o' : Outp,o' = { o with slot := (g.fl.getD i default).slot,gen := (g.fl.getD i default).gen,backend := (g.fl.getD i default).backend } := ⟨_,rfl⟩
 have hk : o'.kind = o.kind := by rw [ho']
 have hb := h.flow (List.getElem_mem hi)
 have h40 := h.tok.2.1
 rw [hg] at ho'
 have h0 : Mv g (g.dropA i o) [o'] := by
  refine ⟨by rw [ho',← hg];rfl,rfl,rfl,rfl,rfl,rfl,?_,?_,?_,?_,fun b => .inl rfl,fun b _ => ?_,?_⟩
  ·show (g.fl.eraseIdx i).length + _ + _ = _
   rw [List.length_eraseIdx_of_lt hi]
   rcases ho with e | e <;> simp [kN,hk,e] <;> omega
  ·show g.tok = _
   rcases ho with e | e <;> simp [kN,hk,e]
  ·rintro x hx;rw [List.mem_singleton.1 hx,hk];omega
  ·rintro x hx;rw [List.mem_singleton.1 hx,hk];omega
  ·exact (List.eraseIdx_sublist _ _).countP_le
  ·rintro x hx
   rw [List.mem_singleton.1 hx,ho']
   exact ⟨by show 1 ≤ o.kind;omega,by show o.kind ≤ 10;omega,hw.1,hw.2,hb.1,by show g.fl[i].slot < 40;omega,hb.2.2.2.1,by show g.fl[i].gen ≤ _;omega,hb.2.2.2.2.2.2.2.1,hb.2.2.2.2.2.2.2.2⟩
 exact ⟨[o'] ++ l,by simp,h0.trans h1⟩
theorem note_mv (g : Gt) (b : Int) (failed : Bool) : Mv g (g.note b failed) [] := ⟨by simp [Gt.note],rfl,rfl,rfl,rfl,rfl,by simp [kN,Gt.note],by simp [kN,Gt.note],by simp,by simp,fun b => .inl rfl,fun b _ => Nat.le_refl _,by simp⟩
theorem moved_mv {g : Gt} {n : Nat} (h : Mid g n (-1)) {i : Nat} (hi : i < g.fl.length) {b : Int} (hb : stateM g.L b = 2) (hbb : 0 ≤ b ∧ b < 12) : ∃ l,l ≠ [] ∧ Mv g (g.moved i b (g.tok - g.c.bud.den)) l := by
 refine ⟨[⟨5,(g.fl.getD i default).slot,(g.fl.getD i default).gen,b,0,0,0⟩],by simp,rfl,rfl,rfl,rfl,rfl,rfl,?_,?_,by simp,?_,fun b => .inl rfl,fun x hx => ?_,?_⟩
 ·simp [kN,Gt.moved]
 ·show g.tok - g.c.bud.den = _;simp [kN]
 ·simp [hb]
 ·show flowsM (g.fl.set i _) x ≤ _
  unfold flowsM
  have := cnt_set (fun f : Flw => decide (f.backend = x)) hi { g.fl.getD i default with backend := b,tries := (g.fl.getD i default).tries + 1,due := g.now + g.c.c7 }
  have hne : b ≠ x := fun e => hx (e ▸ hb)
  simp only [decide_eq_true_eq,hne,if_false] at this
  split at this <;> omega
 ·have hg := getD_at default hi
  have hf := h.flow (List.getElem_mem hi)
  have h40 := h.tok.2.1
  rintro x hx
  rw [List.mem_singleton.1 hx,hg]
  exact ⟨by simp,by simp,by simp,by simp,hf.1,by show g.fl[i].slot < 40;omega,hf.2.2.2.1,by show g.fl[i].gen ≤ _;omega,hbb.1,hbb.2⟩
theorem failed_mv {g : Gt} {n : Nat} (h : Mid g n (-1)) {i : Nat} (hi : i < g.fl.length) {why : Int} (hw : 0 ≤ why ∧ why ≤ 5) : ∃ l,l ≠ [] ∧ Mv g (g.failed i why) l := by
 have hb := h.flow (List.getElem_mem hi)
 have hg := getD_at default hi
 have hn := h.note (g.fl.getD i default).backend (by rw [hg];omega) true
 have hnm := note_mv g (g.fl.getD i default).backend true
 unfold Gt.failed
 simp only
 split
 ·obtain ⟨l,h0,h1⟩ := drop_mv hn hi (o := resetO why) (.inl rfl) hw
  exact ⟨[] ++ l,by simpa using h0,hnm.trans h1⟩
 ·split
  ·obtain ⟨l,h0,h1⟩ := drop_mv hn hi (o := resetO 4) (.inl rfl) (by simp [resetO])
   exact ⟨[] ++ l,by simpa using h0,hnm.trans h1⟩
  ·rename_i hp
   have hpk := hn.pickedB (.inr ⟨_,List.getElem_mem hi,by rw [hg]⟩) (Decidable.not_not.1 hp)
   obtain ⟨l,h0,h1⟩ := moved_mv (g := g.note (g.fl.getD i default).backend true) hn hi hpk.1 hpk.2
   split
   ·obtain ⟨m,h2,_⟩ := spared_mv (g := (g.note (g.fl.getD i default).backend true).moved i (pickG (g.note (g.fl.getD i default).backend true) (g.fl.getD i default).key (g.fl.getD i default).slot).1 (g.tok - g.c.bud.den)) h.bk (g.fl.getD i default).backend
    exact ⟨[] ++ (l ++ m),by simp [h0],hnm.trans (h1.trans h2)⟩
   ·exact ⟨[] ++ l,by simpa using h0,hnm.trans h1⟩
theorem off1_mv {g : Gt} {n : Nat} (h : Mid g n (-1)) {f0 : Flw} (hf0 : f0 ∈ g.fl) : ∃ l,l ≠ [] ∧ Mv g (g.off1 f0.slot) l := by
 obtain ⟨hi,_,_,_⟩ := find_mem h.fs.so hf0
 unfold Gt.off1
 simp only
 split
 ·exact drop_mv h hi (.inl rfl) (by simp [resetO])
 ·exact failed_mv h hi (by omega)
theorem offs_mv : ∀ (l : List Int) {g : Gt} {n : Nat},Mid g n (-1) → l.Nodup → (∀ s ∈ l,∃ f ∈ g.fl,f.slot = s) → ∃ o,(l ≠ [] → o ≠ []) ∧ Mv g (g.offs l) o
 | [],g,n,h,_,_ => ⟨[],fun h => absurd rfl h,Mv.refl g⟩
 | s :: l,g,n,h,hnd,hs => by
  obtain ⟨f0,hf0,rfl⟩ := hs s (by simp)
  obtain ⟨h1,h2,h3,h4⟩ := off1_same h hf0
  obtain ⟨n1,n2⟩ := List.nodup_cons.1 hnd
  obtain ⟨a,ha,hma⟩ := off1_mv h hf0
  obtain ⟨b,_,hmb⟩ := offs_mv l h1 n2 fun s hs2 => by
   obtain ⟨f,hf,e⟩ := hs s (List.mem_cons_of_mem _ hs2)
   refine ⟨f,h4 f hf fun e2 => n1 ?_,e⟩
   rw [← e2,e];exact hs2
  exact ⟨a ++ b,fun _ => by simp [ha],hma.trans hmb⟩
theorem cut1_mv : ∀ (l : List Hnd) {g : Gt} {n : Nat},Mid g n (-1) → (l.map (·.1)).Nodup → (∀ h ∈ l,∃ f ∈ g.fl,f.slot = h.1) → ∃ o,(l ≠ [] → o ≠ []) ∧ Mv g (g.cut1 l) o
 | [],g,n,h,_,_ => ⟨[],fun h => absurd rfl h,Mv.refl g⟩
 | s :: l,g,n,h,hnd,hs => by
  obtain ⟨f0,hf0,e0⟩ := hs s (by simp)
  obtain ⟨hi,he,_,hgd⟩ := find_mem h.fs.so hf0
  rw [e0] at hi
  obtain ⟨h1,h2⟩ := drop_same h hi (resetO 2)
  have hgs : (g.fl.getD (findF g.fl s.1).toNat default).slot = s.1 := by rw [← e0,hgd]
  rw [List.map_cons] at hnd
  obtain ⟨n1,n2⟩ := List.nodup_cons.1 hnd
  obtain ⟨a,ha,hma⟩ := drop_mv h hi (o := resetO 2) (.inl rfl) (by simp [resetO])
  obtain ⟨b,_,hmb⟩ := cut1_mv l (h.drop hi (resetO 2)) n2 fun s2 hs2 => by
   obtain ⟨f,hf,e⟩ := hs s2 (List.mem_cons_of_mem _ hs2)
   exact ⟨f,(h2 f).2 ⟨hf,fun e2 => n1 (List.mem_map.2 ⟨s2,hs2,by omega⟩)⟩,e⟩
  exact ⟨a ++ b,fun _ => by simp [ha],hma.trans hmb⟩
theorem cuts_mv : ∀ (l : List Lif) {g : Gt} {n : Nat},Mid g n (-1) → ∃ o,((∃ x ∈ l,x ∈ g.L ∧ x.state = 3 ∧ x.til ≤ g.now) → o ≠ []) ∧ ((∀ x ∈ l,x.state = 3 → g.now < x.til) → o = []) ∧ Mv g (g.cuts l) o
 | [],g,n,h => ⟨[],(fun ⟨x,hx,_⟩ => by cases hx),fun _ => rfl,Mv.refl g⟩
 | x :: l,g,n,h => by
  unfold Gt.cuts
  split
  ·rename_i hc
   obtain ⟨o,h1,h2,h3⟩ := cuts_mv l h
   refine ⟨o,fun ⟨y,hy,q1,q2,q3⟩ => h1 ⟨y,?_,q1,q2,q3⟩,fun hh => h2 fun y hy => hh y (List.mem_cons_of_mem _ hy),h3⟩
   rcases List.mem_cons.1 hy with rfl | hy
   ·rcases hc with hc | hc
    ·exact absurd q2 hc
    ·omega
   ·exact hy
  ·rename_i hc
   obtain ⟨a,ha,hma⟩ := cut1_mv (ofL g.tb x.backend) h (ofL_nodup _ _) (ofL_flows h _)
   have hm := cut1_mid h x.backend
   obtain ⟨o,h1,h2,h3⟩ := cuts_mv l hm
   refine ⟨a ++ o,?_,fun hh => absurd (hh x (by simp)) (fun h9 => hc ?_),hma.trans h3⟩
   ·rintro ⟨y,hy,q1,q2,q3⟩ h9
    obtain ⟨rfl,rfl⟩ := List.append_eq_nil_iff.1 h9
    have hcn := (h.dr y q1 q2).2.2 (by have := (h.bk.lok y q1).b0;omega)
    rcases List.mem_cons.1 hy with rfl | hy
    ·exact ha (fun e => by rw [← ofL_len,e] at hcn;exact absurd hcn (by simp)) rfl
    · -- nothing went out,so the life is as it was
     have hce : g.cut1 (ofL g.tb x.backend) = g ∨ ofL g.tb x.backend ≠ [] := by
      by_cases e : ofL g.tb x.backend = []
      ·left;rw [e];rfl
      ·exact .inr e
     rcases hce with hce | hce
     ·rw [hce] at h1
      exact h1 ⟨y,hy,q1,q2,q3⟩ rfl
     ·exact ha hce rfl
   ·rcases Decidable.em (x.state = 3) with e | e
    ·exact .inr (h9 e)
    ·exact .inl e
theorem tick_mv {g : Gt} {n : Nat} (h : Rest g n) (hn : n + 1 ≤ 1000000) : ∃ o,((∃ f ∈ g.fl,f.due = g.now + 1) ∨ (∃ x ∈ g.L,x.state = 3 ∧ x.til = g.now + 1) ↔ o ≠ []) ∧ Mv g.tick0 g.tick o := by
 obtain ⟨hnd,hoff⟩ := off_flows h.mid
 have h0 := h.tick0 hn
 have hfl : ∀ s ∈ offM g,∃ f ∈ g.tick0.fl,f.slot = s := fun s hs => by
  obtain ⟨f,hf,_,e⟩ := (hoff s).1 hs
  exact ⟨f,hf,e⟩
 obtain ⟨a,ha,hma⟩ := offs_mv (offM g) h0 hnd hfl
 obtain ⟨b,hb1,hb2,hmb⟩ := cuts_mv (g.tick0.offs (offM g)).L (h.offed hn).1
 refine ⟨a ++ b,⟨?_,?_⟩,hma.trans hmb⟩
 ·rintro (⟨f,hf,hd⟩ | ⟨x,hx,h3,ht⟩) h9
  ·obtain ⟨rfl,rfl⟩ := List.append_eq_nil_iff.1 h9
   refine ha (fun e => ?_) rfl
   have := (hoff f.slot).2 ⟨f,hf,hd,rfl⟩
   rw [e] at this;cases this
  ·obtain ⟨rfl,rfl⟩ := List.append_eq_nil_iff.1 h9
   have e : offM g = [] := by
    rcases Decidable.em (offM g = []) with e | e
    ·exact e
    ·exact absurd rfl (ha e)
   have hw : x ∈ (g.tick0.offs (offM g)).L := by
    rw [e]
    show x ∈ wakeM g.L (g.now + 1)
    exact List.mem_map.2 ⟨x,hx,by unfold wakeX;rw [if_neg (by omega)]⟩
   exact hb1 ⟨x,hw,hw,h3,by rw [hma.now];show x.til ≤ g.now + 1;omega⟩ rfl
 ·intro h9
  rcases Decidable.em (offM g = []) with e | e
  ·right
   have hb : b ≠ [] := fun e2 => by
    have ha0 : a = [] := by
     have := hma.out
     rw [e] at this
     have h5 : g.tick0.out = g.tick0.out ++ a := this
     simpa using h5
    exact h9 (by rw [ha0,e2];rfl)
   rcases Decidable.em (∃ x ∈ (g.tick0.offs (offM g)).L,x.state = 3 ∧ x.til ≤ g.now + 1) with ⟨x,hx,h3,ht⟩ | hno
   ·rw [e] at hx
    have hx : x ∈ wakeM g.L (g.now + 1) := hx
    obtain ⟨y,hy,rfl⟩ := List.mem_map.1 hx
    unfold wakeX at h3 ht
    split at h3
    ·cases h3
    ·rename_i hc
     rw [if_neg hc] at ht
     have := h.dr y hy h3
     exact ⟨y,hy,h3,by omega⟩
   ·refine absurd (hb2 fun x hx h3 => ?_) hb
    rw [hma.now]
    show g.now + 1 < x.til
    rcases Int.lt_or_le (g.now + 1) x.til with h8 | h8
    ·exact h8
    ·exact absurd ⟨x,hx,h3,h8⟩ hno
  ·left
   obtain ⟨s,l,hsl⟩ := List.exists_cons_of_ne_nil e
   obtain ⟨f,hf,hd,_⟩ := (hoff s).1 (by rw [hsl];simp)
   exact ⟨f,hf,hd⟩
theorem one_mv {g g' : Gt} {i : Nat} (hi : i < g.fl.length) {f : Flw} (e : f.backend = g.fl[i].backend) (hf : g'.fl = g.fl.set i f) (hn : g'.now = g.now) (hc : g'.c = g.c) (hR : g'.R = g.R) (hws : g'.ws = g.ws) (hwn : g'.wn = g.wn) (ht : g'.tok = g.tok) (hL : g'.L = g.L)
  {o : Outp} (ho : g'.out = g.out ++ [o]) (hk : o.kind = 3 ∨ o.kind = 4) (hok : OOk o) : Mv g g' [o] := by
 refine ⟨ho,hn,hc,hR,hws,hwn,?_,?_,?_,?_,fun b => .inl (by rw [hL]),fun b _ => ?_,by simpa using hok⟩
 ·rw [hf,List.length_set]
  rcases hk with h | h <;> simp [kN,h]
 ·rw [ht]
  rcases hk with h | h <;> simp [kN,h]
 ·intro x hx;rw [List.mem_singleton.1 hx];omega
 ·intro x hx;rw [List.mem_singleton.1 hx];omega
 ·rw [hf]
  unfold flowsM
  have := cnt_set (fun f : Flw => decide (f.backend = b)) hi f
  rw [e] at this
  omega
theorem put_mv (g : Gt) {o : Outp} (hk : o.kind = 10 ∨ o.kind = 3) (hok : OOk o) : Mv g (g.put o) [o] := by
 refine ⟨rfl,rfl,rfl,rfl,rfl,rfl,?_,?_,?_,?_,fun b => .inl rfl,fun b _ => Nat.le_refl _,by simpa using hok⟩
 ·rcases hk with h | h <;> simp [kN,h,Gt.put]
 ·rcases hk with h | h <;> simp [kN,h,Gt.put]
 ·intro x hx;rw [List.mem_singleton.1 hx];omega
 ·intro x hx;rw [List.mem_singleton.1 hx];omega
theorem flow_mv {g : Gt} {n : Nat} (hm : Mid g n (-1)) (e : Evt) : ∃ l,Mv g (g.flow e) l := by
 have hbad : ∀ c,OOk ⟨10,0,0,0,0,c,0⟩ := fun c => ⟨by simp,by simp,by simp,by simp,by simp,by simp,by simp,by simp,by simp,by simp⟩
 unfold Gt.flow
 split
 ·exact ⟨_,put_mv g (.inl rfl) (hbad _)⟩
 ·rename_i hg
  obtain ⟨f,hf,e1,e2⟩ := hm.fs.got (Decidable.not_not.1 hg)
  obtain ⟨hi,he,_,hgd⟩ := find_mem hm.fs.so hf
  have hfl := hm.flow hf
  have h40 := hm.tok.2.1
  have hfo : ∀ k : Int,1 ≤ k → k ≤ 10 → OOk ⟨k,f.slot,f.gen,(g.fl.getD (findF g.fl f.slot).toNat default).backend,0,0,0⟩ := fun k k0 k1 => by
   rw [hgd]
   exact ⟨k0,k1,by simp,by simp,hfl.1,by show f.slot < 40;omega,hfl.2.2.2.1,by show f.gen ≤ _;omega,hfl.2.2.2.2.2.2.2.1,hfl.2.2.2.2.2.2.2.2⟩
  simp only
  rw [← e1,← e2]
  have hgi := getD_at default hi
  split
  ·obtain ⟨l,_,h⟩ := drop_mv hm hi (o := ⟨7,0,0,0,0,0,0⟩) (.inr rfl) (by simp)
   exact ⟨l,h⟩
  ·split
   ·split
    ·refine ⟨[⟨3,f.slot,f.gen,(g.fl.getD (findF g.fl f.slot).toNat default).backend,0,0,0⟩],?_⟩
     refine one_mv hi (f := { g.fl.getD (findF g.fl f.slot).toNat default with due := g.now + g.c.c6 }) (by rw [hgi]) ?_ ?_ ?_ ?_ ?_ ?_ ?_ ?_ ?_ (.inl ?_) (hfo 3 (by omega) (by omega)) <;> rfl
    ·exact ⟨_,put_mv g (.inr rfl) (hfo 3 (by omega) (by omega))⟩
   ·split
    ·exact ⟨_,put_mv g (.inl rfl) (hbad _)⟩
    ·split
     ·have hsd := served_due g _ hi (g.fl.getD (findF g.fl f.slot).toNat default).backend (g.now + g.c.c6) false
      refine ⟨[⟨4,f.slot,f.gen,(g.fl.getD (findF g.fl f.slot).toNat default).backend,0,0,0⟩],?_⟩
      refine one_mv hi (f := { g.fl.getD (findF g.fl f.slot).toNat default with serving := true,due := g.now + g.c.c6 }) (by rw [hgi]) ?_ ?_ ?_ ?_ ?_ ?_ ?_ ?_ ?_ (.inr ?_) (hfo 4 (by omega) (by omega))
      ·exact hsd.1
      all_goals rfl
     ·obtain ⟨l,_,h⟩ := failed_mv hm hi (why := 3) (by omega)
      exact ⟨l,h⟩
inductive Kd4 (g : Gt) (e : Evt) (g' : Gt) : Prop
 | full : e.kind = 1 → freeZ g.tb < 0 → g' = g.put ⟨2,0,0,0,0,9,0⟩ → Kd4 g e g'
 | busy : e.kind = 1 → ¬ freeZ g.tb < 0 → (pickG g e.key (-1)).2 ≠ 0 → g' = g.put ⟨2,0,0,0,0,11,0⟩ → Kd4 g e g'
 | taken : e.kind = 1 → ¬ freeZ g.tb < 0 → (pickG g e.key (-1)).2 = 0 → g' = g.taken (freeZ g.tb).toNat e.key (pickG g e.key (-1)).1 → Kd4 g e g'
 | ask : (e.kind = 5 ∨ e.kind = 6) → g' = g.ask e → Kd4 g e g'
 | tick (o : List Outp) : e.kind = 7 → g' = g.tick → Mv g.tick0 g' o → ((∃ f ∈ g.fl,f.due = g.now + 1) ∨ (∃ x ∈ g.L,x.state = 3 ∧ x.til = g.now + 1) ↔ o ≠ []) → Kd4 g e g'
 | flow (l : List Outp) : (e.kind ≠ 1 ∧ e.kind ≠ 5 ∧ e.kind ≠ 6 ∧ e.kind ≠ 7) → g' = g.flow e → Mv g g' l → Kd4 g e g'
theorem step_kd {g : Gt} {n : Nat} (h : Rest g n) (e : Evt) (hn : n + 1 ≤ 1000000) : Kd4 g e (g.step e) := by
 unfold Gt.step
 split
 ·rename_i hk
  unfold Gt.opened
  split
  ·exact .full hk (by assumption) rfl
  ·split
   ·exact .busy hk (by assumption) (by assumption) rfl
   ·rename_i h1 h2;exact .taken hk h1 (Decidable.not_not.1 h2) rfl
 ·split
  ·exact .ask (by assumption) rfl
  ·split
   ·obtain ⟨o,h1,h2⟩ := tick_mv h hn
    exact .tick o (by assumption) rfl h2 h1
   ·rename_i h1 h2 h3
    obtain ⟨l,hl⟩ := flow_mv h.mid e
    exact .flow l ⟨h1,fun h => h2 (.inl h),fun h => h2 (.inr h),h3⟩ rfl hl
theorem ask_same {g : Gt} {n : Nat} (h : Mid g n (-1)) {e : Evt} (he : EvtOk e) : (g.ask e).fl = g.fl ∧ (g.ask e).tb = g.tb ∧ (g.ask e).tok = g.tok ∧ (g.ask e).c = g.c ∧ (g.ask e).now = g.now ∧ (g.ask e).wn = g.wn ∧ (g.ask e).hl = g.hl ∧
  ∃ l,(g.ask e).out = g.out ++ l ∧ ∀ o ∈ l,o.kind = 8 ∨ o.kind = 9 := by
 have hbk := ask_ok h.bk (reqOf e) (reqOf_ok he) g.now g.c.c5 h.n0 (by have := h.n1;have := h.nn;omega) (by have := h.c.w5;omega) h.c.w5.2
 unfold Gt.ask
 simp only
 split
 ·exact ⟨rfl,rfl,rfl,rfl,rfl,rfl,rfl,_,rfl,by simp⟩
 ·split
  ·exact ⟨rfl,rfl,rfl,rfl,rfl,rfl,rfl,[_,_],by simp [Gt.put];exact ⟨rfl,rfl⟩,by simp [goneO]⟩
  ·unfold Gt.spared
   split
   ·exact ⟨rfl,rfl,rfl,rfl,rfl,rfl,rfl,[_,_],by simp;exact ⟨rfl,rfl⟩,by simp [goneO]⟩
   ·exact ⟨rfl,rfl,rfl,rfl,rfl,rfl,rfl,_,rfl,by simp⟩
theorem step_c {g : Gt} {n : Nat} (h : Rest g n) {e : Evt} (he : EvtOk e) (hn : n + 1 ≤ 1000000) : (g.step e).c = g.c := by
 cases step_kd h e hn with
 | full _ _ h => rw [h];rfl
 | busy _ _ _ h => rw [h];rfl
 | taken _ _ _ h => rw [h];rfl
 | ask _ h2 => rw [h2];exact (ask_same h.mid he).2.2.2.1
 | tick o _ h1 h2 => rw [h2.c];rfl
 | flow l _ _ h2 => exact h2.c
theorem P_accept {g : Gt} {n : Nat} (h : Rest g n) (h0 : g.out = []) {e : Evt} (he : EvtOk e) (hn : n + 1 ≤ 1000000) {o : Outp} (ho : o ∈ (g.step e).out) (hk : o.kind = 1) :
  ∃ s : Nat,∃ hs : s < g.tb.length,∃ x ∈ g.L,o = ⟨1,s,(g.tb.getD s tzero).gen,x.backend,0,0,0⟩ ∧ (g.step e).out = [o] ∧ (g.tb.getD s tzero).used = false ∧ (∀ j,j < s → (g.tb.getD j tzero).used = true) ∧
   x.state = 2 ∧ isOut g.hl x.backend = false ∧ flowsM (g.step e).fl x.backend = flowsM g.fl x.backend + 1 ∧
   (flowsM g.fl x.backend : Int) + 1 ≤ capZ g.c.num g.c.den g.fl.length (rampM x.weight x.since g.now g.c.c4) (sumW (loadsM g (-1))) := by
 have hs := step_kd h e hn
 generalize g.step e = g' at ho hs ⊢
 cases hs with
 | full _ _ h => rw [h] at ho;simp [Gt.put,h0] at ho;subst ho;simp at hk
 | busy _ _ _ h => rw [h] at ho;simp [Gt.put,h0] at ho;subst ho;simp at hk
 | taken _ hf hp h2 =>
  obtain ⟨f1,f2,f3⟩ := free_at hf
  rw [h2] at ho ⊢
  have ho : o ∈ g.out ++ [(⟨1,((freeZ g.tb).toNat : Nat),(g.tb.getD (freeZ g.tb).toNat tzero).gen,(pickG g e.key (-1)).1,0,0,0⟩ : Outp)] := ho
  rw [h0,List.nil_append] at ho
  have ho := List.mem_singleton.1 ho
  subst ho
  obtain ⟨x,hx,q1,e1,e2,q3⟩ := h.mid.picked (.inl (by omega)) hp
  have hus : (g.tb.getD (freeZ g.tb).toNat tzero).used = false := by
   unfold tfree at f2
   rw [Bool.and_eq_true] at f2
   simpa using f2.1
  refine ⟨(freeZ g.tb).toNat,f1,x,hx,by rw [e1],by rw [show (g.taken (freeZ g.tb).toNat e.key (pickG g e.key (-1)).1).out = g.out ++ [_] from rfl,h0];rfl,hus,fun j hj => ?_,q1,e2,?_,?_⟩
  ·have hfr := f3 j hj
   have hg := h.mid.gens _ (getD_mem (l := g.tb) tzero (j := j) (by omega))
   have := h.mid.nn
   cases hu : (g.tb.getD j tzero).used with
   | true => rfl
   | false =>
    rw [hu] at hg
    simp at hg
    have h9 : tfree (g.tb.getD j tzero) = true := by
     unfold tfree;rw [hu];simp;omega
    exact absurd (h9.symm.trans hfr) (by simp)
  ·show flowsM (insF g.fl _) _ = _
   unfold flowsM
   rw [insF_cnt,if_pos (by simp [e1])]
  ·have hld := h.mid.load (but := -1) (.inl (by omega)) hx
   have hw : (loadOf g (-1) x).weight = rampM x.weight x.since g.now g.c.c4 := by
    show (if isOut g.hl x.backend = true then 0 else _) = _
    rw [e2];simp
   have hfl : (loadOf g (-1) x).flows = (flowsM g.fl x.backend : Int) := by
    show (cntB g.tb x.backend : Int) - _ = _
    rw [h.mid.fs.cnt];simp [flowsM]
   unfold capOf at q3
   rw [if_pos (hld.2.2.2.2.1 e2),hw,hfl] at q3
   simp at q3
   omega
 | ask _ h2 =>
  obtain ⟨a1,a2,a3,a4,a5,_,_,l,a6,a7⟩ := ask_same h.mid he
  rw [h2,a6,h0,List.nil_append] at ho
  have := a7 o ho
  omega
 | tick l h7 h1 h2 =>
  have e1 : g'.out = l := by rw [h2.out];show g.out ++ l = l;rw [h0];rfl
  rw [e1] at ho
  exact absurd hk (h2.kd o ho)
 | flow l _ _ h2 =>
  have e1 : g'.out = l := by rw [h2.out,h0];rfl
  rw [e1] at ho
  exact absurd hk (h2.kd o ho)
structure Stp where
 ev : Evt
 before : Gt
 after : Gt
 out : List Outp
structure Ply where
 c : Cfg
 steps : List Stp
 last : Gt
 given : List (Int × Int)
def Gt.clean (g : Gt) : Gt := { g with out := [] }
def accM (l : List Outp) : List (Int × Int) := (l.filter fun o => decide (o.kind = 1)).map fun o => (o.slot,o.gen)
def Ply.act (p : Ply) (e : Evt) : Ply := ⟨p.c,p.steps ++ [⟨e,p.last,(p.last.step e).clean,(p.last.step e).out⟩],(p.last.step e).clean,p.given ++ accM (p.last.step e).out⟩
def evOpen (key : Int) : Evt := ⟨1,key,0,0,false,0,0,0⟩
def evData (s g : Int) : Evt := ⟨2,0,s,g,false,0,0,0⟩
def evClose (s g : Int) : Evt := ⟨3,0,s,g,false,0,0,0⟩
def evAns (s g : Int) (good : Bool) : Evt := ⟨4,0,s,g,good,0,0,0⟩
def evJoin (r b w : Int) : Evt := ⟨5,0,0,0,false,r,b,w⟩
def evRet (r b : Int) : Evt := ⟨6,0,0,0,false,r,b,0⟩
def evTick : Evt := ⟨7,0,0,0,false,0,0,0⟩
def handP (p : Ply) (a b c : Int) : Int × Int :=
 if 0 < p.given.length ∧ 0 < pickedZ c 9 then p.given.getD (p.given.length - 1 - (pickedZ a (min (p.given.length : Int) 8)).toNat) (0,0) else (pickedZ a 8,pickedZ b 3)
def eventP (p : Ply) (k a b c : Int) : Evt :=
 let h := handP p a b c
 let n := pickedZ k 20
 if n < 6 then evOpen (pickedZ a 100) else if n = 6 then evData h.1 h.2 else if n = 7 then evClose h.1 h.2 else if n < 12 then evAns h.1 h.2 (decide (pickedZ b 2 = 0))
 else if n < 14 then evJoin (pickedZ a 30) (pickedZ b 5) (1 + pickedZ c 8) else if n = 14 then evRet (pickedZ a 30) (pickedZ b 5) else evTick
def eventD (p : Ply) (d : List Int) : Evt := eventP p (d.getD 0 0) (d.getD 1 0) (d.getD 2 0) (d.getD 3 0)
def play0 (c : Cfg) : Ply := ⟨c,[],begM c,[]⟩
def play4 (c : Cfg) : Ply := ((((play0 c).act (evJoin 1000 0 2)).act (evJoin 1001 1 3)).act (evJoin 1002 2 4)).act evTick
def deedsM (p : Ply) (l : List (List Int)) : Ply := l.foldl (fun p d => p.act (eventD p d)) p
def playedM (c : Cfg) (l : List (List Int)) (most : Nat) : Ply := deedsM (play4 c) (l.take most)
structure EvIn (e : Evt) : Prop where
 ok : EvtOk e
 s0 : 0 ≤ e.slot
 s1 : e.slot ≤ 39
 g0 : 0 ≤ e.gen
 g1 : e.gen ≤ 1048576
structure StpOk (c : Cfg) (s : Stp) (k : Nat) : Prop where
 ev : EvIn s.ev
 ex : ∃ n,n + 1 ≤ k ∧ Rest s.before n
 kk : k ≤ 1000000
 lo : s.before.out = []
 cfg : s.before.c = c
 out : s.out = (s.before.step s.ev).out
 after : s.after = (s.before.step s.ev).clean
theorem Rest.step {g : Gt} {n : Nat} (hc : Rest g n) {e : Evt} (he : EvtOk e) (hn : n + 1 ≤ 1000000) : Rest (g.step e) (n + 1) := by
 unfold Gt.step
 split
 ·exact hc.opened he.2.2.1 he.2.2.2.1 hn
 ·split
  ·exact (hc.asked he).up hn
  ·split
   ·exact hc.tick hn
   ·exact (hc.flowed e).up hn
theorem join_in {r b w : Int} (r0 : 0 ≤ r) (r1 : r ≤ 1048576) (b0 : 0 ≤ b) (b1 : b < 12) (w0 : 1 ≤ w) (w1 : w ≤ 8) : EvIn (evJoin r b w) :=
 ⟨⟨by simp [evJoin],by simp [evJoin],by simp [evJoin],by simp [evJoin],r0,r1,b0,b1,fun _ => ⟨w0,w1⟩⟩,by simp [evJoin],by simp [evJoin],by simp [evJoin],by simp [evJoin]⟩
theorem tick_in : EvIn evTick := ⟨⟨by simp [evTick],by simp [evTick],by simp [evTick],by simp [evTick],by simp [evTick],by simp [evTick],by simp [evTick],by simp [evTick],by simp [evTick]⟩,by simp [evTick],by simp [evTick],by simp [evTick],by simp [evTick]⟩
theorem Rest.cleanS {g : Gt} {n : Nat} (h : Rest g n) : Rest g.clean n := ⟨{ h.mid with },h.late,h.dr⟩
theorem Rest.tm_len {g : Gt} {n : Nat} (h : Rest g n) : g.tm.length = g.fl.length := by
 have hw := h.mid.wh
 have n1 := hw.ids
 have n2 : (g.fl.map (·.slot)).Nodup := by
  unfold List.Nodup
  rw [List.pairwise_map]
  exact List.Pairwise.imp (fun {x y} hxy e => by omega) h.mid.fs.so
 have s1 : (g.tm.map (·.2)) ⊆ g.fl.map (·.slot) := fun z hz => by
  obtain ⟨t,ht,rfl⟩ := List.mem_map.1 hz
  obtain ⟨f,hf,_,rfl⟩ := (h.mid.tt t).1 ht
  exact List.mem_map.2 ⟨f,hf,rfl⟩
 have s2 : g.fl.map (·.slot) ⊆ g.tm.map (·.2) := fun z hz => by
  obtain ⟨f,hf,rfl⟩ := List.mem_map.1 hz
  exact List.mem_map.2 ⟨(f.due,f.slot),(h.mid.tt _).2 ⟨f,hf,h.late f hf,rfl⟩,rfl⟩
 have l1 := List.Nodup.length_le_of_subset n1 s1
 have l2 := List.Nodup.length_le_of_subset n2 s2
 rw [List.length_map,List.length_map] at l1 l2
 omega
def lenT (v : Int) (tm : List (Int × Int)) (i : Nat) : Int := ((((byP tm (plN v)).take i).map List.length).sum : Nat)
theorem lenT_succ (v : Int) (tm : List (Int × Int)) (i : Nat) (h : i < 25) : lenT v tm (i + 1) = lenT v tm i + ((tm.filter fun t => decide (plN v t = i)).length : Nat) := by
 unfold lenT
 have hl : i < (byP tm (plN v)).length := by rw [byP_len];exact h
 rw [List.take_succ_eq_append_getElem hl,List.map_append,List.sum_append]
 have := byP_get tm (plN v) i h
 rw [getD_at _ hl] at this
 rw [this]
 simp
theorem lenT_all (v : Int) (tm : List (Int × Int)) : lenT v tm 25 = tm.length := by
 unfold lenT
 rw [List.take_of_length_le (by rw [byP_len];omega),← List.length_flatten,(byP_flat v tm).length_eq]
theorem lenT_bd (v : Int) (tm : List (Int × Int)) (i : Nat) (h : i ≤ 25) : 0 ≤ lenT v tm i ∧ lenT v tm i ≤ tm.length := by
 refine ⟨by unfold lenT;omega,?_⟩
 rw [← lenT_all v tm]
 have : ∀ k,i + k ≤ 25 → lenT v tm i ≤ lenT v tm (i + k) := fun k => by
  induction k with
  | zero => intro _;exact Int.le_refl _
  | succ k ih =>
   intro hk
   have h1 := ih (by omega)
   have h2 := lenT_succ v tm (i + k) (by omega)
   have e : i + (k + 1) = i + k + 1 := by omega
   rw [e,h2];omega
 have := this (25 - i) (by omega)
 rwa [show i + (25 - i) = 25 by omega] at this
def usedT (tb : List TSlot) (i : Nat) : Int := ((tb.take i).countP (·.used) : Nat)
theorem usedT_succ (tb : List TSlot) (i : Nat) (h : i < tb.length) : usedT tb (i + 1) = usedT tb i + if tb[i].used = true then 1 else 0 := by
 unfold usedT
 rw [List.take_succ_eq_append_getElem h,List.countP_append]
 cases hu : tb[i].used <;> simp [hu]
theorem usedT_all {tb : List TSlot} {fl : List Flw} (h : FlT tb fl) : usedT tb tb.length = fl.length := by
 unfold usedT;rw [List.take_length,h.used]
theorem life_take (L : List Lif) (hs : SrtL L) (i : Nat) (h : i < L.length) (b : Int) : lifeM (L.take (i + 1)) b = if b = L[i].backend then L[i] else lifeM (L.take i) b := by
 have hs' : SrtL (L.take (i + 1)) := hs.sublist (List.take_sublist _ _)
 have hmem : ∀ x,x ∈ L.take (i + 1) ↔ x = L[i] ∨ x ∈ L.take i := fun x => by
  rw [List.take_succ_eq_append_getElem h,List.mem_append,List.mem_singleton]
  exact Or.comm
 have hlt : ∀ x ∈ L.take i,x.backend < L[i].backend := fun x hx => by
  obtain ⟨j,hj⟩ := zF hx
  rw [List.getElem?_take] at hj
  split at hj
  ·obtain ⟨h1,rfl⟩ := zB.1 hj
   exact List.pairwise_iff_getElem.1 hs j i h1 h (by assumption)
  ·cases hj
 refine life_upd (hs.sublist (List.take_sublist i L)) hs' (x0 := L[i]) (fun x => ?_) b
 rw [hmem]
 constructor
 ·rintro (h1 | h1)
  ·exact .inl h1
  ·exact .inr ⟨h1,by have := hlt x h1;omega⟩
 ·rintro (h1 | ⟨h1,_⟩)
  ·exact .inl h1
  ·exact .inr h1
theorem wsOf_nil : wsOf [] = List.replicate 12 0 := by decide
theorem wsOf_take {L : List Lif} (hs : SrtL L) (hb : ∀ x ∈ L,LifOk x) (i : Nat) (h : i < L.length) :
  wsOf (L.take (i + 1)) = (if L[i].state = 2 then (wsOf (L.take i)).set L[i].backend.toNat L[i].weight.toNat else wsOf (L.take i)) ∧ (wsOf (L.take i)).getD L[i].backend.toNat 0 = 0 := by
 have ho := hb _ (List.getElem_mem h)
 have hb0 := ho.b0
 have hb1 := ho.b1
 have hlt : ∀ x ∈ L.take i,x.backend ≠ L[i].backend := fun x hx => by
  obtain ⟨j,hj⟩ := zF hx
  rw [List.getElem?_take] at hj
  split at hj
  ·obtain ⟨h1,rfl⟩ := zB.1 hj
   have := List.pairwise_iff_getElem.1 hs j i h1 h (by assumption)
   omega
  ·cases hj
 have hz : actW (lifeM (L.take i) L[i].backend) = 0 := by
  rcases life_cases (L.take i) L[i].backend with ⟨y,hy,e,_⟩ | ⟨_,e⟩
  ·exact absurd e (hlt y hy)
  ·rw [e];rfl
 have hbn : ((L[i].backend.toNat : Nat) : Int) = L[i].backend := by omega
 refine ⟨?_,?_⟩
 ·have hl := life_take L hs i h
  split
  ·rename_i h2
   refine wsOf_set L[i].backend.toNat (fun b hb hne => ?_) _ fun _ => ?_
   ·rw [hl,if_neg (by omega)]
   ·rw [hl,if_pos hbn];simp [actW,h2]
  ·rename_i h2
   refine wsOf_congr fun b hb => ?_
   rw [hl]
   split
   ·rename_i e
    rw [e,hz];simp [actW,h2]
   ·rfl
 ·rw [wsOf_get _ _ (by omega),hbn];exact hz
theorem woken_take {g : Gt} {n : Nat} {ex : Int} (h : Mid g n ex) (i : Nat) (hi : i < (wokenM g.L).length) :
  wokenW (wakeM g.L (g.now + 1)) ((wokenM g.L).take (i + 1)) g.ws = (wokenW (wakeM g.L (g.now + 1)) ((wokenM g.L).take i) g.ws).set (wokenM g.L)[i].toNat (lifeM (wakeM g.L (g.now + 1)) (wokenM g.L)[i]).weight.toNat ∧
  0 ≤ (wokenM g.L)[i] ∧ (wokenM g.L)[i] < 12 ∧ 1 ≤ (lifeM (wakeM g.L (g.now + 1)) (wokenM g.L)[i]).weight ∧ (lifeM (wakeM g.L (g.now + 1)) (wokenM g.L)[i]).weight ≤ 8 ∧
  (wokenW (wakeM g.L (g.now + 1)) ((wokenM g.L).take i) g.ws).getD (wokenM g.L)[i].toNat 0 = 0 := by
 have happ : ∀ (L : List Lif) (a : List Int) (x : Int) (ws : List Nat),wokenW L (a ++ [x]) ws = (wokenW L a ws).set x.toNat (lifeM L x).weight.toNat := by
  intro L a
  induction a with
  | nil => intro x ws;rfl
  | cons y a ih => intro x ws;exact ih x _
 have hst : stateM g.L (wokenM g.L)[i] = 1 := (woken_mem h.bk.sorted _).1 (List.getElem_mem hi)
 obtain ⟨hm,hbk⟩ := state_mem (L := g.L) (b := (wokenM g.L)[i]) (by omega)
 have ho := h.bk.lok _ hm
 have hb0 := ho.b0
 have hb1 := ho.b1
 rw [hbk] at hb0 hb1
 have hlw : (lifeM (wakeM g.L (g.now + 1)) (wokenM g.L)[i]).weight = (lifeM g.L (wokenM g.L)[i]).weight := by
  rw [wake_life];unfold wakeX;split <;> rfl
 refine ⟨?_,hb0,hb1,by rw [hlw];exact ho.w0,by rw [hlw];exact ho.w1,?_⟩
 ·rw [List.take_succ_eq_append_getElem hi,happ]
 ·have hwl : ∀ x ∈ (wokenM g.L).take i,0 ≤ x ∧ x < g.ws.length := fun x hx => by
   have h1 := (woken_mem h.bk.sorted x).1 (List.mem_of_mem_take hx)
   obtain ⟨m1,m2⟩ := state_mem (L := g.L) (b := x) (by omega)
   have m3 := h.bk.lok _ m1
   have := m3.b0
   have := m3.b1
   rw [m2] at *
   rw [h.ws];simp [wsOf];omega
  have hnd : (wokenM g.L).Nodup := by
   unfold wokenM List.Nodup
   rw [List.pairwise_map]
   exact List.Pairwise.imp (fun {x y} hxy e => by omega) (List.Pairwise.filter _ h.bk.sorted)
  have hbn : (((wokenM g.L)[i].toNat : Nat) : Int) = (wokenM g.L)[i] := by omega
  have := wokenW_get (wakeM g.L (g.now + 1)) (wokenM g.L)[i].toNat ((wokenM g.L).take i) g.ws hwl
  rw [this,hbn,if_neg,h.ws,wsOf_get _ _ (by omega),hbn]
  ·unfold stateM at hst
   simp [actW,hst]
  ·intro hmem
   obtain ⟨j,hj⟩ := zF hmem
   rw [List.getElem?_take] at hj
   split at hj
   ·obtain ⟨h1,h2⟩ := zB.1 hj
    have := (List.getElem_inj hnd).1 h2
    omega
   ·cases hj
def Gt.cells (g : Gt) (fl hl : D) : List D :=
  [I g.c.slots, I g.c.num, I g.c.den, I g.c.tries, I g.c.c4, I g.c.c5, I g.c.c6, I g.c.c7, I g.c.c8, I g.c.c9, I g.c.bud.num, I g.c.bud.den, I g.c.bud.burst, I g.c.wat.window, I g.c.wat.fails, I g.c.wat.hold,
   I g.now, .rows 4 (g.tb.map TSlot.D), fl, .rows 6 (g.L.map Lif.D), .rows 5 (g.R.map Rqs.D), .rows 2 ((ringM g.ws).map spE), hl, I g.tok, I g.wn, .rows 1 (lrT g.wn g.tm)]
def Gt.W (g : Gt) : List D := g.cells (.rows 7 (g.fl.map Flw.D)) (.rows 4 (g.hl.map Hlth.D))
def Gt.P (g : Gt) : List D := g.W ++ [.rows 7 (g.out.map Outp.D)]
def Gt.H (g : Gt) (o : Nat) : List (Nat × Ob) :=
 [(o,.row 7 (g.out.map Outp.D)),(2,.row 4 (g.hl.map Hlth.D)),(1,.row 7 (g.fl.map Flw.D)),(0,.cells (g.cells (.own 1) (.own 2) ++ [.own o]))]
def Gt.H5 (g : Gt) : List (Nat × Ob) :=
 [(5,.row 7 (g.out.map Outp.D)),(4,.row 7 (g.fl.map Flw.D)),(2,.row 4 (g.hl.map Hlth.D)),(0,.cells (g.cells (.own 4) (.own 2) ++ [.own 5]))]
def MK (P : Program) (f : FuncId) (ds : List D) (g g' : Gt) : Prop :=
 HF P f (.ptr 0 0 :: ds) (g.H 3) 4 (fun e H' nx' => e = .tup [] ∧ H' = g'.H 3 ∧ nx' = 4)
def MO (P : Program) (f : FuncId) (ds : List D) (g g' : Gt) : Prop :=
 HF P f (.ptr 0 0 :: ds) (g.H 3) 4 (fun e H' nx' => e = .tup [] ∧ H' = g'.H 4 ∧ nx' = 5)
def MF (P : Program) (f : FuncId) (ds : List D) (g g' : Gt) : Prop :=
 HF P f (.ptr 0 0 :: ds) (g.H 3) 4 (fun e H' nx' => e = .tup [] ∧ H' = g'.H5 ∧ nx' = 6)
section
variable {P : Program} {f : FuncId} {ds : List D} {g g' : Gt}
theorem MK.of (h : HF P f (.ptr 0 0 :: ds) (g.H 3) 4 (fun e H' _ => e = .tup [] ∧ ∀ p ∈ g'.H 3,hget H' p.1 = some p.2)) : MK P f ds g g' :=
 HF.tidy (by omega) (by simp) (by simp [LtS,LtR]) (by simp [Gt.H,Gt.cells,LtO,LtC]) h
theorem MO.of (h : HF P f (.ptr 0 0 :: ds) (g.H 3) 4 (fun e H' _ => e = .tup [] ∧ ∃ o,hget H' o = some (.row 7 (g'.out.map Outp.D)) ∧ hget H' 2 = some (.row 4 (g'.hl.map Hlth.D)) ∧ hget H' 1 = some (.row 7 (g'.fl.map Flw.D)) ∧
  hget H' 0 = some (.cells (g'.cells (.own 1) (.own 2) ++ [.own o])) ∧ o ≠ 0 ∧ o ≠ 1 ∧ o ≠ 2)) : MO P f ds g g' := by
 refine HF.gh h fun B hB d H' nx' hR => ?_
 obtain ⟨rfl,o,h1,h2,h3,h4,h5,h6,h7⟩ := hR
 refine ⟨.tup [],g'.H 4,5,?_,(by simp),rfl,rfl,rfl⟩
 exact Gh.ren [0,1,2,3,o] (by show B.n0 ≤ 5;omega) (fun id hid => by
  have : id = 0 ∨ id = 1 ∨ id = 2 ∨ id = 3 := by omega
  rcases this with rfl | rfl | rfl | rfl <;> rfl) (by simp [eget,rnS,rnR,LtS,LtR]) (by simp [Gt.H,Gt.cells,rnO,rnC,LtO,LtC,lget] at h4 ⊢;simp [h1,h2,h3,h4]) (.inl (by simp [Gt.H,lget,h5,h6,h7]))
theorem MF.of (h : HF P f (.ptr 0 0 :: ds) (g.H 3) 4 (fun e H' _ => e = .tup [] ∧ ∃ o k,hget H' o = some (.row 7 (g'.out.map Outp.D)) ∧ hget H' 2 = some (.row 4 (g'.hl.map Hlth.D)) ∧ hget H' k = some (.row 7 (g'.fl.map Flw.D)) ∧
  hget H' 0 = some (.cells (g'.cells (.own k) (.own 2) ++ [.own o])) ∧ o ≠ 0 ∧ o ≠ 2 ∧ k ≠ 0 ∧ k ≠ 2 ∧ o ≠ k)) : MF P f ds g g' := by
 refine HF.gh h fun B hB d H' nx' hR => ?_
 obtain ⟨rfl,o,k,h1,h2,h3,h4,h5,h6,h7,h8,h9⟩ := hR
 refine ⟨.tup [],g'.H5,6,?_,(by simp),rfl,rfl,rfl⟩
 exact Gh.ren [0,1,2,3,k,o] (by show B.n0 ≤ 6;omega) (fun id hid => by
  have : id = 0 ∨ id = 1 ∨ id = 2 ∨ id = 3 := by omega
  rcases this with rfl | rfl | rfl | rfl <;> rfl) (by simp [eget,rnS,rnR,LtS,LtR]) (by simp [Gt.H5,Gt.cells,rnO,rnC,LtO,LtC,lget] at h4 ⊢;simp [h1,h2,h3,h4]) (.inl (by simp [Gt.H5,lget,h5,h6,h7,h8,h9]))
end
structure PV (p : Ply) (k : Nat) : Prop where
 rest : Rest p.last k
 lo : p.last.out = []
 cfg : p.last.c = p.c
 gv : ∀ x ∈ p.given,0 ≤ x.1 ∧ x.1 ≤ 39 ∧ 0 ≤ x.2 ∧ x.2 ≤ 1048576
 sts : ∀ s ∈ p.steps,StpOk p.c s k
theorem PV.act {p : Ply} {k : Nat} (h : PV p k) {e : Evt} (he : EvIn e) (hk : k + 1 ≤ 1000000) : PV (p.act e) (k + 1) := by
 have hs := h.rest.step he.ok hk
 refine ⟨⟨{ hs.mid with },hs.late,hs.dr⟩,rfl,?_,?_,?_⟩
 ·show (p.last.step e).c = p.c
  rw [step_c h.rest he.ok hk,h.cfg]
 ·intro x hx
  rcases List.mem_append.1 hx with hx | hx
  ·exact h.gv x hx
  ·obtain ⟨o,ho,rfl⟩ := List.mem_map.1 hx
   obtain ⟨h1,h2⟩ := List.mem_filter.1 ho
   obtain ⟨s,hsl,y,_,e1,_⟩ := P_accept h.rest h.lo he.ok hk h1 (by simpa using h2)
   have hm := h.rest.mid
   have hl := hm.tok.2.1
   have hg := hm.tok.2.2 _ (getD_mem (l := p.last.tb) tzero hsl)
   rw [e1]
   refine ⟨by simp,by show (s : Int) ≤ 39;omega,hg.1,?_⟩
   show (p.last.tb.getD s tzero).gen ≤ 1048576
   cases hu : (p.last.tb.getD s tzero).used with
   | false => exact (hg.2.1 hu).1
   | true => have := (hg.2.2 hu).1;omega
 ·intro s hs2
  rcases List.mem_append.1 hs2 with hs2 | hs2
  ·have := h.sts s hs2
   obtain ⟨n,hn,hr⟩ := this.ex
   exact { this with ex := ⟨n,by omega,hr⟩,kk := hk }
  ·rw [List.mem_singleton.1 hs2]
   exact ⟨he,⟨k,Nat.le_refl _,h.rest⟩,hk,h.lo,h.cfg,rfl,rfl⟩
theorem play0_pv {c : Cfg} (h : c.Ok) : PV (play0 c) 0 := ⟨beg_rest h,rfl,rfl,by simp [play0],by simp [play0]⟩
theorem PV.hand {p : Ply} {k : Nat} (h : PV p k) (a b c : Int) : 0 ≤ (handP p a b c).1 ∧ (handP p a b c).1 ≤ 39 ∧ 0 ≤ (handP p a b c).2 ∧ (handP p a b c).2 ≤ 1048576 := by
 unfold handP
 split
 ·rename_i hc
  have hq := pickedZ_range a (min (p.given.length : Int) 8) (by omega)
  exact h.gv _ (getD_mem _ (by omega))
 ·have h1 := pickedZ_range a 8 (by omega)
  have h2 := pickedZ_range b 3 (by omega)
  exact ⟨h1.1,by show pickedZ a 8 ≤ 39;omega,h2.1,by show pickedZ b 3 ≤ _;omega⟩
end Go.Proofs.YtibemmkfcjlmpaaGreat
