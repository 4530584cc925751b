/- This text holds, one behind the other, the texts that say what the program computes, step by step, and the rules that they need. They have no condition of their own. -/
import Derived.Test.YtibemmkfcjlmpaaGreatZac
set_option linter.unusedSimpArgs false
set_option linter.unusedVariables false
set_option maxRecDepth 100000
set_option maxHeartbeats 8000000
namespace Go.Proofs.YtibemmkfcjlmpaaGreat
open Go.RowKit
attribute [local simp] AK_at acode_seq acode_region acode_draw acode_cond CB_u acode_block acode_loop acode_exit acode_scope acode_ret acode_skip seqQ_n seqQ_e seqQ_r blockQ_n blockQ_e blockQ_r TK_at OK_at SK_at aops_nil aops_cons asch_done asch_one asch_two asch_top astep aop_eq isLoud aloud aloud1 isWrite qv evS strip gof eget hget putO eput herase oks opnds gS afin afin0 binD arith D.cells takeD fillD keep trim envOf Fin aresl aresv resD argOk pickV isP deq deqs boundD slD lenD isT isSl ptrIds chunks mn_min mx_max splice_one splice_more Rbr_at Rfr_at frR frV frC flatC brwR brwV brwC omap leR leV leC leL leVL rnR rnV rnC rnO rho_0 hputs herases rnS LtS LtR LtV LtC LtO lget noV noC flatR flatV rho
attribute [local simp ↓] CB_t CB_f
def HB (b : Bool) : List D := [.bool b]
structure Wtch where
 window : Int
 fails : Int
 hold : Int
def Wtch.D (w : Wtch) : List D := [I w.window,I w.fails,I w.hold]
def Wtch.Ok (w : Wtch) : Prop := 1 ≤ w.window ∧ w.window ≤ 16 ∧ 1 ≤ w.fails ∧ w.fails ≤ w.window ∧ 1 ≤ w.hold ∧ w.hold ≤ 500
structure Hlth where
 marks : List Bool
 out : Bool
 til : Int
 times : Int
def Hlth.D (h : Hlth) : List D := [.rows 1 (h.marks.map HB),.bool h.out,I h.til,I h.times]
def Hlth.Ok (w : Wtch) (h : Hlth) : Prop := (h.marks.length : Int) ≤ w.window ∧ 0 ≤ h.times ∧ h.times ≤ 10 ∧ 0 ≤ h.til ∧ h.til ≤ 1099511628276 ∧ (h.out = false → h.til = 0)
theorem inH {z : Int} (h1 : -9223372036854775808 ≤ z) (h2 : z ≤ 9223372036854775807) : InR z := ⟨h1,h2⟩
theorem hcheck_code : cfun Tryz.prog [] 63 = some ⟨(.seq (.region 0 [oB 1 0,oK 2 0]) (.seq (.seq (.region 1 [oF 3 0 1,oL 4 1 3,oX 5 (.bin .lss (.t 4) (kI 1)),oM 6 5,oG 7 (.fad 0 (.t 1)) 6 false,oG 8 (.load false 1 (.t 7)) 6 false,oG 9 (.bin .gtr (.t 8) (kI 16)) 6 false,oX 10 (.pick (.t 6) (.k (.bool true)) (.t 9)),oM 11 10,oG 12 (.fad 1 (.t 1)) 11 false,oG 13 (.load false 1 (.t 12)) 11 false,oG 14 (.bin .lss (.t 13) (kI 1)) 11 false,oX 15 (.pick (.t 11) (.k (.bool true)) (.t 14)),oM 16 15,oG 17 (.fad 1 (.t 1)) 16 false,oG 18 (.load false 1 (.t 17)) 16 false,oG 19 (.fad 0 (.t 1)) 16 false,oG 20 (.load false 1 (.t 19)) 16 false,oG 21 (.bin .gtr (.t 18) (.t 20)) 16 false,oX 22 (.pick (.t 16) (.k (.bool true)) (.t 21)),oM 23 22,oG 24 (.fad 2 (.t 1)) 23 false,oG 25 (.load false 1 (.t 24)) 23 false,oG 26 (.bin .lss (.t 25) (kI 1)) 23 false,oX 27 (.pick (.t 23) (.k (.bool true)) (.t 26)),oM 28 27,oG 29 (.fad 2 (.t 1)) 28 false,oG 30 (.load false 1 (.t 29)) 28 false,oG 31 (.bin .gtr (.t 30) (kI 500)) 28 false,oX 32 (.pick (.t 28) (.k (.bool true)) (.t 31))]) (.cond 32 (.seq (.region 2 [oK 2 2]) .ret) .skip)) (.seq (.region 3 [oK 2 0]) .ret))),[(.t 2)],33⟩ := by kernel_rfl
theorem hcheck_pf (w : Wtch) (hw : w.Ok) : PF Tryz.prog 63 [.agg w.D] (I 0) := by
 obtain ⟨a1,a2,a3,a4,a5,a6⟩ := hw
 have c1 : ¬ w.window < 1 := by omega
 have c2 : ¬ 16 < w.window := by omega
 have c3 : ¬ w.fails < 1 := by omega
 have c4 : ¬ w.window < w.fails := by omega
 have c5 : ¬ w.hold < 1 := by omega
 have c6 : ¬ 500 < w.hold := by omega
 refine PF.of follows_ok hcheck_code (by simp) (by simp) (by simp [Wtch.D]) fun B hBN hB0 => acode_sound [0,1,2,32] [] _ _ _ ?_
 simp [Wtch.D,c1,c2,c3,c4,c5,c6]
theorem hopen_code : cfun Tryz.prog [] 109 = some ⟨(.seq (.region 0 [oB 3 0,oB 4 1,oK 6 0]) (.seq (.seq (.region 1 [oA 8 3 3,oX 9 (.call 63 [(.t 8)]),oM 7 9]) (.seq (.region 2 [oM 10 7,oX 11 (.bin .neq (.t 10) (kI 0))]) (.cond 11 (.seq (.region 3 [oM 12 7,oM 6 12]) .ret) .skip))) (.seq (.seq (.region 4 [oM 13 2,oX 14 (.bin .lss (.t 13) (kI 0)),oM 15 14,oG 16 (.mov (.t 2)) 15 false,oG 17 (.bin .gtr (.t 16) (kI 1099511627776)) 15 false,oX 18 (.pick (.t 15) (.k (.bool true)) (.t 17))]) (.cond 18 (.seq (.region 5 [oK 6 2]) .ret) .skip)) (.seq (.seq (.region 6 [oF 19 0 4,oL 20 1 19,oH 21 20,oF 22 0 3,oL 23 1 22,oX 24 (.bin .gtr (.t 21) (.t 23)),oM 25 24,oG 26 (.fad 3 (.t 4)) 25 false,oG 27 (.load false 1 (.t 26)) 25 false,oG 28 (.bin .lss (.t 27) (kI 0)) 25 false,oX 29 (.pick (.t 25) (.k (.bool true)) (.t 28)),oM 30 29,oG 31 (.fad 3 (.t 4)) 30 false,oG 32 (.load false 1 (.t 31)) 30 false,oG 33 (.bin .gtr (.t 32) (kI 10)) 30 false,oX 34 (.pick (.t 30) (.k (.bool true)) (.t 33)),oM 35 34,oG 36 (.fad 2 (.t 4)) 35 false,oG 37 (.load false 1 (.t 36)) 35 false,oG 38 (.bin .lss (.t 37) (kI 0)) 35 false,oX 39 (.pick (.t 35) (.k (.bool true)) (.t 38)),oM 40 39,oG 41 (.fad 2 (.t 4)) 40 false,oG 42 (.load false 1 (.t 41)) 40 false,oG 43 (.bin .gtr (.t 42) (kI 1099511628276)) 40 false,oX 44 (.pick (.t 40) (.k (.bool true)) (.t 43)),oM 45 44,oG 46 (.fad 1 (.t 4)) 45 false,oG 47 (.load false 1 (.t 46)) 45 false,oG 48 (.not (.t 47)) 45 false,oG 49 (.mov (.t 48)) 45 false,oG 50 (.fad 2 (.t 4)) 49 true,oG 51 (.load false 1 (.t 50)) 49 true,oG 52 (.bin .neq (.t 51) (kI 0)) 49 true,oG 53 (.pick (.t 49) (.t 52) (.k (.bool false))) 45 false,oX 54 (.pick (.t 45) (.k (.bool true)) (.t 53))]) (.cond 54 (.seq (.region 7 [oK 6 6]) .ret) .skip)) (.seq (.region 8 [oK 6 0]) .ret))))),[(.t 6)],55⟩ := by kernel_rfl
theorem hopen_pf (w : Wtch) (h : Hlth) (now : Int) (hw : w.Ok) (hh : h.Ok w) (n0 : 0 ≤ now) (n1 : now ≤ 1099511627776) : PF Tryz.prog 109 [.agg w.D,.agg h.D,I now] (I 0) := by
 obtain ⟨a1,a2,a3,a4,a5,a6⟩ := hh
 have c1 : ¬ now < 0 := by omega
 have c2 : ¬ 1099511627776 < now := by omega
 have c3 : ¬ w.window < h.marks.length := by omega
 have c4 : ¬ h.times < 0 := by omega
 have c5 : ¬ 10 < h.times := by omega
 have c6 : ¬ h.til < 0 := by omega
 have c7 : ¬ 1099511628276 < h.til := by omega
 refine PF.of follows_ok hopen_code (by simp) (by simp) (by simp [Wtch.D,Hlth.D]) fun B hBN hB0 => acode_sound [0,1,2,3,4,6,7,11,18,54] [] _ _ _ ?_
 simp [Wtch.D,Hlth.D]
 cases ho : h.out with
 | true =>
  repeat' (first
   | simp [Wtch.D,Hlth.D,c1,c2,c3,c4,c5,c6,c7,ho]
   | refine ⟨wcS ?_,?_⟩
   | (refine WCall.pf (hcheck_pf w hw) ?_ ?_ ?_ ?_;iterate 3 (solve|simp [Wtch.D,Hlth.D,c1,c2,c3,c4,c5,c6,c7,ho]))
   | with_reducible refine aI ?_ ?_ ?_)
 | false =>
  have c8 := a6 ho
  repeat' (first
   | simp [Wtch.D,Hlth.D,c1,c2,c3,c4,c5,c8,ho]
   | refine ⟨wcS ?_,?_⟩
   | (refine WCall.pf (hcheck_pf w hw) ?_ ?_ ?_ ?_;iterate 3 (solve|simp [Wtch.D,Hlth.D,c1,c2,c3,c4,c5,c8,ho]))
   | with_reducible refine aI ?_ ?_ ?_)
theorem hfails_code : cfun Tryz.prog [] 172 = some ⟨(.seq (.region 0 [oK 2 0]) (.seq (.region 1 [oK 3 0]) (.seq (.seq (.region 2 [oM 6 0,oH 7 6,oK 8 0]) (.block 0 (.loop (.seq (.region 3 [oX 9 (.bin .lss (.t 8) (.t 7))]) (.seq (.cond 9 .skip (.exit 0)) (.seq (.block 1 (.seq (.region 4 [oI 10 1 6 8,oL 11 1 10,oM 5 11]) (.seq (.region 5 [oM 12 5]) (.cond 12 (.region 6 [oM 13 3,oX 14 (.bin .add (.t 13) (kI 1)),oM 3 14]) .skip)))) (.region 7 [oX 15 (.bin .add (.t 8) (kI 1)),oM 8 15]))))))) (.seq (.region 8 [oM 16 3,oM 2 16]) .ret)))),[(.t 2)],17⟩ := by kernel_rfl
theorem hfails_pf (l : List Bool) (hl : l.length < 1000000) : PF Tryz.prog 172 [.rows 1 (l.map HB)] (I (l.count true : Nat)) := by
 refine PF.of follows_ok hfails_code (by simp) (by simp) (by simp) fun B hBN hB0 => acode_sound [0,2,3,5,6,7,8,9,12] [] _ _ _ ?_
 simp
 refine W.loopS (fun i : Nat => ⟨[(8,I i),(7,I l.length),(6,D.rows 1 (l.map HB)),(3,I ((l.take i).count true : Nat)),(2,I 0)],[],0⟩)
  (fun n i => n = l.length - i ∧ i ≤ l.length) ?_ ?_
 ·exact ⟨_,0,(gr0 [] hB0 (by simp) (by simp) (.inr rfl)),rfl,by simp⟩
 ·rintro n i ⟨hn,hi⟩
  refine acode_sound [0,2,3,5,6,7,8,9,12] [] _ _ _ ?_
  by_cases hlt : i < l.length
  ·have hts : (l.take (i + 1)).count true = (l.take i).count true + if l[i] then 1 else 0 := by
    rw [List.take_succ_eq_append_getElem hlt,List.count_append]
    cases l[i] <;> simp
   have hc := List.count_le_length (a := true) (l := l.take i)
   have hll : (l.take i).length ≤ l.length := by simp;omega
   have i1 : InR ((i : Int) + 1) := inH (by omega) (by omega)
   have i2 : InR (((l.take i).count true : Nat) + (1 : Int)) := inH (by omega) (by omega)
   cases hv : l[i] with
   | true =>
    simp [hv] at hts
    simp [hlt,hv,HB,i1,i2]
    exact ⟨_,i + 1,(gr0 [] hB0 (by simp [hts]) (by simp [hts]) (.inr rfl)),by omega,rfl,by omega⟩
   | false =>
    simp [hv] at hts
    simp [hlt,hv,HB,i1,i2]
    exact ⟨_,i + 1,(gr0 [] hB0 (by simp [hts]) (by simp [hts]) (.inr rfl)),by omega,rfl,by omega⟩
  ·have hie : i = l.length := by omega
   subst hie
   simp
theorem cloneb_code : cfun Tryz.prog [] 78 = some ⟨(.seq (.region 0 [oX 2 (.mov (.k .nil0))]) (.seq (.seq (.region 1 [oM 3 0,oX 4 (.isnil false (.t 3))]) (.cond 4 (.seq (.region 2 [oX 2 (.mov (.k .nil0))]) .ret) .skip)) (.seq (.region 3 [oX 5 (.bslice 1 0 [(.bool false)] []),oM 6 0,oX 7 (.app 1 1 [(.bool false)] (.t 5) (.t 6)),oM 2 7]) .ret))),[(.t 2)],8⟩ := by kernel_rfl
theorem cloneb_hf (l : List Bool) (hl : l.length < 1000000) : HF Tryz.prog 78 [.rows 1 (l.map HB)] [] 0 (fun d H' nx' => (d = .nil0 ∧ l = [] ∧ H' = [] ∧ nx' = 0) ∨ (d = .own 1 ∧ H' = [(1,.row 1 (l.map HB))] ∧ nx' = 2)) := by
 have h2 : l.length ≤ 140737488355328 := by omega
 refine HF.of follows_ok cloneb_code (by simp) (by simp) (by simp) fun B hBN hB0 => acode_sound [0,2,4] [] _ _ _ ?_
 simp
 refine ⟨?_,h2⟩
 rintro row (⟨_,rfl⟩ | ⟨_,rfl⟩) <;> rfl
theorem cloneb_pfn (l : List Bool) (hl : l.length < 1000000) : PFn Tryz.prog 78 [.rows 1 (l.map HB)] (.rows 1 (l.map HB)) := by
 have h2 : l.length ≤ 140737488355328 := by omega
 refine PFn.of follows_ok cloneb_code (by simp) (by simp) (by simp) fun B hBN hB0 => acode_sound [0,2,4] [] _ _ _ ?_
 simp
 refine ⟨?_,h2,?_⟩
 ·rintro row (⟨_,rfl⟩ | ⟨_,rfl⟩) <;> rfl
 ·rintro row (⟨_,rfl⟩ | ⟨_,rfl⟩) d hd <;> (simp [HB] at hd;subst hd;rfl)
def pushM (n : Nat) (m : List Bool) (b : Bool) : List Bool := (m ++ [b]).drop (m.length + 1 - n)
def noteH (w : Wtch) (h : Hlth) (failed : Bool) (now : Int) (may : Bool) : Hlth × Bool :=
 let m := pushM w.window.toNat h.marks failed
 if h.out = true ∨ may = false ∨ ((m.count true : Nat) : Int) < w.fails then (⟨m,h.out,h.til,h.times⟩,false)
 else (⟨[],true,now + min (w.hold * 2 ^ h.times.toNat) 500,min (h.times + 1) 10⟩,true)
theorem pow_bd (t : Nat) (h : t ≤ 10) : 1 ≤ (2 : Int) ^ t ∧ (2 : Int) ^ t ≤ 1024 := by
 have h1 : 1 ≤ 2 ^ t := Nat.one_le_two_pow
 have h2 : 2 ^ t ≤ 2 ^ 10 := Nat.pow_le_pow_right (by omega) h
 have e : ((2 ^ t : Nat) : Int) = (2 : Int) ^ t := by push_cast;rfl
 omega
theorem hnote_code : cfun Tryz.prog [] 144 = some ⟨(.seq (.region 0 [oB 5 0,oB 6 1,oX 10 (.alloc [.nil0,(.bool false),(.int .i64 0),(.int .i64 0)]),oX 11 (.mov (.k (.bool false))),oK 12 0]) (.seq (.seq (.region 1 [oA 16 3 5,oA 17 4 6,oM 18 3,oX 19 (.call 109 [(.t 16),(.t 17),(.t 18)]),oM 13 19]) (.seq (.region 2 [oM 20 13,oX 21 (.bin .neq (.t 20) (kI 0))]) (.cond 21 (.seq (.region 3 [oX 22 (.build [.nil0,(.bool false),(.int .i64 0),(.int .i64 0)] []),oM 23 13,oS 4 10 22,oX 11 (.mov (.k (.bool false))),oM 12 23]) .ret) .skip))) (.seq (.region 4 [oF 24 0 6,oL 25 1 24,oX 26 (.call 78 [(.t 25)]),oM 27 2,oX 28 (.bslice 1 1 [(.bool false)] [(0,(.t 27))]),oX 29 (.app 1 1 [(.bool false)] (.t 26) (.t 28)),oF 30 0 6,oS 1 30 29]) (.seq (.seq (.region 5 [oF 31 0 6,oL 32 1 31,oH 33 32,oF 34 0 5,oL 35 1 34,oX 36 (.bin .sub (.t 33) (.t 35)),oM 14 36]) (.seq (.region 6 [oM 37 14,oX 38 (.bin .gtr (.t 37) (kI 0))]) (.cond 38 (.region 7 [oF 39 0 6,oL 40 1 39,oM 41 14,oX 42 (.slc 1 (.t 40) (some (.t 41)) none none),oF 43 0 6,oS 1 43 42]) .skip))) (.seq (.seq (.draw 8 (.one true (oF 44 1 6) (.one true (oL 45 1 44) (.one true (oM 46 45) (.one true (oG 47 (.mov (.t 4)) 46 false) (.one true (oG 48 (.not (.t 47)) 46 false) (.one true (oX 49 (.pick (.t 46) (.k (.bool true)) (.t 48))) (.one true (oM 50 49) (.one true (oG 51 (.fad 0 (.t 6)) 50 false) (.one true (oG 52 (.load false 1 (.t 51)) 50 false) (.one true (oG 54 (.fad 1 (.t 5)) 50 false) (.one true (oG 55 (.load false 1 (.t 54)) 50 false) (.one true (oG 53 (.call 172 [(.t 52)]) 50 false) (.one true (oG 56 (.bin .lss (.t 53) (.t 55)) 50 false) (.one true (oX 57 (.pick (.t 50) (.k (.bool true)) (.t 56))) .done))))))))))))))) (.cond 57 (.seq (.region 9 [oA 58 4 6,oS 4 10 58,oX 11 (.mov (.k (.bool false))),oK 12 0]) .ret) .skip)) (.seq (.region 10 [oF 59 2 5,oL 60 1 59,oF 61 3 6,oL 62 1 61,oX 63 (.bin .shl (.t 60) (.t 62)),oX 64 (.mn (.t 63) (kI 500)),oM 15 64]) (.seq (.region 11 [oM 65 3,oM 66 15,oX 67 (.bin .add (.t 65) (.t 66)),oF 68 3 6,oL 69 1 68,oX 70 (.bin .add (.t 69) (kI 1)),oX 71 (.mn (.t 70) (kI 10)),oX 72 (.build [.nil0,(.bool false),(.int .i64 0),(.int .i64 0)] [(1,(1,(.k (.bool true)))),(2,(1,(.t 67))),(3,(1,(.t 71)))]),oS 4 10 72,oX 11 (.mov (.k (.bool true))),oK 12 0]) .ret))))))),[(.c 10 true 4),(.t 11),(.t 12)],73⟩ := by kernel_rfl
theorem hnote_pf (w : Wtch) (h : Hlth) (failed may : Bool) (now : Int) (hw : w.Ok) (hh : h.Ok w) (n0 : 0 ≤ now) (n1 : now ≤ 1099511627776) :
  PF Tryz.prog 144 [.agg w.D,.agg h.D,.bool failed,I now,.bool may] (.tup [.agg (noteH w h failed now may).1.D,.bool (noteH w h failed now may).2,I 0]) := by
 have hh' := hh
 obtain ⟨a1,a2,a3,a4,a5,a6⟩ := hh'
 have hw' := hw
 obtain ⟨w1,w2,w3,w4,w5,w6⟩ := hw'
 have hp := pow_bd h.times.toNat (by omega)
 have hm1 : w.hold * 2 ^ h.times.toNat ≤ 500 * 1024 := Int.mul_le_mul w6 hp.2 (by omega) (by omega)
 have hm0 : 0 ≤ w.hold * 2 ^ h.times.toNat := Int.mul_nonneg (by omega) (by omega)
 have hsh : min h.times.toNat 64 = h.times.toNat := by omega
 have hpush : (h.marks.length : Int) < w.window → pushM w.window.toNat h.marks failed = h.marks ++ [failed] := fun hl => by
  unfold pushM
  rw [show h.marks.length + 1 - w.window.toNat = 0 by omega];rfl
 have hcap : h.marks.length + 1 ≤ 140737488355328 := by omega
 have hpl : (pushM w.window.toNat h.marks failed).length < 1000000 := by unfold pushM;simp;omega
 have j1 : InR (1 - w.window) := inH (by omega) (by omega)
 have j2 : InR (h.marks.length + 1 - w.window) := inH (by omega) (by omega)
 have j3 : InR (w.hold * 2 ^ h.times.toNat) := inH (by omega) (by omega)
 have j4 : InR (now + min (w.hold * 2 ^ h.times.toNat) 500) := inH (by omega) (by omega)
 have j5 : InR (h.times + 1) := inH (by omega) (by omega)
 have k1 : ¬ w.window < 1 := by omega
 obtain ⟨pm,hpm⟩ : ∃ pm,pm = pushM w.window.toNat h.marks failed := ⟨_,rfl⟩
 rw [← hpm] at hpl
 obtain ⟨B',hB'⟩ : ∃ st : St,st = ⟨[(12,I 0),(11,.bool false),(10,.ptr 2 0),(6,.ptr 1 0),(5,.ptr 0 0),(4,.bool may),(3,I now)],[(2,.cells [.nil0,.bool false,I 0,I 0]),(1,.cells [.rows 1 (pm.map HB),.bool h.out,I h.til,I h.times]),(0,.cells [I w.window,I w.fails,I w.hold])],3⟩ := ⟨_,rfl⟩
 refine PF.of follows_ok hnote_code (by simp) (by simp) (by simp [Wtch.D,Hlth.D]) fun B hBN hB0 => acode_sound [0,1,2,3,4,5,6,10,11,12,13,14,15,21,38,57] [7,8] _ _ _ ?_
 simp [Wtch.D,Hlth.D]
 repeat' (first
  | simp [Wtch.D,Hlth.D]
  | refine ⟨wcS ?_,?_⟩
  | (refine WCall.pf (hopen_pf w h now hw hh n0 n1) ?_ ?_ ?_ ?_;iterate 3 (solve|simp [Wtch.D,Hlth.D]))
  | with_reducible refine aI ?_ ?_ ?_)
 refine WCall.hf0 (cloneb_hf h.marks (by omega)) (by simp) (by simp) (by simp) (by simp) ?_
 rintro d H' nx' (⟨rfl,h0,rfl,rfl⟩ | ⟨rfl,rfl,rfl⟩)
 ·have hpm1 : pm = [failed] := by
   rw [hpm,h0];unfold pushM
   rw [show ([] : List Bool).length + 1 - w.window.toNat = 0 by simp;omega];rfl
  simp [h0,j1,k1]
  refine W.gh (st1 := B') ((Gh.freeze [4]).trans ?_) ?_
  ·simp [freeze,hkeep,hdrop,fzS,fzR,fzV,fzC,fzO,hB']
   exact (gr0 [] hB0 (by simp [hpm1,HB]) (by simp [hpm1,HB]) (.inr rfl))
  rw [hB']
  refine acode_sound [0,1,2,3,4,5,6,10,11,12,13,14,15,21,38,57] [] _ _ _ ?_
  cases ho : h.out with
  | true =>
   simp [noteH,ho,← hpm,Hlth.D]
  | false =>
   cases may with
   | false =>
    simp [noteH,ho,← hpm,Hlth.D]
   | true =>
    by_cases hc : ((pm.count true : Nat) : Int) < w.fails
    ·skip
     repeat' (first
      | simp [ho,← hpm,Hlth.D,noteH,hc]
      | refine ⟨wcS ?_,?_⟩
      | (refine WCall.pf (hfails_pf pm hpl) ?_ ?_ ?_ ?_;iterate 3 (solve|simp [ho,← hpm,Hlth.D,noteH,hc]))
      | with_reducible refine aI ?_ ?_ ?_)
    ·skip
     repeat' (first
      | simp [ho,← hpm,Hlth.D,noteH,hc,j3,j4,j5,hsh,a2,IntKind.bits]
      | refine ⟨wcS ?_,?_⟩
      | (refine WCall.pf (hfails_pf pm hpl) ?_ ?_ ?_ ?_;iterate 3 (solve|simp [ho,← hpm,Hlth.D,noteH,hc,j3,j4,j5,hsh,a2,IntKind.bits]))
      | with_reducible refine aI ?_ ?_ ?_)
 ·by_cases hfull : w.window < h.marks.length + 1
  ·have hpm1 : pm.map HB = (h.marks.map HB ++ [[D.bool failed]]).drop (h.marks.length + 1 - w.window).toNat := by
    rw [hpm];unfold pushM
    rw [show h.marks.length + 1 - w.window.toNat = (h.marks.length + 1 - w.window).toNat by omega]
    simp [HB]
   have q1 : w.window ≤ (h.marks.length : Int) + 1 := by omega
   have q2 : (h.marks.length : Int) + 1 - w.window ≤ h.marks.length + 1 := by omega
   simp [hcap,j2,hfull]
   refine W.freeze [6] ?_
   simp [freeze,hkeep,hdrop,fzS,fzR,fzV,fzC,fzO]
   refine acode_sound [0,1,2,3,4,5,6,10,11,12,13,14,15,21,38,57] [7,8] _ _ _ ?_
   simp
   refine acode_sound [0,1,2,3,4,5,6,10,11,12,13,14,15,21,38,57] [8] _ _ _ ?_
   simp [q1,q2]
   refine W.gh (st1 := B') ((Gh.freeze []).trans ?_) ?_
   ·simp [freeze,hkeep,hdrop,fzS,fzR,fzV,fzC,fzO,hB']
    exact (gr0 [] hB0 (by simp [hpm1,show (h.marks.map HB ++ [[D.bool failed]]).take (h.marks.length + 1) = h.marks.map HB ++ [[D.bool failed]] from List.take_of_length_le (by simp)]) (by simp [hpm1,show (h.marks.map HB ++ [[D.bool failed]]).take (h.marks.length + 1) = h.marks.map HB ++ [[D.bool failed]] from List.take_of_length_le (by simp)]) (.inr rfl))
   rw [hB']
   refine acode_sound [0,1,2,3,4,5,6,10,11,12,13,14,15,21,38,57] [] _ _ _ ?_
   cases ho : h.out with
   | true =>
    simp [noteH,ho,← hpm,Hlth.D]
   | false =>
    cases may with
    | false =>
     simp [noteH,ho,← hpm,Hlth.D]
    | true =>
     by_cases hc : ((pm.count true : Nat) : Int) < w.fails
     ·skip
      repeat' (first
       | simp [ho,← hpm,Hlth.D,noteH,hc]
       | refine ⟨wcS ?_,?_⟩
       | (refine WCall.pf (hfails_pf pm hpl) ?_ ?_ ?_ ?_;iterate 3 (solve|simp [ho,← hpm,Hlth.D,noteH,hc]))
       | with_reducible refine aI ?_ ?_ ?_)
     ·skip
      repeat' (first
       | simp [ho,← hpm,Hlth.D,noteH,hc,j3,j4,j5,hsh,a2,IntKind.bits]
       | refine ⟨wcS ?_,?_⟩
       | (refine WCall.pf (hfails_pf pm hpl) ?_ ?_ ?_ ?_;iterate 3 (solve|simp [ho,← hpm,Hlth.D,noteH,hc,j3,j4,j5,hsh,a2,IntKind.bits]))
       | with_reducible refine aI ?_ ?_ ?_)
  ·have hpm1 : pm = h.marks ++ [failed] := by rw [hpm];exact hpush (by omega)
   simp [hcap,j2,hfull]
   refine W.gh (st1 := B') ((Gh.freeze [6]).trans ?_) ?_
   ·simp [freeze,hkeep,hdrop,fzS,fzR,fzV,fzC,fzO,hB']
    exact (gr0 [] hB0 (by simp [hpm1,HB]) (by simp [hpm1,HB]) (.inr rfl))
   rw [hB']
   refine acode_sound [0,1,2,3,4,5,6,10,11,12,13,14,15,21,38,57] [] _ _ _ ?_
   cases ho : h.out with
   | true =>
    simp [noteH,ho,← hpm,Hlth.D]
   | false =>
    cases may with
    | false =>
     simp [noteH,ho,← hpm,Hlth.D]
    | true =>
     by_cases hc : ((pm.count true : Nat) : Int) < w.fails
     ·skip
      repeat' (first
       | simp [ho,← hpm,Hlth.D,noteH,hc]
       | refine ⟨wcS ?_,?_⟩
       | (refine WCall.pf (hfails_pf pm hpl) ?_ ?_ ?_ ?_;iterate 3 (solve|simp [ho,← hpm,Hlth.D,noteH,hc]))
       | with_reducible refine aI ?_ ?_ ?_)
     ·skip
      repeat' (first
       | simp [ho,← hpm,Hlth.D,noteH,hc,j3,j4,j5,hsh,a2,IntKind.bits]
       | refine ⟨wcS ?_,?_⟩
       | (refine WCall.pf (hfails_pf pm hpl) ?_ ?_ ?_ ?_;iterate 3 (solve|simp [ho,← hpm,Hlth.D,noteH,hc,j3,j4,j5,hsh,a2,IntKind.bits]))
       | with_reducible refine aI ?_ ?_ ?_)
def backH (h : Hlth) (now : Int) : Hlth × Bool := if h.out = true ∧ h.til ≤ now then (⟨h.marks,false,0,h.times⟩,true) else (h,false)
theorem hback_code : cfun Tryz.prog [] 68 = some ⟨(.seq (.region 0 [oB 3 0,oB 4 1,oX 6 (.alloc [.nil0,(.bool false),(.int .i64 0),(.int .i64 0)]),oX 7 (.mov (.k (.bool false))),oK 8 0]) (.seq (.seq (.region 1 [oA 10 3 3,oA 11 4 4,oM 12 2,oX 13 (.call 109 [(.t 10),(.t 11),(.t 12)]),oM 9 13]) (.seq (.region 2 [oM 14 9,oX 15 (.bin .neq (.t 14) (kI 0))]) (.cond 15 (.seq (.region 3 [oX 16 (.build [.nil0,(.bool false),(.int .i64 0),(.int .i64 0)] []),oM 17 9,oS 4 6 16,oX 7 (.mov (.k (.bool false))),oM 8 17]) .ret) .skip))) (.seq (.region 4 [oF 18 0 4,oL 19 1 18,oX 20 (.call 78 [(.t 19)]),oF 21 0 4,oS 1 21 20]) (.seq (.seq (.region 5 [oF 22 1 4,oL 23 1 22,oX 24 (.not (.t 23)),oM 25 24,oG 26 (.fad 2 (.t 4)) 25 false,oG 27 (.load false 1 (.t 26)) 25 false,oG 28 (.mov (.t 2)) 25 false,oG 29 (.bin .gtr (.t 27) (.t 28)) 25 false,oX 30 (.pick (.t 25) (.k (.bool true)) (.t 29))]) (.cond 30 (.seq (.region 6 [oA 31 4 4,oS 4 6 31,oX 7 (.mov (.k (.bool false))),oK 8 0]) .ret) .skip)) (.seq (.region 7 [oF 32 1 4,oY (.store 1 (.t 32) (.k (.bool false))),oF 33 2 4,oY (.store 1 (.t 33) (kI 0))]) (.seq (.region 8 [oA 34 4 4,oS 4 6 34,oX 7 (.mov (.k (.bool true))),oK 8 0]) .ret)))))),[(.c 6 true 4),(.t 7),(.t 8)],35⟩ := by kernel_rfl
theorem hback_pf (w : Wtch) (h : Hlth) (now : Int) (hw : w.Ok) (hh : h.Ok w) (n0 : 0 ≤ now) (n1 : now ≤ 1099511627776) :
  PF Tryz.prog 68 [.agg w.D,.agg h.D,I now] (.tup [.agg (backH h now).1.D,.bool (backH h now).2,I 0]) := by
 obtain ⟨a1,a2,a3,a4,a5,a6⟩ := id hh
 obtain ⟨w1,w2,w3,w4,w5,w6⟩ := id hw
 refine PF.of follows_ok hback_code (by simp) (by simp) (by simp [Wtch.D,Hlth.D]) fun B hBN hB0 => acode_sound [0,1,2,3,4,6,7,8,9,15,30] [] _ _ _ ?_
 simp [Wtch.D,Hlth.D]
 cases ho : h.out with
 | false =>
  repeat' (first
   | simp [Wtch.D,Hlth.D,ho,backH]
   | refine ⟨wcS ?_,?_⟩
   | (refine WCall.pf (hopen_pf w h now hw hh n0 n1) ?_ ?_ ?_ ?_;iterate 3 (solve|simp [Wtch.D,Hlth.D,ho,backH]))
   | (refine WCall.pfn (cloneb_pfn h.marks (by omega)) ?_ ?_ ?_;iterate 2 (solve|simp [Wtch.D,Hlth.D,ho,backH]))
   | with_reducible refine aI ?_ ?_ ?_)
 | true =>
  by_cases ht : h.til ≤ now
  ·have ht2 : ¬ now < h.til := by omega
   repeat' (first
    | simp [Wtch.D,Hlth.D,ho,ht,ht2,backH]
    | refine ⟨wcS ?_,?_⟩
    | (refine WCall.pf (hopen_pf w h now hw hh n0 n1) ?_ ?_ ?_ ?_;iterate 3 (solve|simp [Wtch.D,Hlth.D,ho,ht,ht2,backH]))
    | (refine WCall.pfn (cloneb_pfn h.marks (by omega)) ?_ ?_ ?_;iterate 2 (solve|simp [Wtch.D,Hlth.D,ho,ht,ht2,backH]))
    | with_reducible refine aI ?_ ?_ ?_)
  ·have ht2 : now < h.til := by omega
   repeat' (first
    | simp [Wtch.D,Hlth.D,ho,ht,ht2,backH]
    | refine ⟨wcS ?_,?_⟩
    | (refine WCall.pf (hopen_pf w h now hw hh n0 n1) ?_ ?_ ?_ ?_;iterate 3 (solve|simp [Wtch.D,Hlth.D,ho,ht,ht2,backH]))
    | (refine WCall.pfn (cloneb_pfn h.marks (by omega)) ?_ ?_ ?_;iterate 2 (solve|simp [Wtch.D,Hlth.D,ho,ht,ht2,backH]))
    | with_reducible refine aI ?_ ?_ ?_)
theorem pushM_len (n : Nat) (m : List Bool) (b : Bool) (h : m.length ≤ n) (h1 : 1 ≤ n) : (pushM n m b).length = min (m.length + 1) n := by unfold pushM;simp;omega
theorem watch_code : cfun Tryz.prog [] 49 = some ⟨(.seq (.region 0 [oX 6 (.alloc [(.int .i64 0),(.int .i64 0),(.int .i64 0)])]) (.seq (.region 1 [oM 8 0,oX 9 (.call 31 [(.t 8),(kI 16)]),oX 10 (.bin .add (kI 1) (.t 9)),oM 7 10]) (.seq (.region 2 [oM 11 7,oM 12 1,oM 13 7,oX 14 (.call 31 [(.t 12),(.t 13)]),oX 15 (.bin .add (kI 1) (.t 14)),oM 16 2,oX 17 (.call 31 [(.t 16),(kI 500)]),oX 18 (.bin .add (kI 1) (.t 17)),oX 19 (.build [(.int .i64 0),(.int .i64 0),(.int .i64 0)] [(0,(1,(.t 11))),(1,(1,(.t 15))),(2,(1,(.t 18)))]),oS 3 6 19]) .ret))),[(.c 6 true 3)],20⟩ := by kernel_rfl
def watchOf (window fails hold : Int) : Wtch := ⟨1 + pickedZ window 16,1 + pickedZ fails (1 + pickedZ window 16),1 + pickedZ hold 500⟩
theorem watchOf_ok (window fails hold : Int) : (watchOf window fails hold).Ok := by
 have h1 := pickedZ_range window 16 (by omega)
 have h2 := pickedZ_range fails (1 + pickedZ window 16) (by omega)
 have h3 := pickedZ_range hold 500 (by omega)
 unfold Wtch.Ok watchOf
 simp only
 omega
theorem watch_pf (window fails hold : Int) (h1 : InR window) (h2 : InR fails) (h3 : InR hold) : PF Tryz.prog 49 [I window,I fails,I hold] (.agg (watchOf window fails hold).D) := by
 have r1 := pickedZ_range window 16 (by omega)
 obtain ⟨n,hn⟩ : ∃ n,n = 1 + pickedZ window 16 := ⟨_,rfl⟩
 have r2 := pickedZ_range fails n (by omega)
 have r3 := pickedZ_range hold 500 (by omega)
 have i1 : InR n := inH (by omega) (by omega)
 have i2 : InR (1 + pickedZ fails n) := inH (by omega) (by omega)
 have i3 : InR (1 + pickedZ hold 500) := inH (by omega) (by omega)
 refine PF.of follows_ok watch_code (by simp) (by simp) (by simp) fun B hBN hB0 => acode_sound [0,1,2,6,7] [] _ _ _ ?_
 simp
 repeat' (first
  | simp [← hn,i1]
  | refine ⟨wcS ?_,?_⟩
  | (refine WCall.pf (picked_pf window 16 h1 (by omega)) ?_ ?_ ?_ ?_;iterate 3 (solve|simp [← hn,i1]))
  | with_reducible refine aI ?_ ?_ ?_)
 repeat' (first
  | simp [i2,i3,watchOf,← hn,Wtch.D]
  | refine ⟨wcS ?_,?_⟩
  | (refine WCall.pf (picked_pf fails n h2 (by omega)) ?_ ?_ ?_ ?_;iterate 3 (solve|simp [i2,i3,watchOf,← hn,Wtch.D]))
  | (refine WCall.pf (picked_pf hold 500 h3 (by omega)) ?_ ?_ ?_ ?_;iterate 3 (solve|simp [i2,i3,watchOf,← hn,Wtch.D]))
  | with_reducible refine aI ?_ ?_ ?_)
structure Load where
 backend : Int
 weight : Int
 flows : Int
def Load.D (l : Load) : List D := [I l.backend,I l.weight,I l.flows]
def mayL : Int → List Load → Prop
 | _,[] => True
 | p,x :: t => (p < x.backend ∧ x.backend < 12 ∧ 0 ≤ x.weight ∧ x.weight ≤ 8 ∧ 0 ≤ x.flows ∧ x.flows ≤ 40) ∧ mayL x.backend t
theorem inr {z : Int} (h1 : -9223372036854775808 ≤ z) (h2 : z ≤ 9223372036854775807) : InR z := ⟨h1,h2⟩
def factorB (num den : Int) : Bool := decide (1 ≤ den ∧ den ≤ num ∧ num ≤ 20)
theorem factor_code : cfun Tryz.prog [] 42 = some ⟨(.seq (.region 0 [oX 4 (.mov (.k (.bool false)))]) (.seq (.region 1 [oM 5 1,oX 6 (.bin .geq (.t 5) (kI 1)),oM 7 6,oG 8 (.mov (.t 0)) 7 true,oG 9 (.mov (.t 1)) 7 true,oG 10 (.bin .geq (.t 8) (.t 9)) 7 true,oX 11 (.pick (.t 7) (.t 10) (.k (.bool false))),oM 12 11,oG 13 (.mov (.t 0)) 12 true,oG 14 (.bin .leq (.t 13) (kI 20)) 12 true,oX 15 (.pick (.t 12) (.t 14) (.k (.bool false))),oM 4 15]) .ret)),[(.t 4)],16⟩ := by kernel_rfl
theorem factor_pf (num den : Int) : PF Tryz.prog 42 [I num,I den] (.bool (factorB num den)) := by
 refine PF.of follows_ok factor_code (by simp) (by simp) (by simp) fun B hBN hB0 => acode_sound [0,1,4] [] _ _ _ ?_
 simp [factorB]
 by_cases h1 : 1 ≤ den <;> by_cases h2 : den ≤ num <;> by_cases h3 : num ≤ 20 <;> simp [h1,h2,h3]
def capZ (num den flows weight total : Int) : Int := (num * (flows + 1) * weight + den * total - 1) / (den * total)
theorem cap_code : cfun Tryz.prog [] 24 = some ⟨(.seq (.region 0 [oK 10 0,oK 11 0]) (.seq (.seq (.region 1 [oM 14 0,oM 15 1,oX 16 (.call 42 [(.t 14),(.t 15)]),oX 17 (.not (.t 16)),oM 18 17,oG 19 (.mov (.t 2)) 18 false,oG 20 (.bin .lss (.t 19) (kI 0)) 18 false,oX 21 (.pick (.t 18) (.k (.bool true)) (.t 20)),oM 22 21,oG 23 (.mov (.t 2)) 22 false,oG 24 (.bin .gtr (.t 23) (kI 40)) 22 false,oX 25 (.pick (.t 22) (.k (.bool true)) (.t 24)),oM 26 25,oG 27 (.mov (.t 3)) 26 false,oG 28 (.bin .lss (.t 27) (kI 1)) 26 false,oX 29 (.pick (.t 26) (.k (.bool true)) (.t 28)),oM 30 29,oG 31 (.mov (.t 4)) 30 false,oG 32 (.mov (.t 3)) 30 false,oG 33 (.bin .lss (.t 31) (.t 32)) 30 false,oX 34 (.pick (.t 30) (.k (.bool true)) (.t 33)),oM 35 34,oG 36 (.mov (.t 4)) 35 false,oG 37 (.bin .gtr (.t 36) (kI 96)) 35 false,oX 38 (.pick (.t 35) (.k (.bool true)) (.t 37))]) (.cond 38 (.seq (.region 2 [oK 10 0,oK 11 2]) .ret) .skip)) (.seq (.region 3 [oM 39 0,oM 40 2,oX 41 (.bin .add (.t 40) (kI 1)),oX 42 (.bin .mul (.t 39) (.t 41)),oM 43 3,oX 44 (.bin .mul (.t 42) (.t 43)),oM 45 1,oM 46 4,oX 47 (.bin .mul (.t 45) (.t 46)),oM 12 44,oM 13 47]) (.seq (.region 4 [oM 48 12,oM 49 13,oX 50 (.bin .add (.t 48) (.t 49)),oX 51 (.bin .sub (.t 50) (kI 1)),oM 52 13,oX 53 (.bin .quo (.t 51) (.t 52)),oM 10 53,oK 11 0]) .ret)))),[(.t 10),(.t 11)],54⟩ := by kernel_rfl
theorem cap_pf (num den flows weight total : Int) (hf : factorB num den = true) (h1 : 0 ≤ flows) (h2 : flows ≤ 40) (h3 : 1 ≤ weight) (h4 : weight ≤ total) (h5 : total ≤ 96) :
  PF Tryz.prog 24 [I num,I den,I flows,I weight,I total] (.tup [I (capZ num den flows weight total),I 0]) := by
 have hf' := of_decide_eq_true hf
 refine PF.of follows_ok cap_code (by simp) (by simp) (by simp) fun B hBN hB0 => acode_sound [0,1,2,3,4,10,11,12,13,38] [] _ _ _ ?_
 have g1 : ¬ flows < 0 := by omega
 have g2 : ¬ 40 < flows := by omega
 have g3 : ¬ weight < 1 := by omega
 have g4 : ¬ total < weight := by omega
 have g5 : ¬ 96 < total := by omega
 simp
 refine WCall.pf (factor_pf num den) (by simp) (by simp) (by simp) ?_
 have b1 : 0 ≤ num * (flows + 1) ∧ num * (flows + 1) ≤ 20 * 41 := ⟨Int.mul_nonneg (by omega) (by omega),Int.mul_le_mul (by omega) (by omega) (by omega) (by omega)⟩
 have b2 : 0 ≤ num * (flows + 1) * weight ∧ num * (flows + 1) * weight ≤ 20 * 41 * 96 := ⟨Int.mul_nonneg b1.1 (by omega),Int.mul_le_mul b1.2 (by omega) (by omega) (by omega)⟩
 have b3 : 1 ≤ den * total := Int.mul_le_mul (a := 1) (b := 1) (by omega) (by omega) (by omega) (by omega)
 have b4 : den * total ≤ 20 * 96 := Int.mul_le_mul (by omega) (by omega) (by omega) (by omega)
 have b5 : 0 ≤ capZ num den flows weight total ∧ capZ num den flows weight total ≤ 20 * 41 * 96 + 20 * 96 := by
  unfold capZ
  refine ⟨Int.ediv_nonneg (by omega) (by omega),Int.le_trans (Int.ediv_le_self _ (by omega)) (by omega)⟩
 have i1 : InR (flows + 1) := inr (by omega) (by omega)
 have i2 : InR (num * (flows + 1)) := inr (by omega) (by omega)
 have i3 : InR (num * (flows + 1) * weight) := inr (by omega) (by omega)
 have i4 : InR (den * total) := inr (by omega) (by omega)
 have i5 : InR (num * (flows + 1) * weight + den * total) := inr (by omega) (by omega)
 have i6 : InR (num * (flows + 1) * weight + den * total - 1) := inr (by omega) (by omega)
 have i7 : InR (capZ num den flows weight total) := inr (by omega) (by omega)
 have i8 : 0 ≤ num * (flows + 1) * weight + den * total - 1 := by omega
 have i9 : 1 ≤ num * (flows + 1) * weight + den * total := by omega
 have i10 : 0 < den * total := by omega
 unfold capZ at i7
 simp [hf,g1,g2,g3,g4,g5,i1,i2,i3,i4,i5,i6,i7,i8,i9,i10,capZ]
theorem may_code : cfun Tryz.prog [] 102 = some ⟨(.seq (.region 0 [oX 2 (.mov (.k (.bool false)))]) (.seq (.seq (.region 1 [oM 6 0,oH 7 6,oX 8 (.bin .gtr (.t 7) (kI 12))]) (.cond 8 (.seq (.region 2 [oX 2 (.mov (.k (.bool false)))]) .ret) .skip)) (.seq (.region 3 [oK 3 (-1)]) (.seq (.seq (.region 4 [oM 9 0,oH 10 9,oK 11 0]) (.block 0 (.loop (.seq (.region 5 [oX 12 (.bin .lss (.t 11) (.t 10))]) (.seq (.cond 12 .skip (.exit 0)) (.seq (.block 1 (.seq (.region 6 [oI 13 3 9 11,oA 14 3 13,oX 5 (.alloc [(.int .i64 0),(.int .i64 0),(.int .i64 0)]),oS 3 5 14]) (.seq (.seq (.region 7 [oF 15 0 5,oL 16 1 15,oM 17 3,oX 18 (.bin .leq (.t 16) (.t 17)),oM 19 18,oG 20 (.fad 0 (.t 5)) 19 false,oG 21 (.load false 1 (.t 20)) 19 false,oG 22 (.bin .geq (.t 21) (kI 12)) 19 false,oX 23 (.pick (.t 19) (.k (.bool true)) (.t 22)),oM 24 23,oG 25 (.fad 1 (.t 5)) 24 false,oG 26 (.load false 1 (.t 25)) 24 false,oG 27 (.bin .lss (.t 26) (kI 0)) 24 false,oX 28 (.pick (.t 24) (.k (.bool true)) (.t 27)),oM 29 28,oG 30 (.fad 1 (.t 5)) 29 false,oG 31 (.load false 1 (.t 30)) 29 false,oG 32 (.bin .gtr (.t 31) (kI 8)) 29 false,oX 33 (.pick (.t 29) (.k (.bool true)) (.t 32)),oM 34 33,oG 35 (.fad 2 (.t 5)) 34 false,oG 36 (.load false 1 (.t 35)) 34 false,oG 37 (.bin .lss (.t 36) (kI 0)) 34 false,oX 38 (.pick (.t 34) (.k (.bool true)) (.t 37)),oM 39 38,oG 40 (.fad 2 (.t 5)) 39 false,oG 41 (.load false 1 (.t 40)) 39 false,oG 42 (.bin .gtr (.t 41) (kI 40)) 39 false,oX 43 (.pick (.t 39) (.k (.bool true)) (.t 42))]) (.cond 43 (.seq (.region 8 [oX 2 (.mov (.k (.bool false)))]) .ret) .skip)) (.region 9 [oF 44 0 5,oL 45 1 44,oM 3 45])))) (.region 10 [oX 46 (.bin .add (.t 11) (kI 1)),oM 11 46]))))))) (.seq (.region 11 [oX 2 (.mov (.k (.bool true)))]) .ret))))),[(.t 2)],47⟩ := by kernel_rfl
theorem may_pf (l : List Load) (h12 : l.length ≤ 12) (hl : mayL (-1) l) : PF Tryz.prog 102 [.rows 3 (l.map Load.D)] (.bool true) := by
 refine PF.of follows_ok may_code (by simp) (by simp) (by simp) fun B hBN hB0 => acode_sound [0,2,3,5,8,9,10,11,12,43] [] _ _ _ ?_
 have g1 : ¬ (12 : Int) < l.length := by omega
 simp [g1]
 refine W.loopS (fun y : Nat × Int => ⟨[(11,I y.1),(10,I l.length),(9,D.rows 3 (l.map Load.D)),(3,I y.2),(2,.bool false),(0,D.rows 3 (l.map Load.D))],[],0⟩)
  (fun n y => n = l.length - y.1 ∧ y.1 ≤ l.length ∧ mayL y.2 (l.drop y.1)) ?_ ?_
 ·exact ⟨_,(0,-1),(gr0 [] hB0 (by simp) (by simp) (.inr rfl)),rfl,by simp,by simpa using hl⟩
 ·rintro n ⟨i,p⟩ ⟨hn,hi,hm⟩
  simp only at hn hi hm
  refine acode_sound [0,2,3,5,8,9,10,11,12,43] [] _ _ _ ?_
  by_cases hlt : i < l.length
  ·obtain ⟨x,hx⟩ : ∃ x,x = l[i] := ⟨_,rfl⟩
   rw [List.drop_eq_getElem_cons hlt,← hx] at hm
   obtain ⟨⟨a1,a2,a3,a4,a5,a6⟩,hm'⟩ := hm
   have c1 : ¬ x.backend ≤ p := by omega
   have c2 : ¬ 12 ≤ x.backend := by omega
   have c3 : ¬ x.weight < 0 := by omega
   have c4 : ¬ 8 < x.weight := by omega
   have c5 : ¬ x.flows < 0 := by omega
   have c6 : ¬ 40 < x.flows := by omega
   have hi1 : InR ((i : Int) + 1) := inr (by omega) (by omega)
   simp [hlt,← hx,Load.D,c1,c2,c3,c4,c5,c6,hi1]
   exact ⟨_,(i + 1,x.backend),(gr0 [] hB0 (by simp [Load.D]) (by simp [Load.D]) (.inr rfl)),by omega,rfl,by simp only;omega,hm'⟩
  ·simp [hlt]
def capOf (num den flows total : Int) (x : Load) : Int := if 0 < x.weight then capZ num den flows x.weight total else 0
def sumW (l : List Load) : Int := (l.map Load.weight).sum
def capsOf (l : List Load) (num den flows : Int) : List Int := l.map (capOf num den flows (sumW l))
theorem mayL_mem : ∀ {p : Int} {l : List Load},mayL p l → ∀ x ∈ l,p < x.backend ∧ x.backend < 12 ∧ 0 ≤ x.weight ∧ x.weight ≤ 8 ∧ 0 ≤ x.flows ∧ x.flows ≤ 40
 | _,[],_,x,hx => by cases hx
 | p,y :: t,h,x,hx => by
  rcases List.mem_cons.1 hx with rfl | hx
  ·exact h.1
  ·have := mayL_mem h.2 x hx
   have := h.1
   omega
theorem sumW_bd : ∀ {l : List Load},(∀ x ∈ l,0 ≤ x.weight ∧ x.weight ≤ 8) → 0 ≤ sumW l ∧ sumW l ≤ 8 * l.length
 | [],_ => by simp [sumW]
 | x :: t,h => by
  have h1 := h x (by simp)
  have h2 := sumW_bd (l := t) fun y hy => h y (List.mem_cons_of_mem _ hy)
  simp only [sumW,List.map_cons,List.sum_cons,List.length_cons] at h2 ⊢
  omega
theorem sumW_mem : ∀ {l : List Load},(∀ x ∈ l,0 ≤ x.weight ∧ x.weight ≤ 8) → ∀ x ∈ l,x.weight ≤ sumW l
 | [],_,x,hx => by cases hx
 | y :: t,h,x,hx => by
  have h1 := h y (by simp)
  have h2 := sumW_bd (l := t) fun y hy => h y (List.mem_cons_of_mem _ hy)
  simp only [sumW,List.map_cons,List.sum_cons] at h2 ⊢
  rcases List.mem_cons.1 hx with rfl | hx
  ·omega
  ·have := sumW_mem (l := t) (fun y hy => h y (List.mem_cons_of_mem _ hy)) x hx
   simp only [sumW] at this
   omega
theorem sumW_take (l : List Load) (i : Nat) (h : i < l.length) : sumW (l.take (i + 1)) = sumW (l.take i) + l[i].weight := by
 unfold sumW
 rw [List.take_succ_eq_append_getElem h,List.map_append,List.sum_append]
 simp
theorem set_fill {α β : Type} (f : α → β) (l : List α) (z : β) (i : Nat) (h : i < l.length) : ((l.map f).take i ++ List.replicate (l.length - i) z).set i (f l[i]) = (l.map f).take (i + 1) ++ List.replicate (l.length - (i + 1)) z := by
 have hl : ((l.map f).take i).length = i := by simp;omega
 rw [List.set_append_right _ _ (by omega),hl,Nat.sub_self,show l.length - i = (l.length - (i + 1)) + 1 by omega,List.replicate_succ,List.set_cons_zero,List.take_succ_eq_append_getElem (by simpa using h)]
 simp
theorem keep_fill {α β : Type} (f : α → β) (l : List α) (z : β) (i : Nat) (h : i < l.length) (hz : f l[i] = z) : (l.map f).take i ++ List.replicate (l.length - i) z = (l.map f).take (i + 1) ++ List.replicate (l.length - (i + 1)) z := by
 rw [show l.length - i = (l.length - (i + 1)) + 1 by omega,List.replicate_succ,List.take_succ_eq_append_getElem (by simpa using h)]
 simp [hz]
def capsRes (l : List Load) (num den flows : Int) : List D := if factorB num den = true ∧ 0 ≤ flows ∧ flows ≤ 40 then [.rows 1 ((capsOf l num den flows).map fun c => [I c]),I 0] else [.rows 1 [],I 2]
theorem caps_code : cfun Tryz.prog [] 61 = some ⟨(.seq (.region 0 [oX 8 (.mov (.k .nil0)),oK 9 0]) (.seq (.seq (.region 1 [oM 16 0,oX 17 (.call 102 [(.t 16)]),oX 18 (.not (.t 17))]) (.cond 18 (.seq (.region 2 [oX 8 (.mov (.k .nil0)),oK 9 6]) .ret) .skip)) (.seq (.seq (.region 3 [oM 19 1,oM 20 2,oX 21 (.call 42 [(.t 19),(.t 20)]),oX 22 (.not (.t 21)),oM 23 22,oG 24 (.mov (.t 3)) 23 false,oG 25 (.bin .lss (.t 24) (kI 0)) 23 false,oX 26 (.pick (.t 23) (.k (.bool true)) (.t 25)),oM 27 26,oG 28 (.mov (.t 3)) 27 false,oG 29 (.bin .gtr (.t 28) (kI 40)) 27 false,oX 30 (.pick (.t 27) (.k (.bool true)) (.t 29))]) (.cond 30 (.seq (.region 4 [oX 8 (.mov (.k .nil0)),oK 9 2]) .ret) .skip)) (.seq (.region 5 [oK 10 0]) (.seq (.seq (.region 6 [oM 31 0,oH 32 31,oK 33 0]) (.block 0 (.loop (.seq (.region 7 [oX 34 (.bin .lss (.t 33) (.t 32))]) (.seq (.cond 34 .skip (.exit 0)) (.seq (.block 1 (.seq (.region 8 [oI 35 3 31 33,oA 36 3 35,oX 12 (.alloc [(.int .i64 0),(.int .i64 0),(.int .i64 0)]),oS 3 12 36]) (.region 9 [oM 37 10,oF 38 1 12,oL 39 1 38,oX 40 (.bin .add (.t 37) (.t 39)),oM 10 40]))) (.region 10 [oX 41 (.bin .add (.t 33) (kI 1)),oM 33 41]))))))) (.seq (.region 11 [oM 42 0,oH 43 42,oX 44 (.mks 1 8 [(.int .i64 0)] (.t 43) (.t 43)),oM 13 44]) (.seq (.seq (.region 12 [oM 45 0,oH 46 45,oK 47 0]) (.block 2 (.loop (.seq (.region 13 [oX 48 (.bin .lss (.t 47) (.t 46))]) (.seq (.cond 48 .skip (.exit 2)) (.seq (.block 3 (.seq (.region 14 [oM 49 47,oI 50 3 45 47,oA 51 3 50,oX 15 (.alloc [(.int .i64 0),(.int .i64 0),(.int .i64 0)]),oM 14 49,oS 3 15 51]) (.seq (.region 15 [oF 52 1 15,oL 53 1 52,oX 54 (.bin .gtr (.t 53) (kI 0))]) (.cond 54 (.region 16 [oM 56 13,oM 57 14,oM 58 1,oM 59 2,oM 60 3,oF 61 1 15,oL 62 1 61,oM 63 10,oX 64 (.call 24 [(.t 58),(.t 59),(.t 60),(.t 62),(.t 63)]),oM 55 64,oE 65 55 0,oE 66 55 1,oI 67 1 56 57,oS 1 67 65]) .skip)))) (.region 17 [oX 68 (.bin .add (.t 47) (kI 1)),oM 47 68]))))))) (.seq (.region 18 [oM 69 13,oM 8 69,oK 9 0]) .ret)))))))),[(.t 8),(.t 9)],70⟩ := by kernel_rfl
theorem caps_pfn (l : List Load) (num den flows : Int) (h12 : l.length ≤ 12) (hl : mayL (-1) l) : PFn Tryz.prog 61 [.rows 3 (l.map Load.D),I num,I den,I flows] (.tup (capsRes l num den flows)) := by
 have hmem := mayL_mem hl
 have hw : ∀ x ∈ l,0 ≤ x.weight ∧ x.weight ≤ 8 := fun x hx => by have := hmem x hx;omega
 refine PFn.of follows_ok caps_code (by simp) (by simp) (by simp) fun B hBN hB0 => acode_sound [0,1,2,3,8,9,10,12,13,14,15,18,30,31,32,33,34,45,46,47,48,54] [] _ _ _ ?_
 simp
 refine WCall.pf (may_pf l h12 hl) (by simp) (by simp) (by simp) ?_
 simp
 refine WCall.pf (factor_pf num den) (by simp) (by simp) (by simp) ?_
 by_cases hf : factorB num den = true ∧ 0 ≤ flows ∧ flows ≤ 40
 case neg =>
  by_cases h1 : factorB num den = true
  ·by_cases h2 : flows < 0
   ·have h4 : ¬ (0 ≤ flows ∧ flows ≤ 40) := by omega
    simp [h1,h2,capsRes,h4]
   ·have h3 : 40 < flows := by have := hf;simp only [h1,true_and] at this;omega
    have h4 : ¬ (0 ≤ flows ∧ flows ≤ 40) := by omega
    simp [h1,h2,h3,capsRes,h4]
  ·simp [h1,capsRes,hf]
 obtain ⟨hf1,hf2,hf3⟩ := hf
 have g1 : ¬ flows < 0 := by omega
 have g2 : ¬ 40 < flows := by omega
 simp [hf1,g1,g2]
 refine W.loopS (fun i : Nat => ⟨[(33,I i),(32,I l.length),(31,D.rows 3 (l.map Load.D)),(10,I (sumW (l.take i))),(9,I 0),(8,.nil0),(3,I flows),(2,I den),(1,I num),(0,D.rows 3 (l.map Load.D))],[],0⟩)
  (fun n i => n = l.length - i ∧ i ≤ l.length) ?_ ?_
 ·exact ⟨_,0,(Gh.ren [] (by simp [hB0]) (by simp [hB0] <;> decide) (by simp [sumW]) (by simp [sumW]) (.inr rfl)),rfl,by simp⟩
 ·rintro n i ⟨hn,hi⟩
  refine acode_sound [0,1,2,3,8,9,10,12,13,14,15,18,30,31,32,33,34,45,46,47,48,54] [] _ _ _ ?_
  by_cases hlt : i < l.length
  ·obtain ⟨x,hx⟩ : ∃ x,x = l[i] := ⟨_,rfl⟩
   have hxm : x ∈ l := hx ▸ List.getElem_mem hlt
   have hb := hw x hxm
   have hs := sumW_take l i hlt
   have hsb := sumW_bd (l := l.take i) fun y hy => hw y (List.mem_of_mem_take hy)
   have hll : (l.take i).length ≤ 12 := by simp;omega
   have hi1 : InR ((i : Int) + 1) := inr (by omega) (by omega)
   have hi2 : InR (sumW (l.take i) + x.weight) := inr (by omega) (by omega)
   simp [hlt,← hx,Load.D,hi1,hi2]
   exact ⟨_,i + 1,(Gh.ren [] (by simp [hB0]) (by simp [hB0] <;> decide) (by simp [Load.D,hs,← hx]) (by simp [Load.D,hs,← hx]) (.inr rfl)),by omega,rfl,by omega⟩
  ·have hie : i = l.length := by omega
   subst hie
   simp
   have hk : (8 : Int) * l.length ≤ 281474976710656 := by omega
   refine ⟨⟨by omega,by omega⟩,?_⟩
   refine W.loopS (fun y : Nat × List Int => ⟨[(47,I y.1),(46,I l.length),(45,D.rows 3 (l.map Load.D)),(13,.own 0),(10,I (sumW l)),(9,I 0),(8,.nil0),(3,I flows),(2,I den),(1,I num),(0,D.rows 3 (l.map Load.D))],[(0,.row 1 (y.2.map fun c => [I c]))],1⟩)
    (fun n y => n = l.length - y.1 ∧ y.1 ≤ l.length ∧ y.2 = (l.map (capOf num den flows (sumW l))).take y.1 ++ List.replicate (l.length - y.1) 0) ?_ ?_
   ·exact ⟨_,(0,List.replicate l.length 0),(Gh.ren [] (by simp [hB0]) (by simp [hB0] <;> decide) (by simp) (by simp) (.inr rfl)),rfl,by simp,by simp⟩
   ·rintro n ⟨i,cs⟩ ⟨hn,hi,hcs⟩
    simp only at hn hi hcs
    refine acode_sound [0,1,2,3,8,9,10,12,13,14,15,18,30,31,32,33,34,45,46,47,48,54] [] _ _ _ ?_
    by_cases hlt : i < l.length
    ·obtain ⟨x,hx⟩ : ∃ x,x = l[i] := ⟨_,rfl⟩
     have hxm : x ∈ l := hx ▸ List.getElem_mem hlt
     have hb := hw x hxm
     have hsm := sumW_mem hw x hxm
     have hsb := sumW_bd hw
     have hcl : cs.length = l.length := by rw [hcs];simp;omega
     have hlt2 : i < cs.length := by omega
     have hi1 : InR ((i : Int) + 1) := inr (by omega) (by omega)
     by_cases hw0 : 0 < x.weight
     ·simp [hlt,← hx,Load.D,hw0]
      refine WCall.pf (cap_pf num den flows x.weight (sumW l) hf1 hf2 hf3 (by omega) hsm (by omega)) (by simp) (by simp [Load.D]) (by simp [Load.D]) ?_
      simp [hlt,hlt2,hi1]
      refine ⟨_,(i + 1,cs.set i (capZ num den flows x.weight (sumW l))),(Gh.ren [] (by simp [hB0]) (by simp [hB0] <;> decide) (by simp [Load.D,List.map_set]) (by simp [Load.D,List.map_set]) (.inr rfl)),by omega,rfl,by omega,?_⟩
      have := set_fill (capOf num den flows (sumW l)) l 0 i hlt
      rw [← hx] at this
      simp only [hcs,← this]
      simp [capOf,hw0]
     ·simp [hlt,← hx,Load.D,hw0,hi1]
      refine ⟨_,(i + 1,cs),(Gh.ren [] (by simp [hB0]) (by simp [hB0] <;> decide) (by simp [Load.D]) (by simp [Load.D]) (.inr rfl)),by omega,rfl,by omega,?_⟩
      have := keep_fill (capOf num den flows (sumW l)) l 0 i hlt (by rw [← hx];simp [capOf,hw0])
      simp only [hcs,this]
    ·have hie : i = l.length := by omega
     subst hie
     rw [List.take_of_length_le (by simp)] at hcs
     simp [hlt,capsRes,hf1,hf2,hf3,hcs,capsOf]
theorem caps_pf (l : List Load) (num den flows : Int) (h12 : l.length ≤ 12) (hl : mayL (-1) l) : PF Tryz.prog 61 [.rows 3 (l.map Load.D),I num,I den,I flows] (.tup (capsRes l num den flows)) := (caps_pfn l num den flows h12 hl).pf
end Go.Proofs.YtibemmkfcjlmpaaGreat
namespace Go.Proofs.YtibemmkfcjlmpaaGreat
open Go.RowKit
def sumF (l : List Load) : Int := (l.map fun x => if 0 < x.weight then x.flows else 0).sum
end Go.Proofs.YtibemmkfcjlmpaaGreat
namespace Go.Proofs.YtibemmkfcjlmpaaGreat
open Go.RowKit
attribute [local simp] AK_at acode_seq acode_region acode_draw acode_cond CB_u acode_block acode_loop acode_exit acode_scope acode_ret acode_skip seqQ_n seqQ_e seqQ_r blockQ_n blockQ_e blockQ_r TK_at OK_at SK_at aops_nil aops_cons asch_done asch_one asch_two asch_top astep aop_eq isLoud aloud aloud1 isWrite qv evS strip gof eget hget putO eput herase oks opnds gS afin afin0 binD arith D.cells takeD fillD keep trim envOf Fin aresl aresv resD argOk pickV isP deq deqs boundD slD lenD isT isSl ptrIds chunks mn_min mx_max splice_one splice_more Rbr_at Rfr_at frR frV frC flatC brwR brwV brwC omap leR leV leC leL leVL rnR rnV rnC rnO rho_0 hputs herases rnS LtS LtR LtV LtC LtO lget noV noC flatR flatV rho
attribute [local simp ↓] CB_t CB_f
def zload : Load := ⟨0,0,0⟩
def PI (z : Int) : List D := [I z]
theorem lidx_code : cfun Tryz.prog [] 177 = some ⟨(.seq (.region 0 [oK 4 0]) (.seq (.seq (.region 1 [oM 6 0,oH 7 6,oK 8 0]) (.block 0 (.loop (.seq (.region 2 [oX 9 (.bin .lss (.t 8) (.t 7))]) (.seq (.cond 9 .skip (.exit 0)) (.seq (.block 1 (.seq (.region 3 [oM 10 8,oM 5 10]) (.seq (.region 4 [oM 11 1,oM 12 0,oM 13 5,oI 14 3 12 13,oA 15 3 14,oX 16 (.callv (.t 11) [(.t 15)])]) (.cond 16 (.seq (.region 5 [oM 17 5,oM 4 17]) .ret) .skip)))) (.region 6 [oX 18 (.bin .add (.t 8) (kI 1)),oM 8 18]))))))) (.seq (.region 7 [oK 4 (-1)]) .ret))),[(.t 4)],19⟩ := by kernel_rfl
theorem lidx_pf (l : List Load) (F : FuncId) (q : Load → Bool) (hl : l.length ≤ 1000000) (hF : ∀ s ∈ l,PF Tryz.prog F [.agg s.D] (.bool (q s))) : PF Tryz.prog 177 [.rows 3 (l.map Load.D),.fn F []] (I (idxZ q l)) := by
 refine PF.of follows_ok lidx_code (by simp) (by simp) (by simp) fun B hBN hB0 => acode_sound [0,1,4,5,7,8,9,16] [] _ _ _ ?_
 simp
 refine W.loopS (fun i : Nat => ⟨[(8,I i),(7,I l.length),(4,I 0),(1,.fn F []),(0,D.rows 3 (l.map Load.D))],[],0⟩)
  (fun n i => n = l.length - i ∧ i ≤ l.length ∧ ∀ j (hj : j < l.length),j < i → q l[j] = false) ?_ ?_
 ·exact ⟨_,0,(gr0 [] hB0 (by simp) (by simp) (.inr rfl)),rfl,by omega,fun j _ h => by omega⟩
 ·rintro n i ⟨hn,hi,hb⟩
  refine acode_sound [0,1,4,5,7,8,9,16] [] _ _ _ ?_
  by_cases hlt : i < l.length
  ·obtain ⟨o,ho⟩ : ∃ o,o = l[i] := ⟨_,rfl⟩
   have hFo := hF o (ho ▸ List.getElem_mem hlt)
   have ii : InR ((i : Int) + 1) := inr (by omega) (by omega)
   simp [hlt,← ho,Load.D]
   cases hq : q o with
   | true =>
    have hz := idxZ_at q l i hlt (fun j hj => hb j (by omega) hj) (by rw [← ho];exact hq)
    repeat' (first
     | simp [Load.D,hq,hz]
     | refine ⟨wcS ?_,?_⟩
     | (refine WCall.pfv (hFo) ?_ rfl ?_ ?_ ?_;iterate 3 (solve|simp [Load.D,hq,hz]))
     | with_reducible refine aI ?_ ?_ ?_)
   | false =>
    repeat' (first
     | simp [Load.D,hq,ii]
     | refine ⟨wcS ?_,?_⟩
     | (refine WCall.pfv (hFo) ?_ rfl ?_ ?_ ?_;iterate 3 (solve|simp [Load.D,hq,ii]))
     | with_reducible refine aI ?_ ?_ ?_)
    exact ⟨_,i + 1,(gr0 [] hB0 (by simp) (by simp) (.inr rfl)),by omega,rfl,by omega,fun j hj h => by
     by_cases hji : j = i
     ·subst hji;rw [← ho];exact hq
     ·exact hb j hj (by omega)⟩
  ·have hz := idxZ_none q l fun x hx => by
    obtain ⟨j,hj⟩ := List.getElem?_of_mem hx
    obtain ⟨hj2,rfl⟩ := List.getElem?_eq_some_iff.1 hj
    exact hb j hj2 (by omega)
   have hie : i = l.length := by omega
   subst hie
   simp [hz]
theorem lidx1_pf (l : List Load) (F : FuncId) (b : Int) (q : Load → Bool) (hl : l.length ≤ 1000000) (hF : ∀ s ∈ l,PF Tryz.prog F [.agg s.D,.pc [I b]] (.bool (q s))) : PF Tryz.prog 177 [.rows 3 (l.map Load.D),.fn F [.pc [I b]]] (I (idxZ q l)) := by
 refine PF.of follows_ok lidx_code (by simp) (by simp) (by simp) fun B hBN hB0 => acode_sound [0,1,4,5,7,8,9,16] [] _ _ _ ?_
 simp
 refine W.loopS (fun i : Nat => ⟨[(8,I i),(7,I l.length),(4,I 0),(1,.fn F [.pc [I b]]),(0,D.rows 3 (l.map Load.D))],[],0⟩)
  (fun n i => n = l.length - i ∧ i ≤ l.length ∧ ∀ j (hj : j < l.length),j < i → q l[j] = false) ?_ ?_
 ·exact ⟨_,0,(gr0 [] hB0 (by simp) (by simp) (.inr rfl)),rfl,by omega,fun j _ h => by omega⟩
 ·rintro n i ⟨hn,hi,hb⟩
  refine acode_sound [0,1,4,5,7,8,9,16] [] _ _ _ ?_
  by_cases hlt : i < l.length
  ·obtain ⟨o,ho⟩ : ∃ o,o = l[i] := ⟨_,rfl⟩
   have hFo := hF o (ho ▸ List.getElem_mem hlt)
   have ii : InR ((i : Int) + 1) := inr (by omega) (by omega)
   simp [hlt,← ho,Load.D]
   cases hq : q o with
   | true =>
    have hz := idxZ_at q l i hlt (fun j hj => hb j (by omega) hj) (by rw [← ho];exact hq)
    repeat' (first
     | simp [Load.D,hq,hz]
     | refine ⟨wcS ?_,?_⟩
     | (refine WCall.pfv (hFo) ?_ rfl ?_ ?_ ?_;iterate 3 (solve|simp [Load.D,hq,hz]))
     | with_reducible refine aI ?_ ?_ ?_)
   | false =>
    repeat' (first
     | simp [Load.D,hq,ii]
     | refine ⟨wcS ?_,?_⟩
     | (refine WCall.pfv (hFo) ?_ rfl ?_ ?_ ?_;iterate 3 (solve|simp [Load.D,hq,ii]))
     | with_reducible refine aI ?_ ?_ ?_)
    exact ⟨_,i + 1,(gr0 [] hB0 (by simp) (by simp) (.inr rfl)),by omega,rfl,by omega,fun j hj h => by
     by_cases hji : j = i
     ·subst hji;rw [← ho];exact hq
     ·exact hb j hj (by omega)⟩
  ·have hz := idxZ_none q l fun x hx => by
    obtain ⟨j,hj⟩ := List.getElem?_of_mem hx
    obtain ⟨hj2,rfl⟩ := List.getElem?_eq_some_iff.1 hj
    exact hb j hj2 (by omega)
   have hie : i = l.length := by omega
   subst hie
   simp [hz]
def tkB (b : Int) (x : Load) : Bool := decide (x.backend = b) && decide (0 < x.weight)
theorem cof1_code : cfun Tryz.prog [] 196 = some ⟨(.seq (.region 0 [oB 2 0,oX 3 (.mov (.k (.bool false)))]) (.seq (.region 1 [oF 4 0 2,oL 5 1 4,oL 6 1 1,oX 7 (.bin .eql (.t 5) (.t 6)),oM 8 7,oG 9 (.fad 1 (.t 2)) 8 true,oG 10 (.load false 1 (.t 9)) 8 true,oG 11 (.bin .gtr (.t 10) (kI 0)) 8 true,oX 12 (.pick (.t 8) (.t 11) (.k (.bool false))),oM 3 12]) .ret)),[(.t 3)],13⟩ := by kernel_rfl
theorem cof1_pf (x : Load) (b : Int) : PF Tryz.prog 196 [.agg x.D,.pc [I b]] (.bool (tkB b x)) := by
 refine PF.of follows_ok cof1_code (by simp) (by simp) (by simp [Load.D]) fun B hBN hB0 => acode_sound [0,1,2,3] [] _ _ _ ?_
 by_cases h : x.backend = b
 ·simp [Load.D,tkB,h]
 ·simp [Load.D,tkB,h]
theorem cof_code : cfun Tryz.prog [] 178 = some ⟨(.seq (.region 0 [oB 2 0,oB 3 1,oK 4 0]) (.seq (.region 1 [oF 5 0 2,oL 6 1 5,oX 7 (.mkfn 196 [(.t 3)]),oX 8 (.call 177 [(.t 6),(.t 7)]),oM 4 8]) .ret)),[(.t 4)],9⟩ := by kernel_rfl
theorem cof_pf (l : List Load) (caps : List Int) (b : Int) (hl : l.length ≤ 1000000) : PF Tryz.prog 178 [.agg [.rows 3 (l.map Load.D),.rows 1 (caps.map PI)],I b] (I (idxZ (tkB b) l)) := by
 refine PF.of follows_ok cof_code (by simp) (by simp) (by simp) fun B hBN hB0 => acode_sound [0,1,2,3,4] [1] _ _ _ ?_
 simp
 refine W.freeze [1] ?_
 simp [freeze,hkeep,hdrop,fzS,fzR,fzV,fzC,fzO]
 refine acode_sound [0,1,2,3,4] [] _ _ _ ?_
 simp
 repeat' (first
  | simp
  | refine ⟨wcS ?_,?_⟩
  | (refine WCall.pf (lidx1_pf l 196 b (tkB b) hl fun s _ => cof1_pf s b) ?_ ?_ ?_ ?_;iterate 3 (solve|simp))
  | with_reducible refine aI ?_ ?_ ?_)
theorem croom_code : cfun Tryz.prog [] 179 = some ⟨(.seq (.region 0 [oB 2 0,oX 4 (.mov (.k (.bool false)))]) (.seq (.draw 1 (.one true (oF 5 0 2) (.one true (oL 6 1 5) (.one true (oM 7 1) (.one true (oI 8 3 6 7) (.one true (oF 9 2 8) (.one true (oL 10 1 9) (.one true (oF 11 1 2) (.one true (oL 12 1 11) (.one true (oM 13 1) (.one true (oI 14 1 12 13) (.one true (oL 15 1 14) (.one true (oX 16 (.bin .lss (.t 10) (.t 15))) (.one true (oM 4 16) .done)))))))))))))) .ret)),[(.t 4)],17⟩ := by kernel_rfl
theorem croom_pf (l : List Load) (caps : List Int) (i : Nat) (h : i < l.length) (h2 : i < caps.length) : PF Tryz.prog 179 [.agg [.rows 3 (l.map Load.D),.rows 1 (caps.map PI)],I i] (.bool (decide ((l.getD i zload).flows < caps.getD i 0))) := by
 refine PF.of follows_ok croom_code (by simp) (by simp) (by simp) fun B hBN hB0 => acode_sound [0,1,2,4] [] _ _ _ ?_
 have e1 : l[i]?.getD zload = l[i] := by simp [h]
 have e2 : caps[i]?.getD 0 = caps[i] := by simp [h2]
 simp [h,h2,Load.D,PI,e1,e2]
theorem pick1_code : cfun Tryz.prog [] 157 = some ⟨(.seq (.region 0 [oB 1 0,oX 2 (.mov (.k (.bool false)))]) (.seq (.region 1 [oF 3 1 1,oL 4 1 3,oX 5 (.bin .gtr (.t 4) (kI 0)),oM 2 5]) .ret)),[(.t 2)],6⟩ := by kernel_rfl
theorem pick1_pf (x : Load) : PF Tryz.prog 157 [.agg x.D] (.bool (decide (0 < x.weight))) := by
 refine PF.of follows_ok pick1_code (by simp) (by simp) (by simp [Load.D]) fun B hBN hB0 => acode_sound [0,1,2] [] _ _ _ ?_
 simp [Load.D]
theorem lcf_code : cfun Tryz.prog [] 156 = some ⟨(.seq (.region 0 [oX 4 (.mov (.k (.bool false)))]) (.seq (.region 1 [oM 5 0,oM 6 1,oX 7 (.call 177 [(.t 5),(.t 6)]),oX 8 (.bin .geq (.t 7) (kI 0)),oM 4 8]) .ret)),[(.t 4)],9⟩ := by kernel_rfl
theorem lcf_pf (l : List Load) (F : FuncId) (q : Load → Bool) (hl : l.length ≤ 1000000) (hF : ∀ s ∈ l,PF Tryz.prog F [.agg s.D] (.bool (q s))) : PF Tryz.prog 156 [.rows 3 (l.map Load.D),.fn F []] (.bool (decide (0 ≤ idxZ q l))) := by
 refine PF.of follows_ok lcf_code (by simp) (by simp) (by simp) fun B hBN hB0 => acode_sound [0,1,4] [] _ _ _ ?_
 simp
 repeat' (first
  | simp
  | refine ⟨wcS ?_,?_⟩
  | (refine WCall.pf (lidx_pf l F q hl hF) ?_ ?_ ?_ ?_;iterate 3 (solve|simp))
  | with_reducible refine aI ?_ ?_ ?_)
def ofZ (l : List Load) (b : Int) : Int := idxZ (tkB b) l
def roomB (l : List Load) (caps : List Int) (i : Nat) : Bool := decide ((l.getD i zload).flows < caps.getD i 0)
def alongZ (l : List Load) (caps : List Int) : List Int → Int → Int
 | [],_ => -1
 | b :: w,t => if ofZ l b < 0 then alongZ l caps w t else if t = 0 then -1 else if roomB l caps (ofZ l b).toNat = true then ofZ l b else alongZ l caps w (t - 1)
theorem calong_code : cfun Tryz.prog [] 158 = some ⟨(.seq (.region 0 [oB 3 0,oK 6 0]) (.scope (.seq (.region 1 [oK 7 (-1)]) (.seq .skip (.seq (.seq (.region 2 [oM 11 1,oH 12 11,oK 13 0]) (.block 0 (.loop (.seq (.region 3 [oX 14 (.bin .lss (.t 13) (.t 12))]) (.seq (.cond 14 .skip (.exit 0)) (.seq (.block 1 (.seq (.region 4 [oI 15 1 11 13,oL 16 1 15,oM 9 16]) (.seq (.region 5 [oA 17 2 3,oM 18 9,oX 19 (.call 178 [(.t 17),(.t 18)]),oM 10 19]) (.seq (.block 2 (.seq (.region 6 [oM 21 10,oX 22 (.bin .lss (.t 21) (kI 0)),oM 20 22]) (.cond 20 (.exit 1) (.seq (.region 7 [oM 24 2,oX 25 (.bin .eql (.t 24) (kI 0)),oM 23 25]) (.cond 23 (.exit 0) (.seq (.region 8 [oA 27 2 3,oM 28 10,oX 29 (.call 179 [(.t 27),(.t 28)]),oM 26 29]) (.cond 26 (.seq (.region 9 [oM 30 10,oM 7 30]) (.exit 0)) .skip))))))) (.region 10 [oM 31 2,oX 32 (.bin .sub (.t 31) (kI 1)),oM 2 32]))))) (.region 11 [oX 33 (.bin .add (.t 13) (kI 1)),oM 13 33]))))))) (.seq (.region 12 [oM 34 7,oM 6 34]) .ret)))))),[(.t 6)],35⟩ := by kernel_rfl
theorem calong_pf (l : List Load) (caps : List Int) (walk : List Int) (t0 : Int) (hl : l.length ≤ 12) (hc : caps.length = l.length) (hw : walk.length ≤ 12) (h0 : 0 ≤ t0) (h1 : t0 ≤ 12) :
  PF Tryz.prog 158 [.agg [.rows 3 (l.map Load.D),.rows 1 (caps.map PI)],.rows 1 (walk.map PI),I t0] (I (alongZ l caps walk t0)) := by
 refine PF.of follows_ok calong_code (by simp) (by simp) (by simp) fun B hBN hB0 => acode_sound [0,1,2,3,6,7,9,10,11,12,13,14,20,23,26] [] _ _ _ ?_
 simp
 refine W.loopS (fun y : Nat × Int => ⟨[(13,I y.1),(12,I walk.length),(11,D.rows 1 (walk.map PI)),(7,I (-1)),(3,.ptr 0 0),(2,I y.2)],[(0,.cells [.rows 3 (l.map Load.D),.rows 1 (caps.map PI)])],1⟩)
  (fun n y => n = walk.length - y.1 ∧ y.1 ≤ walk.length ∧ 0 ≤ y.2 ∧ y.2 ≤ 12 ∧ alongZ l caps (walk.drop y.1) y.2 = alongZ l caps walk t0) ?_ ?_
 ·exact ⟨_,(0,t0),(gr0 [0] hB0 (by simp) (by simp) (.inl (by simp))),rfl,by omega,h0,h1,by simp⟩
 rintro n ⟨i,t⟩ ⟨hn,hi,ht0,ht1,ha⟩
 simp only at hn hi ht0 ht1 ha
 refine acode_sound [0,1,2,3,6,7,9,10,11,12,13,14,20,23,26] [] _ _ _ ?_
 by_cases hlt : i < walk.length
 ·obtain ⟨b,hb⟩ : ∃ b,b = walk[i] := ⟨_,rfl⟩
  have hd : walk.drop i = b :: walk.drop (i + 1) := by rw [hb];exact List.drop_eq_getElem_cons hlt
  rw [hd] at ha
  simp only [alongZ] at ha
  have ii : InR ((i : Int) + 1) := inr (by omega) (by omega)
  have it : InR (t - 1) := inr (by omega) (by omega)
  have hof := cof_pf l caps b (by omega)
  have hz := idxZ_lo (tkB b) l
  have hzz : ofZ l b = idxZ (tkB b) l := rfl
  by_cases hneg : ofZ l b < 0
  ·rw [if_pos hneg] at ha
   rw [hzz] at hneg
   repeat' (first
    | simp [hlt,← hb,PI,hneg,ii]
    | refine ⟨wcS ?_,?_⟩
    | (refine WCall.pf (hof) ?_ ?_ ?_ ?_;iterate 3 (solve|simp [hlt,← hb,PI,hneg,ii]))
    | with_reducible refine aI ?_ ?_ ?_)
   exact ⟨_,(i + 1,t),(gr0 [0] hB0 (by simp) (by simp) (.inl (by simp))),by omega,rfl,by omega,by omega,by omega,ha⟩
  ·rw [if_neg hneg] at ha
   rw [hzz] at hneg ha
   by_cases htz : t = 0
   ·rw [if_pos htz] at ha
    repeat' (first
     | simp [hlt,← hb,PI,hneg,ii,htz,← ha]
     | refine ⟨wcS ?_,?_⟩
     | (refine WCall.pf (hof) ?_ ?_ ?_ ?_;iterate 3 (solve|simp [hlt,← hb,PI,hneg,ii,htz,← ha]))
     | with_reducible refine aI ?_ ?_ ?_)
   ·rw [if_neg htz] at ha
    obtain ⟨k,hk⟩ : ∃ k : Nat,idxZ (tkB b) l = k := ⟨(idxZ (tkB b) l).toNat,by omega⟩
    rw [hk] at hof hneg ha hz
    have hkl : k < l.length := by omega
    have hro := croom_pf l caps k hkl (by omega)
    have ha : (if roomB l caps k = true then (k : Int) else alongZ l caps (walk.drop (i + 1)) (t - 1)) = alongZ l caps walk t0 := ha
    cases hr : roomB l caps k with
    | true =>
     rw [hr,if_pos rfl] at ha
     have hr2 : decide ((l.getD k zload).flows < caps.getD k 0) = true := hr
     rw [hr2] at hro
     repeat' (first
      | simp [hlt,← hb,PI,hneg,ii,htz,← ha]
      | refine ⟨wcS ?_,?_⟩
      | (refine WCall.pf (hof) ?_ ?_ ?_ ?_;iterate 3 (solve|simp [hlt,← hb,PI,hneg,ii,htz,← ha]))
      | (refine WCall.pf (hro) ?_ ?_ ?_ ?_;iterate 3 (solve|simp [hlt,← hb,PI,hneg,ii,htz,← ha]))
      | with_reducible refine aI ?_ ?_ ?_)
    | false =>
     rw [hr,if_neg (by simp)] at ha
     have hr2 : decide ((l.getD k zload).flows < caps.getD k 0) = false := hr
     rw [hr2] at hro
     repeat' (first
      | simp [hlt,← hb,PI,hneg,ii,htz,it]
      | refine ⟨wcS ?_,?_⟩
      | (refine WCall.pf (hof) ?_ ?_ ?_ ?_;iterate 3 (solve|simp [hlt,← hb,PI,hneg,ii,htz,it]))
      | (refine WCall.pf (hro) ?_ ?_ ?_ ?_;iterate 3 (solve|simp [hlt,← hb,PI,hneg,ii,htz,it]))
      | with_reducible refine aI ?_ ?_ ?_)
     exact ⟨_,(i + 1,t - 1),(gr0 [0] hB0 (by simp) (by simp) (.inl (by simp))),by omega,rfl,by omega,by omega,by omega,ha⟩
 ·have hie : i = walk.length := by omega
  subst hie
  simp [alongZ] at ha
  simp [← ha]
def leastN (l : List Load) (caps : List Int) : Nat → Int
 | 0 => -1
 | i + 1 => if (l.getD i zload).weight = 0 ∨ roomB l caps i = false then leastN l caps i else
   if leastN l caps i < 0 ∨ (l.getD i zload).flows * (l.getD (leastN l caps i).toNat zload).weight < (l.getD (leastN l caps i).toNat zload).flows * (l.getD i zload).weight then i else leastN l caps i
theorem leastN_lo (l : List Load) (caps : List Int) : ∀ i : Nat,-1 ≤ leastN l caps i ∧ leastN l caps i < i
 | 0 => by simp [leastN]
 | i + 1 => by
  have := leastN_lo l caps i
  simp only [leastN]
  split
  ·omega
  ·split <;> omega
theorem mul_bd {a b : Int} (h1 : 0 ≤ a) (h2 : a ≤ 40) (h3 : 0 ≤ b) (h4 : b ≤ 8) : InR (a * b) := by
 have h5 : 0 ≤ a * b := Int.mul_nonneg h1 h3
 have h6 : a * b ≤ 40 * 8 := Int.mul_le_mul h2 h4 h3 (by omega)
 exact inr (by omega) (by omega)
theorem cleast_code : cfun Tryz.prog [] 159 = some ⟨(.seq (.region 0 [oB 1 0,oK 2 0]) (.seq (.region 1 [oK 3 (-1)]) (.seq (.seq (.region 2 [oF 6 0 1,oL 7 1 6,oH 8 7,oK 9 0]) (.block 0 (.loop (.seq (.region 3 [oX 10 (.bin .lss (.t 9) (.t 8))]) (.seq (.cond 10 .skip (.exit 0)) (.seq (.block 1 (.seq (.region 4 [oM 11 9,oI 12 3 7 9,oA 13 3 12,oX 5 (.alloc [(.int .i64 0),(.int .i64 0),(.int .i64 0)]),oM 4 11,oS 3 5 13]) (.seq (.seq (.region 5 [oF 14 1 5,oL 15 1 14,oX 16 (.bin .eql (.t 15) (kI 0)),oM 17 16,oG 18 (.load true 2 (.t 1)) 17 false,oG 19 (.mov (.t 4)) 17 false,oG 20 (.call 179 [(.t 18),(.t 19)]) 17 false,oG 21 (.not (.t 20)) 17 false,oX 22 (.pick (.t 17) (.k (.bool true)) (.t 21))]) (.cond 22 (.exit 1) .skip)) (.seq (.draw 6 (.one true (oM 23 3) (.one true (oX 24 (.bin .lss (.t 23) (kI 0))) (.one true (oM 25 24) (.one true (oG 26 (.fad 2 (.t 5)) 25 false) (.one true (oG 27 (.load false 1 (.t 26)) 25 false) (.one true (oG 28 (.fad 0 (.t 1)) 25 false) (.one true (oG 29 (.load false 1 (.t 28)) 25 false) (.one true (oG 30 (.mov (.t 3)) 25 false) (.one true (oG 31 (.iads 3 (.t 29) (.t 30)) 25 false) (.one true (oG 32 (.fad 1 (.t 31)) 25 false) (.one true (oG 33 (.load false 1 (.t 32)) 25 false) (.one true (oG 34 (.bin .mul (.t 27) (.t 33)) 25 false) (.one true (oG 35 (.fad 0 (.t 1)) 25 false) (.one true (oG 36 (.load false 1 (.t 35)) 25 false) (.one true (oG 37 (.mov (.t 3)) 25 false) (.one true (oG 38 (.iads 3 (.t 36) (.t 37)) 25 false) (.one true (oG 39 (.fad 2 (.t 38)) 25 false) (.one true (oG 40 (.load false 1 (.t 39)) 25 false) (.one true (oG 41 (.fad 1 (.t 5)) 25 false) (.one true (oG 42 (.load false 1 (.t 41)) 25 false) (.one true (oG 43 (.bin .mul (.t 40) (.t 42)) 25 false) (.one true (oG 44 (.bin .lss (.t 34) (.t 43)) 25 false) (.one true (oX 45 (.pick (.t 25) (.k (.bool true)) (.t 44))) .done)))))))))))))))))))))))) (.cond 45 (.region 7 [oM 46 4,oM 3 46]) .skip))))) (.region 8 [oX 47 (.bin .add (.t 9) (kI 1)),oM 9 47]))))))) (.seq (.region 9 [oM 48 3,oM 2 48]) .ret)))),[(.t 2)],49⟩ := by kernel_rfl
theorem cleast_pf (l : List Load) (caps : List Int) (hl : l.length ≤ 12) (hc : caps.length = l.length) (hm : ∀ x ∈ l,0 ≤ x.weight ∧ x.weight ≤ 8 ∧ 0 ≤ x.flows ∧ x.flows ≤ 40) :
  PF Tryz.prog 159 [.agg [.rows 3 (l.map Load.D),.rows 1 (caps.map PI)]] (I (leastN l caps l.length)) := by
 refine PF.of follows_ok cleast_code (by simp) (by simp) (by simp) fun B hBN hB0 => acode_sound [0,1,2,3,4,5,7,8,9,10,22,45] [] _ _ _ ?_
 simp
 refine W.loopS (fun y : Nat × Int => ⟨[(9,I y.1),(8,I l.length),(7,D.rows 3 (l.map Load.D)),(3,I y.2),(1,.ptr 0 0)],[(0,.cells [.rows 3 (l.map Load.D),.rows 1 (caps.map PI)])],1⟩)
  (fun n y => n = l.length - y.1 ∧ y.1 ≤ l.length ∧ y.2 = leastN l caps y.1) ?_ ?_
 ·exact ⟨_,(0,-1),(gr0 [0] hB0 (by simp) (by simp) (.inl (by simp))),rfl,by omega,rfl⟩
 rintro n ⟨i,best⟩ ⟨hn,hi,hbest⟩
 simp only at hn hi hbest
 refine acode_sound [0,1,2,3,4,5,7,8,9,10,22,45] [] _ _ _ ?_
 by_cases hlt : i < l.length
 ·obtain ⟨x,hx⟩ : ∃ x,x = l[i] := ⟨_,rfl⟩
  have hxd : l.getD i zload = x := by rw [hx];simp [List.getD,hlt]
  have ii : InR ((i : Int) + 1) := inr (by omega) (by omega)
  have hs : leastN l caps (i + 1) = if (l.getD i zload).weight = 0 ∨ roomB l caps i = false then leastN l caps i else if leastN l caps i < 0 ∨ (l.getD i zload).flows * (l.getD (leastN l caps i).toNat zload).weight < (l.getD (leastN l caps i).toNat zload).flows * (l.getD i zload).weight then i else leastN l caps i := rfl
  rw [hxd,← hbest] at hs
  have hlo := leastN_lo l caps i
  rw [← hbest] at hlo
  have hro := croom_pf l caps i hlt (by omega)
  have hmx := hm x (hx ▸ List.getElem_mem hlt)
  by_cases hw : x.weight = 0
  ·rw [if_pos (.inl hw)] at hs
   simp [hlt,← hx,Load.D,hw,ii]
   exact ⟨_,(i + 1,best),(gr0 [0] hB0 (by simp) (by simp) (.inl (by simp))),by omega,rfl,by omega,hs.symm⟩
  ·cases hr : roomB l caps i with
   | false =>
    rw [if_pos (.inr hr)] at hs
    have hr2 : decide ((l.getD i zload).flows < caps.getD i 0) = false := hr
    rw [hr2] at hro
    repeat' (first
     | simp [hlt,← hx,Load.D,hw,ii,PI]
     | refine ⟨wcS ?_,?_⟩
     | (refine WCall.pf (hro) ?_ ?_ ?_ ?_;iterate 3 (solve|simp [hlt,← hx,Load.D,hw,ii,PI]))
     | with_reducible refine aI ?_ ?_ ?_)
    exact ⟨_,(i + 1,best),(gr0 [0] hB0 (by simp) (by simp) (.inl (by simp))),by omega,rfl,by omega,hs.symm⟩
   | true =>
    rw [if_neg (by rw [hr];simp [hw])] at hs
    have hr2 : decide ((l.getD i zload).flows < caps.getD i 0) = true := hr
    rw [hr2] at hro
    by_cases hneg : best < 0
    ·rw [if_pos (.inl hneg)] at hs
     obtain rfl : best = -1 := by omega
     have hp0 : 0 < l.length := by omega
     obtain ⟨z0,hz0⟩ : ∃ z0,z0 = l[0] := ⟨_,rfl⟩
     repeat' (first
      | simp [hlt,← hx,Load.D,hw,ii,PI,hp0,← hz0]
      | refine ⟨wcS ?_,?_⟩
      | (refine WCall.pf (hro) ?_ ?_ ?_ ?_;iterate 3 (solve|simp [hlt,← hx,Load.D,hw,ii,PI,hp0,← hz0]))
      | with_reducible refine aI ?_ ?_ ?_)
     exact ⟨_,(i + 1,(i : Int)),(gr0 [0] hB0 (by simp) (by simp) (.inl (by simp))),by omega,rfl,by omega,hs.symm⟩
    ·obtain ⟨k,rfl⟩ : ∃ k : Nat,best = k := ⟨best.toNat,by omega⟩
     have hkl : k < l.length := by omega
     obtain ⟨z,hz⟩ : ∃ z,z = l[k] := ⟨_,rfl⟩
     have hzd : l.getD k zload = z := by rw [hz];simp [List.getD,hkl]
     have hmz := hm z (hz ▸ List.getElem_mem hkl)
     have m1 : InR (x.flows * z.weight) := mul_bd hmx.2.2.1 hmx.2.2.2 hmz.1 hmz.2.1
     have m2 : InR (z.flows * x.weight) := mul_bd hmz.2.2.1 hmz.2.2.2 hmx.1 hmx.2.1
     simp only [Int.toNat_natCast,hzd] at hs
     by_cases hc : x.flows * z.weight < z.flows * x.weight
     ·have hs : leastN l caps (i + 1) = i := by rw [hs];simp [hc]
      repeat' (first
       | simp [hlt,← hx,Load.D,hw,ii,PI,hkl,← hz,m1,m2,hc,hneg]
       | refine ⟨wcS ?_,?_⟩
       | (refine WCall.pf (hro) ?_ ?_ ?_ ?_;iterate 3 (solve|simp [hlt,← hx,Load.D,hw,ii,PI,hkl,← hz,m1,m2,hc,hneg]))
       | with_reducible refine aI ?_ ?_ ?_)
      exact ⟨_,(i + 1,(i : Int)),(gr0 [0] hB0 (by simp) (by simp) (.inl (by simp))),by omega,rfl,by omega,hs.symm⟩
     ·have hs : leastN l caps (i + 1) = k := by rw [hs,if_neg];omega
      repeat' (first
       | simp [hlt,← hx,Load.D,hw,ii,PI,hkl,← hz,m1,m2,hc,hneg]
       | refine ⟨wcS ?_,?_⟩
       | (refine WCall.pf (hro) ?_ ?_ ?_ ?_;iterate 3 (solve|simp [hlt,← hx,Load.D,hw,ii,PI,hkl,← hz,m1,m2,hc,hneg]))
       | with_reducible refine aI ?_ ?_ ?_)
      exact ⟨_,(i + 1,(k : Int)),(gr0 [0] hB0 (by simp) (by simp) (.inl (by simp))),by omega,rfl,by omega,hs.symm⟩
 ·have hie : i = l.length := by omega
  subst hie
  simp [hbest]
def pickI (walk : List Int) (l : List Load) (caps : List Int) (t : Int) : Int := if alongZ l caps walk t < 0 then leastN l caps l.length else alongZ l caps walk t
def pickM (walk : List Int) (l : List Load) (num den flows t : Int) : Int × Int :=
 if idxZ (fun x : Load => decide (0 < x.weight)) l < 0 then (0,11) else
  if pickI walk l (capsOf l num den flows) t < 0 then (0,9) else ((l.getD (pickI walk l (capsOf l num den flows) t).toNat zload).backend,0)
theorem alongZ_lo (l : List Load) (caps : List Int) : ∀ (w : List Int) (t : Int),-1 ≤ alongZ l caps w t ∧ alongZ l caps w t < max 1 l.length
 | [],t => by simp only [alongZ];omega
 | b :: w,t => by
  have h1 := alongZ_lo l caps w t
  have h2 := alongZ_lo l caps w (t - 1)
  have h3 := idxZ_lo (tkB b) l
  have e : alongZ l caps (b :: w) t = if idxZ (tkB b) l < 0 then alongZ l caps w t else if t = 0 then -1 else if roomB l caps (idxZ (tkB b) l).toNat = true then idxZ (tkB b) l else alongZ l caps w (t - 1) := rfl
  rw [e]
  split
  ·exact h1
  ·split
   ·omega
   ·split
    ·omega
    ·exact h2
theorem pick_code : cfun Tryz.prog [] 116 = some ⟨(.seq (.region 0 [oK 12 0,oK 13 0]) (.seq (.region 1 [oM 19 1,oM 20 2,oM 21 3,oM 22 4,oX 23 (.call 61 [(.t 19),(.t 20),(.t 21),(.t 22)]),oM 18 23,oE 24 18 0,oE 25 18 1,oM 14 24,oM 15 25]) (.seq (.seq (.region 2 [oM 26 15,oX 27 (.bin .neq (.t 26) (kI 0))]) (.cond 27 (.seq (.region 3 [oM 28 15,oK 12 0,oM 13 28]) .ret) .skip)) (.seq (.seq (.region 4 [oM 29 5,oX 30 (.bin .lss (.t 29) (kI 0)),oM 31 30,oG 32 (.mov (.t 5)) 31 false,oG 33 (.bin .gtr (.t 32) (kI 12)) 31 false,oX 34 (.pick (.t 31) (.k (.bool true)) (.t 33)),oM 35 34,oG 36 (.mov (.t 0)) 35 false,oG 37 (.len (.t 36)) 35 false,oG 38 (.bin .gtr (.t 37) (kI 12)) 35 false,oX 39 (.pick (.t 35) (.k (.bool true)) (.t 38))]) (.cond 39 (.seq (.region 5 [oK 12 0,oK 13 2]) .ret) .skip)) (.seq (.seq (.region 6 [oM 40 1,oX 41 (.call 156 [(.t 40),(.k (.fn 157 []))]),oX 42 (.not (.t 41))]) (.cond 42 (.seq (.region 7 [oK 12 0,oK 13 11]) .ret) .skip)) (.seq (.region 8 [oM 43 1,oM 44 14,oX 45 (.build [.nil0,.nil0] [(0,(1,(.t 43))),(1,(1,(.t 44)))]),oX 16 (.alloc [.nil0,.nil0]),oS 2 16 45]) (.seq (.region 9 [oA 46 2 16,oM 47 0,oM 48 5,oX 49 (.call 158 [(.t 46),(.t 47),(.t 48)]),oM 17 49]) (.seq (.seq (.region 10 [oM 50 17,oX 51 (.bin .lss (.t 50) (kI 0))]) (.cond 51 (.region 11 [oA 52 2 16,oX 53 (.call 159 [(.t 52)]),oM 17 53]) .skip)) (.seq (.seq (.region 12 [oM 54 17,oX 55 (.bin .lss (.t 54) (kI 0))]) (.cond 55 (.seq (.region 13 [oK 12 0,oK 13 9]) .ret) .skip)) (.seq (.region 14 [oM 56 1,oM 57 17,oI 58 3 56 57,oF 59 0 58,oL 60 1 59,oM 12 60,oK 13 0]) .ret)))))))))),[(.t 12),(.t 13)],61⟩ := by kernel_rfl
theorem pick_pf (walk : List Int) (l : List Load) (num den flows t : Int) (hl : l.length ≤ 12) (hml : mayL (-1) l) (hf : factorB num den = true) (f0 : 0 ≤ flows) (f1 : flows ≤ 40) (t0 : 0 ≤ t) (t1 : t ≤ 12) (hw : walk.length ≤ 12) :
  PF Tryz.prog 116 [.rows 1 (walk.map PI),.rows 3 (l.map Load.D),I num,I den,I flows,I t] (.tup [I (pickM walk l num den flows t).1,I (pickM walk l num den flows t).2]) := by
 have hcaps := caps_pf l num den flows hl hml
 have hcr : capsRes l num den flows = [.rows 1 ((capsOf l num den flows).map PI),I 0] := by unfold capsRes;rw [if_pos ⟨hf,f0,f1⟩];rfl
 rw [hcr] at hcaps
 have hcl : (capsOf l num den flows).length = l.length := by simp [capsOf]
 have hmem := mayL_mem hml
 have hm : ∀ x ∈ l,0 ≤ x.weight ∧ x.weight ≤ 8 ∧ 0 ≤ x.flows ∧ x.flows ≤ 40 := fun x hx => by have := hmem x hx;omega
 have c1 : ¬ t < 0 := by omega
 have c2 : ¬ 12 < t := by omega
 have c3 : ¬ 12 < (walk.length : Int) := by omega
 have hcf := lcf_pf l 157 (fun x => decide (0 < x.weight)) (by omega) fun x _ => pick1_pf x
 have hz := idxZ_lo (fun x : Load => decide (0 < x.weight)) l
 obtain ⟨caps,hce⟩ : ∃ caps,caps = capsOf l num den flows := ⟨_,rfl⟩
 rw [← hce] at hcaps hcl
 refine PF.of follows_ok pick_code (by simp) (by simp) (by simp) fun B hBN hB0 => acode_sound [0,1,2,3,4,5,12,13,14,15,16,17,27,39,42,51,55] [] _ _ _ ?_
 simp
 by_cases hb : idxZ (fun x : Load => decide (0 < x.weight)) l < 0
 ·have hp : pickM walk l num den flows t = (0,11) := by unfold pickM;rw [if_pos hb]
  have hb2 : decide (0 ≤ idxZ (fun x : Load => decide (0 < x.weight)) l) = false := decide_eq_false (by omega)
  rw [hb2] at hcf
  repeat' (first
   | simp [c1,c2,c3,hp]
   | refine ⟨wcS ?_,?_⟩
   | (refine WCall.pf (hcaps) ?_ ?_ ?_ ?_;iterate 3 (solve|simp [c1,c2,c3,hp]))
   | (refine WCall.pf (hcf) ?_ ?_ ?_ ?_;iterate 3 (solve|simp [c1,c2,c3,hp]))
   | with_reducible refine aI ?_ ?_ ?_)
 ·have hb2 : decide (0 ≤ idxZ (fun x : Load => decide (0 < x.weight)) l) = true := decide_eq_true (by omega)
  rw [hb2] at hcf
  have hal := calong_pf l caps walk t hl hcl hw t0 t1
  have hlea := cleast_pf l caps hl hcl hm
  have hlo := alongZ_lo l caps walk t
  have hlo2 := leastN_lo l caps l.length
  have hp : pickM walk l num den flows t = if pickI walk l caps t < 0 then (0,9) else ((l.getD (pickI walk l caps t).toNat zload).backend,0) := by unfold pickM;rw [if_neg hb,← hce]
  by_cases ha : alongZ l caps walk t < 0
  ·have hi : pickI walk l caps t = leastN l caps l.length := by unfold pickI;rw [if_pos ha]
   rw [hi] at hp
   by_cases hn : leastN l caps l.length < 0
   ·rw [if_pos hn] at hp
    repeat' (first
     | simp [c1,c2,c3,hp,ha,hn]
     | refine ⟨wcS ?_,?_⟩
     | (refine WCall.pf (hcaps) ?_ ?_ ?_ ?_;iterate 3 (solve|simp [c1,c2,c3,hp,ha,hn]))
     | (refine WCall.pf (hcf) ?_ ?_ ?_ ?_;iterate 3 (solve|simp [c1,c2,c3,hp,ha,hn]))
     | (refine WCall.pf (hal) ?_ ?_ ?_ ?_;iterate 3 (solve|simp [c1,c2,c3,hp,ha,hn]))
     | (refine WCall.pf (hlea) ?_ ?_ ?_ ?_;iterate 3 (solve|simp [c1,c2,c3,hp,ha,hn]))
     | with_reducible refine aI ?_ ?_ ?_)
   ·rw [if_neg hn] at hp
    obtain ⟨k,hk⟩ : ∃ k : Nat,leastN l caps l.length = k := ⟨(leastN l caps l.length).toNat,by omega⟩
    rw [hk] at hp hlea hn
    have hkl : k < l.length := by omega
    have e1 : l[k]?.getD zload = l[k] := by simp [hkl]
    repeat' (first
     | simp [c1,c2,c3,hp,ha,hn,hkl,Load.D,e1]
     | refine ⟨wcS ?_,?_⟩
     | (refine WCall.pf (hcaps) ?_ ?_ ?_ ?_;iterate 3 (solve|simp [c1,c2,c3,hp,ha,hn,hkl,Load.D,e1]))
     | (refine WCall.pf (hcf) ?_ ?_ ?_ ?_;iterate 3 (solve|simp [c1,c2,c3,hp,ha,hn,hkl,Load.D,e1]))
     | (refine WCall.pf (hal) ?_ ?_ ?_ ?_;iterate 3 (solve|simp [c1,c2,c3,hp,ha,hn,hkl,Load.D,e1]))
     | (refine WCall.pf (hlea) ?_ ?_ ?_ ?_;iterate 3 (solve|simp [c1,c2,c3,hp,ha,hn,hkl,Load.D,e1]))
     | with_reducible refine aI ?_ ?_ ?_)
  ·have hi : pickI walk l caps t = alongZ l caps walk t := by unfold pickI;rw [if_neg ha]
   rw [hi,if_neg ha] at hp
   obtain ⟨k,hk⟩ : ∃ k : Nat,alongZ l caps walk t = k := ⟨(alongZ l caps walk t).toNat,by omega⟩
   rw [hk] at hp hal ha
   have hl0 : l ≠ [] := fun h => by subst h;simp [idxZ] at hb
   have hpos := List.length_pos_iff.2 hl0
   have hkl : k < l.length := by omega
   have e1 : l[k]?.getD zload = l[k] := by simp [hkl]
   repeat' (first
    | simp [c1,c2,c3,hp,ha,hkl,Load.D,e1]
    | refine ⟨wcS ?_,?_⟩
    | (refine WCall.pf (hcaps) ?_ ?_ ?_ ?_;iterate 3 (solve|simp [c1,c2,c3,hp,ha,hkl,Load.D,e1]))
    | (refine WCall.pf (hcf) ?_ ?_ ?_ ?_;iterate 3 (solve|simp [c1,c2,c3,hp,ha,hkl,Load.D,e1]))
    | (refine WCall.pf (hal) ?_ ?_ ?_ ?_;iterate 3 (solve|simp [c1,c2,c3,hp,ha,hkl,Load.D,e1]))
    | with_reducible refine aI ?_ ?_ ?_)
end Go.Proofs.YtibemmkfcjlmpaaGreat
namespace Go.Proofs.YtibemmkfcjlmpaaGreat
open Go.RowKit
theorem pk_ceil_ge (a b : Int) (hb : 0 < b) : a ≤ (a + b - 1) / b * b := by
 have h1 := Int.emod_add_mul_ediv (a + b - 1) b
 have h2 := Int.emod_lt_of_pos (a + b - 1) hb
 rw [Int.mul_comm]
 omega
theorem pk_capZ (num den flows weight total : Int) (hf : factorB num den = true) (h1 : 0 ≤ flows) (h3 : 1 ≤ weight) (h4 : weight ≤ total) : num * (flows + 1) * weight ≤ capZ num den flows weight total * (den * total) := by
 have hf' := of_decide_eq_true hf
 have b3 : 1 ≤ den * total := Int.mul_le_mul (a := 1) (b := 1) (by omega) (by omega) (by omega) (by omega)
 exact pk_ceil_ge _ _ (by omega)
theorem pk_sum (num den flows T : Int) (hf : factorB num den = true) (h1 : 0 ≤ flows) : ∀ (l : List Load),(∀ x ∈ l,0 ≤ x.weight ∧ x.weight ≤ T) → num * (flows + 1) * sumW l ≤ (l.map (capOf num den flows T)).sum * (den * T)
 | [],_ => by simp [sumW]
 | x :: t,h => by
  have ih := pk_sum num den flows T hf h1 t fun y hy => h y (List.mem_cons_of_mem _ hy)
  have hx := h x (by simp)
  simp only [sumW,List.map_cons,List.sum_cons] at ih ⊢
  rw [Int.mul_add,Int.add_mul]
  have : num * (flows + 1) * x.weight ≤ capOf num den flows T x * (den * T) := by
   unfold capOf
   split
   ·exact pk_capZ num den flows x.weight T hf h1 (by omega) hx.2
   ·have : x.weight = 0 := by omega
    rw [this];simp
  omega
def LOk (l : List Load) : Prop := ∀ x ∈ l,0 ≤ x.weight ∧ x.weight ≤ 8 ∧ 0 ≤ x.flows ∧ x.flows ≤ 40
def someW (x : Load) : Bool := decide (0 < x.weight)
theorem sumW_zero : ∀ {l : List Load},LOk l → (sumW l = 0 ↔ idxZ someW l < 0)
 | [],_ => by simp [sumW,idxZ]
 | x :: t,h => by
  have ih := sumW_zero (l := t) fun y hy => h y (List.mem_cons_of_mem _ hy)
  have hx := h x (by simp)
  have h2 := sumW_bd (l := t) fun y hy => by have := h y (List.mem_cons_of_mem _ hy);omega
  have hlo := idxZ_lo someW t
  have e : idxZ someW (x :: t) = if someW x = true then 0 else if idxZ someW t < 0 then -1 else idxZ someW t + 1 := rfl
  have e2 : sumW (x :: t) = x.weight + sumW t := by simp [sumW]
  rw [e,e2]
  by_cases hw : 0 < x.weight
  ·rw [if_pos (show someW x = true from decide_eq_true hw)];omega
  ·rw [if_neg (by simpa [someW] using hw)]
   split <;> omega
theorem pk_all (l : List Load) (c : Load → Int) (h : ∀ x ∈ l,(0 < x.weight → c x ≤ x.flows) ∧ (¬ 0 < x.weight → c x = 0)) : (l.map c).sum ≤ sumF l := by
 induction l with
 | nil => simp [sumF]
 | cons x t ih =>
  have ih := ih fun y hy => h y (List.mem_cons_of_mem _ hy)
  have hx := h x (by simp)
  simp only [sumF,List.map_cons,List.sum_cons] at ih ⊢
  split
  ·rename_i hw;have := hx.1 hw;omega
  ·rename_i hw;have := hx.2 hw;omega
theorem pk_room (l : List Load) (num den flows : Int) (hf : factorB num den = true) (hl : LOk l) (h0 : 0 ≤ flows) (hs : sumF l ≤ flows) (hw : sumW l ≠ 0) : ∃ i,∃ (h : i < l.length),0 < l[i].weight ∧ roomB l (capsOf l num den flows) i = true := by
 have hf' := of_decide_eq_true hf
 have hb := sumW_bd (l := l) fun y hy => by have := hl y hy;omega
 have h1 := pk_sum num den flows (sumW l) hf h0 l fun x hx => by
  have := hl x hx
  exact ⟨this.1,sumW_mem (fun y hy => by have := hl y hy;omega) x hx⟩
 refine Classical.byContradiction fun hno => ?_
 have h2 := pk_all l (capOf num den flows (sumW l)) fun x hx => by
  obtain ⟨i,hi⟩ := List.getElem?_of_mem hx
  obtain ⟨hi2,rfl⟩ := List.getElem?_eq_some_iff.1 hi
  refine ⟨fun hw => ?_,fun hw => by simp [capOf,hw]⟩
  refine Classical.byContradiction fun hlt => hno ⟨i,hi2,hw,?_⟩
  unfold roomB
  refine decide_eq_true ?_
  simp only [List.getD,capsOf,List.getElem?_eq_getElem hi2,List.getElem?_map,Option.map_some,Option.getD_some]
  omega
 have h3 : (l.map (capOf num den flows (sumW l))).sum ≤ flows := by omega
 have hT : 0 < sumW l := by omega
 have h4 : den * (flows + 1) * sumW l ≤ num * (flows + 1) * sumW l := Int.mul_le_mul_of_nonneg_right (Int.mul_le_mul_of_nonneg_right hf'.2.1 (by omega)) (by omega)
 have h5 : (l.map (capOf num den flows (sumW l))).sum * (den * sumW l) ≤ flows * (den * sumW l) := Int.mul_le_mul_of_nonneg_right h3 (Int.mul_nonneg (by omega) (by omega))
 have h6 : den * (flows + 1) * sumW l = flows * (den * sumW l) + den * sumW l := by
  rw [Int.mul_comm den (flows + 1),Int.mul_assoc,Int.add_mul,Int.one_mul]
 have h7 : 1 ≤ den * sumW l := Int.mul_le_mul (a := 1) (b := 1) (by omega) (by omega) (by omega) (by omega)
 omega
theorem ofZ_at {l : List Load} {b : Int} {k : Nat} (h : ofZ l b = k) : ∃ (h2 : k < l.length),l[k].backend = b ∧ 0 < l[k].weight := by
 have h3 := idxZ_get (tkB b) l (by show 0 ≤ ofZ l b;omega)
 have e : (idxZ (tkB b) l).toNat = k := by show (ofZ l b).toNat = k;omega
 obtain ⟨h4,h5,_⟩ := h3
 simp only [e] at h4 h5
 unfold tkB at h5
 simp only [Bool.and_eq_true,decide_eq_true_eq] at h5
 exact ⟨h4,h5⟩
theorem alongZ_at (l : List Load) (caps : List Int) : ∀ (w : List Int) (t : Int) (k : Nat),alongZ l caps w t = k → ∃ (h2 : k < l.length),0 < l[k].weight ∧ roomB l caps k = true
 | [],t,k,h => by simp only [alongZ] at h;omega
 | b :: w,t,k,h => by
  have e : alongZ l caps (b :: w) t = if ofZ l b < 0 then alongZ l caps w t else if t = 0 then -1 else if roomB l caps (ofZ l b).toNat = true then ofZ l b else alongZ l caps w (t - 1) := rfl
  rw [e] at h
  split at h
  ·exact alongZ_at l caps w t k h
  ·split at h
   ·omega
   ·split at h
    ·rename_i hr
     obtain ⟨h2,h3,h4⟩ := ofZ_at h
     refine ⟨h2,h4,?_⟩
     rw [h] at hr
     exact hr
    ·exact alongZ_at l caps w (t - 1) k h
theorem ratio (a b c d e f : Int) (hb : 0 < b) (hd : 0 < d) (hf : 0 < f) (h1 : a * d ≤ c * b) (h2 : c * f ≤ e * d) : a * f ≤ e * b := by
 have h3 : a * d * f ≤ c * b * f := Int.mul_le_mul_of_nonneg_right h1 (by omega)
 have h4 : c * f * b ≤ e * d * b := Int.mul_le_mul_of_nonneg_right h2 (by omega)
 have e1 : a * d * f = a * f * d := by rw [Int.mul_assoc,Int.mul_comm d f,← Int.mul_assoc]
 have e2 : c * b * f = c * f * b := by rw [Int.mul_assoc,Int.mul_comm b f,← Int.mul_assoc]
 have e3 : e * d * b = e * b * d := by rw [Int.mul_assoc,Int.mul_comm d b,← Int.mul_assoc]
 exact Int.le_of_mul_le_mul_right (by omega : a * f * d ≤ e * b * d) hd
theorem leastN_at (l : List Load) (caps : List Int) (hl : LOk l) : ∀ i,i ≤ l.length → (leastN l caps i < 0 → ∀ j,j < i → (l.getD j zload).weight = 0 ∨ roomB l caps j = false) ∧
  (∀ k : Nat,leastN l caps i = k → k < i ∧ 0 < (l.getD k zload).weight ∧ roomB l caps k = true ∧ ∀ j,j < i → (l.getD j zload).weight ≠ 0 → roomB l caps j = true → (l.getD k zload).flows * (l.getD j zload).weight ≤ (l.getD j zload).flows * (l.getD k zload).weight)
 | 0,_ => ⟨fun _ j hj => by omega,fun k h => by simp only [leastN] at h;omega⟩
 | i + 1,hi => by
  obtain ⟨h1,h2⟩ := leastN_at l caps hl i (by omega)
  have hw : ∀ j,j < l.length → 0 ≤ (l.getD j zload).weight ∧ 0 ≤ (l.getD j zload).flows := fun j hj => by
   have := hl (l.getD j zload) (by simp only [List.getD,List.getElem?_eq_getElem hj,Option.getD_some];exact List.getElem_mem hj)
   omega
  have hwi := hw i (by omega)
  have e : leastN l caps (i + 1) = if (l.getD i zload).weight = 0 ∨ roomB l caps i = false then leastN l caps i else if leastN l caps i < 0 ∨ (l.getD i zload).flows * (l.getD (leastN l caps i).toNat zload).weight < (l.getD (leastN l caps i).toNat zload).flows * (l.getD i zload).weight then i else leastN l caps i := rfl
  rw [e]
  by_cases hc : (l.getD i zload).weight = 0 ∨ roomB l caps i = false
  ·rw [if_pos hc]
   refine ⟨fun hn j hj => ?_,fun k hk => ?_⟩
   ·by_cases hji : j = i
    ·subst hji;exact hc
    ·exact h1 hn j (by omega)
   ·obtain ⟨k1,k2,k3,k4⟩ := h2 k hk
    refine ⟨by omega,k2,k3,fun j hj hjw hjr => ?_⟩
    by_cases hji : j = i
    ·subst hji
     rcases hc with hc | hc
     ·exact absurd hc hjw
     ·rw [hc] at hjr;cases hjr
    ·exact k4 j (by omega) hjw hjr
  ·rw [if_neg hc]
   have hiw : (l.getD i zload).weight ≠ 0 := fun h => hc (.inl h)
   have hir : roomB l caps i = true := by
    cases h : roomB l caps i with
    | true => rfl
    | false => exact absurd (.inr h) hc
   have hlo := leastN_lo l caps i
   split
   ·rename_i hd
    refine ⟨fun hn => by omega,fun k hk => ?_⟩
    obtain rfl : i = k := by omega
    refine ⟨by omega,by omega,hir,fun j hj hjw hjr => ?_⟩
    by_cases hji : j = i
    ·subst hji;exact Int.le_refl _
    ·by_cases hn : leastN l caps i < 0
     ·rcases h1 hn j (by omega) with h | h
      ·exact absurd h hjw
      ·rw [h] at hjr;cases hjr
     ·obtain ⟨p,hp⟩ : ∃ p : Nat,leastN l caps i = p := ⟨(leastN l caps i).toNat,by omega⟩
      obtain ⟨k1,k2,k3,k4⟩ := h2 p hp
      have hlt : (l.getD i zload).flows * (l.getD p zload).weight < (l.getD p zload).flows * (l.getD i zload).weight := by
       rcases hd with hd | hd
       ·exact absurd hd hn
       ·rw [hp] at hd;exact hd
      have hwj := hw j (by omega)
      exact ratio _ _ _ _ _ _ (by omega) k2 (by omega) (by omega) (k4 j (by omega) hjw hjr)
   ·rename_i hd
    refine ⟨fun hn => absurd (.inl hn) hd,fun k hk => ?_⟩
    obtain ⟨k1,k2,k3,k4⟩ := h2 k hk
    refine ⟨by omega,k2,k3,fun j hj hjw hjr => ?_⟩
    by_cases hji : j = i
    ·subst hji
     rw [hk] at hd
     exact Int.not_lt.1 fun h => hd (.inr h)
    ·exact k4 j (by omega) hjw hjr
theorem pickI_at (walk : List Int) (l : List Load) (num den flows t : Int) (hf : factorB num den = true) (hl : LOk l) (h0 : 0 ≤ flows) (hs : sumF l ≤ flows) (hw : sumW l ≠ 0) :
  ∃ k : Nat,∃ (h : k < l.length),pickI walk l (capsOf l num den flows) t = k ∧ 0 < l[k].weight ∧ roomB l (capsOf l num den flows) k = true ∧ pickM walk l num den flows t = (l[k].backend,0) := by
 have hz : ¬ idxZ someW l < 0 := fun h => hw ((sumW_zero hl).2 h)
 have hp : pickM walk l num den flows t = if pickI walk l (capsOf l num den flows) t < 0 then (0,9) else ((l.getD (pickI walk l (capsOf l num den flows) t).toNat zload).backend,0) := by
  unfold pickM;exact if_neg hz
 have key : ∃ k : Nat,∃ (h : k < l.length),pickI walk l (capsOf l num den flows) t = k ∧ 0 < l[k].weight ∧ roomB l (capsOf l num den flows) k = true := by
  unfold pickI
  have halo := alongZ_lo l (capsOf l num den flows) walk t
  by_cases ha : alongZ l (capsOf l num den flows) walk t < 0
  ·rw [if_pos ha]
   obtain ⟨i,hi,h1,h2⟩ := pk_room l num den flows hf hl h0 hs hw
   obtain ⟨g1,g2⟩ := leastN_at l (capsOf l num den flows) hl l.length (Nat.le_refl _)
   have hlo := leastN_lo l (capsOf l num den flows) l.length
   by_cases hn : leastN l (capsOf l num den flows) l.length < 0
   ·rcases g1 hn i hi with h | h
    ·simp only [List.getD,List.getElem?_eq_getElem hi,Option.getD_some] at h;omega
    ·rw [h] at h2;cases h2
   ·obtain ⟨k,hk⟩ : ∃ k : Nat,leastN l (capsOf l num den flows) l.length = k := ⟨(leastN l (capsOf l num den flows) l.length).toNat,by omega⟩
    obtain ⟨k1,k2,k3,_⟩ := g2 k hk
    simp only [List.getD,List.getElem?_eq_getElem k1,Option.getD_some] at k2
    exact ⟨k,k1,hk,k2,k3⟩
  ·rw [if_neg ha]
   obtain ⟨k,hk⟩ : ∃ k : Nat,alongZ l (capsOf l num den flows) walk t = k := ⟨(alongZ l (capsOf l num den flows) walk t).toNat,by omega⟩
   obtain ⟨h1,h2,h3⟩ := alongZ_at _ _ _ _ _ hk
   exact ⟨k,h1,hk,h2,h3⟩
 obtain ⟨k,h1,h2,h3,h4⟩ := key
 refine ⟨k,h1,h2,h3,h4,?_⟩
 rw [hp,h2,if_neg (by omega)]
 simp [List.getD,h1]
end Go.Proofs.YtibemmkfcjlmpaaGreat
namespace Go.Proofs.YtibemmkfcjlmpaaGreat
open Go.RowKit
attribute [local simp] AK_at acode_seq acode_region acode_draw acode_cond CB_u acode_block acode_loop acode_exit acode_scope acode_ret acode_skip seqQ_n seqQ_e seqQ_r blockQ_n blockQ_e blockQ_r TK_at OK_at SK_at aops_nil aops_cons asch_done asch_one asch_two asch_top astep aop_eq isLoud aloud aloud1 isWrite qv evS strip gof eget hget putO eput herase oks opnds gS afin afin0 binD arith D.cells takeD fillD keep trim envOf Fin aresl aresv resD argOk pickV isP deq deqs boundD slD lenD isT isSl ptrIds chunks mn_min mx_max splice_one splice_more Rbr_at Rfr_at frR frV frC flatC brwR brwV brwC omap leR leV leC leL leVL rnR rnV rnC rnO rho_0 hputs herases rnS LtS LtR LtV LtC LtO lget noV noC flatR flatV rho
attribute [local simp ↓] CB_t CB_f
structure Budget where
 num : Int
 den : Int
 burst : Int
def Budget.D (b : Budget) : List D := [I b.num,I b.den,I b.burst]
def Budget.Ok (b : Budget) : Prop := (((((0 ≤ b.num ∧ b.num ≤ 20) ∧ 1 ≤ b.den) ∧ b.den ≤ 20) ∧ 0 ≤ b.burst) ∧ b.burst ≤ 20)
instance (b : Budget) : Decidable b.Ok := by unfold Budget.Ok;infer_instance
def Budget.full (b : Budget) : Int := b.burst * b.den
theorem Budget.Ok.full {b : Budget} (h : b.Ok) : 0 ≤ b.full ∧ b.full ≤ 400 := by
 obtain ⟨⟨⟨⟨⟨h1,h2⟩,h3⟩,h4⟩,h5⟩,h6⟩ := h
 unfold Budget.full
 refine ⟨Int.mul_nonneg h5 (by omega),Int.le_trans (Int.mul_le_mul_of_nonneg_right h6 (by omega)) (by omega)⟩
theorem inR {z : Int} (h1 : -9223372036854775808 ≤ z) (h2 : z ≤ 9223372036854775807) : InR z := ⟨h1,h2⟩
theorem bcheck_code : cfun Tryz.prog [] 62 = some ⟨(.seq (.region 0 [oB 1 0,oK 2 0]) (.seq (.seq (.region 1 [oF 3 0 1,oL 4 1 3,oX 5 (.bin .lss (.t 4) (kI 0)),oM 6 5,oG 7 (.fad 0 (.t 1)) 6 false,oG 8 (.load false 1 (.t 7)) 6 false,oG 9 (.bin .gtr (.t 8) (kI 20)) 6 false,oX 10 (.pick (.t 6) (.k (.bool true)) (.t 9)),oM 11 10,oG 12 (.fad 1 (.t 1)) 11 false,oG 13 (.load false 1 (.t 12)) 11 false,oG 14 (.bin .lss (.t 13) (kI 1)) 11 false,oX 15 (.pick (.t 11) (.k (.bool true)) (.t 14)),oM 16 15,oG 17 (.fad 1 (.t 1)) 16 false,oG 18 (.load false 1 (.t 17)) 16 false,oG 19 (.bin .gtr (.t 18) (kI 20)) 16 false,oX 20 (.pick (.t 16) (.k (.bool true)) (.t 19)),oM 21 20,oG 22 (.fad 2 (.t 1)) 21 false,oG 23 (.load false 1 (.t 22)) 21 false,oG 24 (.bin .lss (.t 23) (kI 0)) 21 false,oX 25 (.pick (.t 21) (.k (.bool true)) (.t 24)),oM 26 25,oG 27 (.fad 2 (.t 1)) 26 false,oG 28 (.load false 1 (.t 27)) 26 false,oG 29 (.bin .gtr (.t 28) (kI 20)) 26 false,oX 30 (.pick (.t 26) (.k (.bool true)) (.t 29))]) (.cond 30 (.seq (.region 2 [oK 2 2]) .ret) .skip)) (.seq (.region 3 [oK 2 0]) .ret))),[(.t 2)],31⟩ := by kernel_rfl
theorem bfull_code : cfun Tryz.prog [] 64 = some ⟨(.seq (.region 0 [oB 1 0,oK 2 0]) (.seq (.region 1 [oF 3 2 1,oL 4 1 3,oF 5 1 1,oL 6 1 5,oX 7 (.bin .mul (.t 4) (.t 6)),oM 2 7]) .ret)),[(.t 2)],8⟩ := by kernel_rfl
theorem bopen_code : cfun Tryz.prog [] 105 = some ⟨(.seq (.region 0 [oB 2 0,oB 3 1,oK 4 0]) (.seq (.seq (.region 1 [oA 6 3 2,oX 7 (.call 62 [(.t 6)]),oM 5 7]) (.seq (.region 2 [oM 8 5,oX 9 (.bin .neq (.t 8) (kI 0))]) (.cond 9 (.seq (.region 3 [oM 10 5,oM 4 10]) .ret) .skip))) (.seq (.seq (.draw 4 (.one true (oF 11 0 3) (.one true (oL 12 1 11) (.one true (oX 13 (.bin .lss (.t 12) (kI 0))) (.one true (oM 14 13) (.one true (oG 15 (.fad 0 (.t 3)) 14 false) (.one true (oG 16 (.load false 1 (.t 15)) 14 false) (.one true (oG 17 (.load true 3 (.t 2)) 14 false) (.one true (oG 18 (.call 64 [(.t 17)]) 14 false) (.one true (oG 19 (.bin .gtr (.t 16) (.t 18)) 14 false) (.one true (oX 20 (.pick (.t 14) (.k (.bool true)) (.t 19))) .done))))))))))) (.cond 20 (.seq (.region 5 [oK 4 6]) .ret) .skip)) (.seq (.region 6 [oK 4 0]) .ret)))),[(.t 4)],21⟩ := by kernel_rfl
theorem bfill_code : cfun Tryz.prog [] 46 = some ⟨(.seq (.region 0 [oB 1 0,oX 2 (.alloc [(.int .i64 0)]),oK 3 0]) (.seq (.seq (.region 1 [oA 5 3 1,oX 6 (.call 62 [(.t 5)]),oM 4 6]) (.seq (.region 2 [oM 7 4,oX 8 (.bin .neq (.t 7) (kI 0))]) (.cond 8 (.seq (.region 3 [oX 9 (.build [(.int .i64 0)] []),oM 10 4,oS 1 2 9,oM 3 10]) .ret) .skip))) (.seq (.region 4 [oA 11 3 1,oX 12 (.call 64 [(.t 11)]),oX 13 (.build [(.int .i64 0)] [(0,(1,(.t 12)))]),oS 1 2 13,oK 3 0]) .ret))),[(.c 2 true 1),(.t 3)],14⟩ := by kernel_rfl
theorem bspend_code : cfun Tryz.prog [] 141 = some ⟨(.seq (.region 0 [oB 2 0,oB 3 1,oX 4 (.alloc [(.int .i64 0)]),oK 5 0]) (.seq (.seq (.region 1 [oA 7 3 2,oA 8 1 3,oX 9 (.call 105 [(.t 7),(.t 8)]),oM 6 9]) (.seq (.region 2 [oM 10 6,oX 11 (.bin .neq (.t 10) (kI 0))]) (.cond 11 (.seq (.region 3 [oX 12 (.build [(.int .i64 0)] []),oM 13 6,oS 1 4 12,oM 5 13]) .ret) .skip))) (.seq (.seq (.region 4 [oF 14 0 3,oL 15 1 14,oF 16 1 2,oL 17 1 16,oX 18 (.bin .lss (.t 15) (.t 17))]) (.cond 18 (.seq (.region 5 [oX 19 (.build [(.int .i64 0)] []),oS 1 4 19,oK 5 11]) .ret) .skip)) (.seq (.region 6 [oF 20 0 3,oL 21 1 20,oF 22 1 2,oL 23 1 22,oX 24 (.bin .sub (.t 21) (.t 23)),oX 25 (.build [(.int .i64 0)] [(0,(1,(.t 24)))]),oS 1 4 25,oK 5 0]) .ret)))),[(.c 4 true 1),(.t 5)],26⟩ := by kernel_rfl
theorem bcheck_pf (b : Budget) : PF Tryz.prog 62 [.agg b.D] (I (if b.Ok then 0 else 2)) := by
 refine PF.of follows_ok bcheck_code (by simp) (by simp) (by simp [Budget.D]) fun B hBN hB0 => acode_sound [0,1,2,30] [] _ _ _ ?_
 simp [Budget.D]
 by_cases h : b.Ok
 ·have h' := h
  unfold Budget.Ok at h'
  simp [h,h']
 ·have h' := h
  unfold Budget.Ok at h'
  simp only [h,h',if_false]
  simp
  omega
theorem bfull_pf (b : Budget) (h : b.Ok) : PF Tryz.prog 64 [.agg b.D] (I b.full) := by
 have hf := h.full
 have hi : InR (b.burst * b.den) := inR (by unfold Budget.full at hf;omega) (by unfold Budget.full at hf;omega)
 refine PF.of follows_ok bfull_code (by simp) (by simp) (by simp [Budget.D]) fun B hBN hB0 => acode_sound [0,1,2] [] _ _ _ ?_
 simp [Budget.D,hi,Budget.full]
def bopenE (b : Budget) (x : Int) : Int := if b.Ok then (if 0 ≤ x ∧ x ≤ b.full then 0 else 6) else 2
theorem bopen_pf (b : Budget) (x : Int) : PF Tryz.prog 105 [.agg b.D,.agg [I x]] (I (bopenE b x)) := by
 refine PF.of follows_ok bopen_code (by simp) (by simp) (by simp [Budget.D]) fun B hBN hB0 => acode_sound [0,1,2,3,4,5,9,20] [] _ _ _ ?_
 simp [Budget.D]
 refine WCall.pf (bcheck_pf b) (by simp) (by simp [Budget.D]) (by simp [Budget.D]) ?_
 by_cases h : b.Ok
 ·simp [h]
  by_cases hx : 0 ≤ x
  ·have hx' : ¬ x < 0 := by omega
   simp [hx,hx']
   refine WCall.pf (bfull_pf b h) (by simp) (by simp [Budget.D]) (by simp [Budget.D]) ?_
   simp [bopenE,h,hx]
  ·have hx' : x < 0 := by omega
   simp [bopenE,h,hx,hx']
 ·simp [h,bopenE]
theorem bfill_pf (b : Budget) (h : b.Ok) : PF Tryz.prog 46 [.agg b.D] (.tup [.agg [I b.full],I 0]) := by
 refine PF.of follows_ok bfill_code (by simp) (by simp) (by simp [Budget.D]) fun B hBN hB0 => acode_sound [0,1,2,3,4,8] [] _ _ _ ?_
 simp [Budget.D]
 refine WCall.pf (bcheck_pf b) (by simp) (by simp [Budget.D]) (by simp [Budget.D]) ?_
 simp [h]
 refine WCall.pf (bfull_pf b h) (by simp) (by simp [Budget.D]) (by simp [Budget.D]) ?_
 simp
def bspendE (b : Budget) (x : Int) : Int × Int := if x < b.den then (0,11) else (x - b.den,0)
theorem bspend_pf (b : Budget) (x : Int) (h : b.Ok) (h0 : 0 ≤ x) (h1 : x ≤ b.full) : PF Tryz.prog 141 [.agg b.D,.agg [I x]] (.tup [.agg [I (bspendE b x).1],I (bspendE b x).2]) := by
 have hf := h.full
 have hb := h
 unfold Budget.Ok at hb
 refine PF.of follows_ok bspend_code (by simp) (by simp) (by simp [Budget.D]) fun B hBN hB0 => acode_sound [0,1,2,3,4,5,6,11,18] [] _ _ _ ?_
 simp [Budget.D]
 refine WCall.pf (bopen_pf b x) (by simp) (by simp [Budget.D]) (by simp [Budget.D]) ?_
 simp [bopenE,h,h0,h1]
 by_cases hx : x < b.den
 ·simp [hx,bspendE]
 ·have hi : InR (x - b.den) := inR (by omega) (by omega)
  simp [hx,bspendE,hi]
theorem bearn_code : cfun Tryz.prog [] 66 = some ⟨(.seq (.region 0 [oB 2 0,oB 3 1,oX 4 (.alloc [(.int .i64 0)]),oK 5 0]) (.seq (.seq (.region 1 [oA 7 3 2,oA 8 1 3,oX 9 (.call 105 [(.t 7),(.t 8)]),oM 6 9]) (.seq (.region 2 [oM 10 6,oX 11 (.bin .neq (.t 10) (kI 0))]) (.cond 11 (.seq (.region 3 [oX 12 (.build [(.int .i64 0)] []),oM 13 6,oS 1 4 12,oM 5 13]) .ret) .skip))) (.seq (.draw 4 (.one true (oF 14 0 3) (.one true (oL 15 1 14) (.one true (oF 16 0 2) (.one true (oL 17 1 16) (.one true (oX 18 (.bin .add (.t 15) (.t 17))) (.one true (oA 19 3 2) (.one true (oX 20 (.call 64 [(.t 19)])) (.one true (oX 21 (.mn (.t 18) (.t 20))) (.one true (oX 22 (.build [(.int .i64 0)] [(0,(1,(.t 21)))])) (.one false (oS 1 4 22) (.one true (oK 5 0) .done)))))))))))) .ret))),[(.c 4 true 1),(.t 5)],23⟩ := by kernel_rfl
theorem bearn_pf (b : Budget) (x : Int) (h : b.Ok) (h0 : 0 ≤ x) (h1 : x ≤ b.full) : PF Tryz.prog 66 [.agg b.D,.agg [I x]] (.tup [.agg [I (min (x + b.num) b.full)],I 0]) := by
 have hf := h.full
 have hb := h
 unfold Budget.Ok at hb
 refine PF.of follows_ok bearn_code (by simp) (by simp) (by simp [Budget.D]) fun B hBN hB0 => acode_sound [0,1,2,3,4,5,6,11] [] _ _ _ ?_
 simp [Budget.D]
 refine WCall.pf (bopen_pf b x) (by simp) (by simp [Budget.D]) (by simp [Budget.D]) ?_
 have hi : InR (x + b.num) := inR (by omega) (by omega)
 simp [bopenE,h,h0,h1,hi]
 refine WCall.pf (bfull_pf b h) (by simp) (by simp [Budget.D]) (by simp [Budget.D]) ?_
 simp
 all_goals (split <;> omega)
theorem budget_code : cfun Tryz.prog [] 48 = some ⟨(.seq (.region 0 [oX 6 (.alloc [(.int .i64 0),(.int .i64 0),(.int .i64 0)])]) (.seq (.region 1 [oM 7 0,oX 8 (.call 31 [(.t 7),(kI 21)]),oM 9 1,oX 10 (.call 31 [(.t 9),(kI 20)]),oX 11 (.bin .add (kI 1) (.t 10)),oM 12 2,oX 13 (.call 31 [(.t 12),(kI 21)]),oX 14 (.build [(.int .i64 0),(.int .i64 0),(.int .i64 0)] [(0,(1,(.t 8))),(1,(1,(.t 11))),(2,(1,(.t 13)))]),oS 3 6 14]) .ret)),[(.c 6 true 3)],15⟩ := by kernel_rfl
def budgetOf (num den burst : Int) : Budget := ⟨pickedZ num 21,1 + pickedZ den 20,pickedZ burst 21⟩
theorem budgetOf_ok (num den burst : Int) : (budgetOf num den burst).Ok := by
 have h1 := pickedZ_range num 21 (by omega)
 have h2 := pickedZ_range den 20 (by omega)
 have h3 := pickedZ_range burst 21 (by omega)
 unfold Budget.Ok budgetOf
 simp only
 omega
theorem budget_pf (num den burst : Int) (h1 : InR num) (h2 : InR den) (h3 : InR burst) : PF Tryz.prog 48 [I num,I den,I burst] (.agg (budgetOf num den burst).D) := by
 refine PF.of follows_ok budget_code (by simp) (by simp) (by simp) fun B hBN hB0 => acode_sound [0,1,2,6] [] _ _ _ ?_
 simp
 refine WCall.pf (picked_pf num 21 h1 (by omega)) (by simp) (by simp) (by simp) ?_
 simp
 refine WCall.pf (picked_pf den 20 h2 (by omega)) (by simp) (by simp) (by simp) ?_
 have hr := pickedZ_range den 20 (by omega)
 have hi : InR (1 + pickedZ den 20) := inR (by omega) (by omega)
 simp [hi]
 refine WCall.pf (picked_pf burst 21 h3 (by omega)) (by simp) (by simp) (by simp) ?_
 simp [Budget.D,budgetOf]
theorem may0_code : cfun Tryz.prog [] 102 = some ⟨(.seq (.region 0 [oX 2 (.mov (.k (.bool false)))]) (.seq (.seq (.region 1 [oM 6 0,oH 7 6,oX 8 (.bin .gtr (.t 7) (kI 12))]) (.cond 8 (.seq (.region 2 [oX 2 (.mov (.k (.bool false)))]) .ret) .skip)) (.seq (.region 3 [oK 3 (-1)]) (.seq (.seq (.region 4 [oM 9 0,oH 10 9,oK 11 0]) (.block 0 (.loop (.seq (.region 5 [oX 12 (.bin .lss (.t 11) (.t 10))]) (.seq (.cond 12 .skip (.exit 0)) (.seq (.block 1 (.seq (.region 6 [oI 13 3 9 11,oA 14 3 13,oX 5 (.alloc [(.int .i64 0),(.int .i64 0),(.int .i64 0)]),oS 3 5 14]) (.seq (.seq (.region 7 [oF 15 0 5,oL 16 1 15,oM 17 3,oX 18 (.bin .leq (.t 16) (.t 17)),oM 19 18,oG 20 (.fad 0 (.t 5)) 19 false,oG 21 (.load false 1 (.t 20)) 19 false,oG 22 (.bin .geq (.t 21) (kI 12)) 19 false,oX 23 (.pick (.t 19) (.k (.bool true)) (.t 22)),oM 24 23,oG 25 (.fad 1 (.t 5)) 24 false,oG 26 (.load false 1 (.t 25)) 24 false,oG 27 (.bin .lss (.t 26) (kI 0)) 24 false,oX 28 (.pick (.t 24) (.k (.bool true)) (.t 27)),oM 29 28,oG 30 (.fad 1 (.t 5)) 29 false,oG 31 (.load false 1 (.t 30)) 29 false,oG 32 (.bin .gtr (.t 31) (kI 8)) 29 false,oX 33 (.pick (.t 29) (.k (.bool true)) (.t 32)),oM 34 33,oG 35 (.fad 2 (.t 5)) 34 false,oG 36 (.load false 1 (.t 35)) 34 false,oG 37 (.bin .lss (.t 36) (kI 0)) 34 false,oX 38 (.pick (.t 34) (.k (.bool true)) (.t 37)),oM 39 38,oG 40 (.fad 2 (.t 5)) 39 false,oG 41 (.load false 1 (.t 40)) 39 false,oG 42 (.bin .gtr (.t 41) (kI 40)) 39 false,oX 43 (.pick (.t 39) (.k (.bool true)) (.t 42))]) (.cond 43 (.seq (.region 8 [oX 2 (.mov (.k (.bool false)))]) .ret) .skip)) (.region 9 [oF 44 0 5,oL 45 1 44,oM 3 45])))) (.region 10 [oX 46 (.bin .add (.t 11) (kI 1)),oM 11 46]))))))) (.seq (.region 11 [oX 2 (.mov (.k (.bool true)))]) .ret))))),[(.t 2)],47⟩ := by kernel_rfl
theorem may0_pf : PF Tryz.prog 102 [.nil0] (.bool true) := by
 refine PF.of follows_ok may0_code (by simp) (by simp) (by simp) fun B hBN hB0 => acode_sound [0,2,3,5,8,9,10,11,12,43] [] _ _ _ ?_
 simp
 refine W.loopS (fun y : Nat => ⟨[(11,I 0),(10,I 0),(9,.nil0),(3,I (-1)),(2,.bool false),(0,.nil0)],[],0⟩)
  (fun n y => n = 0 ∧ y = 0) ?_ ?_
 ·exact ⟨_,0,(gr0 [] hB0 (by simp) (by simp) (.inr rfl)),rfl,rfl⟩
 ·rintro n i ⟨rfl,rfl⟩
  refine acode_sound [0,2,3,5,8,9,10,11,12,43] [] _ _ _ ?_
  simp
theorem caps0_code : cfun Tryz.prog [] 61 = some ⟨(.seq (.region 0 [oX 8 (.mov (.k .nil0)),oK 9 0]) (.seq (.seq (.region 1 [oM 16 0,oX 17 (.call 102 [(.t 16)]),oX 18 (.not (.t 17))]) (.cond 18 (.seq (.region 2 [oX 8 (.mov (.k .nil0)),oK 9 6]) .ret) .skip)) (.seq (.seq (.region 3 [oM 19 1,oM 20 2,oX 21 (.call 42 [(.t 19),(.t 20)]),oX 22 (.not (.t 21)),oM 23 22,oG 24 (.mov (.t 3)) 23 false,oG 25 (.bin .lss (.t 24) (kI 0)) 23 false,oX 26 (.pick (.t 23) (.k (.bool true)) (.t 25)),oM 27 26,oG 28 (.mov (.t 3)) 27 false,oG 29 (.bin .gtr (.t 28) (kI 40)) 27 false,oX 30 (.pick (.t 27) (.k (.bool true)) (.t 29))]) (.cond 30 (.seq (.region 4 [oX 8 (.mov (.k .nil0)),oK 9 2]) .ret) .skip)) (.seq (.region 5 [oK 10 0]) (.seq (.seq (.region 6 [oM 31 0,oH 32 31,oK 33 0]) (.block 0 (.loop (.seq (.region 7 [oX 34 (.bin .lss (.t 33) (.t 32))]) (.seq (.cond 34 .skip (.exit 0)) (.seq (.block 1 (.seq (.region 8 [oI 35 3 31 33,oA 36 3 35,oX 12 (.alloc [(.int .i64 0),(.int .i64 0),(.int .i64 0)]),oS 3 12 36]) (.region 9 [oM 37 10,oF 38 1 12,oL 39 1 38,oX 40 (.bin .add (.t 37) (.t 39)),oM 10 40]))) (.region 10 [oX 41 (.bin .add (.t 33) (kI 1)),oM 33 41]))))))) (.seq (.region 11 [oM 42 0,oH 43 42,oX 44 (.mks 1 8 [(.int .i64 0)] (.t 43) (.t 43)),oM 13 44]) (.seq (.seq (.region 12 [oM 45 0,oH 46 45,oK 47 0]) (.block 2 (.loop (.seq (.region 13 [oX 48 (.bin .lss (.t 47) (.t 46))]) (.seq (.cond 48 .skip (.exit 2)) (.seq (.block 3 (.seq (.region 14 [oM 49 47,oI 50 3 45 47,oA 51 3 50,oX 15 (.alloc [(.int .i64 0),(.int .i64 0),(.int .i64 0)]),oM 14 49,oS 3 15 51]) (.seq (.region 15 [oF 52 1 15,oL 53 1 52,oX 54 (.bin .gtr (.t 53) (kI 0))]) (.cond 54 (.region 16 [oM 56 13,oM 57 14,oM 58 1,oM 59 2,oM 60 3,oF 61 1 15,oL 62 1 61,oM 63 10,oX 64 (.call 24 [(.t 58),(.t 59),(.t 60),(.t 62),(.t 63)]),oM 55 64,oE 65 55 0,oE 66 55 1,oI 67 1 56 57,oS 1 67 65]) .skip)))) (.region 17 [oX 68 (.bin .add (.t 47) (kI 1)),oM 47 68]))))))) (.seq (.region 18 [oM 69 13,oM 8 69,oK 9 0]) .ret)))))))),[(.t 8),(.t 9)],70⟩ := by kernel_rfl
theorem caps0_pf (num den : Int) : PF Tryz.prog 61 [.nil0,I num,I den,I 0] (.tup (if factorB num den = true then [.rows 1 [],I 0] else [.nil0,I 2])) := by
 have h1 := may0_pf
 have h2 := factor_pf num den
 by_cases hf : factorB num den = true
 ·rw [hf] at h2
  refine PF.of follows_ok caps0_code (by simp) (by simp) (by simp) fun B hBN hB0 => acode_sound [0,1,2,3,8,9,10,12,13,14,15,18,30,31,32,33,34,45,46,47,48,54] [] _ _ _ ?_
  repeat' (first
   | simp [hf]
   | refine ⟨wcS ?_,?_⟩
   | (refine WCall.pf (h1) ?_ ?_ ?_ ?_;iterate 3 (solve|simp [hf]))
   | (refine WCall.pf (h2) ?_ ?_ ?_ ?_;iterate 3 (solve|simp [hf]))
   | with_reducible refine aI ?_ ?_ ?_)
  refine W.loopS (fun y : Nat => ⟨[(33,I 0),(32,I 0),(31,.nil0),(10,I 0),(9,I 0),(8,.nil0),(3,I 0),(2,I den),(1,I num),(0,.nil0)],[],0⟩)
   (fun n y => n = 0 ∧ y = 0) ?_ ?_
  ·exact ⟨_,0,(gr0 [] hB0 (by simp) (by simp) (.inr rfl)),rfl,rfl⟩
  rintro n i ⟨rfl,rfl⟩
  refine acode_sound [0,1,2,3,8,9,10,12,13,14,15,18,30,31,32,33,34,45,46,47,48,54] [] _ _ _ ?_
  repeat' (first
   | simp
   | refine ⟨wcS ?_,?_⟩
   | (refine WCall.pf (h1) ?_ ?_ ?_ ?_;iterate 3 (solve|simp))
   | with_reducible refine aI ?_ ?_ ?_)
  refine W.loopS (fun y : Nat => ⟨[(47,I 0),(46,I 0),(45,.nil0),(13,.own 0),(10,I 0),(9,I 0),(8,.nil0),(3,I 0),(2,I den),(1,I num),(0,.nil0)],[(0,.row 1 [])],1⟩)
   (fun n y => n = 0 ∧ y = 0) ?_ ?_
  ·exact ⟨_,0,(gr0 [] hB0 (by simp) (by simp) (.inr rfl)),rfl,rfl⟩
  rintro n i ⟨rfl,rfl⟩
  refine acode_sound [0,1,2,3,8,9,10,12,13,14,15,18,30,31,32,33,34,45,46,47,48,54] [] _ _ _ ?_
  repeat' (first
   | simp
   | refine ⟨wcS ?_,?_⟩
   | (refine WCall.pf (h1) ?_ ?_ ?_ ?_;iterate 3 (solve|simp))
   | with_reducible refine aI ?_ ?_ ?_)
 ·rw [Bool.not_eq_true] at hf
  rw [hf] at h2
  refine PF.of follows_ok caps0_code (by simp) (by simp) (by simp) fun B hBN hB0 => acode_sound [0,1,2,3,8,9,10,12,13,14,15,18,30,31,32,33,34,45,46,47,48,54] [] _ _ _ ?_
  repeat' (first
   | simp [hf]
   | refine ⟨wcS ?_,?_⟩
   | (refine WCall.pf (h1) ?_ ?_ ?_ ?_;iterate 3 (solve|simp [hf]))
   | (refine WCall.pf (h2) ?_ ?_ ?_ ?_;iterate 3 (solve|simp [hf]))
   | with_reducible refine aI ?_ ?_ ?_)
theorem cwithin_code : cfun Tryz.prog [] 60 = some ⟨(.seq (.region 0 [oX 6 (.mov (.k (.bool false)))]) (.seq (.region 1 [oM 7 0,oM 8 1,oX 9 (.bin .geq (.t 7) (.t 8)),oM 10 9,oG 11 (.mov (.t 0)) 10 true,oG 12 (.mov (.t 2)) 10 true,oG 13 (.bin .leq (.t 11) (.t 12)) 10 true,oX 14 (.pick (.t 10) (.t 13) (.k (.bool false))),oM 6 14]) .ret)),[(.t 6)],15⟩ := by kernel_rfl
def withinB (x lo hi : Int) : Bool := decide (lo ≤ x ∧ x ≤ hi)
theorem cwithin_pf (x lo hi : Int) : PF Tryz.prog 60 [I x,I lo,I hi] (.bool (withinB x lo hi)) := by
 refine PF.of follows_ok cwithin_code (by simp) (by simp) (by simp) fun B hBN hB0 => acode_sound [0,1,2,6] [] _ _ _ ?_
 simp [withinB]
theorem withinB_t {x lo hi : Int} (h : lo ≤ x ∧ x ≤ hi) : withinB x lo hi = true := decide_eq_true h
structure Cfg where
 slots : Int
 num : Int
 den : Int
 tries : Int
 c4 : Int
 c5 : Int
 c6 : Int
 c7 : Int
 c8 : Int
 c9 : Int
 bud : Budget
 wat : Wtch
def Cfg.D (c : Cfg) : List D := [I c.slots,I c.num,I c.den,I c.tries,I c.c4,I c.c5,I c.c6,I c.c7,I c.c8,I c.c9,I c.bud.num,I c.bud.den,I c.bud.burst,I c.wat.window,I c.wat.fails,I c.wat.hold]
structure Cfg.Ok (c : Cfg) : Prop where
 f : factorB c.num c.den = true
 w0 : 1 ≤ c.slots ∧ c.slots ≤ 40
 w3 : 0 ≤ c.tries ∧ c.tries ≤ 12
 w4 : 0 ≤ c.c4 ∧ c.c4 ≤ 500
 w5 : 1 ≤ c.c5 ∧ c.c5 ≤ 500
 w6 : 1 ≤ c.c6 ∧ c.c6 ≤ 500
 w7 : 1 ≤ c.c7 ∧ c.c7 ≤ 500
 w8 : 0 ≤ c.c8 ∧ c.c8 ≤ 20
 w9 : 0 ≤ c.c9 ∧ c.c9 ≤ 100
 b : c.bud.Ok
 w : c.wat.Ok
theorem ccheck_code : cfun Tryz.prog [] 44 = some ⟨(.seq (.region 0 [oB 1 0,oK 2 0]) (.seq (.region 1 [oF 7 4 1,oL 8 1 7,oX 9 (.call 60 [(.t 8),(kI 0),(kI 500)]),oM 10 9,oG 11 (.fad 5 (.t 1)) 10 true,oG 12 (.load false 1 (.t 11)) 10 true,oG 13 (.call 60 [(.t 12),(kI 1),(kI 500)]) 10 true,oX 14 (.pick (.t 10) (.t 13) (.k (.bool false))),oM 15 14,oG 16 (.fad 6 (.t 1)) 15 true,oG 17 (.load false 1 (.t 16)) 15 true,oG 18 (.call 60 [(.t 17),(kI 1),(kI 500)]) 15 true,oX 19 (.pick (.t 15) (.t 18) (.k (.bool false))),oM 20 19,oG 21 (.fad 7 (.t 1)) 20 true,oG 22 (.load false 1 (.t 21)) 20 true,oG 23 (.call 60 [(.t 22),(kI 1),(kI 500)]) 20 true,oX 24 (.pick (.t 20) (.t 23) (.k (.bool false))),oM 3 24]) (.seq (.region 2 [oF 26 1 1,oL 27 1 26,oF 28 2 1,oL 29 1 28,oX 30 (.call 61 [(.k .nil0),(.t 27),(.t 29),(kI 0)]),oM 25 30,oE 31 25 0,oE 32 25 1,oM 4 31,oM 5 32]) (.seq (.seq (.region 3 [oM 33 3,oX 34 (.not (.t 33)),oM 35 34,oG 36 (.mov (.t 5)) 35 false,oG 37 (.bin .neq (.t 36) (kI 0)) 35 false,oX 38 (.pick (.t 35) (.k (.bool true)) (.t 37)),oM 39 38,oG 40 (.fad 0 (.t 1)) 39 false,oG 41 (.load false 1 (.t 40)) 39 false,oG 42 (.call 60 [(.t 41),(kI 1),(kI 40)]) 39 false,oG 43 (.not (.t 42)) 39 false,oX 44 (.pick (.t 39) (.k (.bool true)) (.t 43)),oM 45 44,oG 46 (.fad 3 (.t 1)) 45 false,oG 47 (.load false 1 (.t 46)) 45 false,oG 48 (.call 60 [(.t 47),(kI 0),(kI 12)]) 45 false,oG 49 (.not (.t 48)) 45 false,oX 50 (.pick (.t 45) (.k (.bool true)) (.t 49)),oM 51 50,oG 52 (.fad 8 (.t 1)) 51 false,oG 53 (.load false 1 (.t 52)) 51 false,oG 54 (.call 60 [(.t 53),(kI 0),(kI 20)]) 51 false,oG 55 (.not (.t 54)) 51 false,oX 56 (.pick (.t 51) (.k (.bool true)) (.t 55)),oM 57 56,oG 58 (.fad 9 (.t 1)) 57 false,oG 59 (.load false 1 (.t 58)) 57 false,oG 60 (.call 60 [(.t 59),(kI 0),(kI 100)]) 57 false,oG 61 (.not (.t 60)) 57 false,oX 62 (.pick (.t 57) (.k (.bool true)) (.t 61))]) (.cond 62 (.seq (.region 4 [oK 2 2]) .ret) .skip)) (.seq (.seq (.region 5 [oF 63 10 1,oA 64 3 63,oX 65 (.call 62 [(.t 64)]),oM 6 65]) (.seq (.region 6 [oM 66 6,oX 67 (.bin .neq (.t 66) (kI 0))]) (.cond 67 (.seq (.region 7 [oM 68 6,oM 2 68]) .ret) .skip))) (.seq (.region 8 [oF 69 13 1,oA 70 3 69,oX 71 (.call 63 [(.t 70)]),oM 2 71]) .ret)))))),[(.t 2)],72⟩ := by kernel_rfl
theorem ccheck_pf (c : Cfg) (h : c.Ok) : PF Tryz.prog 44 [.agg c.D] (I 0) := by
 have e1 := cwithin_pf c.c4 0 500
 have e2 := cwithin_pf c.c5 1 500
 have e3 := cwithin_pf c.c6 1 500
 have e4 := cwithin_pf c.c7 1 500
 have e5 := cwithin_pf c.slots 1 40
 have e6 := cwithin_pf c.tries 0 12
 have e7 := cwithin_pf c.c8 0 20
 have e8 := cwithin_pf c.c9 0 100
 rw [withinB_t h.w4] at e1
 rw [withinB_t h.w5] at e2
 rw [withinB_t h.w6] at e3
 rw [withinB_t h.w7] at e4
 rw [withinB_t h.w0] at e5
 rw [withinB_t h.w3] at e6
 rw [withinB_t h.w8] at e7
 rw [withinB_t h.w9] at e8
 have hc := caps0_pf c.num c.den
 rw [if_pos h.f] at hc
 have hb := bcheck_pf c.bud
 rw [if_pos h.b] at hb
 have hw := hcheck_pf c.wat h.w
 unfold Budget.D at hb
 unfold Wtch.D at hw
 refine PF.of follows_ok ccheck_code (by simp) (by simp) (by simp [Cfg.D]) fun B hBN hB0 => acode_sound [0,1,2,3,5,6,62,67] [] _ _ _ ?_
 repeat' (first
  | simp [Cfg.D]
  | refine ⟨wcS ?_,?_⟩
  | (refine WCall.pf (e1) ?_ ?_ ?_ ?_;iterate 3 (solve|simp [Cfg.D]))
  | (refine WCall.pf (e2) ?_ ?_ ?_ ?_;iterate 3 (solve|simp [Cfg.D]))
  | (refine WCall.pf (e3) ?_ ?_ ?_ ?_;iterate 3 (solve|simp [Cfg.D]))
  | (refine WCall.pf (e4) ?_ ?_ ?_ ?_;iterate 3 (solve|simp [Cfg.D]))
  | (refine WCall.pf (e5) ?_ ?_ ?_ ?_;iterate 3 (solve|simp [Cfg.D]))
  | (refine WCall.pf (e6) ?_ ?_ ?_ ?_;iterate 3 (solve|simp [Cfg.D]))
  | (refine WCall.pf (e7) ?_ ?_ ?_ ?_;iterate 3 (solve|simp [Cfg.D]))
  | (refine WCall.pf (e8) ?_ ?_ ?_ ?_;iterate 3 (solve|simp [Cfg.D]))
  | (refine WCall.pf (hc) ?_ ?_ ?_ ?_;iterate 3 (solve|simp [Cfg.D]))
  | (refine WCall.pf (hb) ?_ ?_ ?_ ?_;iterate 3 (solve|simp [Cfg.D]))
  | (refine WCall.pf (hw) ?_ ?_ ?_ ?_;iterate 3 (solve|simp [Cfg.D]))
  | with_reducible refine aI ?_ ?_ ?_)
theorem config_code : cfun Tryz.prog [] 30 = some ⟨(.seq (.region 0 [oB 1 0,oX 2 (.alloc [(.int .i64 0),(.int .i64 0),(.int .i64 0),(.int .i64 0),(.int .i64 0),(.int .i64 0),(.int .i64 0),(.int .i64 0),(.int .i64 0),(.int .i64 0),(.int .i64 0),(.int .i64 0),(.int .i64 0),(.int .i64 0),(.int .i64 0),(.int .i64 0)])]) (.seq (.region 1 [oF 4 2 1,oL 5 1 4,oX 6 (.call 31 [(.t 5),(kI 20)]),oX 7 (.bin .add (kI 1) (.t 6)),oM 3 7]) (.seq (.draw 2 (.one true (oF 8 0 1) (.one true (oL 9 1 8) (.one true (oM 12 3) (.one true (oF 13 1 1) (.one true (oL 14 1 13) (.one true (oM 15 3) (.one true (oX 16 (.bin .sub (kI 20) (.t 15))) (.one true (oX 17 (.bin .add (.t 16) (kI 1))) (.one true (oM 20 3) (.one true (oF 21 3 1) (.one true (oL 22 1 21) (.one true (oF 24 4 1) (.one true (oL 25 1 24) (.one true (oF 27 5 1) (.one true (oL 28 1 27) (.one true (oF 31 6 1) (.one true (oL 32 1 31) (.one true (oF 35 7 1) (.one true (oL 36 1 35) (.one true (oF 39 8 1) (.one true (oL 40 1 39) (.one true (oF 42 9 1) (.one true (oL 43 1 42) (.one true (oF 45 10 1) (.one true (oX 46 (.iada 3 1 (.t 45) (kI 0))) (.one true (oL 47 1 46) (.one true (oF 48 10 1) (.one true (oX 49 (.iada 3 1 (.t 48) (kI 1))) (.one true (oL 50 1 49) (.one true (oF 51 10 1) (.one true (oX 52 (.iada 3 1 (.t 51) (kI 2))) (.one true (oL 53 1 52) (.one true (oF 55 13 1) (.one true (oX 56 (.iada 3 1 (.t 55) (kI 0))) (.one true (oL 57 1 56) (.one true (oF 58 13 1) (.one true (oX 59 (.iada 3 1 (.t 58) (kI 1))) (.one true (oL 60 1 59) (.one true (oF 61 13 1) (.one true (oX 62 (.iada 3 1 (.t 61) (kI 2))) (.one true (oL 63 1 62) (.one true (oX 64 (.bin .rem (.t 63) (kI 20))) (.one true (oX 10 (.call 31 [(.t 9),(kI 8)])) (.one true (oX 11 (.bin .add (kI 1) (.t 10))) (.one true (oX 18 (.call 31 [(.t 14),(.t 17)])) (.one true (oX 19 (.bin .add (.t 12) (.t 18))) (.one true (oX 23 (.call 31 [(.t 22),(kI 4)])) (.one true (oX 26 (.call 31 [(.t 25),(kI 6)])) (.one true (oX 29 (.call 31 [(.t 28),(kI 5)])) (.one true (oX 30 (.bin .add (kI 1) (.t 29))) (.one true (oX 33 (.call 31 [(.t 32),(kI 6)])) (.one true (oX 34 (.bin .add (kI 1) (.t 33))) (.one true (oX 37 (.call 31 [(.t 36),(kI 4)])) (.one true (oX 38 (.bin .add (kI 1) (.t 37))) (.one true (oX 41 (.call 31 [(.t 40),(kI 4)])) (.one true (oX 44 (.call 31 [(.t 43),(kI 101)])) (.one true (oX 54 (.call 48 [(.t 47),(.t 50),(.t 53)])) (.one true (oX 65 (.call 49 [(.t 57),(.t 60),(.t 64)])) (.one true (oX 66 (.build [(.int .i64 0),(.int .i64 0),(.int .i64 0),(.int .i64 0),(.int .i64 0),(.int .i64 0),(.int .i64 0),(.int .i64 0),(.int .i64 0),(.int .i64 0),(.int .i64 0),(.int .i64 0),(.int .i64 0),(.int .i64 0),(.int .i64 0),(.int .i64 0)] [(0,(1,(.t 11))),(1,(1,(.t 19))),(2,(1,(.t 20))),(3,(1,(.t 23))),(4,(1,(.t 26))),(5,(1,(.t 30))),(6,(1,(.t 34))),(7,(1,(.t 38))),(8,(1,(.t 41))),(9,(1,(.t 44))),(10,(3,(.t 54))),(13,(3,(.t 65)))])) (.one false (oS 16 2 66) .done))))))))))))))))))))))))))))))))))))))))))))))))))))))))))))) .ret))),[(.c 2 true 16)],67⟩ := by kernel_rfl
def remZ (z : Int) : Int := if 0 ≤ z then z % 20 else -(-z % 20)
def cfgOf (a0 a1 a2 a3 a4 a5 a6 a7 a8 a9 a10 a11 a12 a13 a14 a15 : Int) : Cfg :=
 ⟨1 + pickedZ a0 8,(1 + pickedZ a2 20) + pickedZ a1 (20 - (1 + pickedZ a2 20) + 1),1 + pickedZ a2 20,pickedZ a3 4,pickedZ a4 6,1 + pickedZ a5 5,1 + pickedZ a6 6,1 + pickedZ a7 4,pickedZ a8 4,pickedZ a9 101,budgetOf a10 a11 a12,watchOf a13 a14 (remZ a15)⟩
theorem cfgOf_ok (a0 a1 a2 a3 a4 a5 a6 a7 a8 a9 a10 a11 a12 a13 a14 a15 : Int) : (cfgOf a0 a1 a2 a3 a4 a5 a6 a7 a8 a9 a10 a11 a12 a13 a14 a15).Ok := by
 have h0 := pickedZ_range a0 8 (by omega)
 have h2 := pickedZ_range a2 20 (by omega)
 have h1 := pickedZ_range a1 (20 - (1 + pickedZ a2 20) + 1) (by omega)
 have h3 := pickedZ_range a3 4 (by omega)
 have h4 := pickedZ_range a4 6 (by omega)
 have h5 := pickedZ_range a5 5 (by omega)
 have h6 := pickedZ_range a6 6 (by omega)
 have h7 := pickedZ_range a7 4 (by omega)
 have h8 := pickedZ_range a8 4 (by omega)
 have h9 := pickedZ_range a9 101 (by omega)
 exact ⟨decide_eq_true (by simp only [cfgOf];omega),by simp only [cfgOf];omega,by simp only [cfgOf];omega,by simp only [cfgOf];omega,by simp only [cfgOf];omega,by simp only [cfgOf];omega,by simp only [cfgOf];omega,by simp only [cfgOf];omega,by simp only [cfgOf];omega,budgetOf_ok _ _ _,watchOf_ok _ _ _⟩
theorem config_pf (a0 a1 a2 a3 a4 a5 a6 a7 a8 a9 a10 a11 a12 a13 a14 a15 : Int) (i0 : InR a0) (i1 : InR a1) (i2 : InR a2) (i3 : InR a3) (i4 : InR a4) (i5 : InR a5) (i6 : InR a6) (i7 : InR a7) (i8 : InR a8) (i9 : InR a9) (i10 : InR a10) (i11 : InR a11) (i12 : InR a12) (i13 : InR a13) (i14 : InR a14) (i15 : InR a15) :
  PF Tryz.prog 30 [.agg [I a0,I a1,I a2,I a3,I a4,I a5,I a6,I a7,I a8,I a9,I a10,I a11,I a12,I a13,I a14,I a15]] (.agg (cfgOf a0 a1 a2 a3 a4 a5 a6 a7 a8 a9 a10 a11 a12 a13 a14 a15).D) := by
 have h0 := pickedZ_range a0 8 (by omega)
 have h2 := pickedZ_range a2 20 (by omega)
 have h3 := pickedZ_range a3 4 (by omega)
 have h4 := pickedZ_range a4 6 (by omega)
 have h5 := pickedZ_range a5 5 (by omega)
 have h6 := pickedZ_range a6 6 (by omega)
 have h7 := pickedZ_range a7 4 (by omega)
 have h8 := pickedZ_range a8 4 (by omega)
 have h9 := pickedZ_range a9 101 (by omega)
 have hr : (if 0 ≤ a15 then a15 % 20 else -(-a15 % 20)) = remZ a15 := rfl
 have ht : InR (remZ a15) := by unfold remZ;split <;> exact inR (by omega) (by omega)
 have p0 := picked_pf a0 8 i0 (by omega)
 have p2 := picked_pf a2 20 i2 (by omega)
 have p3 := picked_pf a3 4 i3 (by omega)
 have p4 := picked_pf a4 6 i4 (by omega)
 have p5 := picked_pf a5 5 i5 (by omega)
 have p6 := picked_pf a6 6 i6 (by omega)
 have p7 := picked_pf a7 4 i7 (by omega)
 have p8 := picked_pf a8 4 i8 (by omega)
 have p9 := picked_pf a9 101 i9 (by omega)
 have pb := budget_pf a10 a11 a12 i10 i11 i12
 have pw := watch_pf a13 a14 (remZ a15) i13 i14 ht
 unfold cfgOf
 generalize pickedZ a0 8 = b0 at *
 generalize pickedZ a2 20 = b2 at *
 generalize pickedZ a3 4 = b3 at *
 generalize pickedZ a4 6 = b4 at *
 generalize pickedZ a5 5 = b5 at *
 generalize pickedZ a6 6 = b6 at *
 generalize pickedZ a7 4 = b7 at *
 generalize pickedZ a8 4 = b8 at *
 generalize pickedZ a9 101 = b9 at *
 generalize budgetOf a10 a11 a12 = bb at *
 generalize watchOf a13 a14 (remZ a15) = ww at *
 obtain ⟨d,hd⟩ : ∃ d,d = 1 + b2 := ⟨_,rfl⟩
 have h1 := pickedZ_range a1 (20 - d + 1) (by omega)
 have p1 := picked_pf a1 (20 - d + 1) i1 (by omega)
 rw [← hd]
 generalize pickedZ a1 (20 - d + 1) = b1 at *
 have j0 : InR (1 + b0) := inR (by omega) (by omega)
 have j1 : InR (d + b1) := inR (by omega) (by omega)
 have j2 : InR d := inR (by omega) (by omega)
 have j3 : InR (20 - d) := inR (by omega) (by omega)
 have j4 : InR (20 - d + 1) := inR (by omega) (by omega)
 have j5 : InR (1 + b5) := inR (by omega) (by omega)
 have j6 : InR (1 + b6) := inR (by omega) (by omega)
 have j7 : InR (1 + b7) := inR (by omega) (by omega)
 unfold Budget.D at pb
 unfold Wtch.D at pw
 refine PF.of follows_ok config_code (by simp) (by simp) (by simp) fun B hBN hB0 => acode_sound [0,1,2,3] [] _ _ _ ?_
 repeat' (first
  | simp [Cfg.D,← hd,j0,j1,j2,j3,j4,j5,j6,j7,ht,hr]
  | refine ⟨wcS ?_,?_⟩
  | (refine WCall.pf (p0) ?_ ?_ ?_ ?_;iterate 3 (solve|simp [Cfg.D,← hd,j0,j1,j2,j3,j4,j5,j6,j7,ht,hr]))
  | (refine WCall.pf (p1) ?_ ?_ ?_ ?_;iterate 3 (solve|simp [Cfg.D,← hd,j0,j1,j2,j3,j4,j5,j6,j7,ht,hr]))
  | (refine WCall.pf (p2) ?_ ?_ ?_ ?_;iterate 3 (solve|simp [Cfg.D,← hd,j0,j1,j2,j3,j4,j5,j6,j7,ht,hr]))
  | (refine WCall.pf (p3) ?_ ?_ ?_ ?_;iterate 3 (solve|simp [Cfg.D,← hd,j0,j1,j2,j3,j4,j5,j6,j7,ht,hr]))
  | (refine WCall.pf (p4) ?_ ?_ ?_ ?_;iterate 3 (solve|simp [Cfg.D,← hd,j0,j1,j2,j3,j4,j5,j6,j7,ht,hr]))
  | (refine WCall.pf (p5) ?_ ?_ ?_ ?_;iterate 3 (solve|simp [Cfg.D,← hd,j0,j1,j2,j3,j4,j5,j6,j7,ht,hr]))
  | (refine WCall.pf (p6) ?_ ?_ ?_ ?_;iterate 3 (solve|simp [Cfg.D,← hd,j0,j1,j2,j3,j4,j5,j6,j7,ht,hr]))
  | (refine WCall.pf (p7) ?_ ?_ ?_ ?_;iterate 3 (solve|simp [Cfg.D,← hd,j0,j1,j2,j3,j4,j5,j6,j7,ht,hr]))
  | (refine WCall.pf (p8) ?_ ?_ ?_ ?_;iterate 3 (solve|simp [Cfg.D,← hd,j0,j1,j2,j3,j4,j5,j6,j7,ht,hr]))
  | (refine WCall.pf (p9) ?_ ?_ ?_ ?_;iterate 3 (solve|simp [Cfg.D,← hd,j0,j1,j2,j3,j4,j5,j6,j7,ht,hr]))
  | (refine WCall.pf (pb) ?_ ?_ ?_ ?_;iterate 3 (solve|simp [Cfg.D,← hd,j0,j1,j2,j3,j4,j5,j6,j7,ht,hr]))
  | (refine WCall.pf (pw) ?_ ?_ ?_ ?_;iterate 3 (solve|simp [Cfg.D,← hd,j0,j1,j2,j3,j4,j5,j6,j7,ht,hr]))
  | with_reducible refine aI ?_ ?_ ?_)
theorem sixteen {r : List Int} (h : r.length = 16) : ∃ a0 a1 a2 a3 a4 a5 a6 a7 a8 a9 a10 a11 a12 a13 a14 a15,r = [a0,a1,a2,a3,a4,a5,a6,a7,a8,a9,a10,a11,a12,a13,a14,a15] := by
 match r,h with
 | [a0,a1,a2,a3,a4,a5,a6,a7,a8,a9,a10,a11,a12,a13,a14,a15],_ => exact ⟨_,_,_,_,_,_,_,_,_,_,_,_,_,_,_,_,rfl⟩
end Go.Proofs.YtibemmkfcjlmpaaGreat
namespace Go.Proofs.YtibemmkfcjlmpaaGreat
theorem find_set {L : List Lif} {x : Lif} {n : Int} {i : Nat} (hi : i < L.length) (h0 : L[i].backend ≠ n) (hx : x.backend ≠ n) : (L.set i x).find? (qB n) = L.find? (qB n) := by
 have e1 : L.set i x = L.take i ++ (x :: L.drop (i + 1)) := by rw [List.set_eq_take_append_cons_drop,if_pos hi]
 have e2 : L = L.take i ++ (L[i] :: L.drop (i + 1)) := by rw [← List.drop_eq_getElem_cons hi,List.take_append_drop]
 rw [e1]
 conv => rhs;rw [e2]
 rw [List.find?_append,List.find?_append,List.find?_cons,List.find?_cons]
 simp [qB,hx,h0]
theorem ofM_find (L : List Lif) (n : Int) : ofM L n = match L.find? (qB n) with | some x => (x,0) | none => (default,8) := by
 unfold ofM
 split
 ·rename_i h
  have h1 := findM_neg h
  have : L.find? (qB n) = none := List.find?_eq_none.2 fun x hx => by simpa [qB] using h1 x hx
  rw [this]
 ·rename_i h
  obtain ⟨h1,h2,h3⟩ := findM_at (by omega : 0 ≤ findM L n)
  obtain ⟨_,_,h4⟩ := idxZ_get (qB n) L (by unfold findM at h;omega)
  have : L.find? (qB n) = some L[(findM L n).toNat] := by
   rw [List.find?_eq_some_iff_getElem]
   exact ⟨decide_eq_true h2,(findM L n).toNat,h1,rfl,fun j hj => by
    have := h4 j hj
    simp only [Bool.not_eq_true']
    exact this⟩
  simp only [this,h3]
  rfl
end Go.Proofs.YtibemmkfcjlmpaaGreat
namespace Go.Proofs.YtibemmkfcjlmpaaGreat
open Go.RowKit
def rg0 : List Nat := [0,0,0,0,0,0,0,0,0,0,0,0]
theorem ring0 : ringM rg0 = [] := by
 have : wantM rg0 12 = [] := by simp [wantM,rg0,List.range_succ,spotsM]
 unfold ringM
 rw [this]
 exact List.mergeSort_nil
theorem ded_go (l : List (Int × Int)) : ∀ acc : List Int,acc.Nodup → ((l.foldl (fun out s => if s.2 ∈ out then out else out ++ [s.2]) acc).Nodup ∧ ∀ z,z ∈ l.foldl (fun out s => if s.2 ∈ out then out else out ++ [s.2]) acc ↔ z ∈ acc ∨ ∃ s ∈ l,s.2 = z) := by
 induction l with
 | nil => intro acc h;exact ⟨h,fun z => by simp⟩
 | cons s t ih =>
  intro acc h
  simp only [List.foldl_cons]
  by_cases hm : s.2 ∈ acc
  ·rw [if_pos hm]
   obtain ⟨h1,h2⟩ := ih acc h
   refine ⟨h1,fun z => ?_⟩
   rw [h2]
   constructor
   ·rintro (h3 | ⟨u,h3,h4⟩)
    ·exact .inl h3
    ·exact .inr ⟨u,List.mem_cons_of_mem _ h3,h4⟩
   ·rintro (h3 | ⟨u,h3,h4⟩)
    ·exact .inl h3
    ·rcases List.mem_cons.1 h3 with rfl | h3
     ·exact .inl (h4 ▸ hm)
     ·exact .inr ⟨u,h3,h4⟩
  ·rw [if_neg hm]
   obtain ⟨h1,h2⟩ := ih (acc ++ [s.2]) (by
    rw [List.nodup_append]
    refine ⟨h,by simp,fun a ha b hb => ?_⟩
    simp at hb
    subst hb
    rintro rfl
    exact hm ha)
   refine ⟨h1,fun z => ?_⟩
   rw [h2]
   constructor
   ·rintro (h3 | ⟨u,h3,h4⟩)
    ·rcases List.mem_append.1 h3 with h3 | h3
     ·exact .inl h3
     ·simp at h3;exact .inr ⟨s,List.mem_cons_self,h3.symm⟩
    ·exact .inr ⟨u,List.mem_cons_of_mem _ h3,h4⟩
   ·rintro (h3 | ⟨u,h3,h4⟩)
    ·exact .inl (List.mem_append_left _ h3)
    ·rcases List.mem_cons.1 h3 with rfl | h3
     ·exact .inl (by simp [h4])
     ·exact .inr ⟨u,h3,h4⟩
theorem dedM_nodup (l : List (Int × Int)) : (dedM l).Nodup := (ded_go l [] (by simp)).1
theorem dedM_mem (l : List (Int × Int)) (z : Int) : z ∈ dedM l ↔ ∃ s ∈ l,s.2 = z := by
 have := (ded_go l [] (by simp)).2 z
 simpa [dedM] using this
theorem rotL_mem {α : Type} (l : List α) (f : Nat) (x : α) : x ∈ rotL l f ↔ x ∈ l := by
 unfold rotL
 rw [List.mem_append,or_comm,← List.mem_append,List.take_append_drop]
theorem walkM_nodup (ws : List Nat) (z : Int) : (walkM ws z).Nodup := dedM_nodup _
theorem walkM_bd (ws : List Nat) (z x : Int) (h : x ∈ walkM ws z) : 0 ≤ x ∧ x < 12 := by
 obtain ⟨s,h1,rfl⟩ := (dedM_mem _ _).1 h
 exact ringM_mem ((rotL_mem _ _ _).1 h1)
structure Outp where
 kind : Int
 slot : Int
 gen : Int
 backend : Int
 request : Int
 code : Int
 why : Int
def Outp.D (o : Outp) : List D := [I o.kind,I o.slot,I o.gen,I o.backend,I o.request,I o.code,I o.why]
structure Flw where
 slot : Int
 gen : Int
 key : Int
 backend : Int
 serving : Bool
 tries : Int
 due : Int
deriving DecidableEq,Inhabited
def Flw.D (f : Flw) : List D := [I f.slot,I f.gen,I f.key,I f.backend,.bool f.serving,I f.tries,I f.due]
deriving instance DecidableEq,Inhabited for Outp
structure Evt where
 kind : Int
 key : Int
 slot : Int
 gen : Int
 good : Bool
 req : Int
 backend : Int
 weight : Int
deriving DecidableEq,Inhabited
def Evt.D (e : Evt) : List D := [I e.kind,I e.key,I e.slot,I e.gen,.bool e.good,I e.req,I e.backend,I e.weight]
structure Gt where
 c : Cfg
 now : Int
 tb : List TSlot
 fl : List Flw
 L : List Lif
 R : List Rqs
 ws : List Nat
 hl : List Hlth
 tok : Int
 wn : Int
 tm : List (Int × Int)
 out : List Outp
def hzero : Hlth := ⟨[],false,0,0⟩
def lifeM (L : List Lif) (b : Int) : Lif := (ofM L b).1
def stateM (L : List Lif) (b : Int) : Int := (lifeM L b).state
def isOut (hl : List Hlth) (b : Int) : Bool := (hl.getD b.toNat hzero).out
def rampM (weight since now warm : Int) : Int := if warm ≤ now - since then weight else max (weight * (now - since) / warm) 1
def loadOf (g : Gt) (but : Int) (x : Lif) : Load :=
 ⟨x.backend,if isOut g.hl x.backend = true then 0 else rampM x.weight x.since g.now g.c.c4,(cntB g.tb x.backend : Int) - if 0 ≤ but ∧ (g.tb.getD but.toNat tzero).backend = x.backend then 1 else 0⟩
def loadsM (g : Gt) (but : Int) : List Load := (g.L.filter fun x => decide (x.state = 2)).map (loadOf g but)
def walkK (ws : List Nat) (key : Int) : List Int := walkM ws ((keyN key.toNat : Nat) : Int)
def pickG (g : Gt) (key but : Int) : Int × Int :=
 pickM (walkK g.ws key) (loadsM g but) g.c.num g.c.den ((g.fl.length : Int) - if 0 ≤ but then 1 else 0) g.c.tries
def rmT (tm : List (Int × Int)) (slot : Int) : List (Int × Int) := tm.filter fun t => decide (t.2 ≠ slot)
def armT (tm : List (Int × Int)) (slot at_ : Int) : List (Int × Int) := insT (at_,slot) (rmT tm slot)
def Gt.put (g : Gt) (o : Outp) : Gt := { g with out := g.out ++ [o] }
def Gt.dueA (g : Gt) (i : Nat) (at_ : Int) : Gt := { g with tm := armT g.tm (g.fl.getD i default).slot at_,fl := g.fl.set i { g.fl.getD i default with due := at_ } }
def goneO (b req : Int) : Outp := ⟨9,0,0,b,req,0,0⟩
def Gt.spared (g : Gt) (b : Int) : Gt :=
 if stateM g.L b = 3 ∧ cntB g.tb b = 0 then { g with L := (finishM g.L b).1,out := g.out ++ [goneO b (lifeM g.L b).req] } else g
def Gt.dropA (g : Gt) (i : Nat) (o : Outp) : Gt :=
 let f := g.fl.getD i default
 { g with fl := g.fl.eraseIdx i,tb := g.tb.set f.slot.toNat ⟨f.gen + 1,false,0,0⟩,tm := rmT g.tm f.slot,out := g.out ++ [{ o with slot := f.slot,gen := f.gen,backend := f.backend }] }
def Gt.drop (g : Gt) (i : Nat) (o : Outp) : Gt := (g.dropA i o).spared (g.fl.getD i default).backend
def actN (L : List Lif) : Nat := L.countP fun x => decide (x.state = 2)
def outN (L : List Lif) (hl : List Hlth) : Nat := L.countP fun x => decide (x.state = 2) && isOut hl x.backend
def allowM (out act most : Int) : Bool := decide ((out + 1) * 100 ≤ most * act)
def Gt.note (g : Gt) (b : Int) (failed : Bool) : Gt :=
 { g with hl := g.hl.set b.toNat (noteH g.c.wat (g.hl.getD b.toNat hzero) failed g.now (allowM (outN g.L g.hl) (actN g.L) g.c.c9 && decide (stateM g.L b = 2))).1 }
def resetO (why : Int) : Outp := ⟨6,0,0,0,0,0,why⟩
def Gt.moved (g : Gt) (i : Nat) (b tok : Int) : Gt :=
 let f := g.fl.getD i default
 { g with tok := tok,tb := g.tb.set f.slot.toNat ⟨f.gen,true,f.key,b⟩,fl := g.fl.set i { f with backend := b,tries := f.tries + 1,due := g.now + g.c.c7 },tm := armT g.tm f.slot (g.now + g.c.c7),out := g.out ++ [⟨5,f.slot,f.gen,b,0,0,0⟩] }
def Gt.failed (g : Gt) (i : Nat) (why : Int) : Gt :=
 let f := g.fl.getD i default
 let g1 := g.note f.backend true
 if f.tries = g.c.c8 ∨ g.tok < g.c.bud.den then g1.drop i (resetO why)
 else if (pickG g1 f.key f.slot).2 ≠ 0 then g1.drop i (resetO 4)
 else if f.backend ≠ (pickG g1 f.key f.slot).1 then (g1.moved i (pickG g1 f.key f.slot).1 (g.tok - g.c.bud.den)).spared f.backend
 else g1.moved i (pickG g1 f.key f.slot).1 (g.tok - g.c.bud.den)
def posF (fl : List Flw) (slot : Int) : Nat := lowB (fun f => decide (f.slot < slot)) fl
def insF (fl : List Flw) (f : Flw) : List Flw := fl.take (posF fl f.slot) ++ [f] ++ fl.drop (posF fl f.slot)
def freeZ (tb : List TSlot) : Int := idxZ tfree tb
def Gt.taken (g : Gt) (s : Nat) (key b : Int) : Gt :=
 let gen := (g.tb.getD s tzero).gen
 { g with tb := g.tb.set s ⟨gen,true,key,b⟩,fl := insF g.fl ⟨s,gen,key,b,false,0,g.now + g.c.c7⟩,tm := armT g.tm s (g.now + g.c.c7),tok := min (g.tok + g.c.bud.num) g.c.bud.full,out := g.out ++ [⟨1,s,gen,b,0,0,0⟩] }
def Gt.opened (g : Gt) (key : Int) : Gt :=
 if freeZ g.tb < 0 then g.put ⟨2,0,0,0,0,9,0⟩
 else if (pickG g key (-1)).2 ≠ 0 then g.put ⟨2,0,0,0,0,11,0⟩
 else g.taken (freeZ g.tb).toNat key (pickG g key (-1)).1
def findF (fl : List Flw) (slot : Int) : Int := idxZ (fun f => decide (f.slot = slot)) fl
def Gt.served (g : Gt) (i : Nat) : Gt := { g with fl := g.fl.set i { g.fl.getD i default with serving := true } }
def Gt.flow (g : Gt) (e : Evt) : Gt :=
 if (getM g.tb e.slot e.gen).2 ≠ 0 then g.put ⟨10,0,0,0,0,(getM g.tb e.slot e.gen).2,0⟩
 else
  let i := (findF g.fl e.slot).toNat
  let f := g.fl.getD i default
  if e.kind = 3 then g.drop i ⟨7,0,0,0,0,0,0⟩
  else if e.kind = 2 then (if f.serving = true then g.dueA i (g.now + g.c.c6) else g).put ⟨3,e.slot,e.gen,f.backend,0,0,0⟩
  else if f.serving = true then g.put ⟨10,0,0,0,0,7,0⟩
  else if e.good = true then (((g.served i).note f.backend false).dueA i (g.now + g.c.c6)).put ⟨4,e.slot,e.gen,f.backend,0,0,0⟩
  else g.failed i 3
def reqOf (e : Evt) : Rqs := ⟨e.req,if e.kind = 6 then 2 else 1,e.backend,e.weight,0⟩
def Gt.ask (g : Gt) (e : Evt) : Gt :=
 let a := askM g.L g.R (reqOf e) g.now g.c.c5
 let g1 := { g with L := a.L,R := a.R,out := g.out ++ [⟨8,0,0,0,e.req,a.answer,0⟩] }
 if a.fresh = false ∨ a.answer ≠ 0 ∨ e.kind ≠ 6 then g1
 else if stateM g.L e.backend = 1 then g1.put (goneO e.backend e.req)
 else Gt.spared { g1 with ws := g1.ws.set e.backend.toNat 0 } e.backend
def wokenW (L : List Lif) : List Int → List Nat → List Nat
 | [],ws => ws
 | x :: l,ws => wokenW L l (ws.set x.toNat (lifeM L x).weight.toNat)
def wokenH : List Int → List Hlth → List Hlth
 | [],hl => hl
 | x :: l,hl => wokenH l (hl.set x.toNat hzero)
def Gt.tick0 (g : Gt) : Gt :=
  { g with now := g.now + 1, wn := g.wn + 1, tm := g.tm.filter (fun t => decide (t.1 ≠ g.wn + 1)), L := wakeM g.L (g.now + 1), ws := wokenW (wakeM g.L (g.now + 1)) (wokenM g.L) g.ws,
           hl := (wokenH (wokenM g.L) g.hl).map fun h => (backH h (g.now + 1)).1 }
def offM (g : Gt) : List Int := (g.tm.filter fun t => decide (t.1 = g.wn + 1)).map (·.2)
def Gt.off1 (g : Gt) (slot : Int) : Gt :=
 let i := (findF g.fl slot).toNat
 if (g.fl.getD i default).serving = true then g.drop i (resetO 1) else g.failed i 5
def Gt.offs (g : Gt) : List Int → Gt
 | [] => g
 | s :: l => (g.off1 s).offs l
def Gt.cut1 (g : Gt) : List Hnd → Gt
 | [] => g
 | h :: l => (g.drop (findF g.fl h.1).toNat (resetO 2)).cut1 l
def Gt.cuts (g : Gt) : List Lif → Gt
 | [] => g
 | x :: l => (if x.state ≠ 3 ∨ g.now < x.til then g else g.cut1 (ofL g.tb x.backend)).cuts l
def Gt.tick (g : Gt) : Gt :=
 let g1 := g.tick0.offs (offM g)
 g1.cuts g1.L
def Gt.step (g : Gt) (e : Evt) : Gt :=
 if e.kind = 1 then g.opened e.key else if e.kind = 5 ∨ e.kind = 6 then g.ask e else if e.kind = 7 then g.tick else g.flow e
def Gt.done (g : Gt) (e : Evt) : Gt := { g with out := [] }.step e
structure FlT (tb : List TSlot) (fl : List Flw) : Prop where
 so : fl.Pairwise fun x y => x.slot < y.slot
 at_ : ∀ f ∈ fl,0 ≤ f.slot ∧ f.slot < tb.length ∧ tb.getD f.slot.toNat tzero = ⟨f.gen,true,f.key,f.backend⟩
 al : ∀ s,s < tb.length → (tb.getD s tzero).used = true → ∃ f ∈ fl,f.slot = (s : Int)
theorem FlT.uniq {tb : List TSlot} {fl : List Flw} (h : FlT tb fl) {f f' : Flw} (hf : f ∈ fl) (hf' : f' ∈ fl) (e : f.slot = f'.slot) : f = f' := by
 obtain ⟨i,hi⟩ := List.getElem?_of_mem hf
 obtain ⟨j,hj⟩ := List.getElem?_of_mem hf'
 obtain ⟨i1,i2⟩ := List.getElem?_eq_some_iff.1 hi
 obtain ⟨j1,j2⟩ := List.getElem?_eq_some_iff.1 hj
 have hp := List.pairwise_iff_getElem.1 h.so
 rcases Nat.lt_trichotomy i j with hl | hl | hl
 ·have := hp i j i1 j1 hl;rw [i2,j2] at this;omega
 ·subst hl;rw [← i2,← j2]
 ·have := hp j i j1 i1 hl;rw [i2,j2] at this;omega
theorem find_at {fl : List Flw} (hs : fl.Pairwise fun x y => x.slot < y.slot) {i : Nat} (hi : i < fl.length) : findF fl fl[i].slot = i := by
 refine idxZ_at _ fl i hi (fun j hj => ?_) (by simp)
 have := List.pairwise_iff_getElem.1 hs j i (by omega) hi hj
 simp;omega
theorem find_mem {fl : List Flw} (hs : fl.Pairwise fun x y => x.slot < y.slot) {f : Flw} (hf : f ∈ fl) : ∃ h : (findF fl f.slot).toNat < fl.length,fl[(findF fl f.slot).toNat] = f ∧ 0 ≤ findF fl f.slot ∧ fl.getD (findF fl f.slot).toNat default = f := by
 obtain ⟨i,hi⟩ := List.getElem?_of_mem hf
 obtain ⟨i1,rfl⟩ := List.getElem?_eq_some_iff.1 hi
 have := find_at hs i1
 rw [this]
 refine ⟨by simpa using i1,by simp,by omega,by simp [List.getD_eq_getElem?_getD,i1]⟩
theorem getD_at {α : Type} {l : List α} {i : Nat} (d : α) (h : i < l.length) : l.getD i d = l[i] := by simp [List.getD_eq_getElem?_getD,h]
theorem mem_erase {α : Type} {l : List α} {i : Nat} {x : α} (h : x ∈ l.eraseIdx i) : ∃ j,∃ h : j < l.length,j ≠ i ∧ l[j] = x := by
 obtain ⟨k,hk⟩ := List.getElem?_of_mem h
 rw [List.getElem?_eraseIdx] at hk
 split at hk
 ·obtain ⟨h1,h2⟩ := List.getElem?_eq_some_iff.1 hk
  exact ⟨k,h1,by omega,h2⟩
 ·obtain ⟨h1,h2⟩ := List.getElem?_eq_some_iff.1 hk
  exact ⟨k + 1,h1,by omega,h2⟩
theorem erase_mem {α : Type} {l : List α} {i j : Nat} (hj : j < l.length) (hn : j ≠ i) : l[j] ∈ l.eraseIdx i := by
 rcases Nat.lt_or_gt_of_ne hn with h | h
 ·refine List.mem_of_getElem? (i := j) ?_
  rw [List.getElem?_eraseIdx,if_pos h,List.getElem?_eq_getElem hj]
 ·refine List.mem_of_getElem? (i := j - 1) ?_
  rw [List.getElem?_eraseIdx,if_neg (by omega),show j - 1 + 1 = j by omega,List.getElem?_eq_getElem hj]
theorem FlT.slot_lt {tb : List TSlot} {fl : List Flw} (h : FlT tb fl) {i j : Nat} (hi : i < fl.length) (hj : j < fl.length) (hn : i ≠ j) : fl[i].slot ≠ fl[j].slot := by
 have hp := List.pairwise_iff_getElem.1 h.so
 rcases Nat.lt_or_gt_of_ne hn with hl | hl
 ·have := hp i j hi hj hl;omega
 ·have := hp j i hj hi hl;omega
theorem FlT.drop {tb : List TSlot} {fl : List Flw} (h : FlT tb fl) {i : Nat} (hi : i < fl.length) {s : TSlot} (hs : s.used = false) : FlT (tb.set fl[i].slot.toNat s) (fl.eraseIdx i) := by
 have h0 := h.at_ _ (List.getElem_mem hi)
 refine ⟨h.so.sublist (List.eraseIdx_sublist _ _),fun f hf => ?_,fun s' hs' hu => ?_⟩
 ·obtain ⟨j,hj,hji,rfl⟩ := mem_erase hf
  have h1 := h.at_ _ (List.getElem_mem hj)
  have hne := h.slot_lt hj hi hji
  rw [getD_set,if_neg (by omega),List.length_set]
  exact h1
 ·rw [List.length_set] at hs'
  rw [getD_set] at hu
  split at hu
  ·rw [hs] at hu;cases hu
  ·rename_i hc
   obtain ⟨f,hf,he⟩ := h.al s' hs' hu
   obtain ⟨j,hj⟩ := List.getElem?_of_mem hf
   obtain ⟨j1,rfl⟩ := List.getElem?_eq_some_iff.1 hj
   refine ⟨_,erase_mem j1 (i := i) (fun e => ?_),he⟩
   subst e;omega
theorem FlT.upd {tb : List TSlot} {fl : List Flw} (h : FlT tb fl) {i : Nat} (hi : i < fl.length) {f : Flw} (e1 : f.slot = fl[i].slot) : FlT (tb.set f.slot.toNat ⟨f.gen,true,f.key,f.backend⟩) (fl.set i f) := by
 have h0 := h.at_ _ (List.getElem_mem hi)
 refine ⟨?_,fun x hx => ?_,fun s' hs' hu => ?_⟩
 ·rw [List.pairwise_iff_getElem]
  intro a b ha hb hab
  simp only [List.length_set] at ha hb
  have := List.pairwise_iff_getElem.1 h.so a b ha hb hab
  rw [List.getElem_set,List.getElem_set]
  split
  ·rename_i e;subst e
   rw [if_neg (by omega),e1];exact this
  ·split
   ·rename_i e;subst e;rw [e1];exact this
   ·exact this
 ·obtain ⟨j,hj⟩ := List.getElem?_of_mem hx
  obtain ⟨j1,j2⟩ := List.getElem?_eq_some_iff.1 hj
  rw [List.getElem_set] at j2
  split at j2
  ·subst j2
   rw [getD_set,if_pos (by omega),List.length_set]
   exact ⟨by omega,by omega,rfl⟩
  ·rename_i hne
   simp only [List.length_set] at j1
   subst j2
   have h1 := h.at_ _ (List.getElem_mem j1)
   have hne := h.slot_lt j1 hi (fun e => hne e.symm)
   refine ⟨h1.1,by simpa using h1.2.1,?_⟩
   rw [getD_set,if_neg (by omega)]
   exact h1.2.2
 ·rw [List.length_set] at hs'
  rw [getD_set] at hu
  by_cases hc : s' = f.slot.toNat
  ·exact ⟨f,List.mem_of_getElem? (i := i) (by rw [List.getElem?_set];simp [hi]),by omega⟩
  ·rw [if_neg (by omega)] at hu
   obtain ⟨x,hx,he⟩ := h.al s' hs' hu
   obtain ⟨j,hj⟩ := List.getElem?_of_mem hx
   obtain ⟨j1,rfl⟩ := List.getElem?_eq_some_iff.1 hj
   have hji : j ≠ i := fun e => by subst e;omega
   exact ⟨_,List.mem_of_getElem? (i := j) (by rw [List.getElem?_set,if_neg (by omega),List.getElem?_eq_getElem j1]),he⟩
theorem insF_mem {fl : List Flw} {f x : Flw} : x ∈ insF fl f ↔ x = f ∨ x ∈ fl := by
 unfold insF
 constructor
 ·intro h
  rcases List.mem_append.1 h with h | h
  ·rcases List.mem_append.1 h with h | h
   ·exact .inr (List.mem_of_mem_take h)
   ·exact .inl (List.mem_singleton.1 h)
  ·exact .inr (List.mem_of_mem_drop h)
 ·intro h
  rcases h with rfl | h
  ·simp
  ·rw [← List.take_append_drop (posF fl f.slot) fl] at h
   rcases List.mem_append.1 h with h | h <;> simp [h]
theorem insF_so {fl : List Flw} (h : fl.Pairwise fun x y => x.slot < y.slot) {f : Flw} (hn : ∀ x ∈ fl,x.slot ≠ f.slot) : (insF fl f).Pairwise fun x y => x.slot < y.slot := by
 have hlt : ∀ j (h : j < fl.length),j < posF fl f.slot → fl[j].slot < f.slot := fun j h hj => of_decide_eq_true (lowB_lt (fun x : Flw => decide (x.slot < f.slot)) fl j h hj)
 have hge : ∀ h : posF fl f.slot < fl.length,¬ fl[posF fl f.slot].slot < f.slot := fun h => of_decide_eq_false (lowB_ge (fun x : Flw => decide (x.slot < f.slot)) fl h)
 unfold insF
 generalize posF fl f.slot = p at hlt hge
 have hp := List.pairwise_iff_getElem.1 h
 rw [List.append_assoc,List.pairwise_append]
 refine ⟨h.sublist (List.take_sublist _ _),?_,fun a ha b hb => ?_⟩
 ·rw [List.singleton_append,List.pairwise_cons]
  refine ⟨fun y hy => ?_,h.sublist (List.drop_sublist _ _)⟩
  obtain ⟨j,hj⟩ := List.getElem?_of_mem hy
  rw [List.getElem?_drop] at hj
  obtain ⟨hj1,hj2⟩ := List.getElem?_eq_some_iff.1 hj
  have hpl : p < fl.length := by omega
  have h1 := hge hpl
  have h2 := hn fl[p] (List.getElem_mem hpl)
  rcases Nat.eq_zero_or_pos j with h0 | h0
  ·subst h0
   simp only [Nat.add_zero] at hj2
   rw [← hj2];omega
  ·have := hp p (p + j) hpl hj1 (by omega)
   rw [hj2] at this;omega
 ·obtain ⟨j,hj⟩ := List.getElem?_of_mem ha
  rw [List.getElem?_take] at hj
  split at hj
  ·rename_i hjp
   obtain ⟨hj1,hj2⟩ := List.getElem?_eq_some_iff.1 hj
   have h1 := hlt j hj1 hjp
   rw [hj2] at h1
   rcases List.mem_append.1 hb with hb | hb
   ·rw [List.mem_singleton.1 hb];exact h1
   ·obtain ⟨k,hk⟩ := List.getElem?_of_mem hb
    rw [List.getElem?_drop] at hk
    obtain ⟨hk1,hk2⟩ := List.getElem?_eq_some_iff.1 hk
    have := hp j (p + k) hj1 hk1 (by omega)
    rw [hj2,hk2] at this;exact this
  ·cases hj
theorem FlT.ins {tb : List TSlot} {fl : List Flw} (h : FlT tb fl) {s : Nat} (hs : s < tb.length) (hu : (tb.getD s tzero).used = false) {f : Flw} (e : f.slot = (s : Int)) : FlT (tb.set s ⟨f.gen,true,f.key,f.backend⟩) (insF fl f) := by
 have hn : ∀ x ∈ fl,x.slot ≠ f.slot := fun x hx e2 => by
  have h1 := h.at_ x hx
  have : x.slot.toNat = s := by omega
  rw [this] at h1
  rw [h1.2.2] at hu
  cases hu
 refine ⟨insF_so h.so hn,fun x hx => ?_,fun s' hs' hu' => ?_⟩
 ·rcases insF_mem.1 hx with rfl | hx
  ·rw [getD_set,if_pos (by omega),List.length_set]
   exact ⟨by omega,by omega,rfl⟩
  ·have h1 := h.at_ x hx
   have h2 := hn x hx
   rw [getD_set,if_neg (by omega),List.length_set]
   exact h1
 ·rw [List.length_set] at hs'
  by_cases hc : s' = s
  ·exact ⟨f,insF_mem.2 (.inl rfl),by omega⟩
  ·rw [getD_set,if_neg (by omega)] at hu'
   obtain ⟨x,hx,he⟩ := h.al s' hs' hu'
   exact ⟨x,insF_mem.2 (.inr hx),he⟩
theorem FlT.slots {tb : List TSlot} {fl : List Flw} (h : FlT tb fl) : fl.map (·.slot) = ((List.range tb.length).filter fun s => (tb.getD s tzero).used).map fun s : Nat => (s : Int) := by
 refine inc_eq _ _ (List.pairwise_map.2 h.so) ?_ fun z => ?_
 ·rw [List.pairwise_map]
  exact List.Pairwise.imp (fun h => by omega) (List.Pairwise.filter _ List.pairwise_lt_range)
 ·constructor
  ·intro hz
   obtain ⟨f,hf,rfl⟩ := List.mem_map.1 hz
   have h1 := h.at_ f hf
   exact List.mem_map.2 ⟨f.slot.toNat,List.mem_filter.2 ⟨List.mem_range.2 (by omega),by rw [h1.2.2]⟩,by omega⟩
  ·intro hz
   obtain ⟨s,hs,rfl⟩ := List.mem_map.1 hz
   obtain ⟨h1,h2⟩ := List.mem_filter.1 hs
   obtain ⟨f,hf,e⟩ := h.al s (List.mem_range.1 h1) h2
   exact List.mem_map.2 ⟨f,hf,e⟩
theorem FlT.cnt {tb : List TSlot} {fl : List Flw} (h : FlT tb fl) (b : Int) : cntB tb b = fl.countP fun f => decide (f.backend = b) := by
 have h1 : (fl.countP fun f => decide (f.backend = b)) = (fl.map (·.slot)).countP fun z : Int => decide ((tb.getD z.toNat tzero).backend = b) := by
  rw [List.countP_map]
  refine List.countP_congr fun f hf => ?_
  have := h.at_ f hf
  simp only [Function.comp]
  rw [this.2.2]
 rw [h1,h.slots,cntB_range,List.countP_map,List.countP_filter]
 refine List.countP_congr fun s _ => ?_
 simp [Bool.and_comm]
theorem FlT.used {tb : List TSlot} {fl : List Flw} (h : FlT tb fl) : tb.countP (·.used) = fl.length := by
 have h1 := congrArg List.length h.slots
 rw [List.length_map,List.length_map,← List.countP_eq_length_filter] at h1
 rw [h1]
 have : tb = (List.range tb.length).map fun s => tb.getD s tzero := by
  apply List.ext_getElem (by simp)
  intro i h1 h2
  simp [List.getD_eq_getElem?_getD,h1]
 conv => lhs;rw [this]
 rw [List.countP_map];rfl
theorem FlT.get {tb : List TSlot} {fl : List Flw} (h : FlT tb fl) {f : Flw} (hf : f ∈ fl) : getM tb f.slot f.gen = (⟨f.gen,true,f.key,f.backend⟩,0) := by
 have h1 := h.at_ f hf
 unfold getM
 rw [if_neg (by omega),h1.2.2]
 simp
theorem FlT.got {tb : List TSlot} {fl : List Flw} (h : FlT tb fl) {slot gen : Int} (hg : (getM tb slot gen).2 = 0) : ∃ f ∈ fl,f.slot = slot ∧ f.gen = gen := by
 obtain ⟨h1,h2,_,h3,h4⟩ := getM_in tb slot gen hg
 obtain ⟨f,hf,e⟩ := h.al slot.toNat (by omega) h3
 have h5 := h.at_ f hf
 have : f.slot = slot := by omega
 refine ⟨f,hf,this,?_⟩
 rw [this] at h5
 rw [h5.2.2] at h4
 exact h4
def TmT (now : Int) (fl : List Flw) (tm : List (Int × Int)) : Prop := ∀ t,t ∈ tm ↔ ∃ f ∈ fl,now < f.due ∧ t = (f.due,f.slot)
theorem rmT_mem {tm : List (Int × Int)} {s : Int} {t : Int × Int} : t ∈ rmT tm s ↔ t ∈ tm ∧ t.2 ≠ s := by
 unfold rmT;rw [List.mem_filter];simp
theorem armT_mem {tm : List (Int × Int)} {s z : Int} {t : Int × Int} : t ∈ armT tm s z ↔ t = (z,s) ∨ (t ∈ tm ∧ t.2 ≠ s) := by
 unfold armT;rw [insT_mem,rmT_mem]
theorem rmT_srt {tm : List (Int × Int)} (h : SrtT tm) (s : Int) : SrtT (rmT tm s) := List.Pairwise.filter _ h
theorem armT_srt {tm : List (Int × Int)} (h : SrtT tm) (s z : Int) : SrtT (armT tm s z) := insT_srt (rmT_srt h s) fun x hx => (rmT_mem.1 hx).2
theorem TmT.wh {now : Int} {tb : List TSlot} {fl : List Flw} {tm : List (Int × Int)} (h : TmT now fl tm) (hs : SrtT tm) (hf : FlT tb fl) (h40 : tb.length ≤ 40) (n0 : 0 ≤ now) (n1 : now ≤ 2000000) (hd : ∀ f ∈ fl,f.due ≤ now + 500) : WhOk now tm := by
 have hslot : ∀ t ∈ tm,0 ≤ t.2 ∧ t.2 < 40 := fun t ht => by
  obtain ⟨f,hm,_,rfl⟩ := (h t).1 ht
  have := hf.at_ f hm
  show 0 ≤ f.slot ∧ f.slot < 40
  omega
 have hid : (tm.map (·.2)).Nodup := by
  unfold List.Nodup
  rw [List.pairwise_map]
  refine List.Pairwise.imp_of_mem (fun {a b} ha hb hab e => ?_) hs
  obtain ⟨f,hm,_,rfl⟩ := (h a).1 ha
  obtain ⟨f',hm',_,rfl⟩ := (h b).1 hb
  have := hf.uniq hm hm' e
  subst this
  simp at hab
 refine ⟨n0,by omega,hs,fun t ht => ?_,hid,?_⟩
 ·have h1 := hslot t ht
  obtain ⟨f,hm,h2,rfl⟩ := (h t).1 ht
  have := hd f hm
  exact ⟨h2,this,by show f.due ≤ _;omega,h1.1,by omega⟩
 ·have : (tm.map (·.2)).length ≤ 40 := by
   have hsub : (tm.map (·.2)) ⊆ (List.range 40).map fun n : Nat => (n : Int) := fun z hz => by
    obtain ⟨t,ht,rfl⟩ := List.mem_map.1 hz
    have := hslot t ht
    exact List.mem_map.2 ⟨t.2.toNat,List.mem_range.2 (by omega),by omega⟩
   have := List.Nodup.length_le_of_subset hid hsub
   simpa using this
  rw [List.length_map] at this
  omega
theorem TmT.arm {tb : List TSlot} {now : Int} {fl : List Flw} {tm : List (Int × Int)} (h : TmT now fl tm) (hf : FlT tb fl) {i : Nat} (hi : i < fl.length) {z : Int} (hz : now < z) {f : Flw} (e1 : f.slot = fl[i].slot) (e2 : f.due = z) : TmT now (fl.set i f) (armT tm fl[i].slot z) := by
 intro t
 rw [armT_mem,h t]
 constructor
 ·rintro (rfl | ⟨⟨x,hx,hd,rfl⟩,hne⟩)
  ·exact ⟨f,List.mem_of_getElem? (i := i) (by rw [List.getElem?_set];simp [hi]),by omega,by rw [e1,e2]⟩
  ·obtain ⟨j,hj⟩ := List.getElem?_of_mem hx
   obtain ⟨j1,rfl⟩ := List.getElem?_eq_some_iff.1 hj
   have hji : j ≠ i := fun e => by subst e;exact hne rfl
   exact ⟨_,List.mem_of_getElem? (i := j) (by rw [List.getElem?_set,if_neg (by omega),List.getElem?_eq_getElem j1]),hd,rfl⟩
 ·rintro ⟨x,hx,hd,rfl⟩
  obtain ⟨j,hj⟩ := List.getElem?_of_mem hx
  obtain ⟨j1,j2⟩ := List.getElem?_eq_some_iff.1 hj
  rw [List.getElem_set] at j2
  split at j2
  ·subst j2;left;rw [e1,e2]
  ·rename_i hne
   simp only [List.length_set] at j1
   subst j2
   exact .inr ⟨⟨_,List.getElem_mem j1,hd,rfl⟩,hf.slot_lt j1 hi (fun e => hne e.symm)⟩
theorem TmT.drop {tb : List TSlot} {now : Int} {fl : List Flw} {tm : List (Int × Int)} (h : TmT now fl tm) (hf : FlT tb fl) {i : Nat} (hi : i < fl.length) : TmT now (fl.eraseIdx i) (rmT tm fl[i].slot) := by
 intro t
 rw [rmT_mem,h t]
 constructor
 ·rintro ⟨⟨x,hx,hd,rfl⟩,hne⟩
  obtain ⟨j,hj⟩ := List.getElem?_of_mem hx
  obtain ⟨j1,rfl⟩ := List.getElem?_eq_some_iff.1 hj
  have hji : j ≠ i := fun e => by subst e;exact hne rfl
  exact ⟨_,erase_mem j1 hji,hd,rfl⟩
 ·rintro ⟨x,hx,hd,rfl⟩
  obtain ⟨j,hj,hji,rfl⟩ := mem_erase hx
  exact ⟨⟨_,List.getElem_mem hj,hd,rfl⟩,hf.slot_lt hj hi hji⟩
theorem TmT.ins {now : Int} {fl : List Flw} {tm : List (Int × Int)} (h : TmT now fl tm) {f : Flw} (hn : ∀ x ∈ fl,x.slot ≠ f.slot) (hd : now < f.due) : TmT now (insF fl f) (armT tm f.slot f.due) := by
 intro t
 rw [armT_mem,h t]
 constructor
 ·rintro (rfl | ⟨⟨x,hx,hd,rfl⟩,hne⟩)
  ·exact ⟨f,insF_mem.2 (.inl rfl),hd,rfl⟩
  ·exact ⟨x,insF_mem.2 (.inr hx),hd,rfl⟩
 ·rintro ⟨x,hx,hd,rfl⟩
  rcases insF_mem.1 hx with rfl | hx
  ·exact .inl rfl
  ·exact .inr ⟨⟨x,hx,hd,rfl⟩,hn x hx⟩
abbrev SrtL (L : List Lif) : Prop := L.Pairwise fun x y => x.backend < y.backend
theorem life_cases (L : List Lif) (b : Int) : (∃ x ∈ L,x.backend = b ∧ lifeM L b = x) ∨ ((∀ x ∈ L,x.backend ≠ b) ∧ lifeM L b = default) := by
 unfold lifeM
 rw [ofM_find]
 cases h : L.find? (qB b) with
 | some x =>
  have := List.find?_some h
  exact .inl ⟨x,List.mem_of_find?_eq_some h,by simpa [qB] using this,rfl⟩
 | none => exact .inr ⟨fun x hx e => by simpa [qB,e] using List.find?_eq_none.1 h x hx,rfl⟩
theorem srt_uniq {L : List Lif} (hs : SrtL L) {x y : Lif} (hx : x ∈ L) (hy : y ∈ L) (e : x.backend = y.backend) : x = y := by
 obtain ⟨i,hi⟩ := List.getElem?_of_mem hx
 obtain ⟨j,hj⟩ := List.getElem?_of_mem hy
 obtain ⟨i1,i2⟩ := List.getElem?_eq_some_iff.1 hi
 obtain ⟨j1,j2⟩ := List.getElem?_eq_some_iff.1 hj
 have hp := List.pairwise_iff_getElem.1 hs
 rcases Nat.lt_trichotomy i j with hl | hl | hl
 ·have := hp i j i1 j1 hl;rw [i2,j2] at this;omega
 ·subst hl;rw [← i2,← j2]
 ·have := hp j i j1 i1 hl;rw [i2,j2] at this;omega
theorem life_mem {L : List Lif} (hs : SrtL L) {x : Lif} (hx : x ∈ L) : lifeM L x.backend = x := by
 rcases life_cases L x.backend with ⟨y,hy,e,h⟩ | ⟨h,_⟩
 ·rw [h];exact srt_uniq hs hy hx e
 ·exact absurd rfl (h x hx)
theorem state_mem {L : List Lif} {b : Int} (h : stateM L b ≠ 0) : lifeM L b ∈ L ∧ (lifeM L b).backend = b := by
 rcases life_cases L b with ⟨y,hy,e,h2⟩ | ⟨_,h2⟩
 ·rw [h2];exact ⟨hy,e⟩
 ·unfold stateM at h;rw [h2] at h;exact absurd rfl h
theorem life_set {L : List Lif} (hs : SrtL L) {i : Nat} (hi : i < L.length) {x : Lif} (hx : x.backend = L[i].backend) (b : Int) : lifeM (L.set i x) b = if b = x.backend then x else lifeM L b := by
 by_cases e : b = x.backend
 ·rw [if_pos e,e]
  exact life_mem (set_sorted hs hi hx) (List.mem_of_getElem? (i := i) (by rw [List.getElem?_set];simp [hi]))
 ·rw [if_neg e]
  unfold lifeM
  rw [ofM_find,ofM_find,find_set hi (fun h => e (h.symm.trans hx.symm)) (fun h => e h.symm)]
def actW (x : Lif) : Nat := if x.state = 2 then x.weight.toNat else 0
def wsOf (L : List Lif) : List Nat := (List.range 12).map fun b : Nat => actW (lifeM L b)
theorem wsOf_ok {L : List Lif} (h : ∀ x ∈ L,LifOk x) : WOk (wsOf L) := by
 refine ⟨by simp [wsOf],fun w hw => ?_⟩
 obtain ⟨b,_,rfl⟩ := List.mem_map.1 hw
 unfold actW
 split
 ·rename_i h2
  rcases life_cases L b with ⟨x,hx,_,e⟩ | ⟨_,e⟩
  ·rw [e];have := (h x hx).w1;omega
  ·rw [e] at h2;cases h2
 ·omega
theorem wsOf_get (L : List Lif) (b : Nat) (hb : b < 12) : (wsOf L).getD b 0 = actW (lifeM L b) := by simp [wsOf,List.getD_eq_getElem?_getD,hb]
theorem wsOf_congr {L L' : List Lif} (h : ∀ b : Nat,b < 12 → actW (lifeM L b) = actW (lifeM L' b)) : wsOf L = wsOf L' := List.map_congr_left fun b hb => h b (List.mem_range.1 hb)
theorem wsOf_set {L L' : List Lif} (k : Nat) (h : ∀ b : Nat,b < 12 → b ≠ k → actW (lifeM L' b) = actW (lifeM L b)) (w : Nat) (hk : k < 12 → actW (lifeM L' k) = w) : wsOf L' = (wsOf L).set k w := by
 apply List.ext_getElem (by simp [wsOf])
 intro b h1 h2
 have hb : b < 12 := by simpa [wsOf] using h1
 rw [List.getElem_set]
 by_cases e : k = b
 ·subst e;simp [wsOf,hk hb]
 ·rw [if_neg e];simp [wsOf,h b hb (fun h => e h.symm)]
theorem cnt_perm {α : Type} (p : α → Bool) {l : List α} {i : Nat} (hi : i < l.length) : l.countP p = (l.eraseIdx i).countP p + if p l[i] = true then 1 else 0 := by
 have e : l = l.take i ++ l[i] :: l.drop (i + 1) := by rw [List.getElem_cons_drop,List.take_append_drop]
 conv => lhs;rw [e]
 rw [List.eraseIdx_eq_take_drop_succ,List.countP_append,List.countP_append,List.countP_cons]
 omega
theorem cnt_set {α : Type} (p : α → Bool) {l : List α} {i : Nat} (hi : i < l.length) (x : α) : (l.set i x).countP p + (if p l[i] = true then 1 else 0) = l.countP p + if p x = true then 1 else 0 := by
 have h1 := cnt_perm p hi
 have h2 := cnt_perm p (l := l.set i x) (i := i) (by simpa using hi)
 rw [List.getElem_set_self,List.eraseIdx_set_eq] at h2
 omega
theorem insF_cnt (p : Flw → Bool) (fl : List Flw) (f : Flw) : (insF fl f).countP p = fl.countP p + if p f = true then 1 else 0 := by
 unfold insF
 have e : fl = fl.take (posF fl f.slot) ++ fl.drop (posF fl f.slot) := (List.take_append_drop _ _).symm
 conv => rhs;rw [e]
 rw [List.countP_append,List.countP_append,List.countP_append,List.countP_cons,List.countP_nil]
 omega
structure Mid (g : Gt) (n : Nat) (ex : Int) : Prop where
 c : g.c.Ok
 n0 : 0 ≤ g.now
 n1 : g.now ≤ n
 nn : n ≤ 1000000
 wn : g.wn = g.now
 tok : TOk g.tb
 tl : (g.tb.length : Int) = g.c.slots
 gens : ∀ s ∈ g.tb,s.gen + (if s.used = true then 1 else 0) ≤ n
 bk : BookOk g.L g.R
 since : ∀ x ∈ g.L,x.since ≤ g.now
 dr : ∀ x ∈ g.L,x.state = 3 → g.now ≤ x.til ∧ x.til ≤ g.now + g.c.c5 ∧ (x.backend ≠ ex → 0 < cntB g.tb x.backend)
 ws : g.ws = wsOf g.L
 hn : g.hl.length = 12
 hok : ∀ h ∈ g.hl,h.Ok g.c.wat ∧ (h.out = true → g.now < h.til ∧ h.til ≤ g.now + 500)
 tk0 : 0 ≤ g.tok
 tk1 : g.tok ≤ g.c.bud.full
 fs : FlT g.tb g.fl
 fe : ∀ f ∈ g.fl,0 ≤ f.tries ∧ f.tries ≤ g.c.c8 ∧ g.now ≤ f.due ∧ f.due ≤ g.now + (if f.serving = true then g.c.c6 else g.c.c7) ∧ (stateM g.L f.backend = 2 ∨ stateM g.L f.backend = 3)
 ts : SrtT g.tm
 tt : TmT g.now g.fl g.tm
theorem Mid.due {g : Gt} {n : Nat} {ex : Int} (h : Mid g n ex) {f : Flw} (hf : f ∈ g.fl) : f.due ≤ g.now + 500 := by
 have h1 := h.fe f hf
 have h6 := h.c.w6
 have h7 := h.c.w7
 obtain ⟨_,_,_,h2,_⟩ := h1
 split at h2 <;> omega
theorem Mid.wh {g : Gt} {n : Nat} {ex : Int} (h : Mid g n ex) : WhOk g.now g.tm := h.tt.wh h.ts h.fs h.tok.2.1 h.n0 (by have := h.n1;have := h.nn;omega) fun f hf => h.due hf
theorem Mid.flow {g : Gt} {n : Nat} {ex : Int} (h : Mid g n ex) {f : Flw} (hf : f ∈ g.fl) : 0 ≤ f.slot ∧ f.slot < g.tb.length ∧ g.tb.getD f.slot.toNat tzero = ⟨f.gen,true,f.key,f.backend⟩ ∧ 0 ≤ f.gen ∧ f.gen < 1048576 ∧ 0 ≤ f.key ∧ f.key ≤ 4294967295 ∧ 0 ≤ f.backend ∧ f.backend < 12 := by
 obtain ⟨h1,h2,h3⟩ := h.fs.at_ f hf
 have hm : g.tb.getD f.slot.toNat tzero ∈ g.tb := getD_mem _ (by omega)
 have ho := h.tok.2.2 _ hm
 rw [h3] at ho
 obtain ⟨o1,_,o2⟩ := ho
 obtain ⟨o3,o4,o5,o6,o7⟩ := o2 rfl
 exact ⟨h1,h2,h3,o1,o3,o4,o5,o6,o7⟩
theorem finish_set {L : List Lif} (hs : SrtL L) {b : Int} (h3 : stateM L b = 3) : ∃ i,∃ h : i < L.length,L[i] = lifeM L b ∧ L[i].backend = b ∧ finishM L b = (L.set i { lifeM L b with state := 4 },0) := by
 obtain ⟨hm,hb⟩ := state_mem (b := b) (L := L) (by omega)
 have hf : 0 ≤ findM L b := idxZ_some (qB b) L ⟨_,hm,by simp [qB,hb]⟩
 obtain ⟨h1,h2,h4⟩ := findM_at hf
 have he : L[(findM L b).toNat] = lifeM L b := srt_uniq hs (List.getElem_mem h1) hm (h2.trans hb.symm)
 refine ⟨_,h1,he,h2,?_⟩
 unfold finishM
 simp only
 rw [if_neg (by omega),h4,he,if_pos (show (lifeM L b).state = 3 from h3)]
theorem Mid.spared {g : Gt} {n : Nat} {b : Int} (h : Mid g n b) : Mid (g.spared b) n (-1) := by
 unfold Gt.spared
 split
 ·rename_i hc
  obtain ⟨h3,h0⟩ := hc
  obtain ⟨i,hi,hl,hb,he⟩ := finish_set h.bk.sorted h3
  have hx : ({ lifeM g.L b with state := 4 } : Lif).backend = g.L[i].backend := by rw [hl]
  have hls := life_set h.bk.sorted hi hx
  have hbe : ({ lifeM g.L b with state := 4 } : Lif).backend = b := hx.trans hb
  rw [hbe] at hls
  have hlo := h.bk.lok _ (List.getElem_mem hi)
  have hok : LifOk { lifeM g.L b with state := 4 } := by
   rw [← hl]
   exact ⟨hlo.b0,hlo.b1,hlo.w0,hlo.w1,hlo.s0,hlo.s1,hlo.u0,hlo.u1,hlo.r0,hlo.r1,.inr (.inr (.inr rfl))⟩
  have hmem : ∀ x ∈ g.L.set i { lifeM g.L b with state := 4 },x = { lifeM g.L b with state := 4 } ∨ (x ∈ g.L ∧ x.backend ≠ b) := fun x hx2 => by
   obtain ⟨j,hj⟩ := List.getElem?_of_mem hx2
   obtain ⟨j1,j2⟩ := List.getElem?_eq_some_iff.1 hj
   rw [List.getElem_set] at j2
   split at j2
   ·exact .inl j2.symm
   ·rename_i hne
    simp only [List.length_set] at j1
    subst j2
    refine .inr ⟨List.getElem_mem j1,fun e => ?_⟩
    have hp := List.pairwise_iff_getElem.1 h.bk.sorted
    rcases Nat.lt_or_gt_of_ne hne with hl2 | hl2
    ·have := hp i j hi j1 hl2;omega
    ·have := hp j i j1 hi hl2;omega
  have hfe : (finishM g.L b).1 = g.L.set i { lifeM g.L b with state := 4 } := by rw [he]
  have hnof : ∀ f ∈ g.fl,f.backend ≠ b := fun f hf e => by
   rw [h.fs.cnt,List.countP_eq_zero] at h0
   exact h0 f hf (by simp [e])
  have hst : ∀ b',b' ≠ b → stateM (g.L.set i { lifeM g.L b with state := 4 }) b' = stateM g.L b' := fun b' hn => by
   unfold stateM;rw [hls,if_neg hn]
  refine ⟨h.c,h.n0,h.n1,h.nn,h.wn,h.tok,h.tl,h.gens,?_,?_,?_,?_,h.hn,h.hok,h.tk0,h.tk1,h.fs,?_,h.ts,h.tt⟩
  ·show BookOk (finishM g.L b).1 g.R
   rw [hfe]
   exact h.bk.set hi hx hok
  ·show ∀ x ∈ (finishM g.L b).1,x.since ≤ g.now
   rw [hfe]
   intro x hx2
   rcases hmem x hx2 with rfl | ⟨h1,_⟩
   ·have := h.since _ (List.getElem_mem hi);rw [hl] at this;exact this
   ·exact h.since x h1
  ·show ∀ x ∈ (finishM g.L b).1,x.state = 3 → g.now ≤ x.til ∧ x.til ≤ g.now + g.c.c5 ∧ (x.backend ≠ -1 → 0 < cntB g.tb x.backend)
   rw [hfe]
   intro x hx2 h33
   rcases hmem x hx2 with rfl | ⟨h1,h2⟩
   ·cases h33
   ·have := h.dr x h1 h33
    exact ⟨this.1,this.2.1,fun _ => this.2.2 h2⟩
  ·show g.ws = wsOf (finishM g.L b).1
   rw [hfe,h.ws]
   refine wsOf_congr fun b' hb' => ?_
   rw [hls]
   split
   ·rename_i e
    rw [e]
    unfold stateM at h3
    simp [actW,h3]
   ·rfl
  ·show ∀ f ∈ g.fl,0 ≤ f.tries ∧ f.tries ≤ g.c.c8 ∧ g.now ≤ f.due ∧ f.due ≤ g.now + (if f.serving = true then g.c.c6 else g.c.c7) ∧ (stateM (finishM g.L b).1 f.backend = 2 ∨ stateM (finishM g.L b).1 f.backend = 3)
   rw [hfe]
   intro f hf
   rw [hst _ (hnof f hf)]
   exact h.fe f hf
 ·rename_i hc
  refine { h with dr := fun x hx h3 => ?_ }
  have := h.dr x hx h3
  refine ⟨this.1,this.2.1,fun _ => ?_⟩
  by_cases e : x.backend = b
  ·have h4 : stateM g.L b = 3 := by unfold stateM;rw [← e,life_mem h.bk.sorted hx];exact h3
   have h5 : ¬ cntB g.tb b = 0 := fun h0 => hc ⟨h4,h0⟩
   rw [e];omega
  ·exact this.2.2 e
theorem tok_setC {tb : List TSlot} (h : TOk tb) (s : Nat) (v : TSlot) (hv : v.ok) : TOk (tb.set s v) := by
 obtain ⟨h1,h2,h3⟩ := h
 exact ⟨by simpa using h1,by simpa using h2,fun x hx => (List.mem_or_eq_of_mem_set hx).elim (h3 x) (fun e => e ▸ hv)⟩
theorem Mid.dropA {g : Gt} {n : Nat} (h : Mid g n (-1)) {i : Nat} (hi : i < g.fl.length) (o : Outp) : Mid (g.dropA i o) n (g.fl.getD i default).backend := by
 have hm := List.getElem_mem hi
 obtain ⟨s0,s1,s2,g0,g1,_,_,b0,b1⟩ := h.flow hm
 have hgen := h.gens _ (getD_mem (l := g.tb) tzero (j := g.fl[i].slot.toNat) (by omega))
 rw [s2] at hgen
 simp only [if_true] at hgen
 unfold Gt.dropA
 rw [getD_at _ hi]
 have hfs := h.fs.drop hi (s := ⟨g.fl[i].gen + 1,false,0,0⟩) rfl
 refine ⟨h.c,h.n0,h.n1,h.nn,h.wn,?_,?_,?_,h.bk,h.since,?_,h.ws,h.hn,h.hok,h.tk0,h.tk1,hfs,?_,rmT_srt h.ts _,h.tt.drop h.fs hi⟩
 ·exact tok_setC h.tok _ _ ⟨by show 0 ≤ g.fl[i].gen + 1;omega,fun _ => ⟨by show g.fl[i].gen + 1 ≤ _;omega,rfl,rfl⟩,fun h => by cases h⟩
 ·simpa using h.tl
 ·intro s hs
  rcases List.mem_or_eq_of_mem_set hs with hs | rfl
  ·exact h.gens s hs
  ·simpa using hgen
 ·intro x hx h3
  have := h.dr x hx h3
  refine ⟨this.1,this.2.1,fun hne => ?_⟩
  show 0 < cntB (g.tb.set g.fl[i].slot.toNat ⟨g.fl[i].gen + 1,false,0,0⟩) x.backend
  rw [hfs.cnt]
  have h4 := this.2.2 (by have := (h.bk.lok x hx).b0;omega)
  rw [h.fs.cnt,cnt_perm _ hi,if_neg (by simp;exact fun e => hne e.symm)] at h4
  exact h4
 ·intro f hf
  obtain ⟨j,hj,_,rfl⟩ := mem_erase hf
  exact h.fe _ (List.getElem_mem hj)
theorem Mid.drop {g : Gt} {n : Nat} (h : Mid g n (-1)) {i : Nat} (hi : i < g.fl.length) (o : Outp) : Mid (g.drop i o) n (-1) := (h.dropA hi o).spared
theorem noteH_ok {w : Wtch} (hw : w.Ok) {h : Hlth} (hh : h.Ok w) {now : Int} (ht : h.out = true → now < h.til ∧ h.til ≤ now + 500) (n0 : 0 ≤ now) (n1 : now ≤ 2000000) (failed may : Bool) :
  (noteH w h failed now may).1.Ok w ∧ ((noteH w h failed now may).1.out = true → now < (noteH w h failed now may).1.til ∧ (noteH w h failed now may).1.til ≤ now + 500) := by
 obtain ⟨w1,w2,w3,w4,w5,w6⟩ := hw
 obtain ⟨a1,a2,a3,a4,a5,a6⟩ := hh
 have hp := pushM_len w.window.toNat h.marks failed (by omega) (by omega)
 unfold noteH
 simp only
 split
 ·exact ⟨⟨by show ((pushM _ _ _).length : Int) ≤ _;omega,a2,a3,a4,a5,a6⟩,ht⟩
 ·have hb := pow_bd h.times.toNat (by omega)
  have h1 : 1 ≤ w.hold * 2 ^ h.times.toNat := Int.le_trans (by omega) (Int.mul_le_mul w5 hb.1 (by omega) (by omega))
  refine ⟨⟨by simp;omega,by show 0 ≤ min _ _;omega,by show min _ _ ≤ _;omega,by show 0 ≤ now + min _ _;omega,by show now + min _ _ ≤ _;omega,fun h => by cases h⟩,fun _ => ?_⟩
  show now < now + min _ _ ∧ now + min _ _ ≤ _
  omega
theorem Mid.note {g : Gt} {n : Nat} {ex : Int} (h : Mid g n ex) (b : Int) (hb : 0 ≤ b ∧ b < 12) (failed : Bool) : Mid (g.note b failed) n ex := by
 have hm : g.hl.getD b.toNat hzero ∈ g.hl := getD_mem _ (by rw [h.hn];omega)
 have ho := h.hok _ hm
 have := noteH_ok h.c.w ho.1 ho.2 h.n0 (by have := h.n1;have := h.nn;omega) failed (allowM (outN g.L g.hl) (actN g.L) g.c.c9 && decide (stateM g.L b = 2))
 refine { h with hn := by simpa [Gt.note] using h.hn,hok := fun x hx => ?_ }
 rcases List.mem_or_eq_of_mem_set hx with hx | rfl
 ·exact h.hok x hx
 ·exact this
theorem ramp_bd {w since now warm : Int} (w1 : 1 ≤ w) (hs : since ≤ now) (w0 : 0 ≤ warm) : 1 ≤ rampM w since now warm ∧ rampM w since now warm ≤ w := by
 unfold rampM
 split
 ·omega
 ·rename_i hc
  have h1 : w * (now - since) / warm ≤ w := by
   refine Int.ediv_le_of_le_mul (by omega) ?_
   exact Int.mul_le_mul_of_nonneg_left (by omega) (by omega)
  omega
def ButOk (g : Gt) (but : Int) : Prop := but < 0 ∨ ∃ f ∈ g.fl,f.slot = but
theorem Mid.load {g : Gt} {n : Nat} {ex : Int} (h : Mid g n ex) {but : Int} (hb : ButOk g but) {x : Lif} (hx : x ∈ g.L) : 0 ≤ (loadOf g but x).weight ∧ (loadOf g but x).weight ≤ 8 ∧ 0 ≤ (loadOf g but x).flows ∧ (loadOf g but x).flows ≤ 40 ∧ (isOut g.hl x.backend = false → 0 < (loadOf g but x).weight) ∧ (0 < (loadOf g but x).weight → isOut g.hl x.backend = false) := by
 have ho := h.bk.lok x hx
 have hr := ramp_bd ho.w0 (h.since x hx) h.c.w4.1
 have h8 := ho.w1
 have hw : (loadOf g but x).weight = if isOut g.hl x.backend = true then 0 else rampM x.weight x.since g.now g.c.c4 := rfl
 have hf : (loadOf g but x).flows = (cntB g.tb x.backend : Int) - if 0 ≤ but ∧ (g.tb.getD but.toNat tzero).backend = x.backend then 1 else 0 := rfl
 have hc := cntB_le g.tb x.backend
 have h40 := h.tok.2.1
 refine ⟨?_,?_,?_,?_,?_,?_⟩
 ·rw [hw];split <;> omega
 ·rw [hw];split <;> omega
 ·rw [hf]
  split
  ·rename_i hc2
   rcases hb with hb | ⟨f,hm,rfl⟩
   ·omega
   ·have h1 := (h.fs.at_ f hm).2.2
    rw [h1] at hc2
    have : 0 < cntB g.tb x.backend := by
     rw [h.fs.cnt,List.countP_pos_iff]
     exact ⟨f,hm,by simpa using hc2.2⟩
    omega
  ·omega
 ·rw [hf];split <;> omega
 ·intro h1;rw [hw,h1];simp;omega
 ·intro h1
  rw [hw] at h1
  cases he : isOut g.hl x.backend with
  | false => rfl
  | true => rw [he] at h1;simp at h1
theorem mayL_sorted (F : Lif → Load) (hF : ∀ x,(F x).backend = x.backend) : ∀ (L : List Lif) (p : Int),SrtL L → (∀ x ∈ L,p < x.backend) → (∀ x ∈ L,(F x).backend < 12 ∧ 0 ≤ (F x).weight ∧ (F x).weight ≤ 8 ∧ 0 ≤ (F x).flows ∧ (F x).flows ≤ 40) → mayL p (L.map F)
 | [],_,_,_,_ => trivial
 | x :: L,p,hs,hp,hb => by
  obtain ⟨h1,h2⟩ := List.pairwise_cons.1 hs
  have hx := hb x (by simp)
  refine ⟨⟨by rw [hF];exact hp x (by simp),hx.1,hx.2⟩,?_⟩
  rw [hF]
  exact mayL_sorted F hF L x.backend h2 h1 fun y hy => hb y (List.mem_cons_of_mem _ hy)
theorem Mid.loads {g : Gt} {n : Nat} {ex : Int} (h : Mid g n ex) {but : Int} (hb : ButOk g but) : mayL (-1) (loadsM g but) ∧ (loadsM g but).length ≤ 12 ∧ LOk (loadsM g but) := by
 have hm : ∀ x ∈ g.L.filter (fun x => decide (x.state = 2)),x ∈ g.L := fun x hx => (List.mem_filter.1 hx).1
 refine ⟨?_,?_,fun y hy => ?_⟩
 ·refine mayL_sorted (loadOf g but) (fun x => rfl) _ _ (List.Pairwise.filter _ h.bk.sorted) (fun x hx => ?_) fun x hx => ?_
  ·have := (h.bk.lok x (hm x hx)).b0;omega
  ·have h1 := h.load hb (hm x hx)
   exact ⟨(h.bk.lok x (hm x hx)).b1,h1.1,h1.2.1,h1.2.2.1,h1.2.2.2.1⟩
 ·unfold loadsM
  rw [List.length_map]
  exact Nat.le_trans (List.length_filter_le _ _) h.bk.ll
 ·obtain ⟨x,hx,rfl⟩ := List.mem_map.1 hy
  have h1 := h.load hb (hm x hx)
  exact ⟨h1.1,h1.2.1,h1.2.2.1,h1.2.2.2.1⟩
theorem Mid.picked {g : Gt} {n : Nat} {ex : Int} (h : Mid g n ex) {key but : Int} (hb : ButOk g but) (hp : (pickG g key but).2 = 0) :
  ∃ x ∈ g.L,x.state = 2 ∧ x.backend = (pickG g key but).1 ∧ isOut g.hl x.backend = false ∧
   (loadOf g but x).flows < capOf g.c.num g.c.den ((g.fl.length : Int) - if 0 ≤ but then 1 else 0) (sumW (loadsM g but)) (loadOf g but x) := by
 obtain ⟨h1,h2,h3⟩ := h.loads hb
 unfold pickG pickM at hp ⊢
 obtain ⟨nf,hnf⟩ : ∃ nf,nf = (g.fl.length : Int) - if 0 ≤ but then 1 else 0 := ⟨_,rfl⟩
 rw [← hnf] at hp ⊢
 split at hp
 ·cases hp
 ·rename_i hz
  rw [if_neg hz]
  split at hp
  ·cases hp
  ·rename_i hk
   rw [if_neg hk]
   obtain ⟨k,hkk⟩ : ∃ k : Nat,pickI (walkK g.ws key) (loadsM g but) (capsOf (loadsM g but) g.c.num g.c.den nf) g.c.tries = k := ⟨(pickI (walkK g.ws key) (loadsM g but) (capsOf (loadsM g but) g.c.num g.c.den nf) g.c.tries).toNat,by omega⟩
   rw [hkk]
   have hkl : ∃ (h2 : k < (loadsM g but).length),0 < (loadsM g but)[k].weight ∧ roomB (loadsM g but) (capsOf (loadsM g but) g.c.num g.c.den nf) k = true := by
    unfold pickI at hkk
    split at hkk
    ·have := (leastN_at (loadsM g but) _ h3 _ (Nat.le_refl _)).2 k hkk
     refine ⟨this.1,?_,this.2.2.1⟩
     have h4 := this.2.1
     rwa [getD_at _ this.1] at h4
    ·exact alongZ_at _ _ _ _ _ hkk
   obtain ⟨hl,hw,hr⟩ := hkl
   have hg := getD_at zload hl
   obtain ⟨x,hx,he⟩ := List.mem_map.1 (List.getElem_mem hl)
   obtain ⟨hx1,hx2⟩ := List.mem_filter.1 hx
   have hx2 : x.state = 2 := by simpa using hx2
   rw [← he] at hw
   have hld := h.load hb hx1
   refine ⟨x,hx1,hx2,?_,hld.2.2.2.2.2 hw,?_⟩
   ·show x.backend = ((loadsM g but).getD (k : Int).toNat zload).backend
    rw [Int.toNat_natCast,hg,← he];rfl
   ·have hr2 : ((loadsM g but).getD k zload).flows < (capsOf (loadsM g but) g.c.num g.c.den nf).getD k 0 := of_decide_eq_true hr
    rw [hg,← he] at hr2
    unfold capsOf at hr2
    rw [getD_at _ (by simpa using hl),List.getElem_map,← he] at hr2
    exact hr2
theorem Mid.pickedB {g : Gt} {n : Nat} {ex : Int} (h : Mid g n ex) {key but : Int} (hb : ButOk g but) (hp : (pickG g key but).2 = 0) : stateM g.L (pickG g key but).1 = 2 ∧ 0 ≤ (pickG g key but).1 ∧ (pickG g key but).1 < 12 := by
 obtain ⟨x,hx,h2,e,_⟩ := h.picked hb hp
 have := h.bk.lok x hx
 refine ⟨?_,by rw [← e];exact this.b0,by rw [← e];exact this.b1⟩
 unfold stateM
 rw [← e,life_mem h.bk.sorted hx];exact h2
theorem Mid.up {g : Gt} {n : Nat} {ex : Int} (h : Mid g n ex) (hn : n + 1 ≤ 1000000) : Mid g (n + 1) ex :=
 { h with n1 := by have := h.n1;omega,nn := hn,gens := fun s hs => by have := h.gens s hs;omega }
theorem Mid.put {g : Gt} {n : Nat} {ex : Int} (h : Mid g n ex) (o : Outp) : Mid (g.put o) n ex := { h with }
theorem Mid.moved {g : Gt} {n : Nat} (h : Mid g n (-1)) {i : Nat} (hi : i < g.fl.length) {b tok : Int} (hb : stateM g.L b = 2) (b0 : 0 ≤ b) (b1 : b < 12) (t0 : 0 ≤ tok) (t1 : tok ≤ g.c.bud.full) (ht : (g.fl.getD i default).tries ≠ g.c.c8) (hsv : (g.fl.getD i default).serving = false) : Mid (g.moved i b tok) n (g.fl.getD i default).backend := by
 have hm := List.getElem_mem hi
 obtain ⟨s0,s1,s2,g0,g1,k0,k1,_,_⟩ := h.flow hm
 have hgen := h.gens _ (getD_mem (l := g.tb) tzero (j := g.fl[i].slot.toNat) (by omega))
 rw [s2] at hgen
 simp only [if_true] at hgen
 unfold Gt.moved
 rw [getD_at _ hi] at ht hsv ⊢
 obtain ⟨f,hf⟩ : ∃ f,f = g.fl[i] := ⟨_,rfl⟩
 rw [← hf] at ht hsv s0 s1 s2 g0 g1 k0 k1 hgen ⊢
 obtain ⟨f',hf'⟩ : ∃ f' : Flw,f' = { f with backend := b,tries := f.tries + 1,due := g.now + g.c.c7 } := ⟨_,rfl⟩
 simp only [← hf']
 have e1 : f'.slot = g.fl[i].slot := by rw [hf',← hf]
 have hfs := h.fs.upd hi e1
 have e2 : f'.slot = f.slot := by rw [hf']
 have e3 : f'.gen = f.gen := by rw [hf']
 have e4 : f'.key = f.key := by rw [hf']
 have e5 : f'.backend = b := by rw [hf']
 rw [e2,e3,e4,e5] at hfs
 have hw7 := h.c.w7
 have htt := h.tt.arm h.fs hi (z := g.now + g.c.c7) (by omega) e1 (by rw [hf'])
 rw [← hf] at htt
 refine ⟨h.c,h.n0,h.n1,h.nn,h.wn,?_,?_,?_,h.bk,h.since,?_,h.ws,h.hn,h.hok,t0,t1,hfs,?_,armT_srt h.ts _ _,htt⟩
 ·exact tok_setC h.tok _ _ ⟨g0,fun h => (by cases h),fun _ => ⟨g1,k0,k1,b0,b1⟩⟩
 ·simpa using h.tl
 ·intro s hs
  rcases List.mem_or_eq_of_mem_set hs with hs | rfl
  ·exact h.gens s hs
  ·simpa using hgen
 ·intro x hx h3
  have := h.dr x hx h3
  refine ⟨this.1,this.2.1,fun hne => ?_⟩
  show 0 < cntB (g.tb.set f.slot.toNat ⟨f.gen,true,f.key,b⟩) x.backend
  have h4 := this.2.2 (by have := (h.bk.lok x hx).b0;omega)
  rw [h.fs.cnt] at h4
  rw [hfs.cnt]
  have h5 := cnt_set (fun f : Flw => decide (f.backend = x.backend)) hi f'
  rw [← hf,if_neg (by simp;exact fun e => hne e.symm)] at h5
  omega
 ·intro x hx
  rcases List.mem_or_eq_of_mem_set hx with hx | rfl
  ·exact h.fe x hx
  ·have := h.fe f (hf ▸ hm)
   rw [hf']
   refine ⟨by show 0 ≤ f.tries + 1;omega,by show f.tries + 1 ≤ g.c.c8;omega,by show g.now ≤ g.now + g.c.c7;omega,?_,.inl hb⟩
   show g.now + g.c.c7 ≤ g.now + (if f.serving = true then g.c.c6 else g.c.c7)
   rw [hsv];simp
theorem Mid.dueA {g : Gt} {n : Nat} {ex : Int} (h : Mid g n ex) {i : Nat} (hi : i < g.fl.length) {z : Int} (z0 : g.now < z) (z1 : z ≤ g.now + (if (g.fl.getD i default).serving = true then g.c.c6 else g.c.c7)) : Mid (g.dueA i z) n ex := by
 have hm := List.getElem_mem hi
 have h0 := h.fs.at_ _ hm
 unfold Gt.dueA
 rw [getD_at _ hi] at z1 ⊢
 obtain ⟨f,hf⟩ : ∃ f,f = g.fl[i] := ⟨_,rfl⟩
 rw [← hf] at z1 h0 ⊢
 obtain ⟨f',hf'⟩ : ∃ f' : Flw,f' = { f with due := z } := ⟨_,rfl⟩
 simp only [← hf']
 have e1 : f'.slot = g.fl[i].slot := by rw [hf',← hf]
 have hfs := h.fs.upd hi e1
 have e2 : g.tb.set f'.slot.toNat ⟨f'.gen,true,f'.key,f'.backend⟩ = g.tb := by
  have e3 : (⟨f'.gen,true,f'.key,f'.backend⟩ : TSlot) = g.tb.getD f.slot.toNat tzero := by rw [h0.2.2,hf']
  have e4 : f'.slot = f.slot := by rw [hf']
  rw [e3,e4,getD_at _ (by omega)]
  exact List.set_getElem_self _
 rw [e2] at hfs
 have htt := h.tt.arm h.fs hi z0 e1 (by rw [hf'])
 rw [← hf] at htt
 refine ⟨h.c,h.n0,h.n1,h.nn,h.wn,h.tok,h.tl,h.gens,h.bk,h.since,h.dr,h.ws,h.hn,h.hok,h.tk0,h.tk1,hfs,?_,armT_srt h.ts _ _,htt⟩
 intro x hx
 rcases List.mem_or_eq_of_mem_set hx with hx | rfl
 ·exact h.fe x hx
 ·have := h.fe f (hf ▸ hm)
  rw [hf']
  exact ⟨this.1,this.2.1,by show g.now ≤ z;omega,z1,this.2.2.2.2⟩
theorem served_due (g : Gt) (i : Nat) (hi : i < g.fl.length) (b z : Int) (failed : Bool) : (((g.served i).note b failed).dueA i z).fl = g.fl.set i { g.fl.getD i default with serving := true,due := z } ∧
  (((g.served i).note b failed).dueA i z).tm = armT g.tm (g.fl.getD i default).slot z := by
 unfold Gt.dueA Gt.note Gt.served
 simp [List.getD_eq_getElem?_getD,hi]
theorem Mid.serve {g : Gt} {n : Nat} {ex : Int} (h : Mid g n ex) {i : Nat} (hi : i < g.fl.length) (b : Int) (hb : 0 ≤ b ∧ b < 12) (failed : Bool) : Mid (((g.served i).note b failed).dueA i (g.now + g.c.c6)) n ex := by
 have hn := h.note b hb failed
 have hm := List.getElem_mem hi
 have h0 := h.fs.at_ _ hm
 obtain ⟨s1,s2⟩ := served_due g i hi b (g.now + g.c.c6) failed
 have h6 := h.c.w6
 rw [getD_at _ hi] at s1 s2
 obtain ⟨f,hf⟩ : ∃ f,f = g.fl[i] := ⟨_,rfl⟩
 rw [← hf] at s1 s2 h0
 obtain ⟨f',hf'⟩ : ∃ f' : Flw,f' = { f with serving := true,due := g.now + g.c.c6 } := ⟨_,rfl⟩
 rw [← hf'] at s1
 have e1 : f'.slot = g.fl[i].slot := by rw [hf',← hf]
 have hfs := h.fs.upd hi e1
 have e2 : g.tb.set f'.slot.toNat ⟨f'.gen,true,f'.key,f'.backend⟩ = g.tb := by
  have e3 : (⟨f'.gen,true,f'.key,f'.backend⟩ : TSlot) = g.tb.getD f.slot.toNat tzero := by rw [h0.2.2,hf']
  have e4 : f'.slot = f.slot := by rw [hf']
  rw [e3,e4,getD_at _ (by omega)]
  exact List.set_getElem_self _
 rw [e2] at hfs
 have htt := h.tt.arm h.fs hi (z := g.now + g.c.c6) (by omega) e1 (by rw [hf'])
 rw [← hf] at htt
 have hfe : ∀ x ∈ g.fl.set i f',0 ≤ x.tries ∧ x.tries ≤ g.c.c8 ∧ g.now ≤ x.due ∧ x.due ≤ g.now + (if x.serving = true then g.c.c6 else g.c.c7) ∧ (stateM g.L x.backend = 2 ∨ stateM g.L x.backend = 3) := by
  intro x hx
  rcases List.mem_or_eq_of_mem_set hx with hx | rfl
  ·exact h.fe x hx
  ·have := h.fe f (hf ▸ hm)
   rw [hf']
   exact ⟨this.1,this.2.1,by show g.now ≤ g.now + g.c.c6;omega,by simp,this.2.2.2.2⟩
 exact ⟨hn.c,hn.n0,hn.n1,hn.nn,hn.wn,hn.tok,hn.tl,hn.gens,hn.bk,hn.since,hn.dr,hn.ws,hn.hn,hn.hok,hn.tk0,hn.tk1,by rw [s1];exact hfs,by rw [s1];exact hfe,by rw [s2];exact armT_srt h.ts _ _,by rw [s1,s2];exact htt⟩
theorem Mid.taken {g : Gt} {n : Nat} (h : Mid g n (-1)) {s : Nat} (hs : s < g.tb.length) (hfree : tfree (g.tb.getD s tzero) = true) {key b : Int} (k0 : 0 ≤ key) (k1 : key ≤ 4294967295) (hb : stateM g.L b = 2) (b0 : 0 ≤ b) (b1 : b < 12) (hn : n + 1 ≤ 1000000) : Mid (g.taken s key b) (n + 1) (-1) := by
 have hu := h.up hn
 have hm := getD_mem (l := g.tb) tzero hs
 have ho := h.tok.2.2 _ hm
 have hgen := h.gens _ hm
 unfold tfree at hfree
 rw [Bool.and_eq_true] at hfree
 have hus : (g.tb.getD s tzero).used = false := by simpa using hfree.1
 have hgm : (g.tb.getD s tzero).gen < 1048576 := by simpa using hfree.2
 rw [hus] at hgen
 simp only [Bool.false_eq_true,if_false] at hgen
 obtain ⟨f,hf⟩ : ∃ f : Flw,f = ⟨s,(g.tb.getD s tzero).gen,key,b,false,0,g.now + g.c.c7⟩ := ⟨_,rfl⟩
 have hfs := h.fs.ins hs hus (f := f) (by rw [hf])
 have hw7 := h.c.w7
 have hno : ∀ x ∈ g.fl,x.slot ≠ f.slot := fun x hx e2 => by
  have h1 := h.fs.at_ x hx
  have : x.slot.toNat = s := by rw [e2,hf];simp
  rw [this] at h1
  rw [h1.2.2] at hus
  cases hus
 have htt := h.tt.ins hno (by rw [hf];show g.now < g.now + g.c.c7;omega)
 have hbud := h.c.b
 have hfull := hbud.full
 obtain ⟨⟨⟨⟨⟨q1,_⟩,_⟩,_⟩,_⟩,_⟩ := hbud
 have hk0 := h.tk0
 unfold Gt.taken
 simp only [← hf]
 have e1 : armT g.tm (s : Int) (g.now + g.c.c7) = armT g.tm f.slot f.due := by rw [hf]
 have e2 : g.tb.set s ⟨(g.tb.getD s tzero).gen,true,key,b⟩ = g.tb.set s ⟨f.gen,true,f.key,f.backend⟩ := by rw [hf]
 rw [e1,e2]
 refine ⟨h.c,h.n0,hu.n1,hn,h.wn,?_,?_,?_,h.bk,h.since,?_,h.ws,h.hn,h.hok,by show (0 : Int) ≤ min (g.tok + g.c.bud.num) g.c.bud.full;omega,by show min (g.tok + g.c.bud.num) g.c.bud.full ≤ g.c.bud.full;omega,hfs,?_,armT_srt h.ts _ _,htt⟩
 ·refine tok_setC h.tok _ _ ?_
  rw [hf]
  exact ⟨ho.1,fun h => (by cases h),fun _ => ⟨hgm,k0,k1,b0,b1⟩⟩
 ·simpa using h.tl
 ·intro s2 hs2
  rcases List.mem_or_eq_of_mem_set hs2 with hs2 | rfl
  ·exact hu.gens s2 hs2
  ·rw [hf];simp only [if_true];omega
 ·intro x hx h3
  have := h.dr x hx h3
  refine ⟨this.1,this.2.1,fun hne => ?_⟩
  have h4 := this.2.2 hne
  rw [h.fs.cnt] at h4
  show 0 < cntB (g.tb.set s ⟨f.gen,true,f.key,f.backend⟩) x.backend
  rw [hfs.cnt,insF_cnt]
  omega
 ·intro x hx
  rcases insF_mem.1 hx with rfl | hx
  ·rw [hf]
   have := h.c.w8
   exact ⟨by show (0 : Int) ≤ 0;omega,by show (0 : Int) ≤ g.c.c8;omega,by show g.now ≤ g.now + g.c.c7;omega,by simp,.inl hb⟩
  ·exact h.fe x hx
theorem Mid.failed {g : Gt} {n : Nat} (h : Mid g n (-1)) {i : Nat} (hi : i < g.fl.length) (why : Int) (hsv : (g.fl.getD i default).serving = false) : Mid (g.failed i why) n (-1) := by
 have hm := List.getElem_mem hi
 have hb := h.flow hm
 have hg := getD_at default hi
 have hn := h.note (g.fl.getD i default).backend (by rw [hg];omega) true
 have hk0 := h.tk0
 have hk1 := h.tk1
 have hbud := h.c.b
 obtain ⟨⟨⟨⟨⟨_,_⟩,q1⟩,_⟩,_⟩,_⟩ := hbud
 unfold Gt.failed
 simp only
 split
 ·exact hn.drop hi _
 ·rename_i hc
  split
  ·exact hn.drop hi _
  ·rename_i hp
   have hp : (pickG (g.note (g.fl.getD i default).backend true) (g.fl.getD i default).key (g.fl.getD i default).slot).2 = 0 := by
    rcases Decidable.em ((pickG (g.note (g.fl.getD i default).backend true) (g.fl.getD i default).key (g.fl.getD i default).slot).2 = 0) with h | h
    ·exact h
    ·exact absurd h hp
   have hpk := hn.pickedB (.inr ⟨_,hm,by rw [hg]⟩) hp
   have hmv := hn.moved (tok := g.tok - g.c.bud.den) hi hpk.1 hpk.2.1 hpk.2.2 (by omega) (by show g.tok - g.c.bud.den ≤ g.c.bud.full;omega) (fun e => hc (.inl e)) hsv
   split
   ·exact hmv.spared
   ·rename_i he
    have he : (g.fl.getD i default).backend = (pickG (g.note (g.fl.getD i default).backend true) (g.fl.getD i default).key (g.fl.getD i default).slot).1 := Decidable.not_not.1 he
    refine { hmv with dr := fun x hx h3 => ?_ }
    have h1 := hmv.dr x hx h3
    refine ⟨h1.1,h1.2.1,fun _ => h1.2.2 fun e => ?_⟩
    have h4 := life_mem hn.bk.sorted (x := x) hx
    have h5 : stateM g.L x.backend = 3 := by unfold stateM;rw [show lifeM g.L x.backend = x from h4];exact h3
    have h6 : stateM g.L x.backend = 2 := by
     rw [e]
     show stateM g.L (g.fl.getD i default).backend = 2
     rw [he];exact hpk.1
    omega
theorem free_at {tb : List TSlot} (h : ¬ freeZ tb < 0) : ∃ hl : (freeZ tb).toNat < tb.length,tfree (tb.getD (freeZ tb).toNat tzero) = true ∧ ∀ j,j < (freeZ tb).toNat → tfree (tb.getD j tzero) = false := by
 obtain ⟨h1,h2,h3⟩ := idxZ_get tfree tb (by unfold freeZ at h;omega)
 refine ⟨h1,by show tfree (tb.getD (idxZ tfree tb).toNat tzero) = true;rw [getD_at _ h1];exact h2,fun j hj => ?_⟩
 have := h3 j hj
 rwa [getD_at _ (Nat.lt_trans hj h1)]
theorem Mid.opened {g : Gt} {n : Nat} (h : Mid g n (-1)) {key : Int} (k0 : 0 ≤ key) (k1 : key ≤ 4294967295) (hn : n + 1 ≤ 1000000) : Mid (g.opened key) (n + 1) (-1) := by
 unfold Gt.opened
 split
 ·exact (h.up hn).put _
 ·rename_i hf
  obtain ⟨h1,h2,_⟩ := free_at hf
  split
  ·exact (h.up hn).put _
  ·rename_i hp
   have hp := Decidable.not_not.1 hp
   have hpk := h.pickedB (.inl (by omega)) hp
   exact h.taken h1 h2 k0 k1 hpk.1 hpk.2.1 hpk.2.2 hn
theorem Mid.flowed {g : Gt} {n : Nat} (h : Mid g n (-1)) (e : Evt) : Mid (g.flow e) n (-1) := by
 unfold Gt.flow
 split
 ·exact h.put _
 ·rename_i hg
  obtain ⟨f,hf,e1,e2⟩ := h.fs.got (Decidable.not_not.1 hg)
  obtain ⟨hi,he,_,hgd⟩ := find_mem h.fs.so hf
  have hb := h.flow hf
  have h6 := h.c.w6
  simp only
  rw [← e1]
  split
  ·exact h.drop hi _
  ·split
   ·split
    ·rename_i hs
     exact (h.dueA hi (by omega) (by rw [hs];simp)).put _
    ·exact h.put _
   ·split
    ·exact h.put _
    ·rename_i hs
     split
     ·exact (h.serve hi _ (by rw [hgd];omega) false).put _
     ·exact h.failed hi 3 (by simpa using hs)
theorem set_mem {L : List Lif} (hs : SrtL L) {i : Nat} (hi : i < L.length) {x0 : Lif} (hx : x0.backend = L[i].backend) (x : Lif) : x ∈ L.set i x0 ↔ x = x0 ∨ (x ∈ L ∧ x.backend ≠ x0.backend) := by
 have hp := List.pairwise_iff_getElem.1 hs
 constructor
 ·intro hx2
  obtain ⟨j,hj⟩ := List.getElem?_of_mem hx2
  obtain ⟨j1,j2⟩ := List.getElem?_eq_some_iff.1 hj
  rw [List.getElem_set] at j2
  split at j2
  ·exact .inl j2.symm
  ·rename_i hne
   simp only [List.length_set] at j1
   subst j2
   refine .inr ⟨List.getElem_mem j1,fun e => ?_⟩
   rcases Nat.lt_or_gt_of_ne hne with hl2 | hl2
   ·have := hp i j hi j1 hl2;omega
   ·have := hp j i j1 hi hl2;omega
 ·rintro (rfl | ⟨hm,hne⟩)
  ·exact List.mem_of_getElem? (i := i) (by rw [List.getElem?_set];simp [hi])
  ·obtain ⟨j,hj⟩ := List.getElem?_of_mem hm
   obtain ⟨j1,rfl⟩ := List.getElem?_eq_some_iff.1 hj
   have hji : i ≠ j := fun e => by subst e;exact hne hx.symm
   exact List.mem_of_getElem? (i := j) (by rw [List.getElem?_set,if_neg hji,List.getElem?_eq_getElem j1])
theorem life_upd {L L' : List Lif} (hs : SrtL L) (hs' : SrtL L') {x0 : Lif} (hm : ∀ x,x ∈ L' ↔ x = x0 ∨ (x ∈ L ∧ x.backend ≠ x0.backend)) (b : Int) : lifeM L' b = if b = x0.backend then x0 else lifeM L b := by
 split
 ·rename_i e;rw [e];exact life_mem hs' ((hm x0).2 (.inl rfl))
 ·rename_i e
  rcases life_cases L b with ⟨x,hx,e1,e2⟩ | ⟨h1,e2⟩
  ·rw [e2,← e1];exact life_mem hs' ((hm x).2 (.inr ⟨hx,fun h => e (e1.symm.trans h)⟩))
  ·rw [e2]
   rcases life_cases L' b with ⟨x,hx,e3,e4⟩ | ⟨_,e4⟩
   ·rcases (hm x).1 hx with rfl | ⟨h2,_⟩
    ·exact absurd e3.symm e
    ·exact absurd e3 (h1 x h2)
   ·exact e4
theorem Mid.life {g : Gt} {n : Nat} (h : Mid g n (-1)) {L' : List Lif} {R' : List Rqs} (hb : BookOk L' R') {x0 : Lif} (hm : ∀ x,x ∈ L' ↔ x = x0 ∨ (x ∈ g.L ∧ x.backend ≠ x0.backend))
  (hsi : x0.since ≤ g.now) (hd : x0.state = 3 → g.now ≤ x0.til ∧ x0.til ≤ g.now + g.c.c5) {ws' : List Nat} (hw : ws' = wsOf L') (hf : ∀ f ∈ g.fl,f.backend = x0.backend → x0.state = 2 ∨ x0.state = 3) (out : List Outp) :
  Mid { g with L := L',R := R',ws := ws',out := out } n x0.backend := by
 have hl := life_upd h.bk.sorted hb.sorted hm
 refine ⟨h.c,h.n0,h.n1,h.nn,h.wn,h.tok,h.tl,h.gens,hb,?_,?_,hw,h.hn,h.hok,h.tk0,h.tk1,h.fs,?_,h.ts,h.tt⟩
 ·intro x hx
  rcases (hm x).1 hx with rfl | ⟨h1,_⟩
  ·exact hsi
  ·exact h.since x h1
 ·intro x hx h3
  rcases (hm x).1 hx with rfl | ⟨h1,h2⟩
  ·exact ⟨(hd h3).1,(hd h3).2,fun e => absurd rfl e⟩
  ·have := h.dr x h1 h3
   exact ⟨this.1,this.2.1,fun _ => this.2.2 (by have := (h.bk.lok x h1).b0;omega)⟩
 ·intro f hf2
  have h1 := h.fe f hf2
  refine ⟨h1.1,h1.2.1,h1.2.2.1,h1.2.2.2.1,?_⟩
  show (lifeM L' f.backend).state = 2 ∨ (lifeM L' f.backend).state = 3
  rw [hl]
  split
  ·rename_i e;exact hf f hf2 e
  ·exact h1.2.2.2.2
theorem Mid.strong {g : Gt} {n : Nat} {b : Int} (h : Mid g n b) (hb : stateM g.L b ≠ 3) : Mid g n (-1) := by
 refine { h with dr := fun x hx h3 => ?_ }
 have h1 := h.dr x hx h3
 refine ⟨h1.1,h1.2.1,fun _ => h1.2.2 fun e => hb ?_⟩
 unfold stateM
 rw [← e,life_mem h.bk.sorted hx];exact h3
theorem ask_cases {L : List Lif} {R : List Rqs} (hb : BookOk L R) (r : Rqs) (now d : Int) :
  ((askM L R r now d).L = L ∧ ((askM L R r now d).fresh = false ∨ (askM L R r now d).answer ≠ 0)) ∨
  ((askM L R r now d).fresh = true ∧ (askM L R r now d).answer = 0 ∧ r.kind = 1 ∧ (stateM L r.backend = 0 ∨ stateM L r.backend = 4) ∧ (∀ x,x ∈ (askM L R r now d).L ↔ x = ⟨r.backend,1,r.weight,0,0,0⟩ ∨ (x ∈ L ∧ x.backend ≠ r.backend))) ∨
  ((askM L R r now d).fresh = true ∧ (askM L R r now d).answer = 0 ∧ r.kind ≠ 1 ∧ (stateM L r.backend = 1 ∨ stateM L r.backend = 2) ∧
   (∀ x,x ∈ (askM L R r now d).L ↔ x = { lifeM L r.backend with state := if stateM L r.backend = 1 then 4 else 3,til := now + d,req := r.id } ∨ (x ∈ L ∧ x.backend ≠ r.backend))) := by
 unfold askM
 split
 ·exact .inl ⟨rfl,.inl rfl⟩
 ·split
  ·exact .inl ⟨rfl,.inl rfl⟩
  ·split
   ·rename_i hk
    unfold joinM
    split
    ·exact .inl ⟨rfl,.inr (by simp)⟩
    ·split
     ·rename_i hf
      obtain ⟨h1,h2,h3⟩ := findM_at hf
      have hlm : lifeM L r.backend = L[(findM L r.backend).toNat] := (congrArg (lifeM L) h2.symm).trans (life_mem hb.sorted (List.getElem_mem h1))
      split
      ·rename_i h4
       refine .inr (.inl ⟨rfl,rfl,hk,.inr ?_,fun x => ?_⟩)
       ·unfold stateM;rw [hlm,← h3];exact h4
       ·exact set_mem hb.sorted h1 (x0 := ⟨r.backend,1,r.weight,0,0,0⟩) h2.symm x
      ·exact .inl ⟨rfl,.inr (by simp)⟩
     ·rename_i hf
      have hn := findM_neg (Int.not_le.1 hf)
      refine .inr (.inl ⟨rfl,rfl,hk,.inl ?_,fun x => ?_⟩)
      ·rcases life_cases L r.backend with ⟨y,hy,e,_⟩ | ⟨_,e⟩
       ·exact absurd e (hn y hy)
       ·unfold stateM;rw [e];rfl
      ·constructor
       ·intro h
        rcases List.mem_append.1 h with h | h
        ·rcases List.mem_append.1 h with h | h
         ·exact .inr ⟨List.mem_of_mem_take h,hn _ (List.mem_of_mem_take h)⟩
         ·exact .inl (List.mem_singleton.1 h)
        ·exact .inr ⟨List.mem_of_mem_drop h,hn _ (List.mem_of_mem_drop h)⟩
       ·rintro (rfl | ⟨h,_⟩)
        ·simp
        ·rw [← List.take_append_drop (joinPos L r.backend) L] at h
         rcases List.mem_append.1 h with h | h <;> simp [h]
   ·rename_i hk
    unfold retireM
    simp only
    split
    ·exact .inl ⟨rfl,.inr (by simp)⟩
    ·rename_i hf
     obtain ⟨h1,h2,h3⟩ := findM_at (by omega : 0 ≤ findM L r.backend)
     have hlm : lifeM L r.backend = L[(findM L r.backend).toNat] := (congrArg (lifeM L) h2.symm).trans (life_mem hb.sorted (List.getElem_mem h1))
     rw [h3]
     split
     ·exact .inl ⟨rfl,.inr (by simp)⟩
     ·split
      ·exact .inl ⟨rfl,.inr (by simp)⟩
      ·rename_i h4 h5
       have hst : stateM L r.backend = (L[(findM L r.backend).toNat]).state := by unfold stateM;rw [hlm]
       refine .inr (.inr ⟨by simp,by simp,hk,?_,fun x => ?_⟩)
       ·have := (hb.lok _ (List.getElem_mem h1)).st
        rw [hst];omega
       ·rw [hst,hlm]
        have := set_mem hb.sorted h1 (x0 := { L[(findM L r.backend).toNat] with state := if (L[(findM L r.backend).toNat]).state = 1 then 4 else 3,til := now + d,req := r.id }) rfl x
        rw [show ({ L[(findM L r.backend).toNat] with state := if (L[(findM L r.backend).toNat]).state = 1 then 4 else 3,til := now + d,req := r.id } : Lif).backend = r.backend from h2] at this
        exact this
def EvtOk (e : Evt) : Prop := 1 ≤ e.kind ∧ e.kind ≤ 7 ∧ 0 ≤ e.key ∧ e.key ≤ 4294967295 ∧ 0 ≤ e.req ∧ e.req ≤ 1048576 ∧ 0 ≤ e.backend ∧ e.backend < 12 ∧ (e.kind = 5 → 1 ≤ e.weight ∧ e.weight ≤ 8)
theorem reqOf_ok {e : Evt} (h : EvtOk e) : RqsOk (reqOf e) := by
 obtain ⟨_,_,_,_,h1,h2,_⟩ := h
 refine ⟨h1,h2,?_⟩
 show (if e.kind = 6 then (2 : Int) else 1) = 1 ∨ (if e.kind = 6 then (2 : Int) else 1) = 2
 split <;> simp
theorem Mid.asked {g : Gt} {n : Nat} (h : Mid g n (-1)) {e : Evt} (he : EvtOk e) : Mid (g.ask e) n (-1) := by
 have hn1 := h.n1
 have hnn := h.nn
 have h5 := h.c.w5
 have hbk := ask_ok h.bk (reqOf e) (reqOf_ok he) g.now g.c.c5 h.n0 (by omega) (by omega) h5.2
 have hc := ask_cases h.bk (reqOf e) g.now g.c.c5
 unfold Gt.ask
 obtain ⟨a,ha⟩ : ∃ a,a = askM g.L g.R (reqOf e) g.now g.c.c5 := ⟨_,rfl⟩
 rw [← ha] at hbk hc
 simp only [← ha]
 rcases hc with ⟨h1,h2⟩ | ⟨h1,h2,h3,h4,h6⟩ | ⟨h1,h2,h3,h4,h6⟩
 ·rw [if_pos (by rcases h2 with h2 | h2;exact .inl h2;exact .inr (.inl h2))]
  refine { h with bk := hbk,since := ?_,dr := ?_,ws := ?_,fe := ?_ }
  ·rw [h1];exact h.since
  ·rw [h1];exact h.dr
  ·rw [h1];exact h.ws
  ·rw [h1];exact h.fe
 ·have hk6 : e.kind ≠ 6 := fun hk => by
   have : (reqOf e).kind = 2 := by simp [reqOf,hk]
   omega
  rw [if_pos (.inr (.inr hk6))]
  have hu := life_upd h.bk.sorted hbk.sorted (x0 := ⟨(reqOf e).backend,1,(reqOf e).weight,0,0,0⟩) h6
  have hw : g.ws = wsOf a.L := by
   rw [h.ws]
   refine wsOf_congr fun b' hb' => ?_
   rw [hu]
   split
   ·rename_i e1
    have e1 : (b' : Int) = (reqOf e).backend := e1
    rw [e1]
    unfold stateM at h4
    simp only [actW]
    rw [if_neg (by omega),if_neg (by simp)]
   ·rfl
  have := h.life hbk (x0 := ⟨(reqOf e).backend,1,(reqOf e).weight,0,0,0⟩) h6 h.n0 (fun h => by cases h) hw (fun f hf e1 => by
   have := (h.fe f hf).2.2.2.2
   rw [show f.backend = (reqOf e).backend from e1] at this
   omega) (g.out ++ [⟨8,0,0,0,e.req,a.answer,0⟩])
  refine this.strong ?_
  show (lifeM a.L (reqOf e).backend).state ≠ 3
  rw [hu,if_pos rfl];simp
 ·have hk6 : e.kind = 6 := by
   have : (reqOf e).kind = if e.kind = 6 then 2 else 1 := rfl
   rw [this] at h3
   split at h3
   ·assumption
   ·exact absurd rfl h3
  rw [if_neg (by rintro (h | h | h);rw [h1] at h;cases h;exact h h2;exact h hk6)]
  obtain ⟨x0,hx0⟩ : ∃ x0 : Lif,x0 = { lifeM g.L (reqOf e).backend with state := if stateM g.L (reqOf e).backend = 1 then 4 else 3,til := g.now + g.c.c5,req := (reqOf e).id } := ⟨_,rfl⟩
  have hlm := state_mem (L := g.L) (b := (reqOf e).backend) (by omega)
  have hxb : x0.backend = (reqOf e).backend := by rw [hx0];exact hlm.2
  have hxs : x0.state = if stateM g.L (reqOf e).backend = 1 then 4 else 3 := by rw [hx0]
  have hxt : x0.til = g.now + g.c.c5 := by rw [hx0]
  have hxe : x0.since = (lifeM g.L (reqOf e).backend).since := by rw [hx0]
  rw [← hx0] at h6
  rw [← hxb] at h6
  have hu := life_upd h.bk.sorted hbk.sorted h6
  have hbe : (reqOf e).backend = e.backend := rfl
  have hsn := h.since _ hlm.1
  split
  ·rename_i hst
   rw [hbe,hst] at hxs
   have hw : g.ws = wsOf a.L := by
    rw [h.ws]
    refine wsOf_congr fun b' hb' => ?_
    rw [hu]
    split
    ·rename_i e1
     rw [e1,hxb,hbe]
     unfold stateM at hst
     simp [actW,hst,hxs]
    ·rfl
   have := h.life hbk h6 (by omega) (fun h => by rw [hxs] at h;cases h) hw (fun f hf e1 => by
    have := (h.fe f hf).2.2.2.2
    rw [e1,hxb,hbe] at this
    omega) (g.out ++ [⟨8,0,0,0,e.req,a.answer,0⟩])
   have := this.strong (by
    show (lifeM a.L x0.backend).state ≠ 3
    rw [hu,if_pos rfl,hxs];simp)
   exact this.put _
  ·rename_i hst
   have h2' : stateM g.L e.backend = 2 := by rw [hbe] at h4;omega
   rw [hbe,if_neg hst] at hxs
   have hb0 := h.bk.lok _ hlm.1
   have hbb : 0 ≤ e.backend ∧ e.backend < 12 := by
    have e9 := hlm.2
    rw [hbe] at e9
    rw [← e9];exact ⟨hb0.b0,hb0.b1⟩
   have hw : g.ws.set e.backend.toNat 0 = wsOf a.L := by
    rw [h.ws]
    refine (wsOf_set e.backend.toNat (fun b' hb' hne => ?_) 0 fun _ => ?_).symm
    ·rw [hu,if_neg (by rw [hxb,hbe];omega)]
    ·rw [hu,if_pos (by rw [hxb,hbe];omega)]
     simp [actW,hxs]
   have := h.life hbk h6 (by omega) (fun _ => by omega) hw (fun f hf e1 => .inr hxs) (g.out ++ [⟨8,0,0,0,e.req,a.answer,0⟩])
   rw [hxb,hbe] at this
   exact this.spared
structure Rest (g : Gt) (n : Nat) : Prop where
 mid : Mid g n (-1)
 late : ∀ f ∈ g.fl,g.now < f.due
 dr : ∀ x ∈ g.L,x.state = 3 → g.now < x.til
theorem wake_life (L : List Lif) (now b : Int) : lifeM (wakeM L now) b = wakeX now (lifeM L b) := by
 unfold lifeM
 rw [ofM_find,ofM_find]
 unfold wakeM
 rw [List.find?_map]
 have : (qB b ∘ wakeX now) = qB b := by
  funext x
  simp only [Function.comp,qB,wakeX]
  split <;> rfl
 rw [this]
 cases h : L.find? (qB b) with
 | some x => rfl
 | none => rfl
theorem wokenW_get (L : List Lif) (b : Nat) : ∀ (l : List Int) (ws : List Nat),(∀ x ∈ l,0 ≤ x ∧ x < ws.length) → (wokenW L l ws).getD b 0 = if (b : Int) ∈ l then (lifeM L b).weight.toNat else ws.getD b 0
 | [],ws,_ => by simp [wokenW]
 | x :: l,ws,h => by
  have h0 := h x (by simp)
  unfold wokenW
  rw [wokenW_get L b l _ (fun y hy => by rw [List.length_set];exact h y (List.mem_cons_of_mem _ hy))]
  by_cases e : (b : Int) ∈ l
  ·rw [if_pos e,if_pos (List.mem_cons_of_mem _ e)]
  ·rw [if_neg e,getD_set]
   by_cases e2 : (b : Int) = x
   ·have e3 : b = x.toNat := by omega
    rw [if_pos ⟨e3,by omega⟩,if_pos (by rw [e2];simp),← e2]
   ·rw [if_neg (by omega),if_neg (by simp [e,e2])]
theorem wokenW_len (L : List Lif) : ∀ (l : List Int) (ws : List Nat),(wokenW L l ws).length = ws.length
 | [],ws => rfl
 | x :: l,ws => by unfold wokenW;rw [wokenW_len];simp
theorem wokenH_mem : ∀ (l : List Int) (hl : List Hlth) (h : Hlth),h ∈ wokenH l hl → h ∈ hl ∨ h = hzero
 | [],hl,h,hm => .inl hm
 | x :: l,hl,h,hm => by
  rcases wokenH_mem l _ h hm with h1 | h1
  ·rcases List.mem_or_eq_of_mem_set h1 with h1 | h1
   ·exact .inl h1
   ·exact .inr h1
  ·exact .inr h1
theorem wokenH_len : ∀ (l : List Int) (hl : List Hlth),(wokenH l hl).length = hl.length
 | [],hl => rfl
 | x :: l,hl => by unfold wokenH;rw [wokenH_len];simp
theorem woken_mem {L : List Lif} (hs : SrtL L) (b : Int) : b ∈ wokenM L ↔ stateM L b = 1 := by
 unfold wokenM
 rw [List.mem_map]
 constructor
 ·rintro ⟨x,hx,rfl⟩
  obtain ⟨h1,h2⟩ := List.mem_filter.1 hx
  unfold stateM
  rw [life_mem hs h1];simpa using h2
 ·intro h
  have := state_mem (L := L) (b := b) (by omega)
  exact ⟨_,List.mem_filter.2 ⟨this.1,by unfold stateM at h;simp [h]⟩,this.2⟩
theorem Rest.tick0 {g : Gt} {n : Nat} (h : Rest g n) (hn : n + 1 ≤ 1000000) : Mid g.tick0 (n + 1) (-1) := by
 have hm := h.mid
 have hn1 := hm.n1
 have hn0 := hm.n0
 have hbk := wake_ok hm.bk (g.now + 1) (by omega) (by omega)
 have hst : ∀ b,stateM (wakeM g.L (g.now + 1)) b = if stateM g.L b = 1 then 2 else stateM g.L b := fun b => by
  unfold stateM
  rw [wake_life]
  unfold wakeX
  split <;> simp_all
 have hwl : ∀ x ∈ wokenM g.L,0 ≤ x ∧ x < g.ws.length := fun x hx => by
  have := state_mem (L := g.L) (b := x) (by have := (woken_mem hm.bk.sorted x).1 hx;omega)
  have h2 := hm.bk.lok _ this.1
  rw [← this.2,hm.ws]
  have := h2.b0
  have := h2.b1
  simp [wsOf];omega
 refine ⟨hm.c,by show 0 ≤ g.now + 1;omega,by show g.now + 1 ≤ ((n + 1 : Nat) : Int);omega,hn,by show g.wn + 1 = g.now + 1;rw [hm.wn],hm.tok,hm.tl,fun s hs => by have := hm.gens s hs;omega,hbk,?_,?_,?_,?_,?_,hm.tk0,hm.tk1,hm.fs,?_,List.Pairwise.filter _ hm.ts,?_⟩
 ·show ∀ x ∈ wakeM g.L (g.now + 1),x.since ≤ g.now + 1
  intro x hx
  obtain ⟨y,hy,rfl⟩ := List.mem_map.1 hx
  have := hm.since y hy
  unfold wakeX
  split
  ·show g.now + 1 ≤ g.now + 1;omega
  ·omega
 ·show ∀ x ∈ wakeM g.L (g.now + 1),x.state = 3 → g.now + 1 ≤ x.til ∧ x.til ≤ g.now + 1 + g.c.c5 ∧ (x.backend ≠ -1 → 0 < cntB g.tb x.backend)
  intro x hx h3
  obtain ⟨y,hy,rfl⟩ := List.mem_map.1 hx
  unfold wakeX at h3 ⊢
  split at h3
  ·cases h3
  ·rename_i hc
   rw [if_neg hc]
   have h1 := hm.dr y hy h3
   have h2 := h.dr y hy h3
   exact ⟨by omega,by omega,h1.2.2⟩
 ·show wokenW (wakeM g.L (g.now + 1)) (wokenM g.L) g.ws = wsOf (wakeM g.L (g.now + 1))
  apply List.ext_getElem (by rw [wokenW_len,hm.ws];simp [wsOf])
  intro b h1 h2
  have hb : b < 12 := by simpa [wsOf] using h2
  have e1 := wokenW_get (wakeM g.L (g.now + 1)) b (wokenM g.L) g.ws hwl
  have e2 := wsOf_get (wakeM g.L (g.now + 1)) b hb
  rw [getD_at _ h1] at e1
  rw [getD_at _ h2] at e2
  rw [e1,e2,hm.ws,wsOf_get _ _ hb]
  by_cases hc : stateM g.L b = 1
  ·rw [if_pos ((woken_mem hm.bk.sorted _).2 hc)]
   have := hst b
   rw [if_pos hc] at this
   unfold stateM at this
   simp [actW,this]
  ·rw [if_neg (fun hh => hc ((woken_mem hm.bk.sorted _).1 hh)),wake_life]
   unfold stateM at hc
   unfold wakeX
   rw [if_neg hc]
 ·show ((wokenH (wokenM g.L) g.hl).map fun h => (backH h (g.now + 1)).1).length = 12
  rw [List.length_map,wokenH_len];exact hm.hn
 ·show ∀ x ∈ (wokenH (wokenM g.L) g.hl).map (fun h => (backH h (g.now + 1)).1),x.Ok g.c.wat ∧ (x.out = true → g.now + 1 < x.til ∧ x.til ≤ g.now + 1 + 500)
  intro x hx
  obtain ⟨y,hy,rfl⟩ := List.mem_map.1 hx
  have hw := hm.c.w
  have hy2 : y.Ok g.c.wat ∧ (y.out = true → g.now < y.til ∧ y.til ≤ g.now + 500) := by
   rcases wokenH_mem _ _ _ hy with h1 | rfl
   ·exact hm.hok y h1
   ·refine ⟨⟨by show ((([] : List Bool).length : Nat) : Int) ≤ _;have := hw.1;simp;omega,by show (0 : Int) ≤ 0;omega,by show (0 : Int) ≤ 10;omega,by show (0 : Int) ≤ 0;omega,by show (0 : Int) ≤ _;omega,fun _ => rfl⟩,fun h => by cases h⟩
  obtain ⟨⟨a1,a2,a3,a4,a5,a6⟩,hyo⟩ := hy2
  unfold backH
  split
  ·exact ⟨⟨a1,a2,a3,by show (0 : Int) ≤ 0;omega,by show (0 : Int) ≤ _;omega,fun _ => rfl⟩,fun h => by cases h⟩
  ·rename_i hc
   refine ⟨⟨a1,a2,a3,a4,a5,a6⟩,fun ho => ?_⟩
   have ho : y.out = true := ho
   have := hyo ho
   have h2 : ¬ y.til ≤ g.now + 1 := fun hh => hc ⟨ho,hh⟩
   show g.now + 1 < y.til ∧ y.til ≤ g.now + 1 + 500
   omega
 ·show ∀ f ∈ g.fl,0 ≤ f.tries ∧ f.tries ≤ g.c.c8 ∧ g.now + 1 ≤ f.due ∧ f.due ≤ g.now + 1 + (if f.serving = true then g.c.c6 else g.c.c7) ∧ (stateM (wakeM g.L (g.now + 1)) f.backend = 2 ∨ stateM (wakeM g.L (g.now + 1)) f.backend = 3)
  intro f hf
  have h1 := hm.fe f hf
  have h2 := h.late f hf
  rw [hst]
  refine ⟨h1.1,h1.2.1,by omega,by omega,?_⟩
  rw [if_neg (by omega)]
  exact h1.2.2.2.2
 ·show TmT (g.now + 1) g.fl (g.tm.filter fun t => decide (t.1 ≠ g.wn + 1))
  intro t
  rw [List.mem_filter,hm.tt t,hm.wn]
  constructor
  ·rintro ⟨⟨f,hf,hd,rfl⟩,h2⟩
   have h2 : f.due ≠ g.now + 1 := by simpa using h2
   exact ⟨f,hf,by omega,rfl⟩
  ·rintro ⟨f,hf,hd,rfl⟩
   exact ⟨⟨f,hf,by omega,rfl⟩,by simp;omega⟩
structure Same (g g' : Gt) : Prop where
 now : g'.now = g.now
 c : g'.c = g.c
 L : ∀ x ∈ g'.L,x ∈ g.L ∨ x.state = 4
theorem Same.refl (g : Gt) : Same g g := ⟨rfl,rfl,fun x h => .inl h⟩
theorem Same.trans {a b c : Gt} (h : Same a b) (h' : Same b c) : Same a c := ⟨h'.now.trans h.now,h'.c.trans h.c,fun x hx => (h'.L x hx).elim (h.L x) .inr⟩
theorem spared_same {g : Gt} (hs : SrtL g.L) (b : Int) : Same g (g.spared b) ∧ (g.spared b).fl = g.fl ∧ (g.spared b).tb = g.tb := by
 unfold Gt.spared
 split
 ·rename_i hc
  obtain ⟨i,hi,hl,hb,he⟩ := finish_set hs hc.1
  refine ⟨⟨rfl,rfl,fun x hx => ?_⟩,rfl,rfl⟩
  have hx : x ∈ (finishM g.L b).1 := hx
  rw [he] at hx
  rcases List.mem_or_eq_of_mem_set hx with h | rfl
  ·exact .inl h
  ·exact .inr rfl
 ·exact ⟨Same.refl g,rfl,rfl⟩
theorem drop_same {g : Gt} {n : Nat} (h : Mid g n (-1)) {i : Nat} (hi : i < g.fl.length) (o : Outp) : Same g (g.drop i o) ∧ (∀ f,f ∈ (g.drop i o).fl ↔ f ∈ g.fl ∧ f.slot ≠ (g.fl.getD i default).slot) := by
 have hs := spared_same (g := g.dropA i o) h.bk.sorted (g.fl.getD i default).backend
 refine ⟨(⟨rfl,rfl,fun x hx => .inl hx⟩ : Same g (g.dropA i o)).trans hs.1,fun f => ?_⟩
 unfold Gt.drop
 rw [hs.2.1,getD_at _ hi]
 show f ∈ g.fl.eraseIdx i ↔ _
 constructor
 ·intro hf
  obtain ⟨j,hj,hji,rfl⟩ := mem_erase hf
  exact ⟨List.getElem_mem hj,h.fs.slot_lt hj hi hji⟩
 ·rintro ⟨hf,hne⟩
  obtain ⟨j,hj⟩ := List.getElem?_of_mem hf
  obtain ⟨j1,rfl⟩ := List.getElem?_eq_some_iff.1 hj
  exact erase_mem j1 fun e => by subst e;exact hne rfl
theorem failed_same {g : Gt} {n : Nat} (h : Mid g n (-1)) {i : Nat} (hi : i < g.fl.length) (why : Int) : Same g (g.failed i why) ∧ (∀ f ∈ (g.failed i why).fl,(f ∈ g.fl ∧ f.slot ≠ (g.fl.getD i default).slot) ∨ g.now < f.due) ∧
  (∀ f ∈ g.fl,f.slot ≠ (g.fl.getD i default).slot → f ∈ (g.failed i why).fl) := by
 have hb := h.flow (List.getElem_mem hi)
 have hg := getD_at default hi
 have hn := h.note (g.fl.getD i default).backend (by rw [hg];omega) true
 have hns : Same g (g.note (g.fl.getD i default).backend true) := ⟨rfl,rfl,fun x hx => .inl hx⟩
 have h7 := h.c.w7
 have hdr : ∀ o,Same g ((g.note (g.fl.getD i default).backend true).drop i o) ∧ (∀ f ∈ ((g.note (g.fl.getD i default).backend true).drop i o).fl,(f ∈ g.fl ∧ f.slot ≠ (g.fl.getD i default).slot) ∨ g.now < f.due) ∧
   (∀ f ∈ g.fl,f.slot ≠ (g.fl.getD i default).slot → f ∈ ((g.note (g.fl.getD i default).backend true).drop i o).fl) := fun o => by
  obtain ⟨h1,h2⟩ := drop_same hn hi o
  exact ⟨hns.trans h1,fun f hf => .inl ((h2 f).1 hf),fun f hf hne => (h2 f).2 ⟨hf,hne⟩⟩
 have hmv : ∀ b t,Same g ((g.note (g.fl.getD i default).backend true).moved i b t) ∧ (∀ f ∈ ((g.note (g.fl.getD i default).backend true).moved i b t).fl,(f ∈ g.fl ∧ f.slot ≠ (g.fl.getD i default).slot) ∨ g.now < f.due) ∧
   (∀ f ∈ g.fl,f.slot ≠ (g.fl.getD i default).slot → f ∈ ((g.note (g.fl.getD i default).backend true).moved i b t).fl) := fun b t => by
  refine ⟨⟨rfl,rfl,fun x hx => .inl hx⟩,fun f hf => ?_,fun f hf hne => ?_⟩
  ·obtain ⟨j,hj⟩ := List.getElem?_of_mem (l := g.fl.set i _) hf
   obtain ⟨j1,j2⟩ := List.getElem?_eq_some_iff.1 hj
   rw [List.getElem_set] at j2
   split at j2
   ·subst j2;right;show g.now < g.now + g.c.c7;omega
   ·rename_i hne
    simp only [List.length_set] at j1
    left
    rw [hg]
    exact ⟨j2 ▸ List.getElem_mem j1,j2 ▸ h.fs.slot_lt j1 hi (fun e => hne e.symm)⟩
  ·obtain ⟨j,hj⟩ := List.getElem?_of_mem hf
   obtain ⟨j1,rfl⟩ := List.getElem?_eq_some_iff.1 hj
   have hji : i ≠ j := fun e => by subst e;rw [hg] at hne;exact hne rfl
   exact List.mem_of_getElem? (l := g.fl.set i _) (i := j) (by rw [List.getElem?_set,if_neg hji,List.getElem?_eq_getElem j1])
 unfold Gt.failed
 simp only
 split
 ·exact hdr _
 ·split
  ·exact hdr _
  ·split
   ·obtain ⟨m1,m2,m3⟩ := hmv (pickG (g.note (g.fl.getD i default).backend true) (g.fl.getD i default).key (g.fl.getD i default).slot).1 (g.tok - g.c.bud.den)
    obtain ⟨s1,s2,s3⟩ := spared_same (g := (g.note (g.fl.getD i default).backend true).moved i (pickG (g.note (g.fl.getD i default).backend true) (g.fl.getD i default).key (g.fl.getD i default).slot).1 (g.tok - g.c.bud.den)) h.bk.sorted (g.fl.getD i default).backend
    exact ⟨m1.trans s1,by rw [s2];exact m2,by rw [s2];exact m3⟩
   ·exact hmv _ _
theorem off1_same {g : Gt} {n : Nat} (h : Mid g n (-1)) {f0 : Flw} (hf0 : f0 ∈ g.fl) : Mid (g.off1 f0.slot) n (-1) ∧ Same g (g.off1 f0.slot) ∧ (∀ f ∈ (g.off1 f0.slot).fl,(f ∈ g.fl ∧ f.slot ≠ f0.slot) ∨ g.now < f.due) ∧
  (∀ f ∈ g.fl,f.slot ≠ f0.slot → f ∈ (g.off1 f0.slot).fl) := by
 obtain ⟨hi,he,_,hgd⟩ := find_mem h.fs.so hf0
 unfold Gt.off1
 simp only
 split
 ·obtain ⟨h1,h2⟩ := drop_same h hi (resetO 1)
  rw [hgd] at h2
  exact ⟨h.drop hi _,h1,fun f hf => .inl ((h2 f).1 hf),fun f hf hne => (h2 f).2 ⟨hf,hne⟩⟩
 ·rename_i hs
  have := failed_same h hi 5
  rw [hgd] at this
  exact ⟨h.failed hi 5 (by simpa using hs),this.1,this.2.1,this.2.2⟩
theorem offs_same : ∀ (l : List Int) {g : Gt} {n : Nat},Mid g n (-1) → l.Nodup → (∀ s ∈ l,∃ f ∈ g.fl,f.slot = s) → (∀ f ∈ g.fl,g.now < f.due ∨ f.slot ∈ l) → Mid (g.offs l) n (-1) ∧ Same g (g.offs l) ∧ ∀ f ∈ (g.offs l).fl,g.now < f.due
 | [],g,n,h,_,_,hl => ⟨h,Same.refl g,fun f hf => (hl f hf).elim id fun h => by cases h⟩
 | s :: l,g,n,h,hnd,hs,hl => by
  obtain ⟨f0,hf0,rfl⟩ := hs s (by simp)
  obtain ⟨h1,h2,h3,h4⟩ := off1_same h hf0
  obtain ⟨n1,n2⟩ := List.nodup_cons.1 hnd
  have ih := offs_same l (g := g.off1 f0.slot) h1 n2 (fun s hs2 => by
   obtain ⟨f,hf,e⟩ := hs s (List.mem_cons_of_mem _ hs2)
   refine ⟨f,h4 f hf fun e2 => n1 ?_,e⟩
   rw [← e2,e];exact hs2) (fun f hf => by
   rw [h2.now]
   rcases h3 f hf with ⟨h5,h6⟩ | h5
   ·rcases hl f h5 with h7 | h7
    ·exact .inl h7
    ·rcases List.mem_cons.1 h7 with h8 | h8
     ·exact absurd h8 h6
     ·exact .inr h8
   ·exact .inl h5)
  rw [h2.now] at ih
  exact ⟨ih.1,h2.trans ih.2.1,ih.2.2⟩
theorem cut1_same (b : Int) : ∀ (l : List Hnd) {g : Gt} {n : Nat},Mid g n (-1) → (l.map (·.1)).Nodup → (∀ h ∈ l,∃ f ∈ g.fl,f.slot = h.1) → (∀ f ∈ g.fl,f.backend = b → ∃ h ∈ l,f.slot = h.1) →
  Mid (g.cut1 l) n (-1) ∧ Same g (g.cut1 l) ∧ (∀ f ∈ (g.cut1 l).fl,f ∈ g.fl ∧ f.backend ≠ b)
 | [],g,n,h,_,_,hl => ⟨h,Same.refl g,fun f hf => ⟨hf,fun e => by obtain ⟨_,h,_⟩ := hl f hf e;cases h⟩⟩
 | s :: l,g,n,h,hnd,hs,hl => by
  obtain ⟨f0,hf0,e0⟩ := hs s (by simp)
  obtain ⟨hi,he,_,hgd⟩ := find_mem h.fs.so hf0
  obtain ⟨h1,h2⟩ := drop_same h hi (resetO 2)
  have hd := h.drop hi (resetO 2)
  rw [hgd] at h2
  rw [e0] at hd h1 h2
  rw [List.map_cons] at hnd
  obtain ⟨n1,n2⟩ := List.nodup_cons.1 hnd
  have ih := cut1_same b l (g := g.drop (findF g.fl s.1).toNat (resetO 2)) hd n2 (fun s2 hs2 => by
   obtain ⟨f,hf,e⟩ := hs s2 (List.mem_cons_of_mem _ hs2)
   refine ⟨f,(h2 f).2 ⟨hf,fun e2 => n1 (List.mem_map.2 ⟨s2,hs2,by omega⟩)⟩,e⟩) (fun f hf hb => by
   obtain ⟨f1,f2⟩ := (h2 f).1 hf
   obtain ⟨s2,hs2,e⟩ := hl f f1 hb
   rcases List.mem_cons.1 hs2 with rfl | hs2
   ·exact absurd e f2
   ·exact ⟨s2,hs2,e⟩)
  exact ⟨ih.1,h1.trans ih.2.1,fun f hf => ⟨((h2 f).1 (ih.2.2 f hf).1).1,(ih.2.2 f hf).2⟩⟩
theorem ofL_mem {tb : List TSlot} {b : Int} {h : Hnd} : h ∈ ofL tb b ↔ h.1 < tb.length ∧ (tb.getD h.1 tzero).used = true ∧ (tb.getD h.1 tzero).backend = b ∧ (tb.getD h.1 tzero).gen = h.2 := by
 unfold ofL
 rw [List.mem_map]
 constructor
 ·rintro ⟨p,hp,rfl⟩
  obtain ⟨h1,h2⟩ := List.mem_filter.1 hp
  obtain ⟨h3,h4⟩ := List.mem_zipIdx' (x := p.1) (i := p.2) h1
  rw [getD_at _ h3,← h4]
  simp at h2
  exact ⟨h3,h2.1,h2.2,rfl⟩
 ·rintro ⟨h1,h2,h3,h4⟩
  rw [getD_at _ h1] at h2 h3 h4
  refine ⟨(tb[h.1],h.1),List.mem_filter.2 ⟨List.mem_zipIdx_iff_getElem?.2 (by simp [h1]),by simp [h2,h3]⟩,by show (h.1,tb[h.1].gen) = h;rw [h4]⟩
theorem ofL_nodup (tb : List TSlot) (b : Int) : ((ofL tb b).map (·.1)).Nodup := by
 unfold ofL
 rw [List.map_map]
 have : List.Nodup (tb.zipIdx.map Prod.snd) := by
  rw [List.zipIdx_map_snd]
  exact List.nodup_range'
 exact this.sublist (List.filter_sublist.map _)
theorem cuts_same : ∀ (l : List Lif) {g : Gt} {n : Nat},Mid g n (-1) → (∀ f ∈ g.fl,g.now < f.due) → (∀ y ∈ g.L,y.state = 3 → y.til ≤ g.now → y ∈ l) →
  Mid (g.cuts l) n (-1) ∧ Same g (g.cuts l) ∧ (∀ f ∈ (g.cuts l).fl,g.now < f.due) ∧ (∀ y ∈ (g.cuts l).L,y.state = 3 → g.now < y.til)
 | [],g,n,h,hla,hl => ⟨h,Same.refl g,hla,fun y hy h3 => by
   rcases Int.lt_or_le g.now y.til with h1 | h1
   ·exact h1
   ·exact absurd (hl y hy h3 h1) (by simp)⟩
 | x :: l,g,n,h,hla,hl => by
  unfold Gt.cuts
  split
  ·rename_i hc
   refine cuts_same l h hla fun y hy h3 ht => ?_
   rcases List.mem_cons.1 (hl y hy h3 ht) with rfl | h1
   ·rcases hc with hc | hc
    ·exact absurd h3 hc
    ·omega
   ·exact h1
  ·rename_i hc
   obtain ⟨h1,h2,h3⟩ := cut1_same x.backend (ofL g.tb x.backend) h (ofL_nodup _ _) (fun s hs => by
    obtain ⟨q1,q2,q3,q4⟩ := ofL_mem.1 hs
    exact h.fs.al s.1 q1 q2) (fun f hf hb => by
    obtain ⟨q1,q2,q3⟩ := h.fs.at_ f hf
    exact ⟨(f.slot.toNat,f.gen),ofL_mem.2 ⟨by show f.slot.toNat < _;omega,by show (g.tb.getD f.slot.toNat tzero).used = true;rw [q3],by show (g.tb.getD f.slot.toNat tzero).backend = _;rw [q3];exact hb,by show (g.tb.getD f.slot.toNat tzero).gen = _;rw [q3]⟩,by show f.slot = (f.slot.toNat : Int);omega⟩)
   have ih := cuts_same l (g := g.cut1 (ofL g.tb x.backend)) h1 (fun f hf => by rw [h2.now];exact hla f (h3 f hf).1) (fun y hy h4 ht => by
    rw [h2.now] at ht
    rcases h2.L y hy with h5 | h5
    ·rcases List.mem_cons.1 (hl y h5 h4 ht) with rfl | h6
     ·exfalso
      have h7 := (h1.dr y hy h4).2.2 (by have := (h1.bk.lok y hy).b0;omega)
      rw [h1.fs.cnt,List.countP_pos_iff] at h7
      obtain ⟨f,hf,h8⟩ := h7
      exact (h3 f hf).2 (by simpa using h8)
     ·exact h6
    ·omega)
   rw [h2.now] at ih
   exact ⟨ih.1,h2.trans ih.2.1,ih.2.2.1,ih.2.2.2⟩
theorem Rest.tick {g : Gt} {n : Nat} (h : Rest g n) (hn : n + 1 ≤ 1000000) : Rest g.tick (n + 1) := by
 have h0 := h.tick0 hn
 have hm := h.mid
 have hoff : ∀ s,s ∈ offM g ↔ ∃ f ∈ g.fl,f.due = g.now + 1 ∧ f.slot = s := fun s => by
  unfold offM
  rw [List.mem_map]
  constructor
  ·rintro ⟨t,ht,rfl⟩
   obtain ⟨h1,h2⟩ := List.mem_filter.1 ht
   obtain ⟨f,hf,_,rfl⟩ := (hm.tt t).1 h1
   rw [hm.wn] at h2
   exact ⟨f,hf,by simpa using h2,rfl⟩
  ·rintro ⟨f,hf,h1,rfl⟩
   refine ⟨(f.due,f.slot),List.mem_filter.2 ⟨(hm.tt _).2 ⟨f,hf,by omega,rfl⟩,by rw [hm.wn];simp [h1]⟩,rfl⟩
 have hnd : (offM g).Nodup := (hm.wh.ids).sublist (List.filter_sublist.map _)
 obtain ⟨h1,h2,h3⟩ := offs_same (offM g) (g := g.tick0) h0 hnd (fun s hs => by
  obtain ⟨f,hf,_,e⟩ := (hoff s).1 hs
  exact ⟨f,hf,e⟩) (fun f hf => by
  have := h.late f hf
  rcases Int.lt_or_le (g.now + 1) f.due with h5 | h5
  ·exact .inl h5
  ·exact .inr ((hoff _).2 ⟨f,hf,by omega,rfl⟩))
 obtain ⟨h4,h5,h6,h7⟩ := cuts_same (g.tick0.offs (offM g)).L h1 (fun f hf => by rw [h2.now];exact h3 f hf) (fun y hy _ _ => hy)
 unfold Gt.tick
 simp only
 refine ⟨h4,?_,?_⟩
 ·rw [h5.now];exact h6
 ·rw [h5.now];exact h7
theorem Rest.clean {g : Gt} {n : Nat} (h : Rest g n) : Rest { g with out := [] } n := ⟨{ h.mid with },h.late,h.dr⟩
theorem Rest.opened {g : Gt} {n : Nat} (h : Rest g n) {key : Int} (k0 : 0 ≤ key) (k1 : key ≤ 4294967295) (hn : n + 1 ≤ 1000000) : Rest (g.opened key) (n + 1) := by
 have hm := h.mid.opened k0 k1 hn
 have h7 := h.mid.c.w7
 refine ⟨hm,?_,?_⟩
 ·unfold Gt.opened
  split
  ·exact h.late
  ·split
   ·exact h.late
   ·intro f hf
    rcases insF_mem.1 hf with rfl | hf
    ·show g.now < g.now + g.c.c7;omega
    ·exact h.late f hf
 ·unfold Gt.opened
  split
  ·exact h.dr
  ·split
   ·exact h.dr
   ·exact h.dr
theorem dueA_fl {g : Gt} {i : Nat} {z : Int} {f : Flw} (hf : f ∈ (g.dueA i z).fl) : f ∈ g.fl ∨ f.due = z := by
 rcases List.mem_or_eq_of_mem_set hf with h | rfl
 ·exact .inl h
 ·exact .inr rfl
theorem Rest.flowed {g : Gt} {n : Nat} (h : Rest g n) (e : Evt) : Rest (g.flow e) n := by
 have hm := h.mid.flowed e
 suffices hh : (∀ f ∈ (g.flow e).fl,(g.flow e).now < f.due) ∧ (∀ x ∈ (g.flow e).L,x.state = 3 → (g.flow e).now < x.til) from ⟨hm,hh.1,hh.2⟩
 have h6 := h.mid.c.w6
 unfold Gt.flow
 split
 ·exact ⟨h.late,h.dr⟩
 ·rename_i hg
  obtain ⟨f,hf,e1,e2⟩ := h.mid.fs.got (Decidable.not_not.1 hg)
  obtain ⟨hi,he,_,hgd⟩ := find_mem h.mid.fs.so hf
  simp only
  rw [← e1]
  split
  ·obtain ⟨h1,h2⟩ := drop_same h.mid hi ⟨7,0,0,0,0,0,0⟩
   refine ⟨fun f hf => ?_,fun x hx h3 => ?_⟩
   ·rw [h1.now];exact h.late f ((h2 f).1 hf).1
   ·rw [h1.now];exact (h1.L x hx).elim (fun hx => h.dr x hx h3) (fun h4 => by omega)
  ·split
   ·split
    ·refine ⟨fun f hf => ?_,h.dr⟩
     rcases dueA_fl hf with h1 | h1
     ·exact h.late f h1
     ·show g.now < f.due;omega
    ·exact ⟨h.late,h.dr⟩
   ·split
    ·exact ⟨h.late,h.dr⟩
    ·split
     ·refine ⟨fun f hf => ?_,h.dr⟩
      have hf : f ∈ (((g.served (findF g.fl _).toNat).note _ false).dueA (findF g.fl _).toNat (g.now + g.c.c6)).fl := hf
      rw [(served_due g _ hi _ _ false).1] at hf
      rcases List.mem_or_eq_of_mem_set hf with h1 | rfl
      ·exact h.late f h1
      ·show g.now < g.now + g.c.c6;omega
     ·obtain ⟨h1,h2,_⟩ := failed_same h.mid hi 3
      refine ⟨fun f hf => ?_,fun x hx h3 => ?_⟩
      ·rw [h1.now];exact (h2 f hf).elim (fun h4 => h.late f h4.1) id
      ·rw [h1.now];exact (h1.L x hx).elim (fun hx => h.dr x hx h3) (fun h4 => by omega)
theorem Rest.asked {g : Gt} {n : Nat} (h : Rest g n) {e : Evt} (he : EvtOk e) : Rest (g.ask e) n := by
 have hm := h.mid.asked he
 have hc := ask_cases h.mid.bk (reqOf e) g.now g.c.c5
 have h5 := h.mid.c.w5
 have hbk := ask_ok h.mid.bk (reqOf e) (reqOf_ok he) g.now g.c.c5 h.mid.n0 (by have := h.mid.n1;have := h.mid.nn;omega) (by omega) h5.2
 have key : ∀ x ∈ (askM g.L g.R (reqOf e) g.now g.c.c5).L,x.state = 3 → g.now < x.til := by
  intro x hx h3
  rcases hc with ⟨h1,_⟩ | ⟨_,_,_,_,h6⟩ | ⟨_,_,_,_,h6⟩
  ·rw [h1] at hx;exact h.dr x hx h3
  ·rcases (h6 x).1 hx with rfl | ⟨h1,_⟩
   ·cases h3
   ·exact h.dr x h1 h3
  ·rcases (h6 x).1 hx with rfl | ⟨h1,_⟩
   ·show g.now < g.now + g.c.c5;omega
   ·exact h.dr x h1 h3
 suffices hh : (∀ f ∈ (g.ask e).fl,(g.ask e).now < f.due) ∧ (∀ x ∈ (g.ask e).L,x.state = 3 → (g.ask e).now < x.til) from ⟨hm,hh.1,hh.2⟩
 unfold Gt.ask
 simp only
 split
 ·exact ⟨h.late,key⟩
 ·split
  ·exact ⟨h.late,key⟩
  ·obtain ⟨s1,s2,s3⟩ := spared_same (g := { g with L := (askM g.L g.R (reqOf e) g.now g.c.c5).L,R := (askM g.L g.R (reqOf e) g.now g.c.c5).R,out := g.out ++ [⟨8,0,0,0,e.req,(askM g.L g.R (reqOf e) g.now g.c.c5).answer,0⟩],ws := g.ws.set e.backend.toNat 0 }) hbk.sorted e.backend
   refine ⟨fun f hf => ?_,fun x hx h3 => ?_⟩
   ·rw [s1.now];rw [s2] at hf;exact h.late f hf
   ·rw [s1.now];exact (s1.L x hx).elim (fun hx => key x hx h3) (fun h4 => by omega)
theorem Rest.up {g : Gt} {n : Nat} (h : Rest g n) (hn : n + 1 ≤ 1000000) : Rest g (n + 1) := ⟨h.mid.up hn,h.late,h.dr⟩
theorem Rest.done {g : Gt} {n : Nat} (h : Rest g n) {e : Evt} (he : EvtOk e) (hn : n + 1 ≤ 1000000) : Rest (g.done e) (n + 1) := by
 have hc := h.clean
 unfold Gt.done Gt.step
 split
 ·exact hc.opened he.2.2.1 he.2.2.2.1 hn
 ·split
  ·exact (hc.asked he).up hn
  ·split
   ·exact hc.tick hn
   ·exact (hc.flowed e).up hn
def begM (c : Cfg) : Gt := ⟨c,0,List.replicate c.slots.toNat tzero,[],[],[],List.replicate 12 0,List.replicate 12 hzero,c.bud.full,0,[],[]⟩
theorem beg_rest {c : Cfg} (h : c.Ok) : Rest (begM c) 0 := by
 have h0 := h.w0
 have hb := h.b.full
 have hs : ∀ s ∈ List.replicate c.slots.toNat tzero,s = tzero := fun s hs => (List.mem_replicate.1 hs).2
 refine ⟨⟨h,by show (0 : Int) ≤ 0;omega,by show (0 : Int) ≤ _;omega,by omega,rfl,?_,?_,?_,⟨by simp [begM],by simp [begM],by simp [begM],by simp [begM],List.Pairwise.nil,by simp [begM]⟩,by simp [begM],by simp [begM],by simp [begM,wsOf,lifeM,ofM,findM,idxZ,actW,List.range_succ];decide,by simp [begM],?_,hb.1,by show c.bud.full ≤ c.bud.full;omega,⟨List.Pairwise.nil,by simp [begM],?_⟩,by simp [begM],List.Pairwise.nil,?_⟩,by simp [begM],by simp [begM]⟩
 ·refine ⟨by simp [begM];omega,by simp [begM];omega,fun s hs2 => ?_⟩
  rw [hs s hs2]
  exact ⟨by show (0 : Int) ≤ 0;omega,fun _ => ⟨by show (0 : Int) ≤ _;omega,rfl,rfl⟩,fun h => by cases h⟩
 ·simp [begM];omega
 ·intro s hs2
  rw [hs s hs2];simp [tzero]
 ·intro x hx
  have hx := (List.mem_replicate.1 hx).2
  subst hx
  have hw := h.w
  exact ⟨⟨by show ((([] : List Bool).length : Nat) : Int) ≤ _;have := hw.1;simp [begM];omega,by show (0 : Int) ≤ 0;omega,by show (0 : Int) ≤ 10;omega,by show (0 : Int) ≤ 0;omega,by show (0 : Int) ≤ _;omega,fun _ => rfl⟩,fun h => by cases h⟩
 ·intro s hl hu
  exfalso
  have : (List.replicate c.slots.toNat tzero).getD s tzero = tzero := by
   rw [List.getD_eq_getElem?_getD,List.getElem?_replicate];split <;> rfl
  have hu : ((List.replicate c.slots.toNat tzero).getD s tzero).used = true := hu
  rw [this] at hu
  cases hu
 ·intro t
  simp [begM]
def Gt.clean (g : Gt) : Gt := { g with out := [] }
def evOpen (key : Int) : Evt := ⟨1,key,0,0,false,0,0,0⟩
def evClose (s g : Int) : Evt := ⟨3,0,s,g,false,0,0,0⟩
def evAns (s g : Int) (good : Bool) : Evt := ⟨4,0,s,g,good,0,0,0⟩
def evJoin (r b w : Int) : Evt := ⟨5,0,0,0,false,r,b,w⟩
def evTick : Evt := ⟨7,0,0,0,false,0,0,0⟩
theorem Rest.cleanS {g : Gt} {n : Nat} (h : Rest g n) : Rest g.clean n := ⟨{ h.mid with },h.late,h.dr⟩
theorem Mid.tm_nil {g : Gt} {n : Nat} {ex : Int} (h : Mid g n ex) (hf : g.fl = []) : g.tm = [] := by
 rw [List.eq_nil_iff_forall_not_mem]
 intro t ht
 obtain ⟨f,hf2,_⟩ := (h.tt t).1 ht
 rw [hf] at hf2;cases hf2
theorem Mid.free0 {g : Gt} {n : Nat} {ex : Int} (h : Mid g n ex) (hf : g.fl = []) : freeZ g.tb = 0 := by
 have h1 := h.tok.1
 have hm := getD_mem (l := g.tb) tzero (j := 0) (by omega)
 have hg := h.gens _ hm
 have hnn := h.nn
 have hu : (g.tb.getD 0 tzero).used = false := by
  cases hu : (g.tb.getD 0 tzero).used with
  | false => rfl
  | true =>
   obtain ⟨f,hf2,_⟩ := h.fs.al 0 (by omega) hu
   rw [hf] at hf2;cases hf2
 rw [hu] at hg
 simp at hg
 have hfree : tfree (g.tb.getD 0 tzero) = true := by unfold tfree;rw [hu];simp;omega
 have := idxZ_at tfree g.tb 0 (by omega) (fun j hj => by omega) (by rw [← getD_at tzero (by omega)];exact hfree)
 exact this
structure Idle (g : Gt) : Prop where
 fl : g.fl = []
 L : g.L = []
 out : g.out = []
theorem idle_tick {g : Gt} {n : Nat} (h : Rest g n) (hi : Idle g) (hn : n + 1 ≤ 1000000) : Idle (g.step evTick).clean ∧ (g.step evTick).out = [] ∧ (g.step evTick).now = g.now + 1 := by
 have e2 : g.step evTick = g.tick := by
  unfold Gt.step evTick
  rw [if_neg (by simp),if_neg (by simp),if_pos rfl]
 have ht := h.mid.tm_nil hi.fl
 have hoff : offM g = [] := by unfold offM;rw [ht];rfl
 have hL : g.tick0.L = [] := by show wakeM g.L _ = [];rw [hi.L];rfl
 have e3 : g.tick = g.tick0 := by
  unfold Gt.tick
  rw [hoff]
  show (g.tick0).cuts g.tick0.L = _
  rw [hL];rfl
 rw [e2,e3]
 exact ⟨⟨hi.fl,hL,rfl⟩,hi.out,rfl⟩
theorem idle_open {g : Gt} {n : Nat} (h : Rest g n) (hi : Idle g) (key : Int) : (g.step (evOpen key)).out = [⟨2,0,0,0,0,11,0⟩] ∧ (g.step (evOpen key)).fl = [] ∧ (g.step (evOpen key)).now = g.now := by
 have e2 : g.step (evOpen key) = g.opened key := by unfold Gt.step evOpen;rw [if_pos rfl]
 have hf := h.mid.free0 hi.fl
 have hp : (pickG g key (-1)).2 = 11 := by
  unfold pickG loadsM
  rw [hi.L]
  simp [pickM,idxZ]
 rw [e2]
 unfold Gt.opened
 rw [if_neg (by omega),if_pos (by omega)]
 exact ⟨by simp [Gt.put,hi.out],hi.fl,rfl⟩
theorem first_join {c : Cfg} (hc : c.Ok) {b w : Int} (b0 : 0 ≤ b) (b1 : b < 12) (w0 : 1 ≤ w) (w1 : w ≤ 8) :
  ((begM c).step (evJoin 1 b w)).out = [⟨8,0,0,0,1,0,0⟩] ∧ ((begM c).step (evJoin 1 b w)).fl = [] ∧ ((begM c).step (evJoin 1 b w)).L = [⟨b,1,w,0,0,0⟩] := by
 have hr : reqOf (evJoin 1 b w) = ⟨1,1,b,w,0⟩ := by simp [reqOf,evJoin]
 have ha : askM [] [] ⟨1,1,b,w,0⟩ 0 c.c5 = ⟨[⟨b,1,w,0,0,0⟩],[⟨1,1,b,w,0⟩],0,true⟩ := by
  unfold askM joinM
  rw [if_neg (by simp [idxZ]),if_neg (by simp),if_pos rfl]
  simp only
  rw [if_neg (by omega),if_neg (by simp [findM,idxZ])]
  simp
 have e : (begM c).step (evJoin 1 b w) = { begM c with L := [⟨b,1,w,0,0,0⟩],R := [⟨1,1,b,w,0⟩],out := [⟨8,0,0,0,1,0,0⟩] } := by
  unfold Gt.step
  rw [if_neg (by simp [evJoin]),if_pos (by simp [evJoin])]
  unfold Gt.ask
  simp only [hr]
  rw [show askM (begM c).L (begM c).R ⟨1,1,b,w,0⟩ (begM c).now (begM c).c.c5 = _ from ha]
  rw [if_pos (.inr (.inr (by simp [evJoin])))]
  rfl
 rw [e]
 exact ⟨rfl,rfl,rfl⟩
theorem first_tick {g : Gt} {n : Nat} (h : Rest g n) (hf : g.fl = []) {x : Lif} (hL : g.L = [x]) (hx : x.state = 1) (ho : g.out = []) :
  (g.step evTick).out = [] ∧ (g.step evTick).fl = [] ∧ (g.step evTick).L = [{ x with state := 2,since := g.now + 1 }] ∧ (g.step evTick).now = g.now + 1 ∧ (g.step evTick).hl = (wokenH [x.backend] g.hl).map fun h => (backH h (g.now + 1)).1 := by
 have e2 : g.step evTick = g.tick := by
  unfold Gt.step evTick
  rw [if_neg (by simp),if_neg (by simp),if_pos rfl]
 have ht := h.mid.tm_nil hf
 have hoff : offM g = [] := by unfold offM;rw [ht];rfl
 have hL0 : g.tick0.L = [{ x with state := 2,since := g.now + 1 }] := by show wakeM g.L _ = _;rw [hL];simp [wakeM,wakeX,hx]
 have e3 : g.tick = g.tick0 := by
  unfold Gt.tick
  rw [hoff]
  show (g.tick0).cuts g.tick0.L = _
  rw [hL0]
  unfold Gt.cuts
  rw [if_pos (.inl (by simp))];rfl
 rw [e2,e3]
 refine ⟨ho,hf,hL0,rfl,?_⟩
 show (wokenH (wokenM g.L) g.hl).map _ = _
 rw [hL]
 simp [wokenM,hx]
theorem first_open {g : Gt} {n : Nat} (h : Rest g n) (hf : g.fl = []) {x : Lif} (hL : g.L = [x]) (hx : x.state = 2) (hh : isOut g.hl x.backend = false) (hg : (g.tb.getD 0 tzero).gen = 0) (ho : g.out = []) (key : Int) (hn : n + 1 ≤ 1000000) :
  (g.step (evOpen key)).out = [⟨1,0,0,x.backend,0,0,0⟩] ∧ (∃ f,(g.step (evOpen key)).fl = [f] ∧ f.slot = 0 ∧ f.gen = 0 ∧ f.backend = x.backend ∧ f.serving = false) ∧ (g.step (evOpen key)).L = [x] := by
 have hm := h.mid
 have hfr := hm.free0 hf
 obtain ⟨l1,l2,l3⟩ := hm.loads (but := -1) (.inl (by omega))
 have hxm : x ∈ g.L := by rw [hL];simp
 have hld := hm.load (but := -1) (.inl (by omega)) hxm
 have hlo : loadsM g (-1) = [loadOf g (-1) x] := by unfold loadsM;rw [hL];simp [hx]
 have hcnt : cntB g.tb x.backend = 0 := by rw [hm.fs.cnt,hf];rfl
 have hfl0 : (loadOf g (-1) x).flows = 0 := by
  show (cntB g.tb x.backend : Int) - _ = 0
  rw [hcnt];simp
 have hp : (pickG g key (-1)).2 = 0 ∧ (pickG g key (-1)).1 = x.backend := by
  have hw := hld.2.2.2.2.1 hh
  have := pickI_at (walkK g.ws key) (loadsM g (-1)) g.c.num g.c.den ((g.fl.length : Int) - if (0 : Int) ≤ -1 then 1 else 0) g.c.tries hm.c.f l3 (by rw [hf];simp) (by rw [hlo,hf];simp [sumF,hfl0]) (by rw [hlo];simp [sumW];omega)
  obtain ⟨k,hk,_,_,_,e⟩ := this
  unfold pickG
  rw [e]
  refine ⟨rfl,?_⟩
  have hall : ∀ y ∈ loadsM g (-1),y = loadOf g (-1) x := fun y hy => by rw [hlo] at hy;simpa using hy
  rw [hall _ (List.getElem_mem hk)];rfl
 have e2 : g.step (evOpen key) = g.taken 0 key x.backend := by
  unfold Gt.step evOpen
  rw [if_pos rfl]
  unfold Gt.opened
  rw [hfr,if_neg (by omega),if_neg (by rw [hp.1];simp),hp.2]
  rfl
 rw [e2]
 unfold Gt.taken
 simp only [hg,ho,hf]
 exact ⟨by simp,⟨⟨0,0,key,x.backend,false,0,g.now + g.c.c7⟩,by simp [insF],rfl,rfl,rfl,rfl⟩,hL⟩
theorem first_answer {g : Gt} {n : Nat} (h : Rest g n) {f : Flw} (hf : g.fl = [f]) (s0 : f.slot = 0) (g0 : f.gen = 0) (hs : f.serving = false) (ho : g.out = []) :
  (g.step (evAns 0 0 true)).out = [⟨4,0,0,f.backend,0,0,0⟩] ∧ (∃ f',(g.step (evAns 0 0 true)).fl = [f'] ∧ f'.slot = 0 ∧ f'.gen = 0 ∧ f'.backend = f.backend) ∧ (g.step (evAns 0 0 true)).L = g.L := by
 have hfm : f ∈ g.fl := by rw [hf];simp
 have hget := h.mid.fs.get hfm
 rw [s0,g0] at hget
 have hi : findF g.fl 0 = 0 := by rw [hf];simp [findF,idxZ,s0]
 have e2 : g.step (evAns 0 0 true) = g.flow (evAns 0 0 true) := by unfold Gt.step evAns;rw [if_neg (by simp),if_neg (by simp),if_neg (by simp)]
 rw [e2]
 unfold Gt.flow
 simp only [evAns]
 rw [hget,if_neg (by simp)]
 simp only [hi]
 rw [if_neg (by simp),if_neg (by simp)]
 have hgd : g.fl.getD (0 : Int).toNat default = f := by rw [hf];rfl
 rw [hgd,if_neg (by rw [hs];simp),if_pos trivial]
 refine ⟨?_,⟨{ f with serving := true,due := g.now + g.c.c6 },?_,s0,g0,rfl⟩,rfl⟩
 ·show g.out ++ [_] = _;rw [ho];rfl
 ·have := (served_due g 0 (by rw [hf];simp) f.backend (g.now + g.c.c6) false).1
  show (((g.served (0 : Int).toNat).note f.backend false).dueA (0 : Int).toNat (g.now + g.c.c6)).fl = _
  rw [show (0 : Int).toNat = 0 from rfl,this,hf];rfl
theorem first_close {g : Gt} {n : Nat} (h : Rest g n) {f : Flw} (hf : g.fl = [f]) (s0 : f.slot = 0) (g0 : f.gen = 0) (hb : stateM g.L f.backend = 2) (ho : g.out = []) :
  (g.step (evClose 0 0)).out = [⟨7,0,0,f.backend,0,0,0⟩] := by
 have hfm : f ∈ g.fl := by rw [hf];simp
 have hget := h.mid.fs.get hfm
 rw [s0,g0] at hget
 have hi : findF g.fl 0 = 0 := by rw [hf];simp [findF,idxZ,s0]
 have e2 : g.step (evClose 0 0) = g.flow (evClose 0 0) := by unfold Gt.step evClose;rw [if_neg (by simp),if_neg (by simp),if_neg (by simp)]
 rw [e2]
 unfold Gt.flow
 simp only [evClose]
 rw [hget,if_neg (by simp)]
 simp only [hi]
 rw [if_pos trivial]
 have hgd : g.fl.getD (0 : Int).toNat default = f := by rw [hf];rfl
 unfold Gt.drop Gt.spared
 rw [hgd,if_neg (by rintro ⟨h1,_⟩;have h1 : stateM g.L f.backend = 3 := h1;omega)]
 unfold Gt.dropA
 rw [hgd]
 simp [ho,s0,g0]
theorem Rest.tm_len {g : Gt} {n : Nat} (h : Rest g n) : g.tm.length = g.fl.length := by
 have hw := h.mid.wh
 have n1 := hw.ids
 have n2 : (g.fl.map (·.slot)).Nodup := by
  unfold List.Nodup
  rw [List.pairwise_map]
  exact List.Pairwise.imp (fun {x y} hxy e => by omega) h.mid.fs.so
 have s1 : (g.tm.map (·.2)) ⊆ g.fl.map (·.slot) := fun z hz => by
  obtain ⟨t,ht,rfl⟩ := List.mem_map.1 hz
  obtain ⟨f,hf,_,rfl⟩ := (h.mid.tt t).1 ht
  exact List.mem_map.2 ⟨f,hf,rfl⟩
 have s2 : g.fl.map (·.slot) ⊆ g.tm.map (·.2) := fun z hz => by
  obtain ⟨f,hf,rfl⟩ := List.mem_map.1 hz
  exact List.mem_map.2 ⟨(f.due,f.slot),(h.mid.tt _).2 ⟨f,hf,h.late f hf,rfl⟩,rfl⟩
 have l1 := List.Nodup.length_le_of_subset n1 s1
 have l2 := List.Nodup.length_le_of_subset n2 s2
 rw [List.length_map,List.length_map] at l1 l2
 omega
def lenT (v : Int) (tm : List (Int × Int)) (i : Nat) : Int := ((((byP tm (plN v)).take i).map List.length).sum : Nat)
theorem lenT_succ (v : Int) (tm : List (Int × Int)) (i : Nat) (h : i < 25) : lenT v tm (i + 1) = lenT v tm i + ((tm.filter fun t => decide (plN v t = i)).length : Nat) := by
 unfold lenT
 have hl : i < (byP tm (plN v)).length := by rw [byP_len];exact h
 rw [List.take_succ_eq_append_getElem hl,List.map_append,List.sum_append]
 have := byP_get tm (plN v) i h
 rw [getD_at _ hl] at this
 rw [this]
 simp
theorem lenT_all (v : Int) (tm : List (Int × Int)) : lenT v tm 25 = tm.length := by
 unfold lenT
 rw [List.take_of_length_le (by rw [byP_len];omega),← List.length_flatten,(byP_flat v tm).length_eq]
theorem lenT_bd (v : Int) (tm : List (Int × Int)) (i : Nat) (h : i ≤ 25) : 0 ≤ lenT v tm i ∧ lenT v tm i ≤ tm.length := by
 refine ⟨by unfold lenT;omega,?_⟩
 rw [← lenT_all v tm]
 have : ∀ k,i + k ≤ 25 → lenT v tm i ≤ lenT v tm (i + k) := fun k => by
  induction k with
  | zero => intro _;exact Int.le_refl _
  | succ k ih =>
   intro hk
   have h1 := ih (by omega)
   have h2 := lenT_succ v tm (i + k) (by omega)
   have e : i + (k + 1) = i + k + 1 := by omega
   rw [e,h2];omega
 have := this (25 - i) (by omega)
 rwa [show i + (25 - i) = 25 by omega] at this
def usedT (tb : List TSlot) (i : Nat) : Int := ((tb.take i).countP (·.used) : Nat)
theorem usedT_succ (tb : List TSlot) (i : Nat) (h : i < tb.length) : usedT tb (i + 1) = usedT tb i + if tb[i].used = true then 1 else 0 := by
 unfold usedT
 rw [List.take_succ_eq_append_getElem h,List.countP_append]
 cases hu : tb[i].used <;> simp [hu]
theorem usedT_all {tb : List TSlot} {fl : List Flw} (h : FlT tb fl) : usedT tb tb.length = fl.length := by
 unfold usedT;rw [List.take_length,h.used]
theorem life_take (L : List Lif) (hs : SrtL L) (i : Nat) (h : i < L.length) (b : Int) : lifeM (L.take (i + 1)) b = if b = L[i].backend then L[i] else lifeM (L.take i) b := by
 have hs' : SrtL (L.take (i + 1)) := hs.sublist (List.take_sublist _ _)
 have hmem : ∀ x,x ∈ L.take (i + 1) ↔ x = L[i] ∨ x ∈ L.take i := fun x => by
  rw [List.take_succ_eq_append_getElem h,List.mem_append,List.mem_singleton]
  exact Or.comm
 have hlt : ∀ x ∈ L.take i,x.backend < L[i].backend := fun x hx => by
  obtain ⟨j,hj⟩ := List.getElem?_of_mem hx
  rw [List.getElem?_take] at hj
  split at hj
  ·obtain ⟨h1,rfl⟩ := List.getElem?_eq_some_iff.1 hj
   exact List.pairwise_iff_getElem.1 hs j i h1 h (by assumption)
  ·cases hj
 refine life_upd (hs.sublist (List.take_sublist i L)) hs' (x0 := L[i]) (fun x => ?_) b
 rw [hmem]
 constructor
 ·rintro (h1 | h1)
  ·exact .inl h1
  ·exact .inr ⟨h1,by have := hlt x h1;omega⟩
 ·rintro (h1 | ⟨h1,_⟩)
  ·exact .inl h1
  ·exact .inr h1
theorem wsOf_nil : wsOf [] = List.replicate 12 0 := by decide
theorem wsOf_take {L : List Lif} (hs : SrtL L) (hb : ∀ x ∈ L,LifOk x) (i : Nat) (h : i < L.length) :
  wsOf (L.take (i + 1)) = (if L[i].state = 2 then (wsOf (L.take i)).set L[i].backend.toNat L[i].weight.toNat else wsOf (L.take i)) ∧ (wsOf (L.take i)).getD L[i].backend.toNat 0 = 0 := by
 have ho := hb _ (List.getElem_mem h)
 have hb0 := ho.b0
 have hb1 := ho.b1
 have hlt : ∀ x ∈ L.take i,x.backend ≠ L[i].backend := fun x hx => by
  obtain ⟨j,hj⟩ := List.getElem?_of_mem hx
  rw [List.getElem?_take] at hj
  split at hj
  ·obtain ⟨h1,rfl⟩ := List.getElem?_eq_some_iff.1 hj
   have := List.pairwise_iff_getElem.1 hs j i h1 h (by assumption)
   omega
  ·cases hj
 have hz : actW (lifeM (L.take i) L[i].backend) = 0 := by
  rcases life_cases (L.take i) L[i].backend with ⟨y,hy,e,_⟩ | ⟨_,e⟩
  ·exact absurd e (hlt y hy)
  ·rw [e];rfl
 have hbn : ((L[i].backend.toNat : Nat) : Int) = L[i].backend := by omega
 refine ⟨?_,?_⟩
 ·have hl := life_take L hs i h
  split
  ·rename_i h2
   refine wsOf_set L[i].backend.toNat (fun b hb hne => ?_) _ fun _ => ?_
   ·rw [hl,if_neg (by omega)]
   ·rw [hl,if_pos hbn];simp [actW,h2]
  ·rename_i h2
   refine wsOf_congr fun b hb => ?_
   rw [hl]
   split
   ·rename_i e
    rw [e,hz];simp [actW,h2]
   ·rfl
 ·rw [wsOf_get _ _ (by omega),hbn];exact hz
theorem woken_take {g : Gt} {n : Nat} {ex : Int} (h : Mid g n ex) (i : Nat) (hi : i < (wokenM g.L).length) :
  wokenW (wakeM g.L (g.now + 1)) ((wokenM g.L).take (i + 1)) g.ws = (wokenW (wakeM g.L (g.now + 1)) ((wokenM g.L).take i) g.ws).set (wokenM g.L)[i].toNat (lifeM (wakeM g.L (g.now + 1)) (wokenM g.L)[i]).weight.toNat ∧
  0 ≤ (wokenM g.L)[i] ∧ (wokenM g.L)[i] < 12 ∧ 1 ≤ (lifeM (wakeM g.L (g.now + 1)) (wokenM g.L)[i]).weight ∧ (lifeM (wakeM g.L (g.now + 1)) (wokenM g.L)[i]).weight ≤ 8 ∧
  (wokenW (wakeM g.L (g.now + 1)) ((wokenM g.L).take i) g.ws).getD (wokenM g.L)[i].toNat 0 = 0 := by
 have happ : ∀ (L : List Lif) (a : List Int) (x : Int) (ws : List Nat),wokenW L (a ++ [x]) ws = (wokenW L a ws).set x.toNat (lifeM L x).weight.toNat := by
  intro L a
  induction a with
  | nil => intro x ws;rfl
  | cons y a ih => intro x ws;exact ih x _
 have hst : stateM g.L (wokenM g.L)[i] = 1 := (woken_mem h.bk.sorted _).1 (List.getElem_mem hi)
 obtain ⟨hm,hbk⟩ := state_mem (L := g.L) (b := (wokenM g.L)[i]) (by omega)
 have ho := h.bk.lok _ hm
 have hb0 := ho.b0
 have hb1 := ho.b1
 rw [hbk] at hb0 hb1
 have hlw : (lifeM (wakeM g.L (g.now + 1)) (wokenM g.L)[i]).weight = (lifeM g.L (wokenM g.L)[i]).weight := by
  rw [wake_life];unfold wakeX;split <;> rfl
 refine ⟨?_,hb0,hb1,by rw [hlw];exact ho.w0,by rw [hlw];exact ho.w1,?_⟩
 ·rw [List.take_succ_eq_append_getElem hi,happ]
 ·have hwl : ∀ x ∈ (wokenM g.L).take i,0 ≤ x ∧ x < g.ws.length := fun x hx => by
   have h1 := (woken_mem h.bk.sorted x).1 (List.mem_of_mem_take hx)
   obtain ⟨m1,m2⟩ := state_mem (L := g.L) (b := x) (by omega)
   have m3 := h.bk.lok _ m1
   have := m3.b0
   have := m3.b1
   rw [m2] at *
   rw [h.ws];simp [wsOf];omega
  have hnd : (wokenM g.L).Nodup := by
   unfold wokenM List.Nodup
   rw [List.pairwise_map]
   exact List.Pairwise.imp (fun {x y} hxy e => by omega) (List.Pairwise.filter _ h.bk.sorted)
  have hbn : (((wokenM g.L)[i].toNat : Nat) : Int) = (wokenM g.L)[i] := by omega
  have := wokenW_get (wakeM g.L (g.now + 1)) (wokenM g.L)[i].toNat ((wokenM g.L).take i) g.ws hwl
  rw [this,hbn,if_neg,h.ws,wsOf_get _ _ (by omega),hbn]
  ·unfold stateM at hst
   simp [actW,hst]
  ·intro hmem
   obtain ⟨j,hj⟩ := List.getElem?_of_mem hmem
   rw [List.getElem?_take] at hj
   split at hj
   ·obtain ⟨h1,h2⟩ := List.getElem?_eq_some_iff.1 hj
    have := (List.getElem_inj hnd).1 h2
    omega
   ·cases hj
def Gt.cells (g : Gt) (fl hl : D) : List D :=
  [I g.c.slots, I g.c.num, I g.c.den, I g.c.tries, I g.c.c4, I g.c.c5, I g.c.c6, I g.c.c7, I g.c.c8, I g.c.c9, I g.c.bud.num, I g.c.bud.den, I g.c.bud.burst, I g.c.wat.window, I g.c.wat.fails, I g.c.wat.hold,
   I g.now, .rows 4 (g.tb.map TSlot.D), fl, .rows 6 (g.L.map Lif.D), .rows 5 (g.R.map Rqs.D), .rows 2 ((ringM g.ws).map spE), hl, I g.tok, I g.wn, .rows 1 (lrT g.wn g.tm)]
def Gt.W (g : Gt) : List D := g.cells (.rows 7 (g.fl.map Flw.D)) (.rows 4 (g.hl.map Hlth.D))
def Gt.P (g : Gt) : List D := g.W ++ [.rows 7 (g.out.map Outp.D)]
def Gt.H (g : Gt) (o : Nat) : List (Nat × Ob) :=
 [(o,.row 7 (g.out.map Outp.D)),(2,.row 4 (g.hl.map Hlth.D)),(1,.row 7 (g.fl.map Flw.D)),(0,.cells (g.cells (.own 1) (.own 2) ++ [.own o]))]
def Gt.H5 (g : Gt) : List (Nat × Ob) :=
 [(5,.row 7 (g.out.map Outp.D)),(4,.row 7 (g.fl.map Flw.D)),(2,.row 4 (g.hl.map Hlth.D)),(0,.cells (g.cells (.own 4) (.own 2) ++ [.own 5]))]
def MK (P : Program) (f : FuncId) (ds : List D) (g g' : Gt) : Prop :=
 HF P f (.ptr 0 0 :: ds) (g.H 3) 4 (fun e H' nx' => e = .tup [] ∧ H' = g'.H 3 ∧ nx' = 4)
def MO (P : Program) (f : FuncId) (ds : List D) (g g' : Gt) : Prop :=
 HF P f (.ptr 0 0 :: ds) (g.H 3) 4 (fun e H' nx' => e = .tup [] ∧ H' = g'.H 4 ∧ nx' = 5)
def MF (P : Program) (f : FuncId) (ds : List D) (g g' : Gt) : Prop :=
 HF P f (.ptr 0 0 :: ds) (g.H 3) 4 (fun e H' nx' => e = .tup [] ∧ H' = g'.H5 ∧ nx' = 6)
section
variable {P : Program} {f : FuncId} {ds : List D} {g g' : Gt}
theorem MK.of (h : HF P f (.ptr 0 0 :: ds) (g.H 3) 4 (fun e H' _ => e = .tup [] ∧ ∀ p ∈ g'.H 3,hget H' p.1 = some p.2)) : MK P f ds g g' :=
 HF.tidy (by omega) (by simp) (by simp [LtS,LtR]) (by simp [Gt.H,Gt.cells,LtO,LtC]) h
theorem MO.of (h : HF P f (.ptr 0 0 :: ds) (g.H 3) 4 (fun e H' _ => e = .tup [] ∧ ∃ o,hget H' o = some (.row 7 (g'.out.map Outp.D)) ∧ hget H' 2 = some (.row 4 (g'.hl.map Hlth.D)) ∧ hget H' 1 = some (.row 7 (g'.fl.map Flw.D)) ∧
  hget H' 0 = some (.cells (g'.cells (.own 1) (.own 2) ++ [.own o])) ∧ o ≠ 0 ∧ o ≠ 1 ∧ o ≠ 2)) : MO P f ds g g' := by
 refine HF.gh h fun B hB d H' nx' hR => ?_
 obtain ⟨rfl,o,h1,h2,h3,h4,h5,h6,h7⟩ := hR
 refine ⟨.tup [],g'.H 4,5,?_,(by simp),rfl,rfl,rfl⟩
 exact Gh.ren [0,1,2,3,o] (by show B.n0 ≤ 5;omega) (fun id hid => by
  have : id = 0 ∨ id = 1 ∨ id = 2 ∨ id = 3 := by omega
  rcases this with rfl | rfl | rfl | rfl <;> rfl) (by simp [eget,rnS,rnR,LtS,LtR]) (by simp [Gt.H,Gt.cells,rnO,rnC,LtO,LtC,lget] at h4 ⊢;simp [h1,h2,h3,h4]) (.inl (by simp [Gt.H,lget,h5,h6,h7]))
theorem MF.of (h : HF P f (.ptr 0 0 :: ds) (g.H 3) 4 (fun e H' _ => e = .tup [] ∧ ∃ o k,hget H' o = some (.row 7 (g'.out.map Outp.D)) ∧ hget H' 2 = some (.row 4 (g'.hl.map Hlth.D)) ∧ hget H' k = some (.row 7 (g'.fl.map Flw.D)) ∧
  hget H' 0 = some (.cells (g'.cells (.own k) (.own 2) ++ [.own o])) ∧ o ≠ 0 ∧ o ≠ 2 ∧ k ≠ 0 ∧ k ≠ 2 ∧ o ≠ k)) : MF P f ds g g' := by
 refine HF.gh h fun B hB d H' nx' hR => ?_
 obtain ⟨rfl,o,k,h1,h2,h3,h4,h5,h6,h7,h8,h9⟩ := hR
 refine ⟨.tup [],g'.H5,6,?_,(by simp),rfl,rfl,rfl⟩
 exact Gh.ren [0,1,2,3,k,o] (by show B.n0 ≤ 6;omega) (fun id hid => by
  have : id = 0 ∨ id = 1 ∨ id = 2 ∨ id = 3 := by omega
  rcases this with rfl | rfl | rfl | rfl <;> rfl) (by simp [eget,rnS,rnR,LtS,LtR]) (by simp [Gt.H5,Gt.cells,rnO,rnC,LtO,LtC,lget] at h4 ⊢;simp [h1,h2,h3,h4]) (.inl (by simp [Gt.H5,lget,h5,h6,h7,h8,h9]))
end
end Go.Proofs.YtibemmkfcjlmpaaGreat
namespace Go.Proofs.YtibemmkfcjlmpaaGreat
open Go.RowKit
attribute [local simp] AK_at acode_seq acode_region acode_draw acode_cond CB_u acode_block acode_loop acode_exit acode_scope acode_ret acode_skip seqQ_n seqQ_e seqQ_r blockQ_n blockQ_e blockQ_r TK_at OK_at SK_at aops_nil aops_cons asch_done asch_one asch_two asch_top astep aop_eq isLoud aloud aloud1 isWrite qv evS strip gof eget hget putO eput herase oks opnds gS afin afin0 binD arith D.cells takeD fillD keep trim envOf Fin aresl aresv resD argOk pickV isP deq deqs boundD slD lenD isT isSl ptrIds chunks mn_min mx_max splice_one splice_more Rbr_at Rfr_at frR frV frC flatC brwR brwV brwC omap leR leV leC leL leVL rnR rnV rnC rnO rho_0 hputs herases rnS LtS LtR LtV LtC LtO lget noV noC flatR flatV rho
attribute [local simp ↓] CB_t CB_f
theorem els_lif (l : List Lif) : Els 6 Lif.D l := fun x _ => ⟨rfl,by simp [Lif.D]⟩
theorem els_rqs (l : List Rqs) : Els 5 Rqs.D l := fun x _ => ⟨rfl,by simp [Rqs.D]⟩
theorem lone_code : cfun Tryz.prog [] 103 = some ⟨(.seq (.region 0 [oB 1 0,oX 2 (.mov (.k (.bool false)))]) (.seq (.seq (.region 1 [oF 3 0 1,oL 4 1 3,oX 5 (.bin .lss (.t 4) (kI 0)),oM 6 5,oG 7 (.fad 0 (.t 1)) 6 false,oG 8 (.load false 1 (.t 7)) 6 false,oG 9 (.bin .geq (.t 8) (kI 12)) 6 false,oX 10 (.pick (.t 6) (.k (.bool true)) (.t 9)),oM 11 10,oG 12 (.fad 2 (.t 1)) 11 false,oG 13 (.load false 1 (.t 12)) 11 false,oG 14 (.bin .lss (.t 13) (kI 1)) 11 false,oX 15 (.pick (.t 11) (.k (.bool true)) (.t 14)),oM 16 15,oG 17 (.fad 2 (.t 1)) 16 false,oG 18 (.load false 1 (.t 17)) 16 false,oG 19 (.bin .gtr (.t 18) (kI 8)) 16 false,oX 20 (.pick (.t 16) (.k (.bool true)) (.t 19))]) (.cond 20 (.seq (.region 2 [oX 2 (.mov (.k (.bool false)))]) .ret) .skip)) (.seq (.seq (.region 3 [oF 21 3 1,oL 22 1 21,oX 23 (.bin .lss (.t 22) (kI 0)),oM 24 23,oG 25 (.fad 3 (.t 1)) 24 false,oG 26 (.load false 1 (.t 25)) 24 false,oG 27 (.bin .gtr (.t 26) (kI 1099511627776)) 24 false,oX 28 (.pick (.t 24) (.k (.bool true)) (.t 27)),oM 29 28,oG 30 (.fad 4 (.t 1)) 29 false,oG 31 (.load false 1 (.t 30)) 29 false,oG 32 (.bin .lss (.t 31) (kI 0)) 29 false,oX 33 (.pick (.t 29) (.k (.bool true)) (.t 32)),oM 34 33,oG 35 (.fad 4 (.t 1)) 34 false,oG 36 (.load false 1 (.t 35)) 34 false,oG 37 (.bin .gtr (.t 36) (kI 1099511628276)) 34 false,oX 38 (.pick (.t 34) (.k (.bool true)) (.t 37)),oM 39 38,oG 40 (.fad 5 (.t 1)) 39 false,oG 41 (.load false 1 (.t 40)) 39 false,oG 42 (.bin .lss (.t 41) (kI 0)) 39 false,oX 43 (.pick (.t 39) (.k (.bool true)) (.t 42)),oM 44 43,oG 45 (.fad 5 (.t 1)) 44 false,oG 46 (.load false 1 (.t 45)) 44 false,oG 47 (.bin .gtr (.t 46) (kI 1048576)) 44 false,oX 48 (.pick (.t 44) (.k (.bool true)) (.t 47))]) (.cond 48 (.seq (.region 4 [oX 2 (.mov (.k (.bool false)))]) .ret) .skip)) (.seq (.seq (.region 5 [oF 49 1 1,oL 50 1 49]) (.block 0 (.seq (.region 6 [oX 52 (.bin .eql (.t 50) (kI 1)),oM 51 52]) (.cond 51 (.seq (.region 7 [oF 53 3 1,oL 54 1 53,oX 55 (.bin .eql (.t 54) (kI 0)),oM 56 55,oG 57 (.fad 4 (.t 1)) 56 true,oG 58 (.load false 1 (.t 57)) 56 true,oG 59 (.bin .eql (.t 58) (kI 0)) 56 true,oX 60 (.pick (.t 56) (.t 59) (.k (.bool false))),oM 61 60,oG 62 (.fad 5 (.t 1)) 61 true,oG 63 (.load false 1 (.t 62)) 61 true,oG 64 (.bin .eql (.t 63) (kI 0)) 61 true,oX 65 (.pick (.t 61) (.t 64) (.k (.bool false))),oM 2 65]) .ret) (.seq (.region 8 [oX 67 (.bin .eql (.t 50) (kI 2)),oM 66 67]) (.cond 66 (.seq (.region 9 [oF 68 4 1,oL 69 1 68,oX 70 (.bin .eql (.t 69) (kI 0)),oM 71 70,oG 72 (.fad 5 (.t 1)) 71 true,oG 73 (.load false 1 (.t 72)) 71 true,oG 74 (.bin .eql (.t 73) (kI 0)) 71 true,oX 75 (.pick (.t 71) (.t 74) (.k (.bool false))),oM 2 75]) .ret) .skip)))))) (.seq (.region 10 [oF 76 1 1,oL 77 1 76,oX 78 (.bin .eql (.t 77) (kI 3)),oM 79 78,oG 80 (.fad 1 (.t 1)) 79 false,oG 81 (.load false 1 (.t 80)) 79 false,oG 82 (.bin .eql (.t 81) (kI 4)) 79 false,oX 83 (.pick (.t 79) (.k (.bool true)) (.t 82)),oM 2 83]) .ret))))),[(.t 2)],84⟩ := by kernel_rfl
theorem lone_pf (x : Lif) (h : LifOk x) : PF Tryz.prog 103 [.agg x.D] (.bool true) := by
 obtain ⟨b0,b1,w0,w1,s0,s1,u0,u1,r0,r1,st⟩ := h
 have c1 : ¬ x.backend < 0 := by omega
 have c2 : ¬ 12 ≤ x.backend := by omega
 have c3 : ¬ x.weight < 1 := by omega
 have c4 : ¬ 8 < x.weight := by omega
 have c5 : ¬ x.since < 0 := by omega
 have c6 : ¬ 1099511627776 < x.since := by omega
 have c7 : ¬ x.til < 0 := by omega
 have c8 : ¬ 1099511628276 < x.til := by omega
 have c9 : ¬ x.req < 0 := by omega
 have c10 : ¬ 1048576 < x.req := by omega
 refine PF.of follows_ok lone_code (by simp) (by simp) (by simp [Lif.D]) fun B hBN hB0 => acode_sound [0,1,2,20,48,50,51,66] [] _ _ _ ?_
 rcases st with ⟨h1,h2,h3,h4⟩ | ⟨h1,h2,h3⟩ | h1 | h1
 ·simp [Lif.D,c1,c2,c3,c4,c5,c6,c7,c8,c9,c10,h1,h2,h3,h4]
 ·simp [Lif.D,c1,c2,c3,c4,c5,c6,c7,c8,c9,c10,h1,h2,h3]
 ·simp [Lif.D,c1,c2,c3,c4,c5,c6,c7,c8,c9,c10,h1]
 ·simp [Lif.D,c1,c2,c3,c4,c5,c6,c7,c8,c9,c10,h1]
theorem lreq_code : cfun Tryz.prog [] 104 = some ⟨(.seq (.region 0 [oB 1 0,oX 2 (.mov (.k (.bool false)))]) (.seq (.region 1 [oF 3 0 1,oL 4 1 3,oX 5 (.bin .geq (.t 4) (kI 0)),oM 6 5,oG 7 (.fad 0 (.t 1)) 6 true,oG 8 (.load false 1 (.t 7)) 6 true,oG 9 (.bin .leq (.t 8) (kI 1048576)) 6 true,oX 10 (.pick (.t 6) (.t 9) (.k (.bool false))),oM 11 10,oG 12 (.fad 1 (.t 1)) 11 true,oG 13 (.load false 1 (.t 12)) 11 true,oG 14 (.bin .eql (.t 13) (kI 1)) 11 true,oG 15 (.mov (.t 14)) 11 true,oG 16 (.fad 1 (.t 1)) 15 false,oG 17 (.load false 1 (.t 16)) 15 false,oG 18 (.bin .eql (.t 17) (kI 2)) 15 false,oG 19 (.pick (.t 15) (.k (.bool true)) (.t 18)) 11 true,oX 20 (.pick (.t 11) (.t 19) (.k (.bool false))),oM 2 20]) .ret)),[(.t 2)],21⟩ := by kernel_rfl
theorem lreq_pf (x : Rqs) (h : RqsOk x) : PF Tryz.prog 104 [.agg x.D] (.bool true) := by
 obtain ⟨i0,i1,k⟩ := h
 refine PF.of follows_ok lreq_code (by simp) (by simp) (by simp [Rqs.D]) fun B hBN hB0 => acode_sound [0,1,2] [] _ _ _ ?_
 rcases k with k | k
 ·simp [Rqs.D,i0,i1,k]
 ·simp [Rqs.D,i0,i1,k]
def bookD (L : List Lif) (R : List Rqs) : D := .agg [.rows 6 (L.map Lif.D),.rows 5 (R.map Rqs.D)]
def prevB (L : List Lif) : Nat → Int
 | 0 => -1
 | i + 1 => (L.getD i default).backend
theorem lchk_code : cfun Tryz.prog [] 65 = some ⟨(.seq (.region 0 [oB 1 0,oK 2 0]) (.seq (.seq (.region 1 [oF 9 0 1,oL 10 1 9,oH 11 10,oX 12 (.bin .gtr (.t 11) (kI 12)),oM 13 12,oG 14 (.fad 1 (.t 1)) 13 false,oG 15 (.load false 1 (.t 14)) 13 false,oG 16 (.len (.t 15)) 13 false,oG 17 (.bin .gtr (.t 16) (kI 100)) 13 false,oX 18 (.pick (.t 13) (.k (.bool true)) (.t 17))]) (.cond 18 (.seq (.region 2 [oK 2 6]) .ret) .skip)) (.seq (.region 3 [oK 3 (-1)]) (.seq (.seq (.region 4 [oF 19 0 1,oL 20 1 19,oH 21 20,oK 22 0]) (.block 0 (.loop (.seq (.region 5 [oX 23 (.bin .lss (.t 22) (.t 21))]) (.seq (.cond 23 .skip (.exit 0)) (.seq (.block 1 (.seq (.region 6 [oI 24 6 20 22,oA 25 6 24,oX 5 (.alloc [(.int .i64 0),(.int .i64 0),(.int .i64 0),(.int .i64 0),(.int .i64 0),(.int .i64 0)]),oS 6 5 25]) (.seq (.seq (.region 7 [oA 26 6 5,oX 27 (.call 103 [(.t 26)]),oX 28 (.not (.t 27)),oM 29 28,oG 30 (.fad 0 (.t 5)) 29 false,oG 31 (.load false 1 (.t 30)) 29 false,oG 32 (.mov (.t 3)) 29 false,oG 33 (.bin .leq (.t 31) (.t 32)) 29 false,oX 34 (.pick (.t 29) (.k (.bool true)) (.t 33))]) (.cond 34 (.seq (.region 8 [oK 2 6]) .ret) .skip)) (.region 9 [oF 35 0 5,oL 36 1 35,oM 3 36])))) (.region 10 [oX 37 (.bin .add (.t 22) (kI 1)),oM 22 37]))))))) (.seq (.region 11 [oX 38 (.xop 0 [0] []),oM 6 38]) (.seq (.seq (.region 12 [oF 39 1 1,oL 40 1 39,oH 41 40,oK 42 0]) (.block 2 (.loop (.seq (.region 13 [oX 43 (.bin .lss (.t 42) (.t 41))]) (.seq (.cond 43 .skip (.exit 2)) (.seq (.block 3 (.seq (.region 14 [oI 44 5 40 42,oA 45 5 44,oX 8 (.alloc [(.int .i64 0),(.int .i64 0),(.int .i64 0),(.int .i64 0),(.int .i64 0)]),oS 5 8 45]) (.seq (.seq (.region 15 [oA 46 5 8,oX 47 (.call 104 [(.t 46)]),oX 48 (.not (.t 47))]) (.cond 48 (.seq (.region 16 [oK 2 6]) .ret) .skip)) (.region 17 [oM 49 6,oF 50 0 8,oL 51 1 50,oX 52 (.build [] []),oY (.xop 1 [0] [(.t 49),(.t 51),(.t 52)])])))) (.region 18 [oX 53 (.bin .add (.t 42) (kI 1)),oM 42 53]))))))) (.seq (.seq (.region 19 [oM 54 6,oX 55 (.xop 3 [0] [(.t 54)]),oF 56 1 1,oL 57 1 56,oH 58 57,oX 59 (.bin .lss (.t 55) (.t 58))]) (.cond 59 (.seq (.region 20 [oK 2 6]) .ret) .skip)) (.seq (.region 21 [oK 2 0]) .ret)))))))),[(.t 2)],60⟩ := by kernel_rfl
theorem lchk_pf (L : List Lif) (R : List Rqs) (h : BookOk L R) : PF Tryz.prog 65 [bookD L R] (I 0) := by
 obtain ⟨ll,lr,lok,rok,hs,hid⟩ := h
 have c1 : ¬ (12 : Int) < L.length := by omega
 have c2 : ¬ (100 : Int) < R.length := by omega
 unfold bookD
 refine PF.of follows_ok lchk_code (by simp) (by simp) (by simp) fun B hBN hB0 => acode_sound [0,1,2,3,5,6,8,18,20,21,22,23,34,40,41,42,43,48,59] [] _ _ _ ?_
 simp [c1,c2]
 refine W.loopS (fun i : Nat => ⟨[(22,I i),(21,I L.length),(20,D.rows 6 (L.map Lif.D)),(3,I (prevB L i)),(2,I 0),(1,.ptr 0 0)],[(0,.cells [.rows 6 (L.map Lif.D),.rows 5 (R.map Rqs.D)])],1⟩)
  (fun n i => n = L.length - i ∧ i ≤ L.length) ?_ ?_
 ·exact ⟨_,0,(gr0 [0] hB0 (by simp [prevB]) (by simp [prevB]) (.inl (by simp [prevB]))),rfl,by omega⟩
 ·rintro n i ⟨hn,hi⟩
  refine acode_sound [0,1,2,3,5,6,8,18,20,21,22,23,34,40,41,42,43,48,59] [] _ _ _ ?_
  by_cases hlt : i < L.length
  ·have hone := lone_pf _ (lok _ (List.getElem_mem hlt))
   have hgt : prevB L i < L[i].backend := by
    cases i with
    | zero =>
     have := (lok _ (List.getElem_mem hlt)).b0
     simp only [prevB];omega
    | succ k =>
     have hk : k < L.length := by omega
     have := List.pairwise_iff_getElem.1 hs k (k + 1) hk hlt (by omega)
     simp only [prevB,List.getD_eq_getElem?_getD,List.getElem?_eq_getElem hk,Option.getD_some]
     exact this
   have hnx : prevB L (i + 1) = L[i].backend := by
    simp only [prevB,List.getD_eq_getElem?_getD,List.getElem?_eq_getElem hlt];rfl
   generalize prevB L i = a at hgt
   obtain ⟨o,ho⟩ : ∃ o,o = L[i] := ⟨_,rfl⟩
   rw [← ho] at hone hgt hnx
   have hgt' : ¬ o.backend ≤ a := by omega
   have ii : InR ((i : Int) + 1) := inW (by omega) (by omega)
   repeat' (first
    | simp [Lif.D,hlt,← ho,hgt',ii]
    | refine ⟨wcS ?_,?_⟩
    | (refine WCall.pf (hone) ?_ ?_ ?_ ?_;iterate 3 (solve|simp [Lif.D,hlt,← ho,hgt',ii]))
    | with_reducible refine aI ?_ ?_ ?_)
   exact ⟨_,i + 1,(gr0 [0] hB0 (by simp [hnx]) (by simp [hnx]) (.inl (by simp [hnx]))),by omega,rfl,by omega⟩
  ·obtain rfl : i = L.length := by omega
   simp
   refine XCall.mk ?_
   simp
   refine W.loopS (fun i : Nat => ⟨[(42,I i),(41,I R.length),(40,D.rows 5 (R.map Rqs.D)),(6,.own 1),(2,I 0),(1,.ptr 0 0)],[(1,.mp true (idEs (R.take i) 0) i),(0,.cells [.rows 6 (L.map Lif.D),.rows 5 (R.map Rqs.D)])],2⟩)
    (fun n i => n = R.length - i ∧ i ≤ R.length) ?_ ?_
   ·exact ⟨_,0,(gr0 [0,1] hB0 (by simp [idEs]) (by simp [idEs]) (.inl (by simp [idEs]))),rfl,by omega⟩
   rintro n i ⟨hn,hi⟩
   refine acode_sound [0,1,2,3,5,6,8,18,20,21,22,23,34,40,41,42,43,48,59] [] _ _ _ ?_
   by_cases hlt : i < R.length
   ·have hreq := lreq_pf _ (rok _ (List.getElem_mem hlt))
    have hro := rok _ (List.getElem_mem hlt)
    have happ : idEs (R.take (i + 1)) 0 = idEs (R.take i) 0 ++ [([R[i].id],[],i)] := by
     rw [List.take_succ_eq_append_getElem hlt,idEs_app]
     simp;omega
    have hnew : ∀ e ∈ idEs (R.take i) 0,e.1 ≠ [R[i].id] := fun e he hk => by
     obtain ⟨r,hr,her⟩ := idEs_mem he
     rw [her] at hk
     simp only [List.cons.injEq,and_true] at hk
     obtain ⟨j,hj⟩ := List.getElem?_of_mem hr
     rw [List.getElem?_take] at hj
     split at hj
     ·rename_i hji
      obtain ⟨hj1,hj2⟩ := List.getElem?_eq_some_iff.1 hj
      have := (List.nodup_iff_pairwise_ne.1 hid)
      rw [List.pairwise_map] at this
      have := List.pairwise_iff_getElem.1 this j i hj1 hlt hji
      rw [hj2] at this
      exact this hk
     ·cases hj
    have hgk : ∀ e ∈ idEs (R.take i) 0,goodK 0 e.1 := fun e he => by
     obtain ⟨r,hr,her⟩ := idEs_mem he
     have := rok r (List.mem_of_mem_take hr)
     rw [her]
     exact ⟨rfl,by
      intro z hz
      rw [List.mem_singleton.1 hz]
      exact inW (by have := this.i0;omega) (by have := this.i1;omega)⟩
    have hnd : ((idEs (R.take i) 0).map (·.1)).Nodup := by
     rw [idEs_keys]
     have := (hid.sublist ((List.take_sublist i R).map (·.id)))
     rw [List.nodup_iff_pairwise_ne,List.pairwise_map] at this ⊢
     exact this.imp fun h e => h (by simpa using e)
    have hgi : goodK 0 [R[i].id] := ⟨rfl,by
     intro z hz
     rw [List.mem_singleton.1 hz]
     exact inW (by have := hro.i0;omega) (by have := hro.i1;omega)⟩
    obtain ⟨o,ho⟩ : ∃ o,o = R[i] := ⟨_,rfl⟩
    rw [← ho] at hreq happ hnew hgi
    have ii : InR ((i : Int) + 1) := inW (by omega) (by omega)
    generalize hES : idEs (R.take i) 0 = es at happ hnew hgk hnd
    repeat' (first
     | simp [Rqs.D,hlt,← ho]
     | refine ⟨wcS ?_,?_⟩
     | (refine WCall.pf (hreq) ?_ ?_ ?_ ?_;iterate 3 (solve|simp [Rqs.D,hlt,← ho]))
     | with_reducible refine aI ?_ ?_ ?_)
    refine XCall.upd key0 (id := 1) (es := es) (ck := i) (ks := [o.id]) (vs := []) (by simp) rfl (by simp) (by simp) (by simp [keyD]) (by simp) hgi hgk hnd ?_
    rw [mput_new hnew]
    simp [ii]
    exact ⟨_,i + 1,(gr0 [0,1] hB0 (by simp [happ]) (by simp [happ]) (.inl (by simp [happ]))),by omega,rfl,by omega⟩
   ·obtain rfl : i = R.length := by omega
    have hlen := idEs_len R 0
    simp
    refine XCall.len (id := 1) (bare := true) (es := idEs R 0) (ck := R.length) (by simp) (by simp) (by simp) ?_
    simp [hlen]
def bkH (L : List Lif) (R : List Rqs) : List (Nat × Ob) := [(2,.row 5 (R.map Rqs.D)),(1,.row 6 (L.map Lif.D)),(0,.cells [.own 1,.own 2])]
theorem lopen_code : cfun Tryz.prog [] 123 = some ⟨(.seq (.region 0 [oB 1 0,oX 2 (.mov (.k .nilp)),oK 3 0]) (.seq (.seq (.region 1 [oA 5 2 1,oX 6 (.call 65 [(.t 5)]),oM 4 6]) (.seq (.region 2 [oM 7 4,oX 8 (.bin .neq (.t 7) (kI 0))]) (.cond 8 (.seq (.region 3 [oM 9 4,oX 2 (.mov (.k .nilp)),oM 3 9]) .ret) .skip))) (.seq (.draw 4 (.one true (oF 10 0 1) (.one true (oL 11 1 10) (.one true (oF 13 1 1) (.one true (oL 14 1 13) (.one true (oX 12 (.call 75 [(.t 11)])) (.one true (oX 15 (.call 76 [(.t 14)])) (.one true (oX 16 (.build [.nil0,.nil0] [(0,(1,(.t 12))),(1,(1,(.t 15)))])) (.one true (oX 17 (.build [.nil0,.nil0] [(0,(2,(.t 16)))])) (.one true (oB 18 17) (.one true (oM 2 18) (.one true (oK 3 0) .done)))))))))))) .ret))),[(.t 2),(.t 3)],19⟩ := by kernel_rfl
theorem lopen_hf (L : List Lif) (R : List Rqs) (h : BookOk L R) : HF Tryz.prog 123 [bookD L R] [] 0 (fun d H' nx' => d = .tup [.ptr 0 0,I 0] ∧ H' = bkH L R ∧ nx' = 3) := by
 have hchk := lchk_pf L R h
 have hL := licln_hf Lif.D L (by have := h.ll;omega) (els_lif L)
 have hR := rqcln_hf Rqs.D R (by have := h.lr;omega) (els_rqs R)
 refine HF.gh (R := fun d H' nx' => ∃ k a b,d = .tup [.ptr k 0,I 0] ∧ hget H' k = some (.cells [a,b]) ∧ k < nx' ∧ ((a = .nil0 ∧ L = []) ∨ ∃ i,a = .own i ∧ i < nx' ∧ i ≠ k ∧ hget H' i = some (.row 6 (L.map Lif.D))) ∧ ((b = .nil0 ∧ R = []) ∨ ∃ j,b = .own j ∧ j < nx' ∧ j ≠ k ∧ a ≠ .own j ∧ hget H' j = some (.row 5 (R.map Rqs.D)))) ?_ ?_
 ·unfold bookD at hchk ⊢
  refine HF.of follows_ok lopen_code (by simp) (by simp) (by simp) fun B hBN hB0 => acode_sound [0,1,2,3,4,8] [] _ _ _ ?_
  repeat' (first
   | simp
   | refine ⟨wcS ?_,?_⟩
   | (refine WCall.pf (hchk) ?_ ?_ ?_ ?_;iterate 3 (solve|simp))
   | with_reducible refine aI ?_ ?_ ?_)
  refine WCall.hf0 hL (by simp) (by simp) (by simp) (by simp) ?_
  rintro d H' nx' (⟨rfl,h0,rfl,rfl⟩ | ⟨rfl,rfl,rfl⟩)
  all_goals
   simp
   refine WCall.hf0 hR (by simp) (by simp) (by simp) (by simp) ?_
   rintro d H' nx' (⟨rfl,h1,rfl,rfl⟩ | ⟨rfl,rfl,rfl⟩)
  ·simp [h0,h1]
   exact ⟨_,_,⟨rfl,rfl⟩,.inl rfl,.inl rfl⟩
  ·simp [h0]
   exact ⟨_,_,⟨rfl,rfl⟩,.inl rfl,.inr ⟨2,rfl,by omega,by omega,by simp,by simp⟩⟩
  ·simp [h1]
   exact ⟨_,_,⟨rfl,rfl⟩,.inr ⟨2,rfl,by omega,by omega,by simp⟩,.inl rfl⟩
  ·simp
   exact ⟨_,_,⟨rfl,rfl⟩,.inr ⟨2,rfl,by omega,by omega,by simp⟩,.inr ⟨4,rfl,by omega,by omega,by simp,by simp⟩⟩
 ·rintro B hB d H' nx' ⟨k,a,b,rfl,hk,hkn,ha,hb⟩
  obtain ⟨env,henv⟩ : ∃ env : List (Nat × D),env = [(0,D.tup [.ptr k 0,I 0])] := ⟨_,rfl⟩
  obtain ⟨H1,n1,i,g1,k1,kn1,i1,i2,i3,hb1⟩ : ∃ H1 n1 i,Gh B ⟨env,H',nx'⟩ ⟨env,H1,n1⟩ ∧ hget H1 k = some (.cells [.own i,b]) ∧ k < n1 ∧ i < n1 ∧ i ≠ k ∧ hget H1 i = some (.row 6 (L.map Lif.D)) ∧ ((b = .nil0 ∧ R = []) ∨ ∃ j,b = .own j ∧ j < n1 ∧ j ≠ k ∧ j ≠ i ∧ hget H1 j = some (.row 5 (R.map Rqs.D))) := by
   rcases ha with ⟨rfl,rfl⟩ | ⟨i,rfl,h1,h2,h3⟩
   ·refine ⟨eput (eput H' nx' (.row 6 [])) k (.cells [.own nx',b]),nx' + 1,nx',Gh.adoptC k 0 6 (by omega) [.nil0,b] hk rfl,by simp [hget_eput],by omega,by omega,by omega,?_,?_⟩
    ·rw [hget_eput,if_neg (by omega),hget_eput,if_pos rfl];rfl
    ·rcases hb with hb | ⟨j,rfl,h1,h2,h3,h4⟩
     ·exact .inl hb
     ·refine .inr ⟨j,rfl,by omega,h2,by omega,?_⟩
      rw [hget_eput,if_neg h2,hget_eput,if_neg (by omega)];exact h4
   ·refine ⟨H',nx',i,Gh.refl _,hk,hkn,h1,h2,h3,?_⟩
    rcases hb with hb | ⟨j,rfl,h1,h2,h3,h4⟩
    ·exact .inl hb
    ·exact .inr ⟨j,rfl,h1,h2,fun e => h3 (by rw [e]),h4⟩
  obtain ⟨H2,n2,j,g2,k2,kn2,j1,j2,j3,j4,i4,i5⟩ : ∃ H2 n2 j,Gh B ⟨env,H1,n1⟩ ⟨env,H2,n2⟩ ∧ hget H2 k = some (.cells [.own i,.own j]) ∧ k < n2 ∧ j < n2 ∧ j ≠ k ∧ j ≠ i ∧ hget H2 j = some (.row 5 (R.map Rqs.D)) ∧ hget H2 i = some (.row 6 (L.map Lif.D)) ∧ i < n2 := by
   rcases hb1 with ⟨rfl,rfl⟩ | ⟨j,rfl,h1,h2,h3,h4⟩
   ·refine ⟨eput (eput H1 n1 (.row 5 [])) k (.cells [.own i,.own n1]),n1 + 1,n1,Gh.adoptC k 1 5 (by omega) [.own i,.nil0] k1 rfl,by simp [hget_eput],by omega,by omega,by omega,by omega,?_,?_,by omega⟩
    ·rw [hget_eput,if_neg (by omega),hget_eput,if_pos rfl];rfl
    ·rw [hget_eput,if_neg i2,hget_eput,if_neg (by omega)];exact i3
   ·exact ⟨H1,n1,j,Gh.refl _,k1,kn1,h1,h2,h3,h4,i3,i1⟩
  refine ⟨.tup [.ptr 0 0,I 0],bkH L R,3,(henv ▸ (g1.trans g2)).trans ?_,(fun g e => by simp),rfl,rfl,rfl⟩
  exact Gh.ren [k,i,j] (by omega) (fun id h => by omega) (by simp) (by simp [bkH,k2,j4,i4]) (.inl (by simp [bkH,i2,j2,j3]))
theorem lfd1_code : cfun Tryz.prog [] 166 = some ⟨(.seq (.region 0 [oB 2 0,oX 3 (.mov (.k (.bool false)))]) (.seq (.region 1 [oF 4 0 2,oL 5 1 4,oL 6 1 1,oX 7 (.bin .eql (.t 5) (.t 6)),oM 3 7]) .ret)),[(.t 3)],8⟩ := by kernel_rfl
theorem lfd1_pf (x : Lif) (b : Int) : PF Tryz.prog 166 [.agg x.D,.pc [I b]] (.bool (qB b x)) := by
 refine PF.of follows_ok lfd1_code (by simp) (by simp) (by simp [Lif.D]) fun B hBN hB0 => acode_sound [0,1,2,3] [] _ _ _ ?_
 simp [Lif.D,qB]
def findD (L : List Lif) (b : Int) : D := if findM L b < 0 then .nilp else .pel 1 (findM L b).toNat 6 0
theorem bkH_lt (L : List Lif) (R : List Rqs) (n : Nat) (hn : 3 ≤ n) : ∀ p ∈ bkH L R,p.1 < n ∧ LtO n p.2 := by
 simp [bkH];omega
theorem lfind_code : cfun Tryz.prog [] 133 = some ⟨(.seq (.region 0 [oB 3 1,oX 4 (.mov (.k .nilp))]) (.seq (.region 1 [oM 6 0,oN 7 6,oF 8 0 7,oF 9 0 8,oL 10 1 9,oX 11 (.mkfn 166 [(.t 3)]),oX 12 (.call 165 [(.t 10),(.t 11)]),oM 5 12]) (.seq (.seq (.region 2 [oM 13 5,oX 14 (.bin .lss (.t 13) (kI 0))]) (.cond 14 (.seq (.region 3 [oX 4 (.mov (.k .nilp))]) .ret) .skip)) (.seq (.region 4 [oM 15 0,oN 16 15,oF 17 0 16,oF 18 0 17,oL 19 1 18,oM 20 5,oI 21 6 19 20,oM 4 21]) .ret)))),[(.t 4)],22⟩ := by kernel_rfl
theorem lfind_hf (L : List Lif) (R : List Rqs) (b : Int) (hl : L.length ≤ 12) : HF Tryz.prog 133 [.ptr 0 0,I b] (bkH L R) 3 (fun d H' nx' => d = findD L b ∧ H' = bkH L R ∧ nx' = 3) := by
 have hlo := idxZ_lo (qB b) L
 have hix := liixf1_pf Lif.D L 166 [I b] (qB b) (by omega) (els_lif L) (fun s _ => lfd1_pf s b)
 refine HF.tidy (by omega) (by unfold findD;intro g e;split <;> simp) (by unfold findD;split <;> simp) (bkH_lt L R 3 (by omega)) ?_
 unfold bkH
 refine HF.of follows_ok lfind_code (by simp) (by simp) (by simp) fun B hBN hB0 => acode_sound [0,1,3,4,5,14] [1] _ _ _ ?_
 simp
 refine W.freeze [3] ?_
 simp [freeze,hkeep,hdrop,fzS,fzR,fzV,fzC,fzO]
 refine acode_sound [0,1,3,4,5,14] [] _ _ _ ?_
 have hd : findD L b = if idxZ (qB b) L < 0 then .nilp else .pel 1 (idxZ (qB b) L).toNat 6 0 := rfl
 by_cases h : idxZ (qB b) L < 0
 ·rw [if_pos h] at hd
  repeat' (first
   | simp [h,hd]
   | refine ⟨wcS ?_,?_⟩
   | (refine WCall.pf (hix) ?_ ?_ ?_ ?_;iterate 3 (solve|simp [h,hd]))
   | with_reducible refine aI ?_ ?_ ?_)
  done
 ·rw [if_neg h] at hd
  have h0 : 0 ≤ idxZ (qB b) L := by omega
  have h1 : idxZ (qB b) L < L.length := hlo.2
  repeat' (first
   | simp [h,hd,h0,h1]
   | refine ⟨wcS ?_,?_⟩
   | (refine WCall.pf (hix) ?_ ?_ ?_ ?_;iterate 3 (solve|simp [h,hd,h0,h1]))
   | with_reducible refine aI ?_ ?_ ?_)
  done
def joinX (r : Rqs) : Lif := ⟨r.backend,1,r.weight,0,0,0⟩
theorem ljoin_code : cfun Tryz.prog [161] 126 = some ⟨(.seq (.region 0 [oB 3 1,oK 4 0]) (.seq (.seq (.region 1 [oF 8 2 3,oL 9 1 8,oX 10 (.bin .lss (.t 9) (kI 0)),oM 11 10,oG 12 (.fad 2 (.t 3)) 11 false,oG 13 (.load false 1 (.t 12)) 11 false,oG 14 (.bin .geq (.t 13) (kI 12)) 11 false,oX 15 (.pick (.t 11) (.k (.bool true)) (.t 14)),oM 16 15,oG 17 (.fad 3 (.t 3)) 16 false,oG 18 (.load false 1 (.t 17)) 16 false,oG 19 (.bin .lss (.t 18) (kI 1)) 16 false,oX 20 (.pick (.t 16) (.k (.bool true)) (.t 19)),oM 21 20,oG 22 (.fad 3 (.t 3)) 21 false,oG 23 (.load false 1 (.t 22)) 21 false,oG 24 (.bin .gtr (.t 23) (kI 8)) 21 false,oX 25 (.pick (.t 21) (.k (.bool true)) (.t 24))]) (.cond 25 (.seq (.region 2 [oK 4 2]) .ret) .skip)) (.seq (.region 3 [oF 26 2 3,oL 27 1 26,oF 28 3 3,oL 29 1 28,oX 30 (.build [(.int .i64 0),(.int .i64 0),(.int .i64 0),(.int .i64 0),(.int .i64 0),(.int .i64 0)] [(0,(1,(.t 27))),(1,(1,(kI 1))),(2,(1,(.t 29)))]),oX 5 (.alloc [(.int .i64 0),(.int .i64 0),(.int .i64 0),(.int .i64 0),(.int .i64 0),(.int .i64 0)]),oS 6 5 30]) (.seq (.seq (.region 4 [oM 31 0,oF 32 2 3,oL 33 1 32,oX 34 (.call 133 [(.t 31),(.t 33)]),oM 6 34]) (.seq (.region 5 [oM 35 6,oX 36 (.eqp true (.t 35) (.k .nilp))]) (.cond 36 (.seq (.seq (.region 6 [oM 37 6,oN 38 37,oF 39 1 38,oL 40 1 39,oX 41 (.bin .neq (.t 40) (kI 4))]) (.cond 41 (.seq (.region 7 [oK 4 7]) .ret) .skip)) (.seq (.region 8 [oM 42 6,oA 43 6 5,oN 44 42,oS 6 44 43]) (.seq (.region 9 [oK 4 0]) .ret))) .skip))) (.seq (.region 10 [oK 7 0]) (.seq (.block 0 (.loop (.seq (.seq (.draw 11 (.one true (oM 45 7) (.one true (oM 46 0) (.one true (oN 47 46) (.one true (oF 48 0 47) (.one true (oF 49 0 48) (.one true (oL 50 1 49) (.one true (oH 51 50) (.one true (oX 52 (.bin .lss (.t 45) (.t 51))) (.one true (oM 53 52) (.one true (oG 54 (.mov (.t 0)) 53 true) (.one true (oG 55 (.nchk (.t 54)) 53 true) (.one true (oG 56 (.fad 0 (.t 55)) 53 true) (.one true (oG 57 (.fad 0 (.t 56)) 53 true) (.one true (oG 58 (.load false 1 (.t 57)) 53 true) (.one true (oG 59 (.mov (.t 7)) 53 true) (.one true (oG 60 (.iads 6 (.t 58) (.t 59)) 53 true) (.one true (oG 61 (.fad 0 (.t 60)) 53 true) (.one true (oG 62 (.load false 1 (.t 61)) 53 true) (.one true (oG 63 (.fad 2 (.t 3)) 53 true) (.one true (oG 64 (.load false 1 (.t 63)) 53 true) (.one true (oG 65 (.bin .lss (.t 62) (.t 64)) 53 true) (.one true (oX 66 (.pick (.t 53) (.t 65) (.k (.bool false)))) .done))))))))))))))))))))))) (.cond 66 .skip (.exit 0))) (.block 1 (.region 12 [oM 67 7,oX 68 (.bin .add (.t 67) (kI 1)),oM 7 68]))))) (.seq (.draw 13 (.one true (oM 69 0) (.one true (oM 70 0) (.one true (oN 71 70) (.one true (oF 72 0 71) (.one true (oF 73 0 72) (.one true (oL 74 1 73) (.one true (oM 75 7) (.one true (oA 76 6 5) (.one true (oX 77 (.bslice 6 1 [(.int .i64 0),(.int .i64 0),(.int .i64 0),(.int .i64 0),(.int .i64 0),(.int .i64 0)] [(0,(.t 76))])) (.one false (oX 78 (.call 161 [(.t 74),(.t 75),(.t 77)])) (.one true (oN 79 69) (.one true (oF 80 0 79) (.one true (oF 81 0 80) (.one false (oS 1 81 78) .done))))))))))))))) (.seq (.region 14 [oK 4 0]) .ret)))))))),[(.t 4)],82⟩ := by kernel_rfl
theorem ljoin_hf (L : List Lif) (R : List Rqs) (r : Rqs) (hb : BookOk L R) : HF Tryz.prog 126 [.ptr 0 0,.agg r.D] (bkH L R) 3 (fun d H' nx' => d = I (joinM L r).2 ∧ ∃ k,k < nx' ∧ k ≠ 0 ∧ k ≠ 2 ∧ hget H' 0 = some (.cells [.own k,.own 2]) ∧ hget H' k = some (.row 6 ((joinM L r).1.map Lif.D)) ∧ hget H' 2 = some (.row 5 (R.map Rqs.D))) := by
 unfold bkH
 refine HF.of follows_ok ljoin_code (by simp) (by simp) (by simp [Rqs.D]) fun B hBN hB0 => acode_sound [0,1,3,4,5,6,7,25,36,41,66] [] _ _ _ ?_
 by_cases c1 : r.backend < 0 ∨ 12 ≤ r.backend ∨ r.weight < 1 ∨ 8 < r.weight
 ·have hj : joinM L r = (L,2) := by unfold joinM;rw [if_pos c1]
  rw [hj]
  by_cases a1 : r.backend < 0
  ·simp [Rqs.D,a1]
   exact ⟨1,by simp⟩
  by_cases a2 : 12 ≤ r.backend
  ·simp [Rqs.D,a1,a2]
   exact ⟨1,by simp⟩
  by_cases a3 : r.weight < 1
  ·simp [Rqs.D,a1,a2,a3]
   exact ⟨1,by simp⟩
  have a4 : 8 < r.weight := by omega
  simp [Rqs.D,a1,a2,a3,a4]
  exact ⟨1,by simp⟩
 have a1 : ¬ r.backend < 0 := by omega
 have a2 : ¬ 12 ≤ r.backend := by omega
 have a3 : ¬ r.weight < 1 := by omega
 have a4 : ¬ 8 < r.weight := by omega
 have hfd := lfind_hf L R r.backend hb.ll
 unfold bkH at hfd
 simp [Rqs.D,a1,a2,a3,a4]
 refine WCall.hf [0,1,2] (hfd) (by simp) rfl rfl (by decide) (by simp) (by simp) (by simp) (by simp) (by simp) ?_
 rintro d H' nx' ⟨rfl,rfl,rfl⟩
 by_cases h0 : findM L r.backend < 0
 ·have hfD : findD L r.backend = .nilp := by unfold findD;rw [if_pos h0]
  have hj : joinM L r = (L.take (joinPos L r.backend) ++ [joinX r] ++ L.drop (joinPos L r.backend),0) := by
   unfold joinM
   rw [if_neg c1,if_neg (by omega)];rfl
  rw [hj]
  have hpl := joinPos_le L r.backend
  have hplt := joinPos_lt L r.backend
  have hpge := joinPos_ge L r.backend
  generalize joinPos L r.backend = p at hpl hplt hpge
  have hll := hb.ll
  rw [hfD]
  simp
  refine W.loopS (fun i : Nat => ⟨[(7,I i),(5,.ptr 4 0),(4,I 0),(3,.ptr 3 0),(0,.ptr 0 0)],[(4,.cells (joinX r).D),(3,.cells r.D),(2,.row 5 (R.map Rqs.D)),(1,.row 6 (L.map Lif.D)),(0,.cells [.own 1,.own 2])],5⟩)
   (fun n i => n = p - i ∧ i ≤ p) ?_ ?_
  ·exact ⟨_,0,(Gh.ren [0,1,2,3,4] (by simp [hB0]) (by simp [hB0] <;> decide) (by simp [joinX,Lif.D,Rqs.D]) (by simp [joinX,Lif.D,Rqs.D]) (.inl (by simp [joinX,Lif.D,Rqs.D]))),rfl,by omega⟩
  rintro n i ⟨hn,hi⟩
  refine acode_sound [0,1,3,4,5,6,7,25,36,41,66] [] _ _ _ ?_
  by_cases hlt : i < p
  ·have hlL : i < L.length := by omega
   have hbl := hplt i hlL hlt
   obtain ⟨o,ho⟩ : ∃ o,o = L[i] := ⟨_,rfl⟩
   rw [← ho] at hbl
   have ii : InR ((i : Int) + 1) := inW (by omega) (by omega)
   simp [hlL,← ho,Lif.D,Rqs.D,hbl,ii]
   exact ⟨_,i + 1,(Gh.ren [0,1,2,3,4] (by simp [hB0]) (by simp [hB0] <;> decide) (by simp [joinX,Lif.D,Rqs.D]) (by simp [joinX,Lif.D,Rqs.D]) (.inl (by simp [joinX,Lif.D,Rqs.D]))),by omega,rfl,by omega⟩
  ·obtain rfl : i = p := by omega
   have hins := lins_hf (L.map Lif.D) i [I r.backend,I 1,I r.weight,I 0,I 0,I 0] (by simp;omega) (by simp;omega) rfl (els_lif L).rows (els_lif L).isT (by simp)
   by_cases hlL : i < L.length
   ·have hbl := hpge hlL
    obtain ⟨o,ho⟩ : ∃ o,o = L[i] := ⟨_,rfl⟩
    rw [← ho] at hbl
    simp [hlL,← ho,Lif.D,Rqs.D,hbl,joinX]
    refine WCall.hf [1,5] (hins) (by simp) rfl rfl (by decide) (by simp) (by simp) (by simp) (by simp) (by simp) ?_
    rintro d H' nx' ⟨rfl,rfl,rfl⟩
    simp
    exact ⟨6,by simp⟩
   ·skip
    simp [hlL,Rqs.D,Lif.D,joinX]
    refine WCall.hf [1,5] (hins) (by simp) rfl rfl (by decide) (by simp) (by simp) (by simp) (by simp) (by simp) ?_
    rintro d H' nx' ⟨rfl,rfl,rfl⟩
    simp
    exact ⟨6,by simp⟩
 ·have hfD : findD L r.backend = .pel 1 (findM L r.backend).toNat 6 0 := by unfold findD;rw [if_neg h0]
  obtain ⟨h1,h2,h3⟩ := findM_at (by omega : 0 ≤ findM L r.backend)
  have hj : joinM L r = if (L.getD (findM L r.backend).toNat default).state = 4 then (L.set (findM L r.backend).toNat (joinX r),0) else (L,7) := by
   unfold joinM
   rw [if_neg c1,if_pos (by omega)];rfl
  rw [h3] at hj
  rw [hfD]
  clear hfD h3 h0
  generalize (findM L r.backend).toNat = i at h1 h2 hj
  obtain ⟨o,ho⟩ : ∃ o,o = L[i] := ⟨_,rfl⟩
  rw [← ho] at h2 hj
  by_cases h4 : o.state = 4
  ·rw [if_pos h4] at hj
   rw [hj]
   simp [h1,← ho,Lif.D,h4]
   exact ⟨1,by simp [joinX,Lif.D]⟩
  ·rw [if_neg h4] at hj
   rw [hj]
   simp [h1,← ho,Lif.D,h4]
   exact ⟨1,by simp⟩
theorem lret_code : cfun Tryz.prog [] 127 = some ⟨(.seq (.region 0 [oB 5 1,oK 8 0]) (.seq (.region 1 [oM 10 0,oF 11 2 5,oL 12 1 11,oX 13 (.call 133 [(.t 10),(.t 12)]),oM 9 13]) (.seq (.seq (.region 2 [oM 14 9,oX 15 (.eqp false (.t 14) (.k .nilp)),oM 16 15,oG 17 (.mov (.t 9)) 16 false,oG 18 (.nchk (.t 17)) 16 false,oG 19 (.fad 1 (.t 18)) 16 false,oG 20 (.load false 1 (.t 19)) 16 false,oG 21 (.bin .eql (.t 20) (kI 4)) 16 false,oX 22 (.pick (.t 16) (.k (.bool true)) (.t 21))]) (.cond 22 (.seq (.region 3 [oK 8 8]) .ret) .skip)) (.seq (.seq (.region 4 [oM 23 9,oN 24 23,oF 25 1 24,oL 26 1 25]) (.block 0 (.seq (.region 6 [oX 31 (.bin .eql (.t 26) (kI 3)),oM 30 31]) (.cond 30 (.seq (.region 7 [oK 8 12]) .ret) (.seq (.region 8 [oX 33 (.bin .eql (.t 26) (kI 1)),oM 32 33]) (.cond 32 (.region 9 [oM 34 9,oN 35 34,oF 36 1 35,oY (.store 1 (.t 36) (kI 4))]) (.region 5 [oM 27 9,oN 28 27,oF 29 1 28,oY (.store 1 (.t 29) (kI 3))]))))))) (.seq (.draw 10 (.one true (oM 37 9) (.one true (oM 38 9) (.one true (oM 39 2) (.one true (oM 40 3) (.one true (oX 41 (.bin .add (.t 39) (.t 40))) (.one true (oF 42 0 5) (.one true (oN 44 37) (.one true (oF 45 4 44) (.two (.one true (oL 43 1 42) (.one false (oS 1 45 41) (.one true (oN 46 38) (.one true (oF 47 5 46) (.one false (oS 1 47 43) .done))))) (.two (.one false (oS 1 45 41) (.one true (oL 43 1 42) (.one true (oN 46 38) (.one true (oF 47 5 46) (.one false (oS 1 47 43) .done))))) .top))))))))))) (.seq (.region 11 [oK 8 0]) .ret)))))),[(.t 8)],48⟩ := by kernel_rfl
theorem lret_hf (L : List Lif) (R : List Rqs) (r : Rqs) (now drain : Int) (hb : BookOk L R) (n0 : 0 ≤ now) (n1 : now ≤ 1099511627776) (d0 : 0 ≤ drain) (d1 : drain ≤ 500) :
  HF Tryz.prog 127 [.ptr 0 0,.agg r.D,I now,I drain] (bkH L R) 3 (fun d H' nx' => d = I (retireM L r now drain).2 ∧ H' = bkH (retireM L r now drain).1 R ∧ nx' = 3) := by
 refine HF.tidy (by omega) (by simp) trivial (bkH_lt _ R 3 (by omega)) ?_
 have hfd := lfind_hf L R r.backend hb.ll
 have hnd : InR (now + drain) := inW (by omega) (by omega)
 unfold bkH at hfd ⊢
 refine HF.of follows_ok lret_code (by simp) (by simp) (by simp [Rqs.D]) fun B hBN hB0 => acode_sound [0,1,2,3,5,8,9,22,26,30,32] [] _ _ _ ?_
 simp [Rqs.D]
 refine WCall.hf [0,1,2] (hfd) (by simp) rfl rfl (by decide) (by simp) (by simp) (by simp) (by simp) (by simp) ?_
 rintro d H' nx' ⟨rfl,rfl,rfl⟩
 by_cases h0 : findM L r.backend < 0
 ·have hfD : findD L r.backend = .nilp := by unfold findD;rw [if_pos h0]
  have hj : retireM L r now drain = (L,8) := by unfold retireM;simp only;rw [if_pos h0]
  rw [hfD,hj]
  simp
 ·have hfD : findD L r.backend = .pel 1 (findM L r.backend).toNat 6 0 := by unfold findD;rw [if_neg h0]
  obtain ⟨h1,h2,h3⟩ := findM_at (by omega : 0 ≤ findM L r.backend)
  have hj : retireM L r now drain = let x := L.getD (findM L r.backend).toNat default;if x.state = 4 then (L,8) else if x.state = 3 then (L,12)
    else (L.set (findM L r.backend).toNat { x with state := if x.state = 1 then 4 else 3,til := now + drain,req := r.id },0) := by
   unfold retireM
   simp only
   rw [if_neg h0]
  simp only [h3] at hj
  rw [hfD]
  clear hfD h3 h0
  generalize (findM L r.backend).toNat = i at h1 h2 hj
  obtain ⟨o,ho⟩ : ∃ o,o = L[i] := ⟨_,rfl⟩
  rw [← ho] at h2 hj
  by_cases s4 : o.state = 4
  ·rw [if_pos s4] at hj
   rw [hj]
   simp [h1,← ho,Lif.D,s4]
  rw [if_neg s4] at hj
  by_cases s3 : o.state = 3
  ·rw [if_pos s3] at hj
   rw [hj]
   simp [h1,← ho,Lif.D,s3]
  rw [if_neg s3] at hj
  rw [hj]
  by_cases s1 : o.state = 1
  ·simp [h1,← ho,Lif.D,s3,s4,s1,hnd]
   done
  ·simp [h1,← ho,Lif.D,s3,s4,s1,hnd]
   done
def bkJ (L : List Lif) (R : List Rqs) : List (Nat × Ob) := [(3,.row 6 (L.map Lif.D)),(2,.row 5 (R.map Rqs.D)),(0,.cells [.own 3,.own 2])]
theorem ljoin_hf2 (L : List Lif) (R : List Rqs) (r : Rqs) (hb : BookOk L R) : HF Tryz.prog 126 [.ptr 0 0,.agg r.D] (bkH L R) 3 (fun d H' nx' => d = I (joinM L r).2 ∧ H' = bkJ (joinM L r).1 R ∧ nx' = 4) := by
 refine (ljoin_hf L R r hb).gh fun B hB d H' nx' hR => ?_
 obtain ⟨rfl,k,h1,h2,h3,h4,h5,h6⟩ := hR
 refine ⟨I (joinM L r).2,bkJ (joinM L r).1 R,4,?_,(by simp),rfl,rfl,rfl⟩
 exact Gh.ren [0,1,2,k] (by show B.n0 ≤ 4;omega) (fun id hid => by
  have : id = 0 ∨ id = 1 ∨ id = 2 := by omega
  rcases this with rfl | rfl | rfl <;> rfl) (by simp) (by simp [bkJ,h4,h5,h6]) (.inl (by simp [bkJ,h2,h3]))
theorem lask1_code : cfun Tryz.prog [] 125 = some ⟨(.seq (.region 0 [oB 2 0,oX 3 (.mov (.k (.bool false)))]) (.seq (.region 1 [oF 4 0 2,oL 5 1 4,oF 6 0 1,oL 7 1 6,oX 8 (.bin .eql (.t 5) (.t 7)),oM 3 8]) .ret)),[(.t 3)],9⟩ := by kernel_rfl
theorem lask1_pf (x r : Rqs) : PF Tryz.prog 125 [.agg x.D,.pc r.D] (.bool (qI r.id x)) := by
 refine PF.of follows_ok lask1_code (by simp) (by simp) (by simp [Rqs.D]) fun B hBN hB0 => acode_sound [0,1,2,3] [] _ _ _ ?_
 simp [Rqs.D,qI]
theorem lask_code : cfun Tryz.prog [126,127] 88 = some ⟨(.seq (.region 0 [oB 4 0,oB 5 1,oX 8 (.alloc [.nil0,.nil0]),oK 9 0,oX 10 (.mov (.k (.bool false))),oK 11 0]) (.seq (.region 1 [oA 16 2 4,oX 17 (.call 123 [(.t 16)]),oM 15 17,oE 18 15 0,oE 19 15 1,oM 12 18,oM 13 19]) (.seq (.seq (.region 2 [oM 20 13,oX 21 (.bin .neq (.t 20) (kI 0))]) (.cond 21 (.seq (.region 3 [oX 22 (.build [.nil0,.nil0] []),oM 23 13,oS 2 8 22,oK 9 0,oX 10 (.mov (.k (.bool false))),oM 11 23]) .ret) .skip)) (.seq (.seq (.region 4 [oA 24 5 5,oX 25 (.call 104 [(.t 24)]),oX 26 (.not (.t 25)),oM 27 26,oG 28 (.mov (.t 2)) 27 false,oG 29 (.bin .lss (.t 28) (kI 0)) 27 false,oX 30 (.pick (.t 27) (.k (.bool true)) (.t 29)),oM 31 30,oG 32 (.mov (.t 2)) 31 false,oG 33 (.bin .gtr (.t 32) (kI 1099511627776)) 31 false,oX 34 (.pick (.t 31) (.k (.bool true)) (.t 33)),oM 35 34,oG 36 (.mov (.t 3)) 35 false,oG 37 (.bin .lss (.t 36) (kI 0)) 35 false,oX 38 (.pick (.t 35) (.k (.bool true)) (.t 37)),oM 39 38,oG 40 (.mov (.t 3)) 39 false,oG 41 (.bin .gtr (.t 40) (kI 500)) 39 false,oX 42 (.pick (.t 39) (.k (.bool true)) (.t 41))]) (.cond 42 (.seq (.region 5 [oX 43 (.build [.nil0,.nil0] []),oS 2 8 43,oK 9 0,oX 10 (.mov (.k (.bool false))),oK 11 2]) .ret) .skip)) (.seq (.seq (.region 6 [oM 44 12,oN 45 44,oF 46 0 45,oF 47 1 46,oL 48 1 47,oX 49 (.mkfn 125 [(.t 5)]),oX 50 (.call 124 [(.t 48),(.t 49)]),oM 14 50]) (.seq (.region 7 [oM 51 14,oX 52 (.bin .geq (.t 51) (kI 0))]) (.cond 52 (.seq (.draw 8 (.one true (oM 53 12) (.one true (oN 54 53) (.one true (oF 55 0 54) (.one true (oA 56 2 55) (.one true (oM 57 12) (.one true (oN 58 57) (.one true (oF 59 0 58) (.one true (oF 60 1 59) (.one true (oM 62 14) (.two (.one true (oL 61 1 60) (.one true (oI 63 5 61 62) (.one true (oF 64 4 63) (.two (.one true (oL 65 1 64) (.one false (oS 2 8 56) (.one true (oM 9 65) (.one true (oX 10 (.mov (.k (.bool false)))) (.one true (oK 11 0) .done))))) (.two (.one false (oS 2 8 56) (.one true (oL 65 1 64) (.one true (oM 9 65) (.one true (oX 10 (.mov (.k (.bool false)))) (.one true (oK 11 0) .done))))) .top))))) (.two (.one false (oS 2 8 56) (.one true (oL 61 1 60) (.one true (oI 63 5 61 62) (.one true (oF 64 4 63) (.one true (oL 65 1 64) (.one true (oM 9 65) (.one true (oX 10 (.mov (.k (.bool false)))) (.one true (oK 11 0) .done)))))))) .top)))))))))))) .ret) .skip))) (.seq (.seq (.region 9 [oM 66 12,oN 67 66,oF 68 0 67,oF 69 1 68,oL 70 1 69,oH 71 70,oX 72 (.bin .eql (.t 71) (kI 100))]) (.cond 72 (.seq (.region 10 [oM 73 12,oN 74 73,oF 75 0 74,oA 76 2 75,oS 2 8 76,oK 9 9,oX 10 (.mov (.k (.bool false))),oK 11 0]) .ret) .skip)) (.seq (.seq (.region 11 [oF 77 1 5,oL 78 1 77,oX 79 (.bin .eql (.t 78) (kI 1))]) (.cond 79 (.region 12 [oM 80 12,oA 81 5 5,oX 82 (.call 126 [(.t 80),(.t 81)]),oF 83 4 5,oS 1 83 82]) (.seq (.region 13 [oF 84 3 5,oY (.store 1 (.t 84) (kI 0))]) (.region 14 [oM 85 12,oA 86 5 5,oM 87 2,oM 88 3,oX 89 (.call 127 [(.t 85),(.t 86),(.t 87),(.t 88)]),oF 90 4 5,oS 1 90 89])))) (.seq (.draw 15 (.one true (oM 91 12) (.one true (oM 92 12) (.one true (oN 93 92) (.one true (oF 94 0 93) (.one true (oF 95 1 94) (.one true (oL 96 1 95) (.one true (oA 97 5 5) (.one true (oX 98 (.bslice 5 1 [(.int .i64 0),(.int .i64 0),(.int .i64 0),(.int .i64 0),(.int .i64 0)] [(0,(.t 97))])) (.one false (oX 99 (.app 5 40 [(.int .i64 0),(.int .i64 0),(.int .i64 0),(.int .i64 0),(.int .i64 0)] (.t 96) (.t 98))) (.one true (oN 100 91) (.one true (oF 101 0 100) (.one true (oF 102 1 101) (.one false (oS 1 102 99) .done)))))))))))))) (.seq (.draw 16 (.one true (oM 103 12) (.one true (oN 104 103) (.one true (oF 105 0 104) (.one true (oA 106 2 105) (.one true (oF 107 4 5) (.two (.one true (oL 108 1 107) (.one false (oS 2 8 106) (.one true (oM 9 108) (.one true (oX 10 (.mov (.k (.bool true)))) (.one true (oK 11 0) .done))))) (.two (.one false (oS 2 8 106) (.one true (oL 108 1 107) (.one true (oM 9 108) (.one true (oX 10 (.mov (.k (.bool true)))) (.one true (oK 11 0) .done))))) .top)))))))) .ret))))))))),[(.c 8 true 2),(.t 9),(.t 10),(.t 11)],109⟩ := by kernel_rfl
theorem lask_pf (L : List Lif) (R : List Rqs) (r : Rqs) (now drain : Int) (hb : BookOk L R) (hr : RqsOk r) (n0 : 0 ≤ now) (n1 : now ≤ 1099511627776) (d0 : 0 ≤ drain) (d1 : drain ≤ 500) :
  PF Tryz.prog 88 [bookD L R,.agg r.D,I now,I drain] (.tup [bookD (askM L R r now drain).L (askM L R r now drain).R,I (askM L R r now drain).answer,.bool (askM L R r now drain).fresh,I 0]) := by
 have hop := lopen_hf L R hb
 have hrq := lreq_pf r hr
 have hll := hb.ll
 have hlr := hb.lr
 have hix := rqixf1_pf Rqs.D R 125 r.D (qI r.id) (by omega) (els_rqs R) (fun s _ => lask1_pf s r)
 have c1 : ¬ now < 0 := by omega
 have c2 : ¬ 1099511627776 < now := by omega
 have c3 : ¬ drain < 0 := by omega
 have c4 : ¬ 500 < drain := by omega
 have hlo := idxZ_lo (qI r.id) R
 unfold bookD at hop ⊢
 refine PF.of follows_ok lask_code (by simp) (by simp) (by simp [Rqs.D]) fun B hBN hB0 => acode_sound [0,1,2,3,4,5,8,9,10,11,12,13,14,21,42,52,72,79] [] _ _ _ ?_
 simp [Rqs.D]
 refine WCall.hf0 hop (by simp) (by simp) (by simp) (by simp) ?_
 rintro d H' nx' ⟨rfl,rfl,rfl⟩
 simp [bkH]
 by_cases hi : 0 ≤ idxZ (qI r.id) R
 ·have ha : askM L R r now drain = ⟨L,R,(R.getD (idxZ (qI r.id) R).toNat default).answer,false⟩ := by unfold askM;rw [if_pos hi]
  rw [ha]
  obtain ⟨i,hii⟩ : ∃ i : Nat,(i : Int) = idxZ (qI r.id) R := ⟨(idxZ (qI r.id) R).toNat,by omega⟩
  rw [← hii] at hix hlo ⊢
  have hil : i < R.length := by omega
  obtain ⟨o,ho⟩ : ∃ o,o = R[i] := ⟨_,rfl⟩
  repeat' (first
   | simp [Rqs.D,c1,c2,c3,c4,hil,← ho]
   | refine ⟨wcS ?_,?_⟩
   | (refine WCall.pf (hrq) ?_ ?_ ?_ ?_;iterate 3 (solve|simp [Rqs.D,c1,c2,c3,c4,hil,← ho]))
   | (refine WCall.pf (hix) ?_ ?_ ?_ ?_;iterate 3 (solve|simp [Rqs.D,c1,c2,c3,c4,hil,← ho]))
   | with_reducible refine aI ?_ ?_ ?_)
  all_goals done
 have hin : idxZ (qI r.id) R = -1 := by omega
 rw [hin] at hix
 by_cases hf : R.length = 100
 ·have ha : askM L R r now drain = ⟨L,R,9,false⟩ := by unfold askM;rw [if_neg hi,if_pos hf]
  rw [ha]
  have hfz : (R.length : Int) = 100 := by omega
  repeat' (first
   | simp [Rqs.D,c1,c2,c3,c4,hf]
   | refine ⟨wcS ?_,?_⟩
   | (refine WCall.pf (hrq) ?_ ?_ ?_ ?_;iterate 3 (solve|simp [Rqs.D,c1,c2,c3,c4,hf]))
   | (refine WCall.pf (hix) ?_ ?_ ?_ ?_;iterate 3 (solve|simp [Rqs.D,c1,c2,c3,c4,hf]))
   | with_reducible refine aI ?_ ?_ ?_)
  all_goals done
 have hfz : ¬ (R.length : Int) = 100 := by omega
 by_cases hk : r.kind = 1
 ·have ha : askM L R r now drain = ⟨(joinM L r).1,R ++ [{ r with answer := (joinM L r).2 }],(joinM L r).2,true⟩ := by unfold askM;rw [if_neg hi,if_neg hf,if_pos hk]
  have hj := ljoin_hf2 L R r hb
  rw [ha]
  generalize joinM L r = J at hj
  obtain ⟨L',an⟩ := J
  simp only at hj
  unfold bkH at hj
  have hcap : (R.length + 1) * 40 ≤ 140737488355328 := by omega
  repeat' (first
   | simp [Rqs.D,c1,c2,c3,c4,hfz,hk]
   | refine ⟨wcS ?_,?_⟩
   | (refine WCall.pf (hrq) ?_ ?_ ?_ ?_;iterate 3 (solve|simp [Rqs.D,c1,c2,c3,c4,hfz,hk]))
   | (refine WCall.pf (hix) ?_ ?_ ?_ ?_;iterate 3 (solve|simp [Rqs.D,c1,c2,c3,c4,hfz,hk]))
   | with_reducible refine aI ?_ ?_ ?_)
  refine WCall.hf [3,4,5] (hj) (by simp) rfl rfl (by decide) (by simp) (by simp [Rqs.D,hk]) (by simp [Rqs.D,hk]) (by simp [Rqs.D,hk]) (by simp [Rqs.D,hk]) ?_
  rintro d H' nx' ⟨rfl,rfl,rfl⟩
  simp [bkJ,Rqs.D,hcap]
  done
 ·have ha : askM L R r now drain = ⟨(retireM L r now drain).1,R ++ [{ r with weight := 0,answer := (retireM L r now drain).2 }],(retireM L r now drain).2,true⟩ := by unfold askM;rw [if_neg hi,if_neg hf,if_neg hk]
  have hj := lret_hf L R { r with weight := 0 } now drain hb n0 n1 d0 d1
  have hcap : (R.length + 1) * 40 ≤ 140737488355328 := by omega
  rw [ha]
  have e : retireM L { r with weight := 0 } now drain = retireM L r now drain := rfl
  rw [e] at hj
  generalize retireM L r now drain = J at hj
  obtain ⟨L',an⟩ := J
  simp only at hj
  unfold bkH at hj
  repeat' (first
   | simp [Rqs.D,c1,c2,c3,c4,hfz,hk]
   | refine ⟨wcS ?_,?_⟩
   | (refine WCall.pf (hrq) ?_ ?_ ?_ ?_;iterate 3 (solve|simp [Rqs.D,c1,c2,c3,c4,hfz,hk]))
   | (refine WCall.pf (hix) ?_ ?_ ?_ ?_;iterate 3 (solve|simp [Rqs.D,c1,c2,c3,c4,hfz,hk]))
   | with_reducible refine aI ?_ ?_ ?_)
  refine WCall.hf [3,4,5] (hj) (by simp) rfl rfl (by decide) (by simp) (by simp [Rqs.D]) (by simp [Rqs.D]) (by simp [Rqs.D]) (by simp [Rqs.D]) ?_
  rintro d H' nx' ⟨rfl,rfl,rfl⟩
  simp [Rqs.D,hcap]
  done
theorem lof_code : cfun Tryz.prog [] 93 = some ⟨(.seq (.region 0 [oB 2 0,oX 4 (.alloc [(.int .i64 0),(.int .i64 0),(.int .i64 0),(.int .i64 0),(.int .i64 0),(.int .i64 0)]),oK 5 0]) (.seq (.region 1 [oA 10 2 2,oX 11 (.call 123 [(.t 10)]),oM 9 11,oE 12 9 0,oE 13 9 1,oM 6 12,oM 7 13]) (.seq (.seq (.region 2 [oM 14 7,oX 15 (.bin .neq (.t 14) (kI 0))]) (.cond 15 (.seq (.region 3 [oX 16 (.build [(.int .i64 0),(.int .i64 0),(.int .i64 0),(.int .i64 0),(.int .i64 0),(.int .i64 0)] []),oM 17 7,oS 6 4 16,oM 5 17]) .ret) .skip)) (.seq (.region 4 [oM 18 6,oM 19 1,oX 20 (.call 133 [(.t 18),(.t 19)]),oM 8 20]) (.seq (.seq (.region 5 [oM 21 8,oX 22 (.eqp false (.t 21) (.k .nilp))]) (.cond 22 (.seq (.region 6 [oX 23 (.build [(.int .i64 0),(.int .i64 0),(.int .i64 0),(.int .i64 0),(.int .i64 0),(.int .i64 0)] []),oS 6 4 23,oK 5 8]) .ret) .skip)) (.seq (.region 7 [oM 24 8,oN 25 24,oA 26 6 25,oS 6 4 26,oK 5 0]) .ret)))))),[(.c 4 true 6),(.t 5)],27⟩ := by kernel_rfl
theorem lof_pf (L : List Lif) (R : List Rqs) (b : Int) (hb : BookOk L R) : PF Tryz.prog 93 [bookD L R,I b] (.tup [.agg (ofM L b).1.D,I (ofM L b).2]) := by
 have hop := lopen_hf L R hb
 have hfd := lfind_hf L R b hb.ll
 unfold bkH at hfd
 unfold bookD at hop ⊢
 refine PF.of follows_ok lof_code (by simp) (by simp) (by simp) fun B hBN hB0 => acode_sound [0,1,2,4,5,6,7,8,15,22] [] _ _ _ ?_
 simp
 refine WCall.hf0 hop (by simp) (by simp) (by simp) (by simp) ?_
 rintro d H' nx' ⟨rfl,rfl,rfl⟩
 simp [bkH]
 refine WCall.hf [2,3,4] (hfd) (by simp) rfl rfl (by decide) (by simp) (by simp) (by simp) (by simp) (by simp) ?_
 rintro d H' nx' ⟨rfl,rfl,rfl⟩
 by_cases h0 : findM L b < 0
 ·have hfD : findD L b = .nilp := by unfold findD;rw [if_pos h0]
  have hj : ofM L b = (default,8) := by unfold ofM;rw [if_pos h0]
  rw [hfD,hj]
  simp [Lif.D,default,instInhabitedLif.default]
 ·have hfD : findD L b = .pel 1 (findM L b).toNat 6 0 := by unfold findD;rw [if_neg h0]
  obtain ⟨h1,h2,h3⟩ := findM_at (by omega : 0 ≤ findM L b)
  have hj : ofM L b = (L.getD (findM L b).toNat default,0) := by unfold ofM;rw [if_neg h0]
  rw [h3] at hj
  rw [hfD,hj]
  clear hfD h3 h0 hj
  generalize (findM L b).toNat = i at h1 h2
  obtain ⟨o,ho⟩ : ∃ o,o = L[i] := ⟨_,rfl⟩
  rw [← ho]
  simp [h1,← ho,Lif.D]
theorem lfin_code : cfun Tryz.prog [] 131 = some ⟨(.seq (.region 0 [oB 2 0,oX 4 (.alloc [.nil0,.nil0]),oK 5 0]) (.seq (.region 1 [oA 10 2 2,oX 11 (.call 123 [(.t 10)]),oM 9 11,oE 12 9 0,oE 13 9 1,oM 6 12,oM 7 13]) (.seq (.seq (.region 2 [oM 14 7,oX 15 (.bin .neq (.t 14) (kI 0))]) (.cond 15 (.seq (.region 3 [oX 16 (.build [.nil0,.nil0] []),oM 17 7,oS 2 4 16,oM 5 17]) .ret) .skip)) (.seq (.region 4 [oM 18 6,oM 19 1,oX 20 (.call 133 [(.t 18),(.t 19)]),oM 8 20]) (.seq (.seq (.region 5 [oM 21 8,oX 22 (.eqp false (.t 21) (.k .nilp)),oM 23 22,oG 24 (.mov (.t 8)) 23 false,oG 25 (.nchk (.t 24)) 23 false,oG 26 (.fad 1 (.t 25)) 23 false,oG 27 (.load false 1 (.t 26)) 23 false,oG 28 (.bin .neq (.t 27) (kI 3)) 23 false,oX 29 (.pick (.t 23) (.k (.bool true)) (.t 28))]) (.cond 29 (.seq (.region 6 [oX 30 (.build [.nil0,.nil0] []),oS 2 4 30,oK 5 8]) .ret) .skip)) (.seq (.region 7 [oM 31 8,oN 32 31,oF 33 1 32,oY (.store 1 (.t 33) (kI 4))]) (.seq (.region 8 [oM 34 6,oN 35 34,oF 36 0 35,oA 37 2 36,oS 2 4 37,oK 5 0]) .ret))))))),[(.c 4 true 2),(.t 5)],38⟩ := by kernel_rfl
theorem lfin_pf (L : List Lif) (R : List Rqs) (b : Int) (hb : BookOk L R) : PF Tryz.prog 131 [bookD L R,I b] (.tup [bookD (finishM L b).1 (if (finishM L b).2 = 0 then R else []),I (finishM L b).2]) := by
 have hop := lopen_hf L R hb
 have hfd := lfind_hf L R b hb.ll
 unfold bkH at hfd
 unfold bookD at hop ⊢
 refine PF.of follows_ok lfin_code (by simp) (by simp) (by simp) fun B hBN hB0 => acode_sound [0,1,2,4,5,6,7,8,15,29] [] _ _ _ ?_
 simp
 refine WCall.hf0 hop (by simp) (by simp) (by simp) (by simp) ?_
 rintro d H' nx' ⟨rfl,rfl,rfl⟩
 simp [bkH]
 refine WCall.hf [2,3,4] (hfd) (by simp) rfl rfl (by decide) (by simp) (by simp) (by simp) (by simp) (by simp) ?_
 rintro d H' nx' ⟨rfl,rfl,rfl⟩
 by_cases h0 : findM L b < 0
 ·have hfD : findD L b = .nilp := by unfold findD;rw [if_pos h0]
  have hj : finishM L b = ([],8) := by unfold finishM;simp only;rw [if_pos h0]
  rw [hfD,hj]
  simp
 ·have hfD : findD L b = .pel 1 (findM L b).toNat 6 0 := by unfold findD;rw [if_neg h0]
  obtain ⟨h1,h2,h3⟩ := findM_at (by omega : 0 ≤ findM L b)
  have hj : finishM L b = let x := L.getD (findM L b).toNat default;if x.state = 3 then (L.set (findM L b).toNat { x with state := 4 },0) else ([],8) := by
   unfold finishM;simp only;rw [if_neg h0]
  simp only [h3] at hj
  rw [hfD]
  clear hfD h3 h0
  generalize (findM L b).toNat = i at h1 h2 hj
  obtain ⟨o,ho⟩ : ∃ o,o = L[i] := ⟨_,rfl⟩
  rw [← ho] at hj
  by_cases s3 : o.state = 3
  ·rw [if_pos s3] at hj
   rw [hj]
   simp [h1,← ho,Lif.D,s3]
  ·rw [if_neg s3] at hj
   rw [hj]
   simp [h1,← ho,Lif.D,s3]
def midW (L : List Lif) (now : Int) (i : Nat) : List Lif := (L.take i).map (wakeX now) ++ L.drop i
theorem midW_len (L : List Lif) (now : Int) (i : Nat) (h : i ≤ L.length) : (midW L now i).length = L.length := by simp [midW];omega
theorem midW_get (L : List Lif) (now : Int) (i : Nat) (h : i < L.length) : (midW L now i)[i]? = some L[i] := by
 unfold midW
 rw [List.getElem?_append_right (by simp;omega)]
 simp [Nat.min_eq_left (Nat.le_of_lt h),List.getElem?_eq_getElem h]
theorem midW_set (L : List Lif) (now : Int) (i : Nat) (h : i < L.length) : (midW L now i).set i (wakeX now L[i]) = midW L now (i + 1) := by
 unfold midW
 have hl : ((L.take i).map (wakeX now)).length = i := by simp;omega
 rw [List.set_append_right _ _ (by omega),hl,Nat.sub_self,List.take_succ_eq_append_getElem h,List.map_append,List.append_assoc]
 congr 1
 rw [List.drop_eq_getElem_cons h]
 rfl
theorem midW_same (L : List Lif) (now : Int) (i : Nat) (h : i < L.length) (hs : L[i].state ≠ 1) : midW L now i = midW L now (i + 1) := by
 have h2 : wakeX now L[i] = L[i] := by unfold wakeX;rw [if_neg hs]
 unfold midW
 rw [List.take_succ_eq_append_getElem h,List.map_append,List.append_assoc]
 congr 1
 rw [List.drop_eq_getElem_cons h,List.map_cons,List.map_nil,h2]
 rfl
theorem woken_succ (L : List Lif) (i : Nat) (h : i < L.length) : wokenM (L.take (i + 1)) = wokenM (L.take i) ++ (if L[i].state = 1 then [L[i].backend] else []) := by
 unfold wokenM
 rw [List.take_succ_eq_append_getElem h,List.filter_append,List.map_append]
 split
 ·rename_i hs;simp [hs]
 ·rename_i hs;simp [hs]
theorem woken_len (L : List Lif) : (wokenM L).length ≤ L.length := by
 unfold wokenM
 rw [List.length_map]
 exact List.length_filter_le ..
theorem lwake_code : cfun Tryz.prog [] 92 = some ⟨(.seq (.region 0 [oB 2 0,oX 4 (.alloc [.nil0,.nil0]),oX 5 (.mov (.k .nil0)),oK 6 0]) (.seq (.region 1 [oA 13 2 2,oX 14 (.call 123 [(.t 13)]),oM 12 14,oE 15 12 0,oE 16 12 1,oM 7 15,oM 8 16]) (.seq (.seq (.region 2 [oM 17 8,oX 18 (.bin .neq (.t 17) (kI 0))]) (.cond 18 (.seq (.region 3 [oX 19 (.build [.nil0,.nil0] []),oM 20 8,oS 2 4 19,oX 5 (.mov (.k .nil0)),oM 6 20]) .ret) .skip)) (.seq (.seq (.region 4 [oM 21 1,oX 22 (.bin .lss (.t 21) (kI 0)),oM 23 22,oG 24 (.mov (.t 1)) 23 false,oG 25 (.bin .gtr (.t 24) (kI 1099511627776)) 23 false,oX 26 (.pick (.t 23) (.k (.bool true)) (.t 25))]) (.cond 26 (.seq (.region 5 [oX 27 (.build [.nil0,.nil0] []),oS 2 4 27,oX 5 (.mov (.k .nil0)),oK 6 2]) .ret) .skip)) (.seq (.region 6 [oX 9 (.mov (.k .nil0))]) (.seq (.seq (.region 7 [oM 28 7,oN 29 28,oF 30 0 29,oF 31 0 30,oL 32 1 31,oH 33 32,oK 34 0]) (.block 0 (.loop (.seq (.region 8 [oX 35 (.bin .lss (.t 34) (.t 33))]) (.seq (.cond 35 .skip (.exit 0)) (.seq (.block 1 (.seq (.region 9 [oM 36 34,oM 10 36]) (.seq (.region 10 [oM 37 7,oN 38 37,oF 39 0 38,oF 40 0 39,oL 41 1 40,oM 42 10,oI 43 6 41 42,oM 11 43]) (.seq (.region 11 [oM 44 11,oN 45 44,oF 46 1 45,oL 47 1 46,oX 48 (.bin .eql (.t 47) (kI 1))]) (.cond 48 (.seq (.region 12 [oM 49 11,oM 50 11,oM 51 1,oN 52 49,oF 53 1 52,oY (.store 1 (.t 53) (kI 2)),oN 54 50,oF 55 3 54,oS 1 55 51]) (.region 13 [oM 56 9,oM 57 11,oN 58 57,oF 59 0 58,oL 60 1 59,oX 61 (.bslice 1 1 [(.int .i64 0)] [(0,(.t 60))]),oX 62 (.app 1 8 [(.int .i64 0)] (.t 56) (.t 61)),oM 9 62])) .skip))))) (.region 14 [oX 63 (.bin .add (.t 34) (kI 1)),oM 34 63]))))))) (.seq (.region 15 [oM 64 7,oN 65 64,oF 66 0 65,oA 67 2 66,oM 68 9,oS 2 4 67,oM 5 68,oK 6 0]) .ret))))))),[(.c 4 true 2),(.t 5),(.t 6)],69⟩ := by kernel_rfl
theorem lwake_pf (L : List Lif) (R : List Rqs) (now : Int) (hb : BookOk L R) (n0 : 0 ≤ now) (n1 : now ≤ 1099511627776) :
  PF Tryz.prog 92 [bookD L R,I now] (.tup [bookD (wakeM L now) R,.rows 1 ((wokenM L).map fun z => [I z]),I 0]) := by
 have hop := lopen_hf L R hb
 have hll := hb.ll
 have c1 : ¬ now < 0 := by omega
 have c2 : ¬ 1099511627776 < now := by omega
 unfold bookD at hop ⊢
 refine PF.of follows_ok lwake_code (by simp) (by simp) (by simp) fun B hBN hB0 => acode_sound [0,1,2,4,5,6,7,8,9,10,11,18,26,33,34,35,48] [] _ _ _ ?_
 simp
 refine WCall.hf0 hop (by simp) (by simp) (by simp) (by simp) ?_
 rintro d H' nx' ⟨rfl,rfl,rfl⟩
 simp [bkH,c1,c2]
 refine W.loopS (fun i : Nat => ⟨[(34,I i),(33,I L.length),(9,.own 5),(7,.ptr 2 0),(6,I 0),(5,.nil0),(4,.ptr 1 0),(1,I now)],[(5,.row 1 ((wokenM (L.take i)).map fun z => [I z])),(4,.row 5 (R.map Rqs.D)),(3,.row 6 ((midW L now i).map Lif.D)),(2,.cells [.own 3,.own 4]),(1,.cells [.nil0,.nil0])],6⟩)
  (fun n i => n = L.length - i ∧ i ≤ L.length) ?_ ?_
 ·refine ⟨_,0,(Gh.adopt 9 1 (by omega) (by simp)).trans ?_,rfl,by omega⟩
  simp
  exact (gr0 [0,1,2,3,4,5] hB0 (by simp [midW,wokenM]) (by simp [midW,wokenM]) (.inl (by simp [midW,wokenM])))
 rintro n i ⟨hn,hi⟩
 refine acode_sound [0,1,2,4,5,6,7,8,9,10,11,18,26,33,34,35,48] [] _ _ _ ?_
 have hml := midW_len L now i hi
 by_cases hlt : i < L.length
 ·have hmg := midW_get L now i hlt
  have hms := midW_set L now i hlt
  have hws := woken_succ L i hlt
  have hsame := midW_same L now i hlt
  have hwl := woken_len (L.take i)
  rw [List.length_take] at hwl
  have hcap : ((wokenM (L.take i)).length + 1) * 8 ≤ 140737488355328 := by omega
  obtain ⟨o,ho⟩ : ∃ o,o = L[i] := ⟨_,rfl⟩
  rw [← ho] at hmg hms hws hsame
  have hmg2 : ∀ h,(midW L now i)[i]'h = o := fun h => by
   rw [List.getElem?_eq_getElem h] at hmg;exact Option.some.inj hmg
  have ii : InR ((i : Int) + 1) := inW (by omega) (by omega)
  by_cases s1 : o.state = 1
  ·rw [if_pos s1] at hws
   have hwx : wakeX now o = ⟨o.backend,2,o.weight,now,o.til,o.req⟩ := by unfold wakeX;rw [if_pos s1]
   rw [hwx] at hms
   have hms' : ((midW L now i).map Lif.D).set i [I o.backend,I 2,I o.weight,I now,I o.til,I o.req] = (midW L now (i + 1)).map Lif.D := by
    rw [← hms,List.map_set];rfl
   simp [hlt,hml,hmg,hmg2,Lif.D,s1,hcap,ii]
   exact ⟨_,i + 1,(gr0 [7,1,2,3,4,7] hB0 (by simp [hws,hms']) (by simp [hws,hms']) (.inl (by simp [hws,hms']))),by omega,rfl,by omega⟩
  ·rw [if_neg s1,List.append_nil] at hws
   simp [hlt,hml,hmg,hmg2,Lif.D,s1,ii]
   exact ⟨_,i + 1,(gr0 [0,1,2,3,4,5] hB0 (by simp [hws,hsame s1]) (by simp [hws,hsame s1]) (.inl (by simp [hws,hsame s1]))),by omega,rfl,by omega⟩
 ·obtain rfl : i = L.length := by omega
  have hm : midW L now L.length = wakeM L now := by simp [midW,wakeM]
  simp [hm]
end Go.Proofs.YtibemmkfcjlmpaaGreat
