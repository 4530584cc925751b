/- What the program computes, step by step, and the rules for it. No condition of its own. -/
import Derived.Test.YtibemmkfcjlmpaaGreatUae
set_option linter.unusedSimpArgs false
set_option linter.unusedVariables false
set_option maxRecDepth 100000
set_option maxHeartbeats 8000000
namespace Go.Proofs.YtibemmkfcjlmpaaGreat
open Go.RowKit
structure OutFits (o : Outp) : Prop where
 k0 : 1 ≤ o.kind
 k1 : o.kind ≤ 10
 w0 : 0 ≤ o.why
 w1 : o.why ≤ 5
def bump (c : List Int) (i : Nat) : List Int := c.set i (c.getD i 0 + 1)
def tallyStep (c : List Int) (o : Outp) : List Int := if o.kind = 6 then bump (bump c o.kind.toNat) (11 + o.why.toNat) else bump c o.kind.toNat
def tallyL (l : List Outp) : List Int := l.foldl tallyStep (List.replicate 17 0)
theorem bump_len (c : List Int) (i : Nat) : (bump c i).length = c.length := by simp [bump]
theorem tallyStep_len (c : List Int) (o : Outp) : (tallyStep c o).length = c.length := by
 unfold tallyStep;split <;> simp [bump_len]
theorem bump_get (c : List Int) (i j : Nat) (hi : i < c.length) : (bump c i).getD j 0 = c.getD j 0 + (if i = j then 1 else 0) := by
 unfold bump
 by_cases h : i = j
 ·subst h;simp [List.getD,hi]
 ·simp [List.getD,List.getElem?_set_ne h,h]
def delta (o : Outp) (j : Nat) : Int := (if o.kind.toNat = j then 1 else 0) + (if o.kind = 6 ∧ 11 + o.why.toNat = j then 1 else 0)
def cnt (l : List Outp) (j : Nat) : Int := (l.map fun o => delta o j).sum
theorem tallyStep_get (c : List Int) (o : Outp) (h : OutFits o) (hc : c.length = 17) (j : Nat) : (tallyStep c o).getD j 0 = c.getD j 0 + delta o j := by
 obtain ⟨k0,k1,w0,w1⟩ := h
 unfold tallyStep delta
 split
 ·rename_i h6
  rw [bump_get _ _ _ (by rw [bump_len];omega),bump_get _ _ _ (by omega)]
  simp only [h6,true_and]
  omega
 ·rename_i h6
  rw [bump_get _ _ _ (by omega)]
  simp [h6]
theorem foldl_get (l : List Outp) (hok : ∀ x ∈ l,OutFits x) (c : List Int) (hc : c.length = 17) (j : Nat) : (l.foldl tallyStep c).getD j 0 = c.getD j 0 + cnt l j := by
 induction l generalizing c with
 | nil => simp [cnt]
 | cons o l ih =>
  rw [List.foldl_cons,ih (fun x hx => hok x (List.mem_cons_of_mem _ hx)) _ (by rw [tallyStep_len];exact hc),tallyStep_get c o (hok o (List.mem_cons_self ..)) hc]
  simp [cnt];omega
theorem zero17 (j : Nat) : (List.replicate 17 (0 : Int)).getD j 0 = 0 := by
 rw [zC,List.getElem?_replicate];split <;> rfl
theorem tallyL_get (l : List Outp) (hok : ∀ x ∈ l,OutFits x) (j : Nat) : (tallyL l).getD j 0 = cnt l j := by
 unfold tallyL
 rw [foldl_get l hok _ rfl j,zero17];omega
theorem foldl_len (l : List Outp) (c : List Int) : (l.foldl tallyStep c).length = c.length := by
 induction l generalizing c with
 | nil => rfl
 | cons o l ih => rw [List.foldl_cons,ih,tallyStep_len]
theorem tallyL_len (l : List Outp) : (tallyL l).length = 17 := by unfold tallyL;rw [foldl_len];rfl
theorem cnt_bd (l : List Outp) (j : Nat) : 0 ≤ cnt l j ∧ cnt l j ≤ 2 * l.length := by
 induction l with
 | nil => simp [cnt]
 | cons o l ih =>
  have : cnt (o :: l) j = delta o j + cnt l j := by simp [cnt]
  rw [this,List.length_cons]
  have : 0 ≤ delta o j ∧ delta o j ≤ 2 := by unfold delta;split <;> split <;> omega
  omega
theorem kN_ask {l : List Outp} (h : ∀ o ∈ l,o.kind = 8 ∨ o.kind = 9) (k : Int) (hk : k ≠ 8 ∧ k ≠ 9) : kN k l = 0 := List.countP_eq_zero.2 fun o ho => by have := h o ho;simp;omega
theorem kN_one {l : List Outp} (h : ∀ o ∈ l,o.kind ≠ 1) : kN 1 l = 0 := List.countP_eq_zero.2 fun o ho => by have := h o ho;simp;omega
theorem P_tokens {g : Gt} {n : Nat} (h : Rest g n) (h0 : g.out = []) {e : Evt} (he : EvtOk e) (hn : n + 1 ≤ 1000000) :
  (g.step e).tok = (if 0 < kN 1 (g.step e).out then min (g.tok + g.c.bud.num) g.c.bud.full else g.tok) - (kN 5 (g.step e).out : Nat) * g.c.bud.den := by
 cases step_kd h e hn with
 | full _ _ h => rw [h];simp [Gt.put,kN,h0]
 | busy _ _ _ h => rw [h];simp [Gt.put,kN,h0]
 | taken _ _ _ h => rw [h];simp [Gt.taken,kN,h0]
 | ask _ h2 =>
  obtain ⟨a1,a2,a3,a4,a5,_,_,l,a6,a7⟩ := ask_same h.mid he
  rw [h2,a3,a6,h0,List.nil_append,kN_ask a7 5 (by omega),kN_ask a7 1 (by omega)]
  simp
 | tick o _ h1 h2 =>
  have e1 : (g.step e).out = o := by rw [h2.out];show g.out ++ o = o;rw [h0];rfl
  rw [e1,kN_one h2.kd,h2.tok]
  show g.tok - g.c.bud.den * _ = _
  rw [Int.mul_comm];simp
 | flow l _ _ h2 =>
  have e1 : (g.step e).out = l := by rw [h2.out,h0];rfl
  rw [e1,kN_one h2.kd,h2.tok,Int.mul_comm];simp
theorem step_ok {g : Gt} {n : Nat} (h : Rest g n) (h0 : g.out = []) {e : Evt} (he : EvtOk e) (hn : n + 1 ≤ 1000000) : ∀ o ∈ (g.step e).out,OOk o := by
 intro o ho
 have hs := step_kd h e hn
 generalize g.step e = g' at ho hs
 have hz : ∀ k c : Int,1 ≤ k → k ≤ 10 → OOk ⟨k,0,0,0,0,c,0⟩ := fun k c k0 k1 => ⟨k0,k1,by simp,by simp,by simp,by simp,by simp,by simp,by simp,by simp⟩
 have h40 := h.mid.tok.2.1
 cases hs with
 | full _ _ h => rw [h] at ho;simp [Gt.put,h0] at ho;subst ho;exact hz 2 9 (by omega) (by omega)
 | busy _ _ _ h => rw [h] at ho;simp [Gt.put,h0] at ho;subst ho;exact hz 2 11 (by omega) (by omega)
 | taken _ hf hp h2 =>
  obtain ⟨f1,f2,f3⟩ := free_at hf
  rw [h2] at ho
  have ho : o ∈ g.out ++ [(⟨1,((freeZ g.tb).toNat : Nat),(g.tb.getD (freeZ g.tb).toNat tzero).gen,(pickG g e.key (-1)).1,0,0,0⟩ : Outp)] := ho
  rw [h0,List.nil_append] at ho
  have ho := List.mem_singleton.1 ho
  subst ho
  have hpk := h.mid.pickedB (.inl (by omega)) hp
  have hg := h.mid.tok.2.2 _ (getD_mem (l := g.tb) tzero f1)
  have hg0 := hg.1
  unfold tfree at f2
  rw [Bool.and_eq_true] at f2
  have hg1 : (g.tb.getD (freeZ g.tb).toNat tzero).gen < 1048576 := by simpa using f2.2
  exact ⟨by simp,by simp,by simp,by simp,by show (0 : Int) ≤ ((freeZ g.tb).toNat : Nat);omega,by show (((freeZ g.tb).toNat : Nat) : Int) < 40;omega,hg0,by show (g.tb.getD (freeZ g.tb).toNat tzero).gen ≤ _;omega,hpk.2.1,hpk.2.2⟩
 | ask _ h2 =>
  have hb0 := he.2.2.2.2.2.2.1
  have hb1 := he.2.2.2.2.2.2.2.1
  have h8 : ∀ r c : Int,OOk ⟨8,0,0,0,r,c,0⟩ := fun r c => ⟨by simp,by simp,by simp,by simp,by simp,by simp,by simp,by simp,by simp,by simp⟩
  have h9 : ∀ r : Int,OOk (goneO e.backend r) := fun r => ⟨by simp [goneO],by simp [goneO],by simp [goneO],by simp [goneO],by simp [goneO],by simp [goneO],by simp [goneO],by simp [goneO],hb0,hb1⟩
  rw [h2] at ho
  unfold Gt.ask at ho
  simp only [h0,List.nil_append] at ho
  split at ho
  ·rw [List.mem_singleton.1 ho];exact h8 _ _
  ·split at ho
   ·simp only [Gt.put,List.singleton_append,List.mem_cons,List.not_mem_nil,or_false] at ho
    rcases ho with rfl | rfl
    ·exact h8 _ _
    ·exact h9 _
   ·unfold Gt.spared at ho
    split at ho
    ·simp only [List.singleton_append,List.mem_cons,List.not_mem_nil,or_false] at ho
     rcases ho with rfl | rfl
     ·exact h8 _ _
     ·exact h9 _
    ·rw [List.mem_singleton.1 ho];exact h8 _ _
 | tick l h7 h1 h2 =>
  have e1 : g'.out = l := by rw [h2.out];show g.out ++ l = l;rw [h0];rfl
  rw [e1] at ho
  exact h2.ok o ho
 | flow l _ _ h2 =>
  have e1 : g'.out = l := by rw [h2.out,h0];rfl
  rw [e1] at ho
  exact h2.ok o ho
end Go.Proofs.YtibemmkfcjlmpaaGreat
namespace Go.Proofs.YtibemmkfcjlmpaaGreat
open Go.RowKit
attribute [local simp] AK_at acode_seq acode_region acode_draw acode_cond CB_u acode_block acode_loop acode_exit acode_scope acode_ret acode_skip seqQ_n seqQ_e seqQ_r blockQ_n blockQ_e blockQ_r TK_at OK_at SK_at aops_nil aops_cons asch_done asch_one asch_two asch_top astep aop_eq isLoud aloud aloud1 isWrite qv evS strip gof eget hget putO eput herase oks opnds gS afin afin0 binD arith D.cells takeD fillD keep trim envOf Fin aresl aresv resD argOk pickV isP deq deqs boundD slD lenD isT isSl ptrIds chunks mn_min mx_max splice_one splice_more Rbr_at Rfr_at frR frV frC flatC brwR brwV brwC omap leR leV leC leL leVL rnR rnV rnC rnO rho_0 hputs herases rnS LtS LtR LtV LtC LtO lget noV noC flatR flatV rho
attribute [local simp ↓] CB_t CB_f
theorem inT {z : Int} (h1 : -9223372036854775808 ≤ z) (h2 : z ≤ 9223372036854775807) : InR z := ⟨h1,h2⟩
theorem rnC_I (ρ : Nat → Nat) : rnC ρ ∘ I = I := rfl
theorem tfits_code : cfun Tryz.prog [] 58 = some ⟨(.seq (qR 0 [oB 1 0,oX 2 (.mov (.k qF))]) (.seq (qR 1 [oF 3 0 1,oL 4 1 3,oX 5 (.bin .geq (.t 4) (kI 1)),oM 6 5,oG 7 (.fad 0 (.t 1)) 6 true,oG 8 (.load false 1 (.t 7)) 6 true,oG 9 (.bin .leq (.t 8) (kI 10)) 6 true,oX 10 (.pick (.t 6) (.t 9) (.k qF)),oM 11 10,oG 12 (.fad 6 (.t 1)) 11 true,oG 13 (.load false 1 (.t 12)) 11 true,oG 14 (.bin .geq (.t 13) (kI 0)) 11 true,oX 15 (.pick (.t 11) (.t 14) (.k qF)),oM 16 15,oG 17 (.fad 6 (.t 1)) 16 true,oG 18 (.load false 1 (.t 17)) 16 true,oG 19 (.bin .leq (.t 18) (kI 5)) 16 true,oX 20 (.pick (.t 16) (.t 19) (.k qF)),oM 2 20]) .ret)),[(.t 2)],21⟩ := by kernel_rfl
theorem tfits_pf (o : Outp) (h : OutFits o) : PF Tryz.prog 58 [.agg o.D] (.bool true) := by
 obtain ⟨h1,h2,h3,h4⟩ := h
 refine pO (h3 := by simp [Outp.D]) tfits_code [0,1,2] [] fun B hBN hB0 => ?_
 simp [Outp.D,h1,h2,h3,h4]
theorem tallyL_succ (l : List Outp) (i : Nat) (h : i < l.length) : tallyL (l.take (i + 1)) = tallyStep (tallyL (l.take i)) l[i] := by
 unfold tallyL
 rw [List.take_succ_eq_append_getElem h,List.foldl_append];rfl
theorem tof_code : cfun Tryz.prog [] 34 = some ⟨(.seq (qR 0 [oX 2 (.alloc [qZ,qZ,qZ,qZ,qZ,qZ,qZ,qZ,qZ,qZ,qZ,qZ,qZ,qZ,qZ,qZ,qZ]),oK 3 0]) (.seq (qR 1 [oX 4 (.alloc [qZ,qZ,qZ,qZ,qZ,qZ,qZ,qZ,qZ,qZ,qZ,qZ,qZ,qZ,qZ,qZ,qZ])]) (.seq (.seq (qR 2 [oM 7 0,oH 8 7,oK 9 0]) (.block 0 (.loop (.seq (qR 3 [oX 10 (.bin .lss (.t 9) (.t 8))]) (.seq (.cond 10 .skip (.exit 0)) (.seq (.block 1 (.seq (qR 4 [oI 11 7 7 9,oA 12 7 11,oX 6 (.alloc [qZ,qZ,qZ,qZ,qZ,qZ,qZ]),oS 7 6 12]) (.seq (.seq (qR 5 [oA 13 7 6,oX 14 (.call 58 [(.t 13)]),oX 15 (.not (.t 14))]) (.cond 15 (.seq (qR 6 [oX 16 (.build [qZ,qZ,qZ,qZ,qZ,qZ,qZ,qZ,qZ,qZ,qZ,qZ,qZ,qZ,qZ,qZ,qZ] []),oS 17 2 16,oK 3 5]) .ret) .skip)) (.seq (qR 7 [oF 17 0 6,oL 18 1 17,oF 19 0 4,oX 20 (.iada 11 1 (.t 19) (.t 18)),oL 21 1 20,oX 22 (.bin .add (.t 21) (kI 1)),oF 23 0 4,oX 24 (.iada 11 1 (.t 23) (.t 18)),oS 1 24 22]) (.seq (qR 8 [oF 25 0 6,oL 26 1 25,oX 27 (.bin .eql (.t 26) (kI 6))]) (.cond 27 (qR 9 [oF 28 6 6,oL 29 1 28,oF 30 11 4,oX 31 (.iada 6 1 (.t 30) (.t 29)),oL 32 1 31,oX 33 (.bin .add (.t 32) (kI 1)),oF 34 11 4,oX 35 (.iada 6 1 (.t 34) (.t 29)),oS 1 35 33]) .skip)))))) (qR 10 [oX 36 (.bin .add (.t 9) (kI 1)),oM 9 36]))))))) (.seq (qR 11 [oA 37 17 4,oS 17 2 37,oK 3 0]) .ret)))),[(.c 2 true 17),(.t 3)],38⟩ := by kernel_rfl
theorem tof_pf (l : List Outp) (hl : l.length ≤ 100000000) (hok : ∀ x ∈ l,OutFits x) : PF Tryz.prog 34 [.rows 7 (l.map Outp.D)] (.tup [.agg ((tallyL l).map I),I 0]) := by
 refine pO tof_code [0,2,3,4,6,7,8,9,10,15,27] [] fun B hBN hB0 => ?_
 simp
 refine W.loopS (fun y : Nat × List Int => ⟨[(9,I y.1),(8,I l.length),(7,D.rows 7 (l.map Outp.D)),(4,D.ptr 1 0),(3,I 0),(2,D.ptr 0 0),(0,D.rows 7 (l.map Outp.D))],[(1,.cells (y.2.map I)),(0,.cells ((List.replicate 17 (0 : Int)).map I))],2⟩)
  (fun n y => n = l.length - y.1 ∧ y.1 ≤ l.length ∧ y.2 = tallyL (l.take y.1)) ?_ ?_
 ·exact ⟨_,(0,List.replicate 17 0),Gh.of_eq (by simp [List.replicate]),rfl,by simp,by simp [tallyL]⟩
 ·rintro n ⟨i,cs⟩ ⟨hn,hi,hcs⟩
  simp only at hn hi hcs
  refine acode_sound [0,2,3,4,6,7,8,9,10,15,27] [] _ _ _ ?_
  by_cases hlt : i < l.length
  ·obtain ⟨o,ho⟩ : ∃ o,o = l[i] := ⟨_,rfl⟩
   have hfo : OutFits o := ho ▸ hok _ (List.getElem_mem hlt)
   have hts := tallyL_succ l i hlt
   rw [← ho,← hcs] at hts
   obtain ⟨h1,h2,h3,h4⟩ := id hfo
   have hlen : cs.length = 17 := by rw [hcs,tallyL_len]
   have hbd : ∀ j,0 ≤ cs.getD j 0 ∧ cs.getD j 0 ≤ 2 * i := fun j => by
    rw [hcs,tallyL_get _ (fun x hx => hok x (List.mem_of_mem_take hx))]
    have := cnt_bd (l.take i) j
    simp at this;omega
   have k0 : 0 ≤ o.kind := by omega
   have k1 : o.kind < 11 := by omega
   have k2 : o.kind.toNat < cs.length := by omega
   have k2' : o.kind.toNat < 17 := by omega
   have k3 : 11 + o.why.toNat < cs.length := by omega
   have k4 : 0 ≤ o.why ∧ o.why < 6 := by omega
   have hb1 := hbd o.kind.toNat
   have e1 : cs[o.kind.toNat] = cs.getD o.kind.toNat 0 := by simp [List.getD,k2]
   have i1 : InR (cs[o.kind.toNat] + 1) := by rw [e1];exact inT (by omega) (by omega)
   have ii : InR ((i : Int) + 1) := inT (by omega) (by omega)
   simp [hlt,← ho,Outp.D]
   by_cases h6 : o.kind = 6
   ·have k6 : 6 < cs.length := by omega
    have hb6 := hbd 6
    have e6 : cs[6] = cs.getD 6 0 := by simp [List.getD,k6]
    have i6 : InR (cs[6] + 1) := by rw [e6];exact inT (by omega) (by omega)
    have hbw := hbd (11 + o.why.toNat)
    have ew : cs[11 + o.why.toNat] = cs.getD (11 + o.why.toNat) 0 := by simp [List.getD,k3]
    have iw : InR (cs[11 + o.why.toNat] + 1) := by rw [ew];exact inT (by omega) (by omega)
    have nw : ¬ (6 = 11 + o.why.toNat) := by omega
    have hst : tallyStep cs o = (cs.set 6 (cs[6] + 1)).set (11 + o.why.toNat) (cs[11 + o.why.toNat] + 1) := by
     unfold tallyStep bump
     rw [if_pos h6,h6]
     simp [List.getD,k6,k3,nw]
    have hset : ((cs.map I).set 6 (D.int .i64 (cs[6] + 1))).set (11 + o.why.toNat) (D.int .i64 (cs[11 + o.why.toNat] + 1)) = (tallyStep cs o).map I := by rw [hst,List.map_set,List.map_set]
    repeat' (first
     | simp [Outp.D,k6,i6,h6,ii,k3,k4,iw,nw]
     | refine ⟨wcS ?_,?_⟩
     | (refine WCall.pf (tfits_pf o hfo) ?_ ?_ ?_ ?_;iterate 3 (solve|simp [Outp.D,k6,i6,h6,ii,k3,k4,iw,nw]))
     | with_reducible refine aI ?_ ?_ ?_)
    rw [hset]
    exact ⟨by omega,by omega,by omega,by omega,_,(i + 1,tallyStep cs o),(gr0 [] hB0 (by simp [Outp.D,rnC_I,h6]) (by simp [Outp.D,rnC_I,h6]) (.inr rfl)),by omega,rfl,by omega,hts.symm⟩
   ·have hst : tallyStep cs o = cs.set o.kind.toNat (cs[o.kind.toNat] + 1) := by
     unfold tallyStep bump
     rw [if_neg h6,e1]
    have hset : (cs.map I).set o.kind.toNat (D.int .i64 (cs[o.kind.toNat] + 1)) = (tallyStep cs o).map I := by rw [hst,List.map_set]
    repeat' (first
     | simp [Outp.D,k0,k1,k2,i1,h6,ii]
     | refine ⟨wcS ?_,?_⟩
     | (refine WCall.pf (tfits_pf o hfo) ?_ ?_ ?_ ?_;iterate 3 (solve|simp [Outp.D,k0,k1,k2,i1,h6,ii]))
     | with_reducible refine aI ?_ ?_ ?_)
    rw [hset]
    exact ⟨by omega,by omega,_,(i + 1,tallyStep cs o),(gr0 [] hB0 (by simp [Outp.D,rnC_I]) (by simp [Outp.D,rnC_I]) (.inr rfl)),by omega,rfl,by omega,hts.symm⟩
  ·have hie : i = l.length := by omega
   subst hie
   rw [List.take_length] at hcs
   have hlen : cs.length = 17 := by rw [hcs,tallyL_len]
   obtain ⟨c,hc⟩ : ∃ c,c = tallyL l := ⟨_,rfl⟩
   rw [← hc] at hcs ⊢
   subst hcs
   match cs,hlen with
   | [c0,c1,c2,c3,c4,c5,c6,c7,c8,c9,c10,c11,c12,c13,c14,c15,c16],_ => simp
structure OutBy (o : Outp) : Prop where
 fits : OutFits o
 slot : InR o.slot
 gen : InR o.gen
 back : 0 ≤ o.backend ∧ o.backend < 12
end Go.Proofs.YtibemmkfcjlmpaaGreat
namespace Go.Proofs.YtibemmkfcjlmpaaGreat
open Go.RowKit
theorem OOk.by_ {o : Outp} (h : OOk o) : OutBy o := by
 obtain ⟨h1,h2,h3,h4,h5,h6,h7,h8,h9,h10⟩ := h
 exact ⟨⟨h1,h2,h3,h4⟩,inT (by omega) (by omega),inT (by omega) (by omega),h9,h10⟩
theorem cnt_kN (l : List Outp) (h : ∀ o ∈ l,OutFits o) (j : Nat) (hj : j < 11) : cnt l j = (kN j l : Nat) := by
 induction l with
 | nil => rfl
 | cons o l ih =>
  have ho := h o (by simp)
  have h0 := ho.k0
  have h1 := ho.w0
  have ih := ih fun x hx => h x (List.mem_cons_of_mem _ hx)
  have e : cnt (o :: l) j = delta o j + cnt l j := by simp [cnt]
  rw [e,ih]
  unfold kN delta
  rw [List.countP_cons,if_neg (by omega : ¬ (o.kind = 6 ∧ 11 + o.why.toNat = j))]
  by_cases hk : o.kind = (j : Int)
  ·rw [if_pos (by omega)];simp [hk];omega
  ·rw [if_neg (by omega)];simp [hk]
theorem StpOk.facts {c : Cfg} {s : Stp} {k : Nat} (h : StpOk c s k) : ∃ n,n + 1 ≤ 1000000 ∧ Rest s.before n ∧ Rest (s.before.step s.ev) (n + 1) := by
 obtain ⟨n,hn,hr⟩ := h.ex
 have := h.kk
 exact ⟨n,by omega,hr,hr.step h.ev.ok (by omega)⟩
theorem StpOk.fits {c : Cfg} {s : Stp} {k : Nat} (h : StpOk c s k) : ∀ o ∈ s.out,OOk o := by
 obtain ⟨n,hn,hr,_⟩ := h.facts
 rw [h.out]
 exact step_ok hr h.lo h.ev.ok hn
theorem StpOk.tokens {c : Cfg} {s : Stp} {k : Nat} (h : StpOk c s k) : s.after.tok = (if 0 < cnt s.out 1 then min (s.before.tok + c.bud.num) c.bud.full else s.before.tok) - cnt s.out 5 * c.bud.den ∧ 0 ≤ s.after.tok := by
 obtain ⟨n,hn,hr,hr2⟩ := h.facts
 have hf : ∀ o ∈ s.out,OutFits o := fun o ho => (h.fits o ho).by_.fits
 rw [cnt_kN _ hf 1 (by omega),cnt_kN _ hf 5 (by omega),h.after,h.out,← h.cfg]
 refine ⟨?_,hr2.mid.tk0⟩
 have := P_tokens hr h.lo h.ev.ok hn
 show (s.before.step s.ev).tok = _
 rw [this]
 have e : (0 < ((kN (1 : Nat) (s.before.step s.ev).out : Nat) : Int)) ↔ 0 < kN 1 (s.before.step s.ev).out := by
  show (0 < ((kN 1 (s.before.step s.ev).out : Nat) : Int)) ↔ _
  omega
 simp only [e]
 rfl
structure PK (p : Ply) : Prop where
 c : p.c.Ok
 inv : ∃ k,k ≤ 1000 ∧ PV p k
 sl : p.steps.length ≤ 1000
 gl : p.given.length ≤ 2000000
theorem PK.st {p : Ply} (h : PK p) {i : Nat} (hi : i < p.steps.length) : ∃ k,StpOk p.c p.steps[i] k := by
 obtain ⟨k,_,hk⟩ := h.inv
 exact ⟨k,hk.sts _ (List.getElem_mem hi)⟩
theorem top_start (s : List Int) (l : List (List Int)) (hs : s.length = 16 ∧ ∀ z ∈ s,InR z) (hl : l.length ≤ Go.maxLen) (hr : ∀ r ∈ l,r.length = 4 ∧ ∀ z ∈ r,InR z) :
  ∃ p : Ply,PK p ∧ HF Tryz.prog 23 [.agg (s.map I),.rows 4 (l.map fun r => r.map I),I 60] [] 0 (fun d H' nx' => d = .tup [.ptr 0 0,.bool true] ∧ H' = p.H 1 2 ∧ nx' = 3) := by
 obtain ⟨c,hc,_,hpl⟩ := played_hf s l 60 hs hl hr (by omega)
 have hP := deeds_PR (play4_PR hc) (l.take 60) (l.take 60).length (Nat.le_refl _) (by rw [List.length_take];omega)
 rw [List.take_length] at hP
 have hlt : (l.take 60).length ≤ 60 := by rw [List.length_take];omega
 refine ⟨playedM c l 60,⟨?_,⟨_,?_,hP.inv⟩,?_,?_⟩,hpl⟩
 ·have h1 := hP.inv.cfg
  have h2 := hP.inv.rest.mid.c
  rw [h1] at h2;exact h2
 ·omega
 ·have := hP.sl;unfold playedM;omega
 ·have := hP.gl;unfold playedM;omega
end Go.Proofs.YtibemmkfcjlmpaaGreat
namespace Go.Proofs.YtibemmkfcjlmpaaGreat
open Go.RowKit
attribute [local simp] AK_at acode_seq acode_region acode_draw acode_cond CB_u acode_block acode_loop acode_exit acode_scope acode_ret acode_skip seqQ_n seqQ_e seqQ_r blockQ_n blockQ_e blockQ_r TK_at OK_at SK_at aops_nil aops_cons asch_done asch_one asch_two asch_top astep aop_eq isLoud aloud aloud1 isWrite qv evS strip gof eget hget putO eput herase oks opnds gS afin afin0 binD arith D.cells takeD fillD keep trim envOf Fin aresl aresv resD argOk pickV isP deq deqs boundD slD lenD isT isSl ptrIds chunks mn_min mx_max splice_one splice_more Rbr_at Rfr_at frR frV frC flatC brwR brwV brwC omap leR leV leC leL leVL rnR rnV rnC rnO rho_0 hputs herases rnS LtS LtR LtV LtC LtO lget noV noC flatR flatV rho
attribute [local simp ↓] CB_t CB_f
theorem seventeen {l : List Int} (h : l.length = 17) : ∃ a0 a1 a2 a3 a4 a5 a6 a7 a8 a9 a10 a11 a12 a13 a14 a15 a16,l = [a0,a1,a2,a3,a4,a5,a6,a7,a8,a9,a10,a11,a12,a13,a14,a15,a16] := by
 obtain ⟨a,b,rfl,hb⟩ : ∃ a b,l = a ++ [b] ∧ a.length = 16 := ⟨l.take 16,l[16],by rw [← List.take_succ_eq_append_getElem (by omega),List.take_of_length_le (by omega)],by simp [h]⟩
 obtain ⟨a0,a1,a2,a3,a4,a5,a6,a7,a8,a9,a10,a11,a12,a13,a14,a15,rfl⟩ := sixteen hb
 exact ⟨a0,a1,a2,a3,a4,a5,a6,a7,a8,a9,a10,a11,a12,a13,a14,a15,b,rfl⟩
theorem ttok_code : cfun Tryz.prog [] 17 = some ⟨(.seq (qR 0 [oB 2 0,oX 4 (.mov (.k qF))]) (.seq (qR 1 [oA 14 16 2,oM 15 1,oX 16 (.call 23 [(.t 14),(.t 15),(kI 60)]),oM 13 16,oE 17 13 0,oE 18 13 1,oM 5 17,oM 6 18]) (.seq (qR 2 [oM 19 5,oN 20 19,oF 21 0 20,oF 22 10 21,oA 23 3 22,oX 7 (.alloc [qZ,qZ,qZ]),oS 3 7 23]) (.seq (.seq (qR 3 [oK 8 0]) (.block 0 (.loop (.seq (.seq (qR 4 [oM 24 8,oM 25 5,oN 26 25,oF 27 16 26,oL 28 1 27,oH 29 28,oX 30 (.bin .lss (.t 24) (.t 29))]) (.cond 30 .skip (.exit 0))) (.seq (.block 1 (.seq (qR 6 [oM 33 5,oN 34 33,oF 35 16 34,oL 36 1 35,oM 37 8,oI 38 61 36 37,oA 39 61 38,oX 9 (.alloc [qZ,qZ,qZ,qZ,qF,qZ,qZ,qZ,qZ,qZ,qZ,qZ,qZ,qZ,qZ,qZ,qZ,qZ,qZ,qZ,qZ,qZ,qZ,qZ,qZ,.nil0,.nil0,.nil0,.nil0,.nil0,.nil0,qZ,qZ,.nil0,qZ,qZ,qZ,qZ,qZ,qZ,qZ,qZ,qZ,qZ,qZ,qZ,qZ,qZ,qZ,qZ,qZ,.nil0,.nil0,.nil0,.nil0,.nil0,.nil0,qZ,qZ,.nil0,.nil0]),oS 61 9 39]) (.seq (qR 7 [oF 41 60 9,oL 42 1 41,oX 43 (.call 34 [(.t 42)]),oM 40 43,oE 44 40 0,oE 45 40 1,oX 10 (.alloc [qZ,qZ,qZ,qZ,qZ,qZ,qZ,qZ,qZ,qZ,qZ,qZ,qZ,qZ,qZ,qZ,qZ]),oS 17 10 44,oM 11 45]) (.seq (qR 8 [oF 46 8 9,oF 47 23 46,oF 48 0 47,oL 49 1 48,oM 12 49]) (.seq (.seq (qR 9 [oF 50 0 10,oX 51 (.iada 11 1 (.t 50) (kI 1)),oL 52 1 51,oX 53 (.bin .gtr (.t 52) (kI 0))]) (.cond 53 (qR 10 [oM 54 12,oF 55 0 7,oL 56 1 55,oX 57 (.bin .add (.t 54) (.t 56)),oF 58 2 7,oL 59 1 58,oF 60 1 7,oL 61 1 60,oX 62 (.bin .mul (.t 59) (.t 61)),oX 63 (.mn (.t 57) (.t 62)),oM 12 63]) .skip)) (.seq (qR 11 [oM 64 12,oF 65 0 10,oX 66 (.iada 11 1 (.t 65) (kI 5)),oL 67 1 66,oF 68 1 7,oL 69 1 68,oX 70 (.bin .mul (.t 67) (.t 69)),oX 71 (.bin .sub (.t 64) (.t 70)),oM 12 71]) (.seq (qR 12 [oM 72 11,oX 73 (.bin .neq (.t 72) (kI 0)),oM 74 73,oG 75 (.fad 34 (.t 9)) 74 false,oG 76 (.fad 23 (.t 75)) 74 false,oG 77 (.fad 0 (.t 76)) 74 false,oG 78 (.load false 1 (.t 77)) 74 false,oG 79 (.mov (.t 12)) 74 false,oG 80 (.bin .neq (.t 78) (.t 79)) 74 false,oX 81 (.pick (.t 74) (.k qT) (.t 80)),oM 82 81,oG 83 (.mov (.t 12)) 82 false,oG 84 (.bin .lss (.t 83) (kI 0)) 82 false,oX 85 (.pick (.t 82) (.k qT) (.t 84))]) (.cond 85 (.seq (qR 13 [oX 4 (.mov (.k qF))]) .ret) .skip)))))))) (qR 5 [oM 31 8,oX 32 (.bin .add (.t 31) (kI 1)),oM 8 32])))))) (.seq (qR 14 [oM 86 6,oM 4 86]) .ret))))),[(.t 4)],87⟩ := by kernel_rfl
theorem ttok_pf (s : List Int) (l : List (List Int)) (hs : s.length = 16 ∧ ∀ z ∈ s,InR z) (hl : l.length ≤ Go.maxLen) (hr : ∀ r ∈ l,r.length = 4 ∧ ∀ z ∈ r,InR z) :
  PF Tryz.prog 17 [.agg (s.map I),.rows 4 (l.map fun r => r.map I)] (.bool true) := by
 obtain ⟨p,hK,hpl⟩ := top_start s l hs hl hr
 obtain ⟨a0,a1,a2,a3,a4,a5,a6,a7,a8,a9,a10,a11,a12,a13,a14,a15,rfl⟩ := sixteen hs.1
 obtain ⟨P,hP⟩ : ∃ P,P = p.P := ⟨_,rfl⟩
 have hP' := hP
 simp only [Ply.P,Ply.cells,Cfg.D,Gt.W,Gt.cells,List.cons_append,List.nil_append] at hP'
 simp only [Ply.H,Ply.cells,Cfg.D,Gt.W,Gt.cells,List.cons_append,List.nil_append] at hpl
 refine pO ttok_code [0,1,2,4,5,6,7,8,9,10,11,12,30,53,85] [2] fun B hBN hB0 => ?_
 simp
 refine WCall.hf0 hpl (by simp) (by simp) (by simp) (by simp) ?_
 rintro d H' nx' ⟨rfl,rfl,rfl⟩
 simp
 refine W.freeze [1,2,3] ?_
 simp [freeze,hkeep,hdrop,fzS,fzR,fzV,fzC,fzO]
 rw [← hP']
 clear hpl hs hr hl
 refine acode_sound [0,1,2,4,5,6,7,8,9,10,11,12,30,53,85] [] _ _ _ ?_
 simp [hP']
 rw [← hP']
 refine W.loopS (fun y : Nat => ⟨[(8,I y),(7,.ptr 0 0),(6,.bool true),(5,.pc P)],[(0,.cells [I p.c.bud.num,I p.c.bud.den,I p.c.bud.burst])],1⟩)
  (fun m i => m = p.steps.length - i ∧ i ≤ p.steps.length) ?_ ?_
 ·exact ⟨_,0,(gr0 [4] hB0 (by simp) (by simp) (.inl (by simp))),rfl,by omega⟩
 rintro m i ⟨hm,hi⟩
 refine acode_sound [0,1,2,4,5,6,7,8,9,10,11,12,30,53,85] [] _ _ _ ?_
 by_cases hlt : i < p.steps.length
 ·have ii : InR ((i : Int) + 1) := inW (by have := hK.sl;omega) (by have := hK.sl;omega)
  obtain ⟨kk,hst⟩ := hK.st hlt
  obtain ⟨x,hx⟩ : ∃ x,x = p.steps[i] := ⟨_,rfl⟩
  rw [← hx] at hst
  obtain ⟨n,hn,hr1,hr2⟩ := hst.facts
  have hol := step_out hr1 hst.lo hn x.ev
  rw [← hst.out] at hol
  have hof := tof_pf x.out (by omega) fun o ho => (hst.fits o ho).by_.fits
  obtain ⟨ho,ho0⟩ := hst.tokens
  have hfit : ∀ o ∈ x.out,OutFits o := fun o ho => (hst.fits o ho).by_.fits
  have g1 := tallyL_get x.out hfit 1
  have g5 := tallyL_get x.out hfit 5
  have b1 := cnt_bd x.out 1
  have b5 := cnt_bd x.out 5
  have hlen := tallyL_len x.out
  generalize tallyL x.out = T at hof g1 g5 hlen
  obtain ⟨t0,t1,t2,t3,t4,t5,t6,t7,t8,t9,t10,t11,t12,t13,t14,t15,t16,rfl⟩ := seventeen hlen
  have e1 : t1 = cnt x.out 1 := g1
  have e5 : t5 = cnt x.out 5 := g5
  clear g1 g5
  subst e1 e5
  have k0 := hr1.mid.tk0
  have k1 := hr1.mid.tk1
  rw [hst.cfg] at k1
  have hfull := hK.c.b.full
  obtain ⟨⟨⟨⟨⟨h1,h2⟩,h3⟩,h4⟩,h5⟩,h6⟩ := hK.c.b
  have hm0 : 0 ≤ cnt x.out 5 * p.c.bud.den := Int.mul_nonneg b5.1 (by omega)
  have i1 : InR (x.before.tok + p.c.bud.num) := inW (by omega) (by omega)
  have i2 : InR (p.c.bud.burst * p.c.bud.den) := by have : p.c.bud.burst * p.c.bud.den = p.c.bud.full := rfl;rw [this];exact inW (by omega) (by omega)
  by_cases hc : 0 < cnt x.out 1
  ·rw [if_pos hc] at ho
   unfold Budget.full at ho hfull
   have i3 : InR (cnt x.out 5 * p.c.bud.den) := inW (by omega) (by omega)
   have i4 : InR (min (x.before.tok + p.c.bud.num) (p.c.bud.burst * p.c.bud.den) - cnt x.out 5 * p.c.bud.den) := inW (by omega) (by omega)
   have i5 : ¬ min (x.before.tok + p.c.bud.num) (p.c.bud.burst * p.c.bud.den) - cnt x.out 5 * p.c.bud.den < 0 := by omega
   repeat' (first
    | simp [hP',hlt,← hx,Stp.D,Evt.D,Gt.W,Gt.cells,Cfg.D,hc,i1,i2,i3,i4,i5,ho,ii]
    | refine ⟨wcS ?_,?_⟩
    | (refine WCall.pf (hof) ?_ ?_ ?_ ?_;iterate 3 (solve|simp [hP',hlt,← hx,Stp.D,Evt.D,Gt.W,Gt.cells,Cfg.D,hc,i1,i2,i3,i4,i5,ho,ii]))
    | with_reducible refine aI ?_ ?_ ?_)
   all_goals rw [← hP']
   all_goals exact ⟨_,i + 1,(gr0 [0] hB0 (by simp) (by simp) (.inl (by simp))),by omega,rfl,by omega⟩
  ·rw [if_neg hc] at ho
   have i3 : InR (cnt x.out 5 * p.c.bud.den) := inW (by omega) (by omega)
   have i4 : InR (x.before.tok - cnt x.out 5 * p.c.bud.den) := inW (by omega) (by omega)
   have i5 : ¬ x.before.tok - cnt x.out 5 * p.c.bud.den < 0 := by omega
   repeat' (first
    | simp [hP',hlt,← hx,Stp.D,Evt.D,Gt.W,Gt.cells,Cfg.D,hc,i1,i2,i3,i4,i5,ho,ii]
    | refine ⟨wcS ?_,?_⟩
    | (refine WCall.pf (hof) ?_ ?_ ?_ ?_;iterate 3 (solve|simp [hP',hlt,← hx,Stp.D,Evt.D,Gt.W,Gt.cells,Cfg.D,hc,i1,i2,i3,i4,i5,ho,ii]))
    | with_reducible refine aI ?_ ?_ ?_)
   all_goals rw [← hP']
   all_goals exact ⟨_,i + 1,(gr0 [0] hB0 (by simp) (by simp) (.inl (by simp))),by omega,rfl,by omega⟩
 ·obtain rfl : i = p.steps.length := by omega
  simp [hP']
end Go.Proofs.YtibemmkfcjlmpaaGreat
