/- What the program computes, step by step, and the rules for it. No condition of its own. -/
import Derived.Test.YtibemmkfcjlmpaaGreatUae
set_option linter.unusedSimpArgs false
set_option linter.unusedVariables false
set_option maxRecDepth 100000
set_option maxHeartbeats 8000000
namespace Go.Proofs.YtibemmkfcjlmpaaGreat
open Go.RowKit
def wX (g : Gt) (x : Lif) : Int := if x.state = 2 ∧ isOut g.hl x.backend = false then rampM x.weight x.since g.now g.c.c4 else 0
def weightM (g : Gt) (b : Int) : Int := wX g (lifeM g.L b)
def sumR (f : Nat → Int) : Nat → Int
 | 0 => 0
 | n + 1 => sumR f n + f n
def totalM (g : Gt) : Int := sumR (fun b => weightM g b) 12
theorem sumR_congr {f g : Nat → Int} : ∀ n,(∀ b,b < n → f b = g b) → sumR f n = sumR g n
 | 0,_ => rfl
 | n + 1,h => by simp only [sumR];rw [sumR_congr n fun b hb => h b (by omega),h n (by omega)]
theorem sumR_upd (f : Nat → Int) (k : Nat) (v : Int) (h0 : f k = 0) : ∀ n,sumR (fun b => if b = k then v else f b) n = sumR f n + if k < n then v else 0
 | 0 => by simp [sumR]
 | n + 1 => by
  simp only [sumR]
  rw [sumR_upd f k v h0 n]
  by_cases e : n = k
  ·subst e;simp [h0]
  ·rw [if_neg e]
   by_cases e2 : k < n
   ·rw [if_pos e2,if_pos (by omega)];omega
   ·rw [if_neg e2,if_neg (by omega)];omega
theorem sumR_zero : ∀ n,sumR (fun _ => 0) n = 0
 | 0 => rfl
 | n + 1 => by simp only [sumR];rw [sumR_zero n];rfl
theorem sumR_nonneg {f : Nat → Int} (h : ∀ b,0 ≤ f b) : ∀ n,0 ≤ sumR f n
 | 0 => by simp [sumR]
 | n + 1 => by simp only [sumR];have := sumR_nonneg h n;have := h n;omega
theorem sumR_le {f : Nat → Int} (h : ∀ b,0 ≤ f b) : ∀ n k,k < n → f k ≤ sumR f n
 | 0,k,hk => by omega
 | n + 1,k,hk => by
  simp only [sumR]
  by_cases e : k = n
  ·subst e;have := sumR_nonneg h k;omega
  ·have := sumR_le h n k (by omega);have := h n;omega
theorem sumR_two {f : Nat → Int} (h : ∀ b,0 ≤ f b) : ∀ n i j,i < n → j < n → i ≠ j → f i + f j ≤ sumR f n
 | 0,i,j,hi,_,_ => by omega
 | n + 1,i,j,hi,hj,hne => by
  simp only [sumR]
  by_cases e : i = n
  ·subst e;have := sumR_le h i j (by omega);omega
  ·by_cases e2 : j = n
   ·subst e2;have := sumR_le h j i (by omega);omega
   ·have := sumR_two h n i j (by omega) (by omega) hne;have := h n;omega
theorem life_cons (x : Lif) (L : List Lif) (b : Int) : lifeM (x :: L) b = if x.backend = b then x else lifeM L b := by
 unfold lifeM
 rw [ofM_find,ofM_find,List.find?_cons]
 by_cases e : x.backend = b
 ·simp [qB,e]
 ·simp [qB,e]
theorem sum_lives (F : Lif → Int) (h0 : F default = 0) : ∀ L : List Lif,SrtL L → (∀ x ∈ L,0 ≤ x.backend ∧ x.backend < 12) → sumR (fun b => F (lifeM L b)) 12 = (L.map F).sum
 | [],_,_ => by
  have : (fun b : Nat => F (lifeM [] b)) = fun _ => 0 := by funext b;exact h0
  rw [this,sumR_zero];rfl
 | x :: L,hs,hb => by
  obtain ⟨h1,h2⟩ := List.pairwise_cons.1 hs
  have hx := hb x (by simp)
  have ih := sum_lives F h0 L h2 fun y hy => hb y (List.mem_cons_of_mem _ hy)
  have hnone : lifeM L x.backend = default := by
   rcases life_cases L x.backend with ⟨y,hy,e,_⟩ | ⟨_,e⟩
   ·have := h1 y hy;omega
   ·exact e
  have e1 : sumR (fun b => F (lifeM (x :: L) b)) 12 = sumR (fun b => if b = x.backend.toNat then F x else F (lifeM L b)) 12 := by
   refine sumR_congr 12 fun b hb => ?_
   rw [life_cons]
   by_cases e : x.backend = (b : Int)
   ·rw [if_pos e,if_pos (by omega)]
   ·rw [if_neg e,if_neg (by omega)]
  rw [e1,sumR_upd (fun b => F (lifeM L b)) x.backend.toNat (F x) (by
   show F (lifeM L (x.backend.toNat : Nat)) = 0
   rw [show ((x.backend.toNat : Nat) : Int) = x.backend by omega,hnone,h0]),ih,if_pos (by omega),List.map_cons,List.sum_cons]
  omega
theorem sumW_filter (g : Gt) (but : Int) : ∀ L : List Lif,sumW ((L.filter fun x => decide (x.state = 2)).map (loadOf g but)) = (L.map (wX g)).sum
 | [] => rfl
 | x :: L => by
  have ih := sumW_filter g but L
  rw [List.filter_cons,List.map_cons,List.sum_cons]
  by_cases h2 : x.state = 2
  ·rw [if_pos (by simpa using h2),List.map_cons]
   unfold sumW at ih ⊢
   rw [List.map_cons,List.sum_cons,ih]
   congr 1
   show (if isOut g.hl x.backend = true then (0 : Int) else rampM x.weight x.since g.now g.c.c4) = _
   unfold wX
   cases isOut g.hl x.backend <;> simp [h2]
  ·rw [if_neg (by simpa using h2),ih]
   unfold wX
   rw [if_neg (fun h => h2 h.1)];omega
theorem Mid.total {g : Gt} {n : Nat} {ex : Int} (h : Mid g n ex) (but : Int) : sumW (loadsM g but) = totalM g := by
 unfold loadsM totalM weightM
 rw [sumW_filter,sum_lives (wX g) (by unfold wX;rw [if_neg];rintro ⟨h,_⟩;cases h) g.L h.bk.sorted fun x hx => ⟨(h.bk.lok x hx).b0,(h.bk.lok x hx).b1⟩]
theorem Mid.weight {g : Gt} {n : Nat} {ex : Int} (h : Mid g n ex) (b : Int) : 0 ≤ weightM g b ∧ weightM g b ≤ 8 := by
 unfold weightM wX
 split
 ·rename_i hc
  obtain ⟨hm,_⟩ := state_mem (L := g.L) (b := b) (by unfold stateM;omega)
  have ho := h.bk.lok _ hm
  have := ramp_bd ho.w0 (h.since _ hm) h.c.w4.1
  have := ho.w1
  omega
 ·omega
theorem P_share {g : Gt} {n : Nat} (h : Rest g n) (h0 : g.out = []) {e : Evt} (he : EvtOk e) (hn : n + 1 ≤ 1000000) {o : Outp} (ho : o ∈ (g.step e).out) (hk : o.kind = 1) :
  1 ≤ weightM g o.backend ∧ weightM g o.backend ≤ totalM g ∧ totalM g ≤ 96 ∧ (flowsM (g.step e).fl o.backend : Int) ≤ capZ g.c.num g.c.den g.fl.length (weightM g o.backend) (totalM g) ∧
   ∀ b : Nat,b < 12 → weightM g b = totalM g → (b : Int) = o.backend := by
 obtain ⟨s,hs,x,hx,e1,_,_,_,q1,q2,q3,q4⟩ := P_accept h h0 he hn ho hk
 have hob : o.backend = x.backend := by rw [e1]
 rw [hob]
 have hl := life_mem h.mid.bk.sorted hx
 have hw : weightM g x.backend = rampM x.weight x.since g.now g.c.c4 := by unfold weightM wX;rw [hl,if_pos ⟨q1,q2⟩]
 have hlo := h.mid.bk.lok x hx
 have hr := ramp_bd hlo.w0 (h.mid.since x hx) h.mid.c.w4.1
 rw [h.mid.total,← hw] at q4
 have hnn : ∀ b : Nat,0 ≤ weightM g b := fun b => (h.mid.weight b).1
 have hb0 := hlo.b0
 have hb1 := hlo.b1
 have hxn : ((x.backend.toNat : Nat) : Int) = x.backend := by omega
 have h1 : weightM g x.backend ≤ totalM g := by
  have := sumR_le hnn 12 x.backend.toNat (by omega)
  rw [hxn] at this;exact this
 refine ⟨by omega,h1,?_,by rw [q3];omega,fun b hb he2 => ?_⟩
 ·have : ∀ n,sumR (fun b : Nat => weightM g b) n ≤ 8 * n := fun n => by
   induction n with
   | zero => simp [sumR]
   | succ n ih => simp only [sumR];have := (h.mid.weight n).2;omega
  have := this 12
  unfold totalM;omega
 ·rcases Decidable.em ((b : Int) = x.backend) with e | e
  ·exact e
  ·exfalso
   have := sumR_two hnn 12 b x.backend.toNat hb (by omega) (by omega)
   rw [hxn] at this
   have : weightM g b + weightM g x.backend ≤ totalM g := this
   omega
end Go.Proofs.YtibemmkfcjlmpaaGreat
namespace Go.Proofs.YtibemmkfcjlmpaaGreat
open Go.RowKit
attribute [local simp] AK_at acode_seq acode_region acode_draw acode_cond CB_u acode_block acode_loop acode_exit acode_scope acode_ret acode_skip seqQ_n seqQ_e seqQ_r blockQ_n blockQ_e blockQ_r TK_at OK_at SK_at aops_nil aops_cons asch_done asch_one asch_two asch_top astep aop_eq isLoud aloud aloud1 isWrite qv evS strip gof eget hget putO eput herase oks opnds gS afin afin0 binD arith D.cells takeD fillD keep trim envOf Fin aresl aresv resD argOk pickV isP deq deqs boundD slD lenD isT isSl ptrIds chunks mn_min mx_max splice_one splice_more Rbr_at Rfr_at frR frV frC flatC brwR brwV brwC omap leR leV leC leL leVL rnR rnV rnC rnO rho_0 hputs herases rnS LtS LtR LtV LtC LtO lget noV noC flatR flatV rho
attribute [local simp ↓] CB_t CB_f
def flowsN (fl : List Flw) (b : Int) : Nat := fl.countP fun f => decide (f.backend = b)
theorem flows_take (fl : List Flw) (b : Int) (i : Nat) (h : i < fl.length) : ((flowsN (fl.take (i + 1)) b : Nat) : Int) = (flowsN (fl.take i) b : Nat) + if fl[i].backend = b then 1 else 0 := by
 unfold flowsN
 rw [List.take_succ_eq_append_getElem h,List.countP_append,List.countP_cons,List.countP_nil]
 split <;> simp_all
theorem uflows_code : cfun Tryz.prog [] 27 = some ⟨(.seq (qR 0 [oB 2 0,oK 4 0]) (.seq (qR 1 [oK 5 0]) (.seq (.seq (qR 2 [oK 6 0]) (.block 0 (.loop (.seq (.seq (qR 3 [oM 7 6,oF 8 18 2,oL 9 1 8,oH 10 9,oX 11 (.bin .lss (.t 7) (.t 10))]) (.cond 11 .skip (.exit 0))) (.seq (.block 1 (.seq (qR 5 [oF 14 18 2,oL 15 1 14,oM 16 6,oI 17 7 15 16,oF 18 3 17,oL 19 1 18,oM 20 1,oX 21 (.bin .eql (.t 19) (.t 20))]) (.cond 21 (qR 6 [oM 22 5,oX 23 (.bin .add (.t 22) (kI 1)),oM 5 23]) .skip))) (qR 4 [oM 12 6,oX 13 (.bin .add (.t 12) (kI 1)),oM 6 13])))))) (.seq (qR 7 [oM 24 5,oM 4 24]) .ret)))),[(.t 4)],25⟩ := by kernel_rfl
theorem uflows_pf (g : Gt) (b : Int) (hl : g.fl.length ≤ 1000000) : PF Tryz.prog 27 [.agg g.W,I b] (I (flowsN g.fl b : Nat)) := by
 refine pO (h3 := by simp [Gt.W,Gt.cells]) uflows_code [0,1,2,4,5,6,11,21] [] fun B hBN hB0 => ?_
 simp [Gt.W,Gt.cells]
 refine W.loopS (fun y : Nat => ⟨[(6,I y),(5,I (flowsN (g.fl.take y) b : Nat)),(2,.ptr 0 0),(1,I b)],[(0,.cells g.W)],1⟩)
  (fun m i => m = g.fl.length - i ∧ i ≤ g.fl.length) ?_ ?_
 ·exact ⟨_,0,(gr0 [0] hB0 (by simp [Gt.W,Gt.cells,flowsN]) (by simp [Gt.W,Gt.cells,flowsN]) (.inl (by simp [Gt.W,Gt.cells,flowsN]))),rfl,by omega⟩
 rintro m i ⟨hm,hi⟩
 refine acode_sound [0,1,2,4,5,6,11,21] [] _ _ _ ?_
 (try dsimp only)
 by_cases hlt : i < g.fl.length
 ·have ht := flows_take g.fl b i hlt
  have hle : flowsN (g.fl.take i) b ≤ (g.fl.take i).length := List.countP_le_length
  rw [List.length_take] at hle
  obtain ⟨x,hx⟩ : ∃ x,x = g.fl[i] := ⟨_,rfl⟩
  rw [← hx] at ht
  have ii : InR ((i : Int) + 1) := inW (by omega) (by omega)
  have ic : InR ((flowsN (g.fl.take i) b : Int) + 1) := inW (by omega) (by omega)
  by_cases e : x.backend = b
  ·rw [if_pos e] at ht
   simp [Gt.W,Gt.cells,hlt,← hx,Flw.D,e,ii,ic]
   exact ⟨_,i + 1,(gr0 [0] hB0 (by simp [Gt.W,Gt.cells,ht]) (by simp [Gt.W,Gt.cells,ht]) (.inl (by simp [Gt.W,Gt.cells,ht]))),by omega,rfl,by omega⟩
  ·rw [if_neg e,Int.add_zero] at ht
   simp [Gt.W,Gt.cells,hlt,← hx,Flw.D,e,ii]
   exact ⟨_,i + 1,(gr0 [0] hB0 (by simp [Gt.W,Gt.cells,ht]) (by simp [Gt.W,Gt.cells,ht]) (.inl (by simp [Gt.W,Gt.cells,ht]))),by omega,rfl,by omega⟩
 ·obtain rfl : i = g.fl.length := by omega
  rw [List.take_length]
  simp [Gt.W,Gt.cells]
end Go.Proofs.YtibemmkfcjlmpaaGreat
namespace Go.Proofs.YtibemmkfcjlmpaaGreat
open Go.RowKit
theorem StpOk.facts {c : Cfg} {s : Stp} {k : Nat} (h : StpOk c s k) : ∃ n,n + 1 ≤ 1000000 ∧ Rest s.before n ∧ Rest (s.before.step s.ev) (n + 1) := by
 obtain ⟨n,hn,hr⟩ := h.ex
 have := h.kk
 exact ⟨n,by omega,hr,hr.step h.ev.ok (by omega)⟩
structure PK (p : Ply) : Prop where
 c : p.c.Ok
 inv : ∃ k,k ≤ 1000 ∧ PV p k
 sl : p.steps.length ≤ 1000
 gl : p.given.length ≤ 2000000
theorem PK.st {p : Ply} (h : PK p) {i : Nat} (hi : i < p.steps.length) : ∃ k,StpOk p.c p.steps[i] k := by
 obtain ⟨k,_,hk⟩ := h.inv
 exact ⟨k,hk.sts _ (List.getElem_mem hi)⟩
theorem top_start (s : List Int) (l : List (List Int)) (hs : s.length = 16 ∧ ∀ z ∈ s,InR z) (hl : l.length ≤ Go.maxLen) (hr : ∀ r ∈ l,r.length = 4 ∧ ∀ z ∈ r,InR z) :
  ∃ p : Ply,PK p ∧ HF Tryz.prog 23 [.agg (s.map I),.rows 4 (l.map fun r => r.map I),I 60] [] 0 (fun d H' nx' => d = .tup [.ptr 0 0,.bool true] ∧ H' = p.H 1 2 ∧ nx' = 3) := by
 obtain ⟨c,hc,_,hpl⟩ := played_hf s l 60 hs hl hr (by omega)
 have hP := deeds_PR (play4_PR hc) (l.take 60) (l.take 60).length (Nat.le_refl _) (by rw [List.length_take];omega)
 rw [List.take_length] at hP
 have hlt : (l.take 60).length ≤ 60 := by rw [List.length_take];omega
 refine ⟨playedM c l 60,⟨?_,⟨_,?_,hP.inv⟩,?_,?_⟩,hpl⟩
 ·have h1 := hP.inv.cfg
  have h2 := hP.inv.rest.mid.c
  rw [h1] at h2;exact h2
 ·omega
 ·have := hP.sl;unfold playedM;omega
 ·have := hP.gl;unfold playedM;omega
theorem flows_eq (fl : List Flw) (b : Int) : flowsN fl b = flowsM fl b := rfl
end Go.Proofs.YtibemmkfcjlmpaaGreat
namespace Go.Proofs.YtibemmkfcjlmpaaGreat
open Go.RowKit
attribute [local simp] AK_at acode_seq acode_region acode_draw acode_cond CB_u acode_block acode_loop acode_exit acode_scope acode_ret acode_skip seqQ_n seqQ_e seqQ_r blockQ_n blockQ_e blockQ_r TK_at OK_at SK_at aops_nil aops_cons asch_done asch_one asch_two asch_top astep aop_eq isLoud aloud aloud1 isWrite qv evS strip gof eget hget putO eput herase oks opnds gS afin afin0 binD arith D.cells takeD fillD keep trim envOf Fin aresl aresv resD argOk pickV isP deq deqs boundD slD lenD isT isSl ptrIds chunks mn_min mx_max splice_one splice_more Rbr_at Rfr_at frR frV frC flatC brwR brwV brwC omap leR leV leC leL leVL rnR rnV rnC rnO rho_0 hputs herases rnS LtS LtR LtV LtC LtO lget noV noC flatR flatV rho
attribute [local simp ↓] CB_t CB_f
theorem uweight_code : cfun Tryz.prog [] 25 = some ⟨(.seq (qR 0 [oB 2 0,oK 4 0]) (.seq (.seq (qR 1 [oK 5 0]) (.block 0 (.loop (.seq (.seq (qR 2 [oM 9 5,oF 10 19 2,oF 11 0 10,oL 12 1 11,oH 13 12,oX 14 (.bin .lss (.t 9) (.t 13))]) (.cond 14 .skip (.exit 0))) (.seq (.block 1 (.seq (qR 4 [oF 17 19 2,oF 18 0 17,oL 19 1 18,oM 20 5,oI 21 6 19 20,oA 22 6 21,oX 6 (.alloc [qZ,qZ,qZ,qZ,qZ,qZ]),oS 6 6 22]) (.seq (.seq (qR 5 [oF 23 0 6,oL 24 1 23,oM 25 1,oX 26 (.bin .neq (.t 24) (.t 25)),oM 27 26,oG 28 (.fad 1 (.t 6)) 27 false,oG 29 (.load false 1 (.t 28)) 27 false,oG 30 (.bin .neq (.t 29) (kI 2)) 27 false,oX 31 (.pick (.t 27) (.k qT) (.t 30)),oM 32 31,oG 33 (.mov (.t 1)) 32 false,oG 34 (.fad 22 (.t 2)) 32 false,oG 35 (.load false 1 (.t 34)) 32 false,oG 36 (.len (.t 35)) 32 false,oG 37 (.bin .geq (.t 33) (.t 36)) 32 false,oX 38 (.pick (.t 32) (.k qT) (.t 37)),oM 39 38,oG 40 (.fad 22 (.t 2)) 39 false,oG 41 (.load false 1 (.t 40)) 39 false,oG 42 (.mov (.t 1)) 39 false,oG 43 (.iads 4 (.t 41) (.t 42)) 39 false,oG 44 (.fad 1 (.t 43)) 39 false,oG 45 (.load false 1 (.t 44)) 39 false,oX 46 (.pick (.t 39) (.k qT) (.t 45))]) (.cond 46 (.exit 1) .skip)) (.seq (qR 6 [oF 48 2 6,oL 49 1 48,oF 50 3 6,oL 51 1 50,oF 52 16 2,oL 53 1 52,oF 54 0 2,oF 55 4 54,oL 56 1 55,oX 57 (.call 43 [(.t 49),(.t 51),(.t 53),(.t 56)]),oM 47 57,oE 58 47 0,oE 59 47 1,oM 7 58,oM 8 59]) (.seq (qR 7 [oM 60 8,oX 61 (.bin .eql (.t 60) (kI 0))]) (.cond 61 (.seq (qR 8 [oM 62 7,oM 4 62]) .ret) .skip)))))) (qR 3 [oM 15 5,oX 16 (.bin .add (.t 15) (kI 1)),oM 5 16])))))) (.seq (qR 9 [oK 4 0]) .ret))),[(.t 4)],63⟩ := by kernel_rfl
theorem uweight_pf {g : Gt} {n : Nat} {ex : Int} (h : Mid g n ex) (k : Nat) (hk12 : k < 12) : PF Tryz.prog 25 [.agg g.W,I k] (I (weightM g k)) := by
 have hl := h.bk.ll
 have hkl : k < g.hl.length := by have := h.hn;omega
 have hkg : ¬ (g.hl.length : Int) ≤ k := by omega
 have hkg2 : ¬ g.hl.length ≤ k := by omega
 obtain ⟨q,hq⟩ : ∃ q,q = g.hl[k] := ⟨_,rfl⟩
 obtain ⟨b,hk⟩ : ∃ b : Int,b = (k : Nat) := ⟨_,rfl⟩
 rw [← hk]
 refine pO (h3 := by simp [Gt.W,Gt.cells]) uweight_code [0,1,2,4,5,6,7,8,14,46,61] [] fun B hBN hB0 => ?_
 simp [Gt.W,Gt.cells,hk]
 refine W.loopS (fun y : Nat => ⟨[(5,I y),(2,.ptr 0 0),(1,I k)],[(0,.cells g.W)],1⟩)
  (fun m i => m = g.L.length - i ∧ i ≤ g.L.length ∧ ∀ j (hj : j < g.L.length),j < i → g.L[j].backend = b → weightM g b = 0) ?_ ?_
 ·exact ⟨_,0,(gr0 [0] hB0 (by simp [Gt.W,Gt.cells]) (by simp [Gt.W,Gt.cells]) (.inl (by simp [Gt.W,Gt.cells]))),rfl,by omega,fun j _ h => by omega⟩
 rintro m i ⟨hm,hi,hb⟩
 refine acode_sound [0,1,2,4,5,6,7,8,14,46,61] [] _ _ _ ?_
 (try dsimp only)
 by_cases hlt : i < g.L.length
 ·have hmem : g.L[i] ∈ g.L := List.getElem_mem hlt
  have hlo := h.bk.lok _ hmem
  have hsi := h.since _ hmem
  have hlf : lifeM g.L g.L[i].backend = g.L[i] := life_mem h.bk.sorted hmem
  have ii : InR ((i : Int) + 1) := inW (by omega) (by omega)
  have hnx : (g.L[i].backend = b → weightM g b = 0) → ∀ j (hj : j < g.L.length),j < i + 1 → g.L[j].backend = b → weightM g b = 0 := fun h0 j hj hji e => by
   by_cases hji2 : j = i
   ·subst hji2;exact h0 e
   ·exact hb j hj (by omega) e
  obtain ⟨x,hx⟩ : ∃ x,x = g.L[i] := ⟨_,rfl⟩
  rw [← hx] at hlo hsi hlf hnx
  by_cases e : x.backend = b
  ·have hw : weightM g b = if x.state = 2 ∧ isOut g.hl x.backend = false then rampM x.weight x.since g.now g.c.c4 else 0 := by
    unfold weightM wX;rw [← e,hlf]
   by_cases s2 : x.state = 2
   ·have hio : isOut g.hl x.backend = g.hl[k].out := by unfold isOut;rw [e,hk];simp [zC,hkl]
    rw [← hq] at hio
    cases hqo : q.out with
    | true =>
     rw [hio,hqo,if_neg (by simp)] at hw
     have hn2 := hnx (fun _ => hw)
     rw [hk] at e
     simp [Gt.W,Gt.cells,hlt,← hx,Lif.D,e,s2,hkl,hkg,hkg2,← hq,Hlth.D,hqo,ii]
     exact ⟨_,i + 1,(gr0 [0] hB0 (by simp [Gt.W,Gt.cells]) (by simp [Gt.W,Gt.cells]) (.inl (by simp [Gt.W,Gt.cells]))),by omega,rfl,by omega,hn2⟩
    | false =>
     rw [hio,hqo,if_pos ⟨s2,rfl⟩] at hw
     have hrw := rampw_pf x.weight x.since g.now g.c.c4 hlo.w0 hlo.w1 hlo.s0 hsi (by have := h.n1;have := h.nn;omega) h.c.w4.1 h.c.w4.2
     rw [← hw] at hrw
     rw [hk] at hrw e ⊢
     repeat' (first
      | simp [Gt.W,Gt.cells,hlt,← hx,Lif.D,e,s2,hkl,hkg,hkg2,← hq,Hlth.D,hqo,Cfg.D]
      | refine ⟨wcS ?_,?_⟩
      | (refine WCall.pf (hrw) ?_ ?_ ?_ ?_;iterate 3 (solve|simp [Gt.W,Gt.cells,hlt,← hx,Lif.D,e,s2,hkl,hkg,hkg2,← hq,Hlth.D,hqo,Cfg.D]))
      | with_reducible refine aI ?_ ?_ ?_)
   ·rw [if_neg (fun h => s2 h.1)] at hw
    have hn2 := hnx (fun _ => hw)
    rw [hk] at e
    simp [Gt.W,Gt.cells,hlt,← hx,Lif.D,e,s2,hkl,hkg,hkg2,← hq,Hlth.D,ii]
    exact ⟨_,i + 1,(gr0 [0] hB0 (by simp [Gt.W,Gt.cells]) (by simp [Gt.W,Gt.cells]) (.inl (by simp [Gt.W,Gt.cells]))),by omega,rfl,by omega,hn2⟩
  ·have hn2 := hnx (fun h => absurd h e)
   rw [hk] at e
   simp [Gt.W,Gt.cells,hlt,← hx,Lif.D,e,hkl,hkg,hkg2,← hq,Hlth.D,ii]
   exact ⟨_,i + 1,(gr0 [0] hB0 (by simp [Gt.W,Gt.cells]) (by simp [Gt.W,Gt.cells]) (.inl (by simp [Gt.W,Gt.cells]))),by omega,rfl,by omega,hn2⟩
 ·have hs : weightM g b = 0 := by
   rcases life_cases g.L b with ⟨x,hx,e,_⟩ | ⟨_,hd⟩
   ·obtain ⟨j,hj⟩ := zF hx
    obtain ⟨hj2,rfl⟩ := zB.1 hj
    exact hb j hj2 (by omega) e
   ·unfold weightM wX;rw [hd,if_neg];rintro ⟨h,_⟩;cases h
  obtain rfl : i = g.L.length := by omega
  rw [hk] at hs
  simp [Gt.W,Gt.cells,hs]
theorem sumR_le8 {g : Gt} {n : Nat} {ex : Int} (h : Mid g n ex) : ∀ k,0 ≤ sumR (fun b : Nat => weightM g b) k ∧ sumR (fun b : Nat => weightM g b) k ≤ 8 * k := fun k => by
 induction k with
 | zero => simp [sumR]
 | succ k ih => simp only [sumR];have := h.weight k;omega
theorem utotal_code : cfun Tryz.prog [] 26 = some ⟨(.seq (qR 0 [oB 1 0,oK 2 0]) (.seq (qR 1 [oK 3 0]) (.seq (.seq (qR 2 [oK 4 0]) (.block 0 (.loop (.seq (.seq (qR 3 [oM 5 4,oX 6 (.bin .lss (.t 5) (kI 12))]) (.cond 6 .skip (.exit 0))) (.seq (.block 1 (qR 5 [oM 9 3,oA 10 26 1,oM 11 4,oX 12 (.call 25 [(.t 10),(.t 11)]),oX 13 (.bin .add (.t 9) (.t 12)),oM 3 13])) (qR 4 [oM 7 4,oX 8 (.bin .add (.t 7) (kI 1)),oM 4 8])))))) (.seq (qR 6 [oM 14 3,oM 2 14]) .ret)))),[(.t 2)],15⟩ := by kernel_rfl
theorem utotal_pf {g : Gt} {n : Nat} {ex : Int} (h : Mid g n ex) : PF Tryz.prog 26 [.agg g.W] (I (totalM g)) := by
 refine pO (h3 := by simp [Gt.W,Gt.cells]) utotal_code [0,1,2,3,4,6] [] fun B hBN hB0 => ?_
 simp [Gt.W,Gt.cells]
 refine W.loopS (fun y : Nat => ⟨[(4,I y),(3,I (sumR (fun b : Nat => weightM g b) y)),(1,.ptr 0 0)],[(0,.cells g.W)],1⟩)
  (fun m i => m = 12 - i ∧ i ≤ 12) ?_ ?_
 ·exact ⟨_,0,(gr0 [0] hB0 (by simp [Gt.W,Gt.cells,sumR]) (by simp [Gt.W,Gt.cells,sumR]) (.inl (by simp [Gt.W,Gt.cells,sumR]))),rfl,by omega⟩
 rintro m i ⟨hm,hi⟩
 refine acode_sound [0,1,2,3,4,6] [] _ _ _ ?_
 (try dsimp only)
 have hsb := sumR_le8 h i
 by_cases hlt : i < 12
 ·have hc := uweight_pf h i hlt
  simp only [Gt.W,Gt.cells] at hc
  have hsu : sumR (fun b : Nat => weightM g b) (i + 1) = sumR (fun b : Nat => weightM g b) i + weightM g i := rfl
  have hwi := h.weight i
  generalize sumR (fun b : Nat => weightM g b) i = a at hsu hsb ⊢
  have ii : InR ((i : Int) + 1) := inW (by omega) (by omega)
  have ia : InR (a + weightM g i) := inW (by omega) (by omega)
  have hz : (i : Int) < 12 := by omega
  repeat' (first
   | simp [Gt.W,Gt.cells,hlt,hz,ii,ia]
   | refine ⟨wcS ?_,?_⟩
   | (refine WCall.pf (hc) ?_ ?_ ?_ ?_;iterate 3 (solve|simp [Gt.W,Gt.cells,hlt,hz,ii,ia]))
   | with_reducible refine aI ?_ ?_ ?_)
  all_goals exact ⟨_,i + 1,(gr0 [0] hB0 (by simp [Gt.W,Gt.cells,hsu]) (by simp [Gt.W,Gt.cells,hsu]) (.inl (by simp [Gt.W,Gt.cells,hsu]))),by omega,rfl,by omega⟩
 ·obtain rfl : i = 12 := by omega
  have ht : totalM g = sumR (fun b : Nat => weightM g b) 12 := rfl
  rw [← ht]
  simp [Gt.W,Gt.cells]
theorem tbou_code : cfun Tryz.prog [] 3 = some ⟨(.seq (qR 0 [oB 2 0,oX 4 (.mov (.k qF))]) (.seq (qR 1 [oA 13 16 2,oM 14 1,oX 15 (.call 23 [(.t 13),(.t 14),(kI 60)]),oM 12 15,oE 16 12 0,oE 17 12 1,oM 5 16,oM 6 17]) (.seq (.seq (qR 2 [oK 7 0]) (.block 0 (.loop (.seq (.seq (qR 3 [oM 18 7,oM 19 5,oN 20 19,oF 21 16 20,oL 22 1 21,oH 23 22,oX 24 (.bin .lss (.t 18) (.t 23))]) (.cond 24 .skip (.exit 0))) (.seq (.block 1 (.seq (qR 5 [oM 27 5,oN 28 27,oF 29 16 28,oL 30 1 29,oM 31 7,oI 32 61 30 31,oA 33 61 32,oX 8 (.alloc [qZ,qZ,qZ,qZ,qF,qZ,qZ,qZ,qZ,qZ,qZ,qZ,qZ,qZ,qZ,qZ,qZ,qZ,qZ,qZ,qZ,qZ,qZ,qZ,qZ,.nil0,.nil0,.nil0,.nil0,.nil0,.nil0,qZ,qZ,.nil0,qZ,qZ,qZ,qZ,qZ,qZ,qZ,qZ,qZ,qZ,qZ,qZ,qZ,qZ,qZ,qZ,qZ,.nil0,.nil0,.nil0,.nil0,.nil0,.nil0,qZ,qZ,.nil0,.nil0]),oS 61 8 33]) (.seq (.seq (qR 6 [oF 34 60 8,oL 35 1 34,oH 36 35,oX 37 (.bin .neq (.t 36) (kI 1)),oM 38 37,oG 39 (.fad 60 (.t 8)) 38 false,oG 40 (.load false 1 (.t 39)) 38 false,oG 41 (.iads 7 (.t 40) (kI 0)) 38 false,oG 42 (.fad 0 (.t 41)) 38 false,oG 43 (.load false 1 (.t 42)) 38 false,oG 44 (.bin .neq (.t 43) (kI 1)) 38 false,oX 45 (.pick (.t 38) (.k qT) (.t 44))]) (.cond 45 (.exit 1) .skip)) (.seq (qR 7 [oF 46 60 8,oL 47 1 46,oX 48 (.iads 7 (.t 47) (kI 0)),oF 49 3 48,oL 50 1 49,oM 9 50]) (.seq (.draw 8 (qN (oM 52 5) (qN (oN 53 52) (qN (oF 54 0 53) (qN (oF 55 1 54) (qN (oL 56 1 55) (qN (oM 57 5) (qN (oN 58 57) (qN (oF 59 0 58) (qN (oF 60 2 59) (qN (oL 61 1 60) (qN (oF 62 8 8) (qN (oF 63 18 62) (qN (oL 64 1 63) (qN (oH 65 64) (qN (oF 66 8 8) (qN (oA 67 26 66) (qN (oM 68 9) (qN (oF 71 8 8) (qN (oA 72 26 71) (qN (oX 69 (.call 25 [(.t 67),(.t 68)])) (qN (oX 70 (.mx (.t 69) (kI 1))) (qN (oX 73 (.call 26 [(.t 72)])) (qN (oX 74 (.mx (.t 73) (kI 1))) (qN (oX 75 (.call 24 [(.t 56),(.t 61),(.t 65),(.t 70),(.t 74)])) (qN (oM 51 75) (qN (oE 76 51 0) (qN (oE 77 51 1) (qN (oM 10 76) (qN (oM 11 77) .done)))))))))))))))))))))))))))))) (.seq (qR 9 [oM 78 11,oX 79 (.bin .neq (.t 78) (kI 0)),oM 80 79,oG 81 (.fad 34 (.t 8)) 80 false,oG 82 (.load true 26 (.t 81)) 80 false,oG 83 (.mov (.t 9)) 80 false,oG 84 (.call 27 [(.t 82),(.t 83)]) 80 false,oG 85 (.mov (.t 10)) 80 false,oG 86 (.bin .gtr (.t 84) (.t 85)) 80 false,oX 87 (.pick (.t 80) (.k qT) (.t 86)),oM 88 87,oG 89 (.fad 8 (.t 8)) 88 false,oG 90 (.load true 26 (.t 89)) 88 false,oG 91 (.mov (.t 9)) 88 false,oG 92 (.call 25 [(.t 90),(.t 91)]) 88 false,oG 93 (.bin .eql (.t 92) (kI 0)) 88 false,oX 94 (.pick (.t 88) (.k qT) (.t 93))]) (.cond 94 (.seq (qR 10 [oX 4 (.mov (.k qF))]) .ret) .skip))))))) (qR 4 [oM 25 7,oX 26 (.bin .add (.t 25) (kI 1)),oM 7 26])))))) (.seq (qR 11 [oM 95 6,oM 4 95]) .ret)))),[(.t 4)],96⟩ := by kernel_rfl
theorem tbou_pf (s : List Int) (l : List (List Int)) (hs : s.length = 16 ∧ ∀ z ∈ s,InR z) (hl : l.length ≤ Go.maxLen) (hr : ∀ r ∈ l,r.length = 4 ∧ ∀ z ∈ r,InR z) :
  PF Tryz.prog 3 [.agg (s.map I),.rows 4 (l.map fun r => r.map I)] (.bool true) := by
 obtain ⟨p,hK,hpl⟩ := top_start s l hs hl hr
 obtain ⟨a0,a1,a2,a3,a4,a5,a6,a7,a8,a9,a10,a11,a12,a13,a14,a15,rfl⟩ := sixteen hs.1
 obtain ⟨P,hP⟩ : ∃ P,P = p.P := ⟨_,rfl⟩
 have hP' := hP
 simp only [Ply.P,Ply.cells,Cfg.D,Gt.W,Gt.cells,List.cons_append,List.nil_append] at hP'
 simp only [Ply.H,Ply.cells,Cfg.D,Gt.W,Gt.cells,List.cons_append,List.nil_append] at hpl
 refine pO tbou_code [0,1,2,4,5,6,7,8,9,10,11,24,45,94] [2] fun B hBN hB0 => ?_
 simp
 refine WCall.hf0 hpl (by simp) (by simp) (by simp) (by simp) ?_
 rintro d H' nx' ⟨rfl,rfl,rfl⟩
 simp
 refine W.freeze [1,2,3] ?_
 simp [freeze,hkeep,hdrop,fzS,fzR,fzV,fzC,fzO]
 rw [← hP']
 clear hpl hs hr hl
 refine acode_sound [0,1,2,4,5,6,7,8,9,10,11,24,45,94] [] _ _ _ ?_
 simp
 refine W.loopS (fun y : Nat => ⟨[(7,I y),(6,.bool true),(5,.pc P)],[],0⟩)
  (fun m i => m = p.steps.length - i ∧ i ≤ p.steps.length) ?_ ?_
 ·exact ⟨_,0,(gr0 [] hB0 (by simp) (by simp) (.inr rfl)),rfl,by omega⟩
 rintro m i ⟨hm,hi⟩
 refine acode_sound [0,1,2,4,5,6,7,8,9,10,11,24,45,94] [] _ _ _ ?_
 by_cases hlt : i < p.steps.length
 ·have ii : InR ((i : Int) + 1) := inW (by have := hK.sl;omega) (by have := hK.sl;omega)
  obtain ⟨kk,hst⟩ := hK.st hlt
  obtain ⟨x,hx⟩ : ∃ x,x = p.steps[i] := ⟨_,rfl⟩
  rw [← hx] at hst
  obtain ⟨n,hn,hr1,hr2⟩ := hst.facts
  have hsh := fun o ho hk => P_share hr1 hst.lo hst.ev.ok hn (o := o) ho hk
  rw [← hst.out] at hsh
  have hst2 := hst.after
  by_cases hone : x.out.length = 1
  ·obtain ⟨o,ho⟩ : ∃ o,x.out = [o] := List.length_eq_one_iff.1 hone
   by_cases hk1 : o.kind = 1
   ·obtain ⟨h1,h2,h3,h4,h5⟩ := hsh o (by rw [ho];simp) hk1
    have hbb : 0 ≤ o.backend ∧ o.backend < 12 := by
     obtain ⟨hm,_⟩ := state_mem (L := x.before.L) (b := o.backend) (by
      intro h0
      have hz : weightM x.before o.backend = 0 := by
       unfold weightM wX
       rw [if_neg]
       rintro ⟨q,_⟩
       unfold stateM at h0;omega
      omega)
     have hlo := hr1.mid.bk.lok _ hm
     have := hlo.b0
     have := hlo.b1
     have e : (lifeM x.before.L o.backend).backend = o.backend := by
      rcases life_cases x.before.L o.backend with ⟨y,hy,e,e2⟩ | ⟨_,e⟩
      ·rw [e2];exact e
      ·exfalso
       have hz : weightM x.before o.backend = 0 := by unfold weightM wX;rw [e,if_neg];rintro ⟨q,_⟩;cases q
       omega
     omega
    obtain ⟨b,hb⟩ : ∃ b : Nat,o.backend = b := ⟨o.backend.toNat,by omega⟩
    rw [hb] at h1 h2 h4 h5
    have hfb : x.before.fl.length ≤ 40 := by have := fl_le hr1.mid.fs;have := hr1.mid.tok.2.1;omega
    have hfa : x.after.fl.length ≤ 1000000 := by
     rw [hst.after]
     have := fl_le hr2.mid.fs
     have := hr2.mid.tok.2.1
     show (x.before.step x.ev).fl.length ≤ _
     omega
    have c1 := uweight_pf hr1.mid b (by omega)
    have c2 := utotal_pf hr1.mid
    have c3 := uflows_pf x.after b hfa
    have c4 := cap_pf p.c.num p.c.den x.before.fl.length (weightM x.before b) (totalM x.before) hK.c.f (by omega) (by omega) h1 h2 h3
    have h4 : (flowsN x.after.fl b : Int) ≤ capZ p.c.num p.c.den x.before.fl.length (weightM x.before b) (totalM x.before) := by
     rw [hst.cfg] at h4
     rw [flows_eq,hst2]
     exact h4
    generalize weightM x.before b = w at c1 c4 h1 h2 h4 h5
    generalize totalM x.before = t at c2 c4 h2 h3 h4 h5
    generalize capZ p.c.num p.c.den x.before.fl.length w t = z at c4 h4
    generalize flowsN x.after.fl b = fa at c3 h4
    have m1 : max w 1 = w := by omega
    have m2 : max t 1 = t := by omega
    have n1 : ¬ w = 0 := by omega
    have n2 : ¬ z < (fa : Int) := by omega
    simp only [Gt.W,Gt.cells] at c1 c2 c3
    repeat' (first
     | simp [hP',hlt,← hx,Stp.D,Evt.D,Gt.W,Gt.cells,Cfg.D,ho,hk1,Outp.D,hb,m1,m2,n1,n2,ii]
     | refine ⟨wcS ?_,?_⟩
     | (refine WCall.pf (c1) ?_ ?_ ?_ ?_;iterate 3 (solve|simp [hP',hlt,← hx,Stp.D,Evt.D,Gt.W,Gt.cells,Cfg.D,ho,hk1,Outp.D,hb,m1,m2,n1,n2,ii]))
     | (refine WCall.pf (c2) ?_ ?_ ?_ ?_;iterate 3 (solve|simp [hP',hlt,← hx,Stp.D,Evt.D,Gt.W,Gt.cells,Cfg.D,ho,hk1,Outp.D,hb,m1,m2,n1,n2,ii]))
     | (refine WCall.pf (c3) ?_ ?_ ?_ ?_;iterate 3 (solve|simp [hP',hlt,← hx,Stp.D,Evt.D,Gt.W,Gt.cells,Cfg.D,ho,hk1,Outp.D,hb,m1,m2,n1,n2,ii]))
     | (refine WCall.pf (c4) ?_ ?_ ?_ ?_;iterate 3 (solve|simp [hP',hlt,← hx,Stp.D,Evt.D,Gt.W,Gt.cells,Cfg.D,ho,hk1,Outp.D,hb,m1,m2,n1,n2,ii]))
     | with_reducible refine aI ?_ ?_ ?_)
    all_goals rw [← hP']
    all_goals exact ⟨_,i + 1,(gr0 [] hB0 (by simp) (by simp) (.inr rfl)),by omega,rfl,by omega⟩
   ·simp [hP',hlt,← hx,Stp.D,Evt.D,Gt.W,Gt.cells,ho,hk1,Outp.D,ii]
    rw [← hP']
    exact ⟨_,i + 1,(gr0 [] hB0 (by simp) (by simp) (.inr rfl)),by omega,rfl,by omega⟩
  ·rcases hxo : x.out with _ | ⟨o,_ | ⟨o2,r⟩⟩
   ·simp [hP',hlt,← hx,Stp.D,Evt.D,Gt.W,Gt.cells,hxo,ii]
    rw [← hP']
    exact ⟨_,i + 1,(gr0 [] hB0 (by simp) (by simp) (.inr rfl)),by omega,rfl,by omega⟩
   ·rw [hxo] at hone;simp at hone
   ·have hone2 : ¬ ((r.length : Int) + 1 + 1 = 1) := by omega
    simp [hP',hlt,← hx,Stp.D,Evt.D,Gt.W,Gt.cells,hxo,hone2,Outp.D,ii]
    rw [← hP']
    exact ⟨_,i + 1,(gr0 [] hB0 (by simp) (by simp) (.inr rfl)),by omega,rfl,by omega⟩
 ·obtain rfl : i = p.steps.length := by omega
  simp [hP']
end Go.Proofs.YtibemmkfcjlmpaaGreat
