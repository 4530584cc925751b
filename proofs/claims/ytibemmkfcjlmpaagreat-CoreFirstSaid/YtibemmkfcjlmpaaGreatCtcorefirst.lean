/- What the program computes, step by step, and the rules for it. No condition of its own. -/
import Derived.Test.YtibemmkfcjlmpaaGreatCae
set_option linter.unusedSimpArgs false
set_option linter.unusedVariables false
set_option maxRecDepth 100000
set_option maxHeartbeats 8000000
namespace Go.Proofs.YtibemmkfcjlmpaaGreat
open Go.RowKit
def sumF (l : List Load) : Int := (l.map fun x => if 0 < x.weight then x.flows else 0).sum
theorem pk_ceil_ge (a b : Int) (hb : 0 < b) : a ≤ (a + b - 1) / b * b := by
 have h1 := Int.emod_add_mul_ediv (a + b - 1) b
 have h2 := Int.emod_lt_of_pos (a + b - 1) hb
 rw [Int.mul_comm]
 omega
theorem pk_capZ (num den flows weight total : Int) (hf : factorB num den = true) (h1 : 0 ≤ flows) (h3 : 1 ≤ weight) (h4 : weight ≤ total) : num * (flows + 1) * weight ≤ capZ num den flows weight total * (den * total) := by
 have hf' := of_decide_eq_true hf
 have b3 : 1 ≤ den * total := Int.mul_le_mul (a := 1) (b := 1) (by omega) (by omega) (by omega) (by omega)
 exact pk_ceil_ge _ _ (by omega)
theorem pk_sum (num den flows T : Int) (hf : factorB num den = true) (h1 : 0 ≤ flows) : ∀ (l : List Load),(∀ x ∈ l,0 ≤ x.weight ∧ x.weight ≤ T) → num * (flows + 1) * sumW l ≤ (l.map (capOf num den flows T)).sum * (den * T)
 | [],_ => by simp [sumW]
 | x :: t,h => by
  have ih := pk_sum num den flows T hf h1 t fun y hy => h y (List.mem_cons_of_mem _ hy)
  have hx := h x (by simp)
  simp only [sumW,List.map_cons,List.sum_cons] at ih ⊢
  rw [Int.mul_add,Int.add_mul]
  have : num * (flows + 1) * x.weight ≤ capOf num den flows T x * (den * T) := by
   unfold capOf
   split
   ·exact pk_capZ num den flows x.weight T hf h1 (by omega) hx.2
   ·have : x.weight = 0 := by omega
    rw [this];simp
  omega
def someW (x : Load) : Bool := decide (0 < x.weight)
theorem sumW_zero : ∀ {l : List Load},LOk l → (sumW l = 0 ↔ idxZ someW l < 0)
 | [],_ => by simp [sumW,idxZ]
 | x :: t,h => by
  have ih := sumW_zero (l := t) fun y hy => h y (List.mem_cons_of_mem _ hy)
  have hx := h x (by simp)
  have h2 := sumW_bd (l := t) fun y hy => by have := h y (List.mem_cons_of_mem _ hy);omega
  have hlo := idxZ_lo someW t
  have e : idxZ someW (x :: t) = if someW x = true then 0 else if idxZ someW t < 0 then -1 else idxZ someW t + 1 := rfl
  have e2 : sumW (x :: t) = x.weight + sumW t := by simp [sumW]
  rw [e,e2]
  by_cases hw : 0 < x.weight
  ·rw [if_pos (show someW x = true from decide_eq_true hw)];omega
  ·rw [if_neg (by simpa [someW] using hw)]
   split <;> omega
theorem pk_all (l : List Load) (c : Load → Int) (h : ∀ x ∈ l,(0 < x.weight → c x ≤ x.flows) ∧ (¬ 0 < x.weight → c x = 0)) : (l.map c).sum ≤ sumF l := by
 induction l with
 | nil => simp [sumF]
 | cons x t ih =>
  have ih := ih fun y hy => h y (List.mem_cons_of_mem _ hy)
  have hx := h x (by simp)
  simp only [sumF,List.map_cons,List.sum_cons] at ih ⊢
  split
  ·rename_i hw;have := hx.1 hw;omega
  ·rename_i hw;have := hx.2 hw;omega
theorem pk_room (l : List Load) (num den flows : Int) (hf : factorB num den = true) (hl : LOk l) (h0 : 0 ≤ flows) (hs : sumF l ≤ flows) (hw : sumW l ≠ 0) : ∃ i,∃ (h : i < l.length),0 < l[i].weight ∧ roomB l (capsOf l num den flows) i = true := by
 have hf' := of_decide_eq_true hf
 have hb := sumW_bd (l := l) fun y hy => by have := hl y hy;omega
 have h1 := pk_sum num den flows (sumW l) hf h0 l fun x hx => by
  have := hl x hx
  exact ⟨this.1,sumW_mem (fun y hy => by have := hl y hy;omega) x hx⟩
 refine Classical.byContradiction fun hno => ?_
 have h2 := pk_all l (capOf num den flows (sumW l)) fun x hx => by
  obtain ⟨i,hi⟩ := zF hx
  obtain ⟨hi2,rfl⟩ := zB.1 hi
  refine ⟨fun hw => ?_,fun hw => by simp [capOf,hw]⟩
  refine Classical.byContradiction fun hlt => hno ⟨i,hi2,hw,?_⟩
  unfold roomB
  refine decide_eq_true ?_
  simp only [List.getD,capsOf,zE hi2,List.getElem?_map,Option.map_some,Option.getD_some]
  omega
 have h3 : (l.map (capOf num den flows (sumW l))).sum ≤ flows := by omega
 have hT : 0 < sumW l := by omega
 have h4 : den * (flows + 1) * sumW l ≤ num * (flows + 1) * sumW l := Int.mul_le_mul_of_nonneg_right (Int.mul_le_mul_of_nonneg_right hf'.2.1 (by omega)) (by omega)
 have h5 : (l.map (capOf num den flows (sumW l))).sum * (den * sumW l) ≤ flows * (den * sumW l) := Int.mul_le_mul_of_nonneg_right h3 (Int.mul_nonneg (by omega) (by omega))
 have h6 : den * (flows + 1) * sumW l = flows * (den * sumW l) + den * sumW l := by
  rw [Int.mul_comm den (flows + 1),Int.mul_assoc,Int.add_mul,Int.one_mul]
 have h7 : 1 ≤ den * sumW l := Int.mul_le_mul (a := 1) (b := 1) (by omega) (by omega) (by omega) (by omega)
 omega
theorem pickI_at (walk : List Int) (l : List Load) (num den flows t : Int) (hf : factorB num den = true) (hl : LOk l) (h0 : 0 ≤ flows) (hs : sumF l ≤ flows) (hw : sumW l ≠ 0) :
  ∃ k : Nat,∃ (h : k < l.length),pickI walk l (capsOf l num den flows) t = k ∧ 0 < l[k].weight ∧ roomB l (capsOf l num den flows) k = true ∧ pickM walk l num den flows t = (l[k].backend,0) := by
 have hz : ¬ idxZ someW l < 0 := fun h => hw ((sumW_zero hl).2 h)
 have hp : pickM walk l num den flows t = if pickI walk l (capsOf l num den flows) t < 0 then (0,9) else ((l.getD (pickI walk l (capsOf l num den flows) t).toNat zload).backend,0) := by
  unfold pickM;exact if_neg hz
 have key : ∃ k : Nat,∃ (h : k < l.length),pickI walk l (capsOf l num den flows) t = k ∧ 0 < l[k].weight ∧ roomB l (capsOf l num den flows) k = true := by
  unfold pickI
  have halo := alongZ_lo l (capsOf l num den flows) walk t
  by_cases ha : alongZ l (capsOf l num den flows) walk t < 0
  ·rw [if_pos ha]
   obtain ⟨i,hi,h1,h2⟩ := pk_room l num den flows hf hl h0 hs hw
   obtain ⟨g1,g2⟩ := leastN_at l (capsOf l num den flows) hl l.length (Nat.le_refl _)
   have hlo := leastN_lo l (capsOf l num den flows) l.length
   by_cases hn : leastN l (capsOf l num den flows) l.length < 0
   ·rcases g1 hn i hi with h | h
    ·simp only [List.getD,zE hi,Option.getD_some] at h;omega
    ·rw [h] at h2;cases h2
   ·obtain ⟨k,hk⟩ : ∃ k : Nat,leastN l (capsOf l num den flows) l.length = k := ⟨(leastN l (capsOf l num den flows) l.length).toNat,by omega⟩
    obtain ⟨k1,k2,k3,_⟩ := g2 k hk
    simp only [List.getD,zE k1,Option.getD_some] at k2
    exact ⟨k,k1,hk,k2,k3⟩
  ·rw [if_neg ha]
   obtain ⟨k,hk⟩ : ∃ k : Nat,alongZ l (capsOf l num den flows) walk t = k := ⟨(alongZ l (capsOf l num den flows) walk t).toNat,by omega⟩
   obtain ⟨h1,h2,h3⟩ := alongZ_at _ _ _ _ _ hk
   exact ⟨k,h1,hk,h2,h3⟩
 obtain ⟨k,h1,h2,h3,h4⟩ := key
 refine ⟨k,h1,h2,h3,h4,?_⟩
 rw [hp,h2,if_neg (by omega)]
 simp [List.getD,h1]
theorem FlT.get {tb : List TSlot} {fl : List Flw} (h : FlT tb fl) {f : Flw} (hf : f ∈ fl) : getM tb f.slot f.gen = (⟨f.gen,true,f.key,f.backend⟩,0) := by
 have h1 := h.at_ f hf
 unfold getM
 rw [if_neg (by omega),h1.2.2]
 simp
def evClose (s g : Int) : Evt := ⟨3,0,s,g,false,0,0,0⟩
def evAns (s g : Int) (good : Bool) : Evt := ⟨4,0,s,g,good,0,0,0⟩
def evJoin (r b w : Int) : Evt := ⟨5,0,0,0,false,r,b,w⟩
theorem first_join {c : Cfg} (hc : c.Ok) {b w : Int} (b0 : 0 ≤ b) (b1 : b < 12) (w0 : 1 ≤ w) (w1 : w ≤ 8) :
  ((begM c).step (evJoin 1 b w)).out = [⟨8,0,0,0,1,0,0⟩] ∧ ((begM c).step (evJoin 1 b w)).fl = [] ∧ ((begM c).step (evJoin 1 b w)).L = [⟨b,1,w,0,0,0⟩] := by
 have hr : reqOf (evJoin 1 b w) = ⟨1,1,b,w,0⟩ := by simp [reqOf,evJoin]
 have ha : askM [] [] ⟨1,1,b,w,0⟩ 0 c.c5 = ⟨[⟨b,1,w,0,0,0⟩],[⟨1,1,b,w,0⟩],0,true⟩ := by
  unfold askM joinM
  rw [if_neg (by simp [idxZ]),if_neg (by simp),if_pos rfl]
  simp only
  rw [if_neg (by omega),if_neg (by simp [findM,idxZ])]
  simp
 have e : (begM c).step (evJoin 1 b w) = { begM c with L := [⟨b,1,w,0,0,0⟩],R := [⟨1,1,b,w,0⟩],out := [⟨8,0,0,0,1,0,0⟩] } := by
  unfold Gt.step
  rw [if_neg (by simp [evJoin]),if_pos (by simp [evJoin])]
  unfold Gt.ask
  simp only [hr]
  rw [show askM (begM c).L (begM c).R ⟨1,1,b,w,0⟩ (begM c).now (begM c).c.c5 = _ from ha]
  rw [if_pos (.inr (.inr (by simp [evJoin])))]
  rfl
 rw [e]
 exact ⟨rfl,rfl,rfl⟩
theorem first_tick {g : Gt} {n : Nat} (h : Rest g n) (hf : g.fl = []) {x : Lif} (hL : g.L = [x]) (hx : x.state = 1) (ho : g.out = []) :
  (g.step evTick).out = [] ∧ (g.step evTick).fl = [] ∧ (g.step evTick).L = [{ x with state := 2,since := g.now + 1 }] ∧ (g.step evTick).now = g.now + 1 ∧ (g.step evTick).hl = (wokenH [x.backend] g.hl).map fun h => (backH h (g.now + 1)).1 := by
 have e2 : g.step evTick = g.tick := by
  unfold Gt.step evTick
  rw [if_neg (by simp),if_neg (by simp),if_pos rfl]
 have ht := h.mid.tm_nil hf
 have hoff : offM g = [] := by unfold offM;rw [ht];rfl
 have hL0 : g.tick0.L = [{ x with state := 2,since := g.now + 1 }] := by show wakeM g.L _ = _;rw [hL];simp [wakeM,wakeX,hx]
 have e3 : g.tick = g.tick0 := by
  unfold Gt.tick
  rw [hoff]
  show (g.tick0).cuts g.tick0.L = _
  rw [hL0]
  unfold Gt.cuts
  rw [if_pos (.inl (by simp))];rfl
 rw [e2,e3]
 refine ⟨ho,hf,hL0,rfl,?_⟩
 show (wokenH (wokenM g.L) g.hl).map _ = _
 rw [hL]
 simp [wokenM,hx]
theorem first_open {g : Gt} {n : Nat} (h : Rest g n) (hf : g.fl = []) {x : Lif} (hL : g.L = [x]) (hx : x.state = 2) (hh : isOut g.hl x.backend = false) (hg : (g.tb.getD 0 tzero).gen = 0) (ho : g.out = []) (key : Int) (hn : n + 1 ≤ 1000000) :
  (g.step (evOpen key)).out = [⟨1,0,0,x.backend,0,0,0⟩] ∧ (∃ f,(g.step (evOpen key)).fl = [f] ∧ f.slot = 0 ∧ f.gen = 0 ∧ f.backend = x.backend ∧ f.serving = false) ∧ (g.step (evOpen key)).L = [x] := by
 have hm := h.mid
 have hfr := hm.free0 hf
 obtain ⟨l1,l2,l3⟩ := hm.loads (but := -1) (.inl (by omega))
 have hxm : x ∈ g.L := by rw [hL];simp
 have hld := hm.load (but := -1) (.inl (by omega)) hxm
 have hlo : loadsM g (-1) = [loadOf g (-1) x] := by unfold loadsM;rw [hL];simp [hx]
 have hcnt : cntB g.tb x.backend = 0 := by rw [hm.fs.cnt,hf];rfl
 have hfl0 : (loadOf g (-1) x).flows = 0 := by
  show (cntB g.tb x.backend : Int) - _ = 0
  rw [hcnt];simp
 have hp : (pickG g key (-1)).2 = 0 ∧ (pickG g key (-1)).1 = x.backend := by
  have hw := hld.2.2.2.2.1 hh
  have := pickI_at (walkK g.ws key) (loadsM g (-1)) g.c.num g.c.den ((g.fl.length : Int) - if (0 : Int) ≤ -1 then 1 else 0) g.c.tries hm.c.f l3 (by rw [hf];simp) (by rw [hlo,hf];simp [sumF,hfl0]) (by rw [hlo];simp [sumW];omega)
  obtain ⟨k,hk,_,_,_,e⟩ := this
  unfold pickG
  rw [e]
  refine ⟨rfl,?_⟩
  have hall : ∀ y ∈ loadsM g (-1),y = loadOf g (-1) x := fun y hy => by rw [hlo] at hy;simpa using hy
  rw [hall _ (List.getElem_mem hk)];rfl
 have e2 : g.step (evOpen key) = g.taken 0 key x.backend := by
  unfold Gt.step evOpen
  rw [if_pos rfl]
  unfold Gt.opened
  rw [hfr,if_neg (by omega),if_neg (by rw [hp.1];simp),hp.2]
  rfl
 rw [e2]
 unfold Gt.taken
 simp only [hg,ho,hf]
 exact ⟨by simp,⟨⟨0,0,key,x.backend,false,0,g.now + g.c.c7⟩,by simp [insF],rfl,rfl,rfl,rfl⟩,hL⟩
theorem first_answer {g : Gt} {n : Nat} (h : Rest g n) {f : Flw} (hf : g.fl = [f]) (s0 : f.slot = 0) (g0 : f.gen = 0) (hs : f.serving = false) (ho : g.out = []) :
  (g.step (evAns 0 0 true)).out = [⟨4,0,0,f.backend,0,0,0⟩] ∧ (∃ f',(g.step (evAns 0 0 true)).fl = [f'] ∧ f'.slot = 0 ∧ f'.gen = 0 ∧ f'.backend = f.backend) ∧ (g.step (evAns 0 0 true)).L = g.L := by
 have hfm : f ∈ g.fl := by rw [hf];simp
 have hget := h.mid.fs.get hfm
 rw [s0,g0] at hget
 have hi : findF g.fl 0 = 0 := by rw [hf];simp [findF,idxZ,s0]
 have e2 : g.step (evAns 0 0 true) = g.flow (evAns 0 0 true) := by unfold Gt.step evAns;rw [if_neg (by simp),if_neg (by simp),if_neg (by simp)]
 rw [e2]
 unfold Gt.flow
 simp only [evAns]
 rw [hget,if_neg (by simp)]
 simp only [hi]
 rw [if_neg (by simp),if_neg (by simp)]
 have hgd : g.fl.getD (0 : Int).toNat default = f := by rw [hf];rfl
 rw [hgd,if_neg (by rw [hs];simp),if_pos trivial]
 refine ⟨?_,⟨{ f with serving := true,due := g.now + g.c.c6 },?_,s0,g0,rfl⟩,rfl⟩
 ·show g.out ++ [_] = _;rw [ho];rfl
 ·have := (served_due g 0 (by rw [hf];simp) f.backend (g.now + g.c.c6) false).1
  show (((g.served (0 : Int).toNat).note f.backend false).dueA (0 : Int).toNat (g.now + g.c.c6)).fl = _
  rw [show (0 : Int).toNat = 0 from rfl,this,hf];rfl
theorem first_close {g : Gt} {n : Nat} (h : Rest g n) {f : Flw} (hf : g.fl = [f]) (s0 : f.slot = 0) (g0 : f.gen = 0) (hb : stateM g.L f.backend = 2) (ho : g.out = []) :
  (g.step (evClose 0 0)).out = [⟨7,0,0,f.backend,0,0,0⟩] := by
 have hfm : f ∈ g.fl := by rw [hf];simp
 have hget := h.mid.fs.get hfm
 rw [s0,g0] at hget
 have hi : findF g.fl 0 = 0 := by rw [hf];simp [findF,idxZ,s0]
 have e2 : g.step (evClose 0 0) = g.flow (evClose 0 0) := by unfold Gt.step evClose;rw [if_neg (by simp),if_neg (by simp),if_neg (by simp)]
 rw [e2]
 unfold Gt.flow
 simp only [evClose]
 rw [hget,if_neg (by simp)]
 simp only [hi]
 rw [if_pos trivial]
 have hgd : g.fl.getD (0 : Int).toNat default = f := by rw [hf];rfl
 unfold Gt.drop Gt.spared
 rw [hgd,if_neg (by rintro ⟨h1,_⟩;have h1 : stateM g.L f.backend = 3 := h1;omega)]
 unfold Gt.dropA
 rw [hgd]
 simp [ho,s0,g0]
theorem chk_close {s g : Int} (s0 : 0 ≤ s) (s1 : s ≤ 39) (g0 : 0 ≤ g) (g1 : g ≤ 1048576) : ChkE (evClose s g) := ⟨by simp [EvtOk,evClose],wcheck_pf .cl s g 0 ⟨⟨s0,s1⟩,g0,g1⟩⟩
theorem chk_ans {s g : Int} (b : Bool) (s0 : 0 ≤ s) (s1 : s ≤ 39) (g0 : 0 ≤ g) (g1 : g ≤ 1048576) : ChkE (evAns s g b) := ⟨by simp [EvtOk,evAns],by
 cases b with
 | true => exact wcheck_pf .an s g 1 ⟨⟨s0,s1⟩,⟨g0,g1⟩,by omega,by omega⟩
 | false => exact wcheck_pf .an s g 0 ⟨⟨s0,s1⟩,⟨g0,g1⟩,by omega,by omega⟩⟩
theorem chk_join {r b w : Int} (r0 : 0 ≤ r) (r1 : r ≤ 1048576) (b0 : 0 ≤ b) (b1 : b ≤ 11) (w0 : 1 ≤ w) (w1 : w ≤ 8) : ChkE (evJoin r b w) := ⟨by simp [EvtOk,evJoin];omega,wcheck_pf .jo r b w ⟨⟨r0,r1⟩,⟨b0,b1⟩,w0,w1⟩⟩
end Go.Proofs.YtibemmkfcjlmpaaGreat
namespace Go.Proofs.YtibemmkfcjlmpaaGreat
open Go.RowKit
attribute [local simp] AK_at acode_seq acode_region acode_draw acode_cond CB_u acode_block acode_loop acode_exit acode_scope acode_ret acode_skip seqQ_n seqQ_e seqQ_r blockQ_n blockQ_e blockQ_r TK_at OK_at SK_at aops_nil aops_cons asch_done asch_one asch_two asch_top astep aop_eq isLoud aloud aloud1 isWrite qv evS strip gof eget hget putO eput herase oks opnds gS afin afin0 binD arith D.cells takeD fillD keep trim envOf Fin aresl aresv resD argOk pickV isP deq deqs boundD slD lenD isT isSl ptrIds chunks mn_min mx_max splice_one splice_more Rbr_at Rfr_at frR frV frC flatC brwR brwV brwC omap leR leV leC leL leVL rnR rnV rnC rnO rho_0 hputs herases rnS LtS LtR LtV LtC LtO lget noV noC flatR flatV rho
attribute [local simp ↓] CB_t CB_f
theorem ask_tb (g : Gt) (e : Evt) : (g.ask e).tb = g.tb ∧ (g.ask e).hl = g.hl := by
 unfold Gt.ask
 dsimp only
 split
 ·exact ⟨rfl,rfl⟩
 ·split
  ·exact ⟨rfl,rfl⟩
  ·unfold Gt.spared
   split <;> exact ⟨rfl,rfl⟩
theorem join_tb (g : Gt) (r b w : Int) : (g.step (evJoin r b w)).tb = g.tb ∧ (g.step (evJoin r b w)).hl = g.hl := by
 unfold Gt.step
 rw [if_neg (by simp [evJoin]),if_pos (by simp [evJoin])]
 exact ask_tb g _
theorem tick_tb0 {g : Gt} {n : Nat} (h : Rest g n) (hf : g.fl = []) {x : Lif} (hL : g.L = [x]) (hx : x.state = 1) : (g.step evTick).tb = g.tb := by
 have e2 : g.step evTick = g.tick := by
  unfold Gt.step evTick
  rw [if_neg (by simp),if_neg (by simp),if_pos rfl]
 have ht := h.mid.tm_nil hf
 have hoff : offM g = [] := by unfold offM;rw [ht];rfl
 have hL0 : g.tick0.L = [{ x with state := 2,since := g.now + 1 }] := by show wakeM g.L _ = _;rw [hL];simp [wakeM,wakeX,hx]
 rw [e2]
 unfold Gt.tick
 rw [hoff]
 show ((g.tick0).cuts g.tick0.L).tb = _
 rw [hL0]
 unfold Gt.cuts
 rw [if_pos (.inl (by simp))];rfl
theorem back_z (t : Int) : (backH hzero t).1.out = false := by unfold backH;simp [hzero]
theorem calm_hl (b t : Int) (hl : List Hlth) (h : ∀ q ∈ hl,q = hzero) (c : Int) : isOut ((wokenH [b] hl).map fun h => (backH h t).1) c = false := by
 unfold isOut
 have key : ∀ q ∈ (wokenH [b] hl).map (fun h => (backH h t).1),q.out = false := fun q hq => by
  obtain ⟨q0,hq0,rfl⟩ := List.mem_map.1 hq
  rcases wokenH_mem _ _ _ hq0 with h1 | h1
  ·rw [h q0 h1];exact back_z t
  ·rw [h1];exact back_z t
 rw [zC]
 cases hg : ((wokenH [b] hl).map fun h => (backH h t).1)[c.toNat]? with
 | none => rfl
 | some q => exact key q (zD hg)
theorem cofst_code : cfun Tryz.prog [] 7 = some ⟨(.seq (qR 0 [oB 4 0,oX 8 (.mov (.k qF))]) (.seq (qR 1 [oA 24 16 4,oX 25 (.call 30 [(.t 24)]),oX 26 (.call 29 [(.t 25)]),oM 23 26,oE 27 23 0,oE 28 23 1,oX 9 (.alloc [qZ,qZ,qZ,qZ,qZ,qZ,qZ,qZ,qZ,qZ,qZ,qZ,qZ,qZ,qZ,qZ,qZ,.nil0,.nil0,.nil0,.nil0,.nil0,.nil0,qZ,qZ,.nil0]),oS 26 9 27,oM 10 28]) (.seq (qR 2 [oM 29 1,oX 30 (.call 31 [(.t 29),(kI 12)]),oM 11 30]) (.seq (.draw 3 (qN (oA 32 26 9) (qN (oM 33 11) (qN (oM 34 2) (qN (oX 35 (.call 31 [(.t 34),(kI 8)])) (qN (oX 36 (.bin .add (kI 1) (.t 35))) (qN (oX 37 (.build [qZ,qZ,qZ,qZ,qF,qZ,qZ,qZ] [(0,(1,(kI 5))),(5,(1,(kI 1))),(6,(1,(.t 33))),(7,(1,(.t 36)))])) (qN (oX 38 (.call 32 [(.t 32),(.t 37)])) (qN (oM 31 38) (qN (oE 39 31 0) (qN (oE 40 31 1) (qN (oE 41 31 2) (.one false (oS 26 9 39) (qN (oM 12 40) (qN (oM 13 41) .done))))))))))))))) (.seq (qR 4 [oA 43 26 9,oX 44 (.build [qZ,qZ,qZ,qZ,qF,qZ,qZ,qZ] [(0,(1,(kI 7)))]),oX 45 (.call 32 [(.t 43),(.t 44)]),oM 42 45,oE 46 42 0,oE 47 42 1,oE 48 42 2,oS 26 9 46,oM 14 47,oM 15 48]) (.seq (.draw 5 (qN (oA 50 26 9) (qN (oM 51 3) (qN (oX 52 (.call 31 [(.t 51),(kI 4294967296)])) (qN (oX 53 (.build [qZ,qZ,qZ,qZ,qF,qZ,qZ,qZ] [(0,(1,(kI 1))),(1,(1,(.t 52)))])) (qN (oX 54 (.call 32 [(.t 50),(.t 53)])) (qN (oM 49 54) (qN (oE 55 49 0) (qN (oE 56 49 1) (qN (oE 57 49 2) (.one false (oS 26 9 55) (qN (oM 16 56) (qN (oM 17 57) .done))))))))))))) (.seq (qR 6 [oA 59 26 9,oX 60 (.build [qZ,qZ,qZ,qZ,qF,qZ,qZ,qZ] [(0,(1,(kI 4))),(4,(1,(.k qT)))]),oX 61 (.call 32 [(.t 59),(.t 60)]),oM 58 61,oE 62 58 0,oE 63 58 1,oE 64 58 2,oS 26 9 62,oM 18 63,oM 19 64]) (.seq (qR 7 [oA 66 26 9,oX 67 (.build [qZ,qZ,qZ,qZ,qF,qZ,qZ,qZ] [(0,(1,(kI 3)))]),oX 68 (.call 32 [(.t 66),(.t 67)]),oM 65 68,oE 69 65 0,oE 70 65 1,oE 71 65 2,oX 20 (.alloc [qZ,qZ,qZ,qZ,qZ,qZ,qZ,qZ,qZ,qZ,qZ,qZ,qZ,qZ,qZ,qZ,qZ,.nil0,.nil0,.nil0,.nil0,.nil0,.nil0,qZ,qZ,.nil0]),oS 26 20 69,oM 21 70,oM 22 71]) (.seq (.seq (qR 8 [oM 72 10,oX 73 (.bin .neq (.t 72) (kI 0)),oM 74 73,oG 75 (.mov (.t 13)) 74 false,oG 76 (.bin .neq (.t 75) (kI 0)) 74 false,oX 77 (.pick (.t 74) (.k qT) (.t 76)),oM 78 77,oG 79 (.mov (.t 15)) 78 false,oG 80 (.bin .neq (.t 79) (kI 0)) 78 false,oX 81 (.pick (.t 78) (.k qT) (.t 80)),oM 82 81,oG 83 (.mov (.t 17)) 82 false,oG 84 (.bin .neq (.t 83) (kI 0)) 82 false,oX 85 (.pick (.t 82) (.k qT) (.t 84)),oM 86 85,oG 87 (.mov (.t 19)) 86 false,oG 88 (.bin .neq (.t 87) (kI 0)) 86 false,oX 89 (.pick (.t 86) (.k qT) (.t 88)),oM 90 89,oG 91 (.mov (.t 22)) 90 false,oG 92 (.bin .neq (.t 91) (kI 0)) 90 false,oX 93 (.pick (.t 90) (.k qT) (.t 92)),oM 94 93,oG 95 (.mov (.t 12)) 94 false,oG 96 (.len (.t 95)) 94 false,oG 97 (.bin .neq (.t 96) (kI 1)) 94 false,oX 98 (.pick (.t 94) (.k qT) (.t 97)),oM 99 98,oG 100 (.mov (.t 14)) 99 false,oG 101 (.len (.t 100)) 99 false,oG 102 (.bin .neq (.t 101) (kI 0)) 99 false,oX 103 (.pick (.t 99) (.k qT) (.t 102)),oM 104 103,oG 105 (.mov (.t 16)) 104 false,oG 106 (.len (.t 105)) 104 false,oG 107 (.bin .neq (.t 106) (kI 1)) 104 false,oX 108 (.pick (.t 104) (.k qT) (.t 107)),oM 109 108,oG 110 (.mov (.t 18)) 109 false,oG 111 (.len (.t 110)) 109 false,oG 112 (.bin .neq (.t 111) (kI 1)) 109 false,oX 113 (.pick (.t 109) (.k qT) (.t 112)),oM 114 113,oG 115 (.mov (.t 21)) 114 false,oG 116 (.len (.t 115)) 114 false,oG 117 (.bin .neq (.t 116) (kI 1)) 114 false,oX 118 (.pick (.t 114) (.k qT) (.t 117))]) (.cond 118 (.seq (qR 9 [oX 8 (.mov (.k qF))]) .ret) .skip)) (.seq (qR 10 [oM 119 12,oX 120 (.iads 7 (.t 119) (kI 0)),oF 121 0 120,oL 122 1 121,oX 123 (.bin .eql (.t 122) (kI 8)),oM 124 123,oG 125 (.mov (.t 16)) 124 true,oG 126 (.iads 7 (.t 125) (kI 0)) 124 true,oG 127 (.load true 7 (.t 126)) 124 true,oG 128 (.mov (.t 11)) 124 true,oG 129 (.build [qZ,qZ,qZ,qZ,qZ,qZ,qZ] [(0,(1,(kI 1))),(3,(1,(.t 128)))]) 124 true,oG 130 (.eqa false [.i,.i,.i,.i,.i,.i,.i] (.t 127) (.t 129)) 124 true,oX 131 (.pick (.t 124) (.t 130) (.k qF)),oM 132 131,oG 133 (.mov (.t 18)) 132 true,oG 134 (.iads 7 (.t 133) (kI 0)) 132 true,oG 135 (.load true 7 (.t 134)) 132 true,oG 136 (.mov (.t 11)) 132 true,oG 137 (.build [qZ,qZ,qZ,qZ,qZ,qZ,qZ] [(0,(1,(kI 4))),(3,(1,(.t 136)))]) 132 true,oG 138 (.eqa false [.i,.i,.i,.i,.i,.i,.i] (.t 135) (.t 137)) 132 true,oX 139 (.pick (.t 132) (.t 138) (.k qF)),oM 140 139,oG 141 (.mov (.t 21)) 140 true,oG 142 (.iads 7 (.t 141) (kI 0)) 140 true,oG 143 (.load true 7 (.t 142)) 140 true,oG 144 (.mov (.t 11)) 140 true,oG 145 (.build [qZ,qZ,qZ,qZ,qZ,qZ,qZ] [(0,(1,(kI 7))),(3,(1,(.t 144)))]) 140 true,oG 146 (.eqa false [.i,.i,.i,.i,.i,.i,.i] (.t 143) (.t 145)) 140 true,oX 147 (.pick (.t 140) (.t 146) (.k qF)),oM 8 147]) .ret)))))))))),[(.t 8)],148⟩ := by kernel_rfl
theorem cofst_pf (l : List Int) (bk wt key : Int) (hl : l.length = 16 ∧ ∀ z ∈ l,InR z) (hb : InR bk) (hw : InR wt) (hk : InR key) : PF Tryz.prog 7 [.agg (l.map I),I bk,I wt,I key] (.bool true) := by
 obtain ⟨hl,hz⟩ := hl
 obtain ⟨a0,a1,a2,a3,a4,a5,a6,a7,a8,a9,a10,a11,a12,a13,a14,a15,rfl⟩ := sixteen hl
 have h1 := config_pf a0 a1 a2 a3 a4 a5 a6 a7 a8 a9 a10 a11 a12 a13 a14 a15 (hz _ (by simp)) (hz _ (by simp)) (hz _ (by simp)) (hz _ (by simp)) (hz _ (by simp)) (hz _ (by simp)) (hz _ (by simp)) (hz _ (by simp)) (hz _ (by simp)) (hz _ (by simp)) (hz _ (by simp)) (hz _ (by simp)) (hz _ (by simp)) (hz _ (by simp)) (hz _ (by simp)) (hz _ (by simp))
 have ok := cfgOf_ok a0 a1 a2 a3 a4 a5 a6 a7 a8 a9 a10 a11 a12 a13 a14 a15
 generalize cfgOf a0 a1 a2 a3 a4 a5 a6 a7 a8 a9 a10 a11 a12 a13 a14 a15 = c at h1 ok
 clear hz hl
 have h2 := gbeg_pf c ok
 have p1 := picked_pf bk 12 hb (by omega)
 have p2 := picked_pf wt 8 hw (by omega)
 have p3 := picked_pf key 4294967296 hk (by omega)
 have r1 := pickedZ_range bk 12 (by omega)
 have r2 := pickedZ_range wt 8 (by omega)
 have r3 := pickedZ_range key 4294967296 (by omega)
 generalize pickedZ bk 12 = b at p1 r1
 generalize pickedZ wt 8 = w at p2 r2
 generalize pickedZ key 4294967296 = k at p3 r3
 have iw : InR (1 + w) := inW (by omega) (by omega)
 have hR0 := beg_rest ok
 have c1 := chk_join (r := 1) (b := b) (w := 1 + w) (by omega) (by omega) (by omega) (by omega) (by omega) (by omega)
 have d1 := do_step (begM c) 0 _ hR0 rfl (by omega) c1
 have hR1 := rest_step hR0 rfl (by omega) c1
 obtain ⟨f1,f2,f3⟩ := first_join ok (b := b) (w := 1 + w) (by omega) (by omega) (by omega) (by omega)
 have tb1 := join_tb (begM c) 1 b (1 + w)
 rw [f1] at d1
 replace f2 : ((begM c).step (evJoin 1 b (1 + w))).clean.fl = [] := f2
 replace f3 : ((begM c).step (evJoin 1 b (1 + w))).clean.L = [⟨b,1,1 + w,0,0,0⟩] := f3
 have t1 : ((begM c).step (evJoin 1 b (1 + w))).clean.tb = (begM c).tb := tb1.1
 have u1 : ((begM c).step (evJoin 1 b (1 + w))).clean.hl = (begM c).hl := tb1.2
 have o1 : ((begM c).step (evJoin 1 b (1 + w))).clean.out = [] := rfl
 have hz0 : ∀ q ∈ (begM c).hl,q = hzero := fun q hq => (List.mem_replicate.1 hq).2
 have hg0 : ((begM c).tb.getD 0 tzero).gen = 0 := by
  have h5 : ∀ s ∈ (begM c).tb,s = tzero := fun q hq => (List.mem_replicate.1 hq).2
  rw [zC]
  cases hg : (begM c).tb[0]? with
  | none => rfl
  | some q => rw [h5 q (zD hg)];rfl
 clear tb1 f1
 generalize ((begM c).step (evJoin 1 b (1 + w))).clean = g1 at *
 generalize begM c = g0 at *
 have d2 := do_step g1 1 _ hR1 o1 (by omega) chk_tick
 have hR2 := rest_step hR1 o1 (by omega) chk_tick
 obtain ⟨f4,f5,f6,f7,f8⟩ := first_tick hR1 f2 f3 rfl o1
 have t2 := tick_tb0 hR1 f2 f3 rfl
 rw [f4] at d2
 replace f5 : (g1.step evTick).clean.fl = [] := f5
 replace f6 : (g1.step evTick).clean.L = [⟨b,2,1 + w,g1.now + 1,0,0⟩] := f6
 replace t2 : (g1.step evTick).clean.tb = g0.tb := t2.trans t1
 have u2 : isOut (g1.step evTick).clean.hl b = false := by
  show isOut (g1.step evTick).hl b = false
  rw [f8,u1];exact calm_hl b _ _ hz0 b
 have o2 : (g1.step evTick).clean.out = [] := rfl
 clear f4 f7 f8
 generalize (g1.step evTick).clean = g2 at *
 have c3 := chk_open (k := k) (by omega) (by omega)
 have d3 := do_step g2 2 _ hR2 o2 (by omega) c3
 have hR3 := rest_step hR2 o2 (by omega) c3
 obtain ⟨f9,⟨f,f10,f11,f12,f13,f14⟩,f15⟩ := first_open hR2 f5 f6 rfl u2 (by rw [t2];exact hg0) o2 k (by omega)
 rw [f9] at d3
 replace f10 : (g2.step (evOpen k)).clean.fl = [f] := f10
 replace f15 : (g2.step (evOpen k)).clean.L = [⟨b,2,1 + w,g1.now + 1,0,0⟩] := f15
 have o3 : (g2.step (evOpen k)).clean.out = [] := rfl
 clear f9
 generalize (g2.step (evOpen k)).clean = g3 at *
 have c4 := chk_ans (s := 0) (g := 0) true (by omega) (by omega) (by omega) (by omega)
 have d4 := do_step g3 3 _ hR3 o3 (by omega) c4
 have hR4 := rest_step hR3 o3 (by omega) c4
 obtain ⟨q1,⟨f',q2,q3,q4,q5⟩,q6⟩ := first_answer hR3 f10 f11 f12 f14 o3
 rw [q1] at d4
 replace q2 : (g3.step (evAns 0 0 true)).clean.fl = [f'] := q2
 replace q6 : (g3.step (evAns 0 0 true)).clean.L = g3.L := q6
 have o4 : (g3.step (evAns 0 0 true)).clean.out = [] := rfl
 clear q1
 generalize (g3.step (evAns 0 0 true)).clean = g4 at *
 have c5 := chk_close (s := 0) (g := 0) (by omega) (by omega) (by omega) (by omega)
 have d5 := do_step g4 4 _ hR4 o4 (by omega) c5
 have hst : stateM g4.L f'.backend = 2 := by
  rw [q6,f15,q5,f13]
  simp [stateM,lifeM,ofM,findM,idxZ,qB]
 have q7 := first_close hR4 q2 q3 q4 hst o4
 rw [q7] at d5
 clear q7
 generalize (g4.step (evClose 0 0)).clean = g5 at *
 have e1 : f.backend = b := f13
 have e2 : f'.backend = b := q5.trans f13
 rw [e1] at d4
 rw [e2] at d5
 clear hR0 hR1 hR2 hR3 hR4 c1 c3 c4 c5 f2 f3 f5 f6 f10 f15 q2 q6 u1 u2 t1 t2 hz0 hg0 hst
 simp only [Cfg.D] at h1 h2
 simp only [Gt.W,Gt.cells,evJoin,evTick,evOpen,evAns,evClose,Evt.D,Outp.D,List.map_nil,List.map_cons] at h2 d1 d2 d3 d4 d5
 refine pO cofst_code [0,1,2,3,4,8,9,10,11,12,13,14,15,16,17,18,19,21,22,118] [] fun B hBN hB0 => ?_
 repeat' (first
  | simp [iw]
  | refine ⟨wcS ?_,?_⟩
  | (refine WCall.pf (h1) ?_ ?_ ?_ ?_;iterate 3 (solve|simp [iw]))
  | (refine WCall.pf (h2) ?_ ?_ ?_ ?_;iterate 3 (solve|simp [iw]))
  | (refine WCall.pf (p1) ?_ ?_ ?_ ?_;iterate 3 (solve|simp [iw]))
  | (refine WCall.pf (p2) ?_ ?_ ?_ ?_;iterate 3 (solve|simp [iw]))
  | (refine WCall.pf (p3) ?_ ?_ ?_ ?_;iterate 3 (solve|simp [iw]))
  | (refine WCall.pf (d1) ?_ ?_ ?_ ?_;iterate 3 (solve|simp [iw]))
  | (refine WCall.pf (d2) ?_ ?_ ?_ ?_;iterate 3 (solve|simp [iw]))
  | (refine WCall.pf (d3) ?_ ?_ ?_ ?_;iterate 3 (solve|simp [iw]))
  | (refine WCall.pf (d4) ?_ ?_ ?_ ?_;iterate 3 (solve|simp [iw]))
  | (refine WCall.pf (d5) ?_ ?_ ?_ ?_;iterate 3 (solve|simp [iw]))
  | with_reducible refine aI ?_ ?_ ?_)
 all_goals done
end Go.Proofs.YtibemmkfcjlmpaaGreat
