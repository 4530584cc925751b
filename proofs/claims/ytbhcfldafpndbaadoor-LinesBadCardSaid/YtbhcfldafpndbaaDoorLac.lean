/- What the program computes, step by step, and the rules for it. No condition of its own. -/
import Derived.Test.YtbhcfldafpndbaaDoorLab
import Derived.RangeFuncLeaves
import Derived.Shelf.Abstract
import Derived.WalkKit
import Derived.OwnWalkIn
import Derived.TacticsInMore
import Derived.LoopNIn
import Derived.LoopIn
import Derived.Maps.AppendAt
import Derived.Test.YtbhcfldafpndbaaDoorTie
import Derived.Test.YtbhcfldafpndbaaDoorCards
import Derived.Lib.LaidTab
import Derived.Stop.LaidErr
import Derived.Shelf.Vars
import Derived.Deep.Slices
set_option linter.unusedSimpArgs false
set_option linter.unusedVariables false
set_option maxRecDepth 100000
set_option maxHeartbeats 8000000
namespace Go.Proofs.YtbhcfldafpndbaaDoor
open Go.RowKit Go.Shelf
def kindTo (p : List UInt8) : Nat → Int
 | 0 => 0
 | k + 1 => if 0 < k ∧ wordsL[k]? = some p then (k : Int) else kindTo p k
theorem kindTo_8 (p : List UInt8) : kindTo p 8 = match EK.ofW p with | none => 0 | some kd => kd.n := by
 simp only [kindTo,wordsL,EK.word,EK.ofW,List.getElem?_cons_succ,List.getElem?_cons_zero,zA]
 by_cases h1 : p = [111,112,101,110]
 ·subst h1;simp [EK.n]
 by_cases h2 : p = [100,97,116,97]
 ·subst h2;simp [EK.n]
 by_cases h3 : p = [99,108,111,115,101]
 ·subst h3;simp [EK.n]
 by_cases h4 : p = [97,110,115,119,101,114]
 ·subst h4;simp [EK.n]
 by_cases h5 : p = [106,111,105,110]
 ·subst h5;simp [EK.n]
 by_cases h6 : p = [114,101,116,105,114,101]
 ·subst h6;simp [EK.n]
 by_cases h7 : p = [116,105,99,107]
 ·subst h7;simp [EK.n]
 simp [h1,h2,h3,h4,h5,h6,h7,eq_comm]
theorem obj_set {w : World} {b o : Nat} {cs : Array Value} {t : TypeId} {fz : Nat × Nat} (v : Value) (h : w.heap[b]? = some (.cells cs t fz)) : (w.setCell ⟨b,o,none⟩ v).heap[b]? = some (.cells (cs.setIfInBounds o v) t fz) := by
 unfold World.setCell
 simp [Array.getElem?_modify,h]
theorem obj_other {w : World} {b o k : Nat} {x : Obj} (v : Value) (h : w.heap[k]? = some x) (hne : b ≠ k) : (w.setCell ⟨b,o,none⟩ v).heap[k]? = some x := by
 rw [← h];exact Below.heap_setCell _ _ _ _ (fun e => hne e.symm)
theorem obj_cell {w : World} {b o : Nat} {cs : Array Value} {t : TypeId} {fz : Nat × Nat} {v : Value} (h : w.heap[b]? = some (.cells cs t fz)) (hv : cs[o]? = some v) : w.cell? ⟨b,o,none⟩ = some v := by
 unfold World.cell?;rw [h];exact hv
theorem obj_free {w : World} {b o : Nat} {cs : Array Value} {t : TypeId} (h : w.heap[b]? = some (.cells cs t (0,0))) : w.frozen? ⟨b,o,none⟩ = false := Lib.frozen_of_heap h o
def zEv (k : Int) : Array Value := #[.int .i64 k,.int .i64 0,.int .i64 0,.int .i64 0,.bool false,.int .i64 0,.int .i64 0,.int .i64 0]
theorem split_at (s : List UInt8) (w : World) (hg : LnG w) (hs : s.length ≤ 1000000) :
  Calls Tryd.prog 25 #[.string (bS s),.string (bS [32])] w fun e w' => ∃ g,e = .returned (.slice (some ⟨g,0,none⟩) (splS s).length (splS s).length) ∧ w.heap.size ≤ g ∧ Below w.heap.size w w' ∧
   w'.heap[g]? = some (.cells ((splS s).map fun x => Value.string (bS x)).toArray 9 (0,0)) := by
 refine (lnSplit s w hg hs).mono ?_
 rintro e w' ⟨rfl,rfl⟩
 exact ⟨_,rfl,Nat.le_refl _,(Below.refl _ _).alloc (Nat.le_refl _) _,World.alloc_heap_new w _⟩
theorem spl_pos (s : List UInt8) : 1 ≤ (splS s).length := by
 unfold splS Lib.split
 cases h : Lib.count s [32] with
 | zero => simp [Lib.splitK]
 | succ k => rw [Lib.splitK];split <;> simp
theorem trim_len (s : List UInt8) : (Lib.trimSuffix s [10]).length ≤ s.length := by
 unfold Lib.trimSuffix;split <;> simp
theorem idx_words (z : Int) (x : List UInt8) (hz : wordsL[z.toNat]? = some x) (h0 : 0 ≤ z) (w : World) :
  (Instr.index 63 (.agg #[.string (bS []),.string (bS (EK.word .op)),.string (bS (EK.word .da)),.string (bS (EK.word .cl)),.string (bS (EK.word .an)),.string (bS (EK.word .jo)),.string (bS (EK.word .re)),.string (bS (EK.word .ti))]) (.int .i64 z)).run Tryd.prog w = .ok (.string (bS x)) w := by
 have hk : z.toNat < 8 := (zB.1 hz).1
 have hk2 : z = 0 ∨ z = 1 ∨ z = 2 ∨ z = 3 ∨ z = 4 ∨ z = 5 ∨ z = 6 ∨ z = 7 := by omega
 rcases hk2 with rfl | rfl | rfl | rfl | rfl | rfl | rfl | rfl <;> (cases hz;rfl)
def evVals (l : List (List UInt8)) : Array Value := match evL l with | none => zEv 0 | some e => e.1.vals e.2.1 e.2.2.1 e.2.2.2
theorem evVals_some {l : List (List UInt8)} {kd : EK} (h : EK.ofW (l.getD 0 []) = some kd) : evVals l = kd.vals (avM l 0) (avM l 1) (kd.z3 l) := by unfold evVals evL;rw [h]
theorem evVals_none {l : List (List UInt8)} (h : EK.ofW (l.getD 0 []) = none) : evVals l = zEv 0 := by unfold evVals evL;rw [h]
theorem av_hit {l : List (List UInt8)} {i : Nat} (h : i + 1 < l.length) : avM l i = atoiV (l.getD (i + 1) []) := by unfold avM;rw [if_pos h]
theorem av_miss {l : List (List UInt8)} {i : Nat} (h : ¬ i + 1 < l.length) : avM l i = 0 := by unfold avM;rw [if_neg h]
theorem splitK_le (k : Nat) : ∀ (s : List UInt8),∀ x ∈ Lib.splitK [32] 0 k s,x.length ≤ s.length := by
 induction k with
 | zero => intro s x hx;simp only [Lib.splitK,List.mem_singleton] at hx;rw [hx];exact Nat.le_refl _
 | succ k ih =>
  intro s x hx
  rw [Lib.splitK] at hx
  split at hx
  ·rw [List.mem_singleton] at hx;rw [hx];exact Nat.le_refl _
  ·rw [List.mem_cons] at hx
   rcases hx with rfl | hx
   ·simp;omega
   ·have := ih _ x hx
    rw [List.length_drop] at this;omega
theorem spl_le (s : List UInt8) : ∀ x ∈ splS s,x.length ≤ s.length := splitK_le _ s
theorem vals_one (kd : EK) (x y z : Int) : (kd.vals x y z).all (·.oneCell') = true := by cases kd <;> simp [EK.vals,Value.oneCell']
theorem zE_one (k : Int) : (zEv k).all (·.oneCell') = true := by simp [zEv,Value.oneCell']
theorem spl_many (s : List UInt8) : (splS s).length ≤ s.length + 1 + 1 := by
  have h1 : ∀ k s, (Lib.splitK [32] 0 k s).length ≤ k + 1 := by
    intro k
    induction k with
    | zero => intro s; simp [Lib.splitK]
    | succ k ih => intro s; rw [Lib.splitK]; split
                   · simp
                   · have := ih (s.drop ((Lib.index s [32]).toNat + ([32] : List UInt8).length)); simp only [List.length_cons] at this ⊢; omega
  have h2 := h1 (Lib.count s [32]) s
  have h3 := Lib.count_le s [32]
  unfold splS Lib.split; omega
theorem numbers_zero (b : Nat) (w : World) (h : w.cell? ⟨b,0,none⟩ = some (.int .i64 0)) :
  Calls Tryd.prog 20 #[.pointer (some ⟨b,0,none⟩)] w fun e w' => e = .returned (.slice none 0 0) ∧ Below w.heap.size w w' := by
 go_enter Tryd.func20,Tryd.ntmps20
 go_wp2
 go_ret
 exact ⟨rfl,Below.refl _ _⟩
theorem ev_a (s : List UInt8) (hs : s.length ≤ 1000000) (w : World) (hg : LnG w) :
  Calls Tryd.prog 16 #[.string (bS s)] w fun r w' => r = .returned (.agg (evVals (piecesM s))) ∧ Below w.heap.size w w' := by
 obtain ⟨W0,hW0⟩ : ∃ W0,W0 = (w.alloc (.cells (zEv 0) 25)).alloc (.cells (zEv 0) 25) := ⟨_,rfl⟩
 have hW0' := hW0
 unfold zEv at hW0'
 have hb0 : Below w.heap.size w W0 := by rw [hW0];exact ((Below.refl _ _).alloc (Nat.le_refl _) _).alloc (by simp) _
 have hs0 : W0.heap.size = w.heap.size + 2 := by rw [hW0];simp
 have ho1 : W0.heap[w.heap.size + 1]? = some (.cells (zEv 0) 25 (0,0)) := by rw [hW0];simpa using World.alloc_heap_new (w.alloc (.cells (zEv 0) 25)) (.cells (zEv 0) 25)
 have ho0 : W0.heap[w.heap.size]? = some (.cells (zEv 0) 25 (0,0)) := by rw [hW0];exact heap_below ((Below.refl _ _).alloc (Nat.le_refl _) _) (World.alloc_heap_new w _)
 clear hW0
 have hg0 := hg.below hb0
 have htr := fun W => lnTrim s [10] W hs
 have hsp := fun W h => split_at (Lib.trimSuffix s [10]) W h (by have := trim_len s;omega)
 have hpl := spl_pos (Lib.trimSuffix s [10])
 have hpu : (splS (Lib.trimSuffix s [10])).length ≤ 2000000 := by have h1 := spl_many (Lib.trimSuffix s [10]);have h2 := trim_len s;omega
 have hpe : splS (Lib.trimSuffix s [10]) = piecesM s := rfl
 rw [hpe] at hsp hpl hpu
 clear hpe
 have hple : ∀ x ∈ piecesM s,x.length ≤ 1000000 := fun x hx => by have h1 := spl_le _ x hx;have h2 := trim_len s;omega
 obtain ⟨l,hl⟩ : ∃ l,l = piecesM s := ⟨_,rfl⟩
 rw [← hl] at hsp hpl hpu hple ⊢
 have HPL := Lib.hid hple
 clear hple
 have HL := Lib.hid hl
 clear hl
 go_enter Tryd.func16,Tryd.ntmps16
 go_upto_region 2 with (fail)
 rw [← hW0']
 clear hW0'
 go_wp2_with (first
  | (go_at_call 26;refine (htr _).mono ?_;rintro e w' ⟨rfl,rfl⟩)
  | (go_at_call 25;refine (hsp _ hg0).mono ?_;rintro e W1 ⟨g,rfl,hgs,hb1,hgo⟩;have hg1 := hg0.below hb1;have q0 := hg1.wd 0 _ rfl;have q1 := hg1.wd 1 _ rfl;have q2 := hg1.wd 2 _ rfl;have q3 := hg1.wd 3 _ rfl;have q4 := hg1.wd 4 _ rfl;have q5 := hg1.wd 5 _ rfl;have q6 := hg1.wd 6 _ rfl;have q7 := hg1.wd 7 _ rfl))
 obtain ⟨p,hp⟩ : ∃ p,p = l.getD 0 [] := ⟨_,rfl⟩
 have hl0 : l[0]? = some p := by rw [hp,zC,zE (by omega)];rfl
 have hsz1 : w.heap.size + 2 ≤ W1.heap.size := by have := hb1.size;omega
 have hgb : w.heap.size + 2 ≤ g := by omega
 have hl0I : (0 : Int) < l.length := by omega
 have ho11 := heap_below hb1 ho1
 have HP := Lib.hid hp
 clear q0 q1 q2 q3 q4 q5 q6 q7 hp
 go_loopw [13] (fun i wr => ∃ k : Nat,i = .int .i64 k ∧ k ≤ 8 ∧ wr.heap[w.heap.size + 1]? = some (.cells (zEv (kindTo p k)) 25 (0,0)) ∧ Below (w.heap.size + 1) W1 wr ∧ wr.heap[g]? = some (.cells (l.map fun x => Value.string (bS x)).toArray 9 (0,0))) (fun i _ => match i with | .int _ z => 8 - z.toNat | _ => 0)
 case atStart => exact ⟨0,rfl,by omega,ho11,Below.refl _ _,hgo⟩
 case round =>
  obtain ⟨k,rfl,hk,hek,hbk,hgk⟩ := hrel
  clear ho11 hgo
  have hc0 : wr.cell? ⟨g,0,none⟩ = some (.string (bS p)) := obj_cell hgk (by simp [hl0])
  have hcl0 := hl0I
  by_cases h0 : k = 0
  ·subst h0
   have hix := idx_words 0 _ rfl (by omega)
   go_wp2
   go_roundw
   case rel => exact ⟨1,by simp,by omega,hek,hbk,hgk⟩
   case measure => simp
  by_cases h1 : k = 1
  ·subst h1
   have hix := idx_words 1 _ rfl (by omega)
   have hc1 : wr.cell? ⟨w.heap.size + 1,0,none⟩ = some (.int .i64 (kindTo p 1)) := obj_cell hek rfl
   have hf1 : wr.frozen? ⟨w.heap.size + 1,0,none⟩ = false := obj_free hek
   by_cases hw : EK.word .op = p
   ·have hq : (EK.word .op == p) = true := beq_iff_eq.2 hw
    have hkk : kindTo p (1 + 1) = 1 := by show (if 0 < 1 ∧ wordsL[1]? = some p then _ else _) = _;rw [if_pos ⟨by omega,by rw [← hw];rfl⟩];rfl
    have hek2 := obj_set (o := 0) (.int .i64 1) hek
    have hgk2 : (wr.setCell ⟨w.heap.size + 1,0,none⟩ (.int .i64 1)).heap[g]? = _ := obj_other _ hgk (by omega)
    have hbk2 : Below (w.heap.size + 1) W1 (wr.setCell ⟨w.heap.size + 1,0,none⟩ (.int .i64 1)) := hbk.setCell (p := ⟨w.heap.size + 1,0,none⟩) (Nat.le_refl _) _
    clear hek hgk hbk hw
    go_wp2
    go_roundw
    case rel => exact ⟨2,by simp,by omega,by rw [hkk];exact hek2,hbk2,hgk2⟩
    case measure => simp
   ·have hq : (EK.word .op == p) = false := by rw [beq_eq_false_iff_ne];exact hw
    have hkk : kindTo p (1 + 1) = kindTo p 1 := by show (if 0 < 1 ∧ wordsL[1]? = some p then _ else _) = _;rw [if_neg (fun h => hw (Option.some.inj h.2))]
    go_wp2
    go_roundw
    case rel => exact ⟨2,by simp,by omega,by rw [hkk];exact hek,hbk,hgk⟩
    case measure => simp
  by_cases h2 : k = 2
  ·subst h2
   have hix := idx_words 2 _ rfl (by omega)
   have hc1 : wr.cell? ⟨w.heap.size + 1,0,none⟩ = some (.int .i64 (kindTo p 2)) := obj_cell hek rfl
   have hf1 : wr.frozen? ⟨w.heap.size + 1,0,none⟩ = false := obj_free hek
   by_cases hw : EK.word .da = p
   ·have hq : (EK.word .da == p) = true := beq_iff_eq.2 hw
    have hkk : kindTo p (2 + 1) = 2 := by show (if 0 < 2 ∧ wordsL[2]? = some p then _ else _) = _;rw [if_pos ⟨by omega,by rw [← hw];rfl⟩];rfl
    have hek2 := obj_set (o := 0) (.int .i64 2) hek
    have hgk2 : (wr.setCell ⟨w.heap.size + 1,0,none⟩ (.int .i64 2)).heap[g]? = _ := obj_other _ hgk (by omega)
    have hbk2 : Below (w.heap.size + 1) W1 (wr.setCell ⟨w.heap.size + 1,0,none⟩ (.int .i64 2)) := hbk.setCell (p := ⟨w.heap.size + 1,0,none⟩) (Nat.le_refl _) _
    clear hek hgk hbk hw
    go_wp2
    go_roundw
    case rel => exact ⟨3,by simp,by omega,by rw [hkk];exact hek2,hbk2,hgk2⟩
    case measure => simp
   ·have hq : (EK.word .da == p) = false := by rw [beq_eq_false_iff_ne];exact hw
    have hkk : kindTo p (2 + 1) = kindTo p 2 := by show (if 0 < 2 ∧ wordsL[2]? = some p then _ else _) = _;rw [if_neg (fun h => hw (Option.some.inj h.2))]
    go_wp2
    go_roundw
    case rel => exact ⟨3,by simp,by omega,by rw [hkk];exact hek,hbk,hgk⟩
    case measure => simp
  by_cases h3 : k = 3
  ·subst h3
   have hix := idx_words 3 _ rfl (by omega)
   have hc1 : wr.cell? ⟨w.heap.size + 1,0,none⟩ = some (.int .i64 (kindTo p 3)) := obj_cell hek rfl
   have hf1 : wr.frozen? ⟨w.heap.size + 1,0,none⟩ = false := obj_free hek
   by_cases hw : EK.word .cl = p
   ·have hq : (EK.word .cl == p) = true := beq_iff_eq.2 hw
    have hkk : kindTo p (3 + 1) = 3 := by show (if 0 < 3 ∧ wordsL[3]? = some p then _ else _) = _;rw [if_pos ⟨by omega,by rw [← hw];rfl⟩];rfl
    have hek2 := obj_set (o := 0) (.int .i64 3) hek
    have hgk2 : (wr.setCell ⟨w.heap.size + 1,0,none⟩ (.int .i64 3)).heap[g]? = _ := obj_other _ hgk (by omega)
    have hbk2 : Below (w.heap.size + 1) W1 (wr.setCell ⟨w.heap.size + 1,0,none⟩ (.int .i64 3)) := hbk.setCell (p := ⟨w.heap.size + 1,0,none⟩) (Nat.le_refl _) _
    clear hek hgk hbk hw
    go_wp2
    go_roundw
    case rel => exact ⟨4,by simp,by omega,by rw [hkk];exact hek2,hbk2,hgk2⟩
    case measure => simp
   ·have hq : (EK.word .cl == p) = false := by rw [beq_eq_false_iff_ne];exact hw
    have hkk : kindTo p (3 + 1) = kindTo p 3 := by show (if 0 < 3 ∧ wordsL[3]? = some p then _ else _) = _;rw [if_neg (fun h => hw (Option.some.inj h.2))]
    go_wp2
    go_roundw
    case rel => exact ⟨4,by simp,by omega,by rw [hkk];exact hek,hbk,hgk⟩
    case measure => simp
  by_cases h4 : k = 4
  ·subst h4
   have hix := idx_words 4 _ rfl (by omega)
   have hc1 : wr.cell? ⟨w.heap.size + 1,0,none⟩ = some (.int .i64 (kindTo p 4)) := obj_cell hek rfl
   have hf1 : wr.frozen? ⟨w.heap.size + 1,0,none⟩ = false := obj_free hek
   by_cases hw : EK.word .an = p
   ·have hq : (EK.word .an == p) = true := beq_iff_eq.2 hw
    have hkk : kindTo p (4 + 1) = 4 := by show (if 0 < 4 ∧ wordsL[4]? = some p then _ else _) = _;rw [if_pos ⟨by omega,by rw [← hw];rfl⟩];rfl
    have hek2 := obj_set (o := 0) (.int .i64 4) hek
    have hgk2 : (wr.setCell ⟨w.heap.size + 1,0,none⟩ (.int .i64 4)).heap[g]? = _ := obj_other _ hgk (by omega)
    have hbk2 : Below (w.heap.size + 1) W1 (wr.setCell ⟨w.heap.size + 1,0,none⟩ (.int .i64 4)) := hbk.setCell (p := ⟨w.heap.size + 1,0,none⟩) (Nat.le_refl _) _
    clear hek hgk hbk hw
    go_wp2
    go_roundw
    case rel => exact ⟨5,by simp,by omega,by rw [hkk];exact hek2,hbk2,hgk2⟩
    case measure => simp
   ·have hq : (EK.word .an == p) = false := by rw [beq_eq_false_iff_ne];exact hw
    have hkk : kindTo p (4 + 1) = kindTo p 4 := by show (if 0 < 4 ∧ wordsL[4]? = some p then _ else _) = _;rw [if_neg (fun h => hw (Option.some.inj h.2))]
    go_wp2
    go_roundw
    case rel => exact ⟨5,by simp,by omega,by rw [hkk];exact hek,hbk,hgk⟩
    case measure => simp
  by_cases h5 : k = 5
  ·subst h5
   have hix := idx_words 5 _ rfl (by omega)
   have hc1 : wr.cell? ⟨w.heap.size + 1,0,none⟩ = some (.int .i64 (kindTo p 5)) := obj_cell hek rfl
   have hf1 : wr.frozen? ⟨w.heap.size + 1,0,none⟩ = false := obj_free hek
   by_cases hw : EK.word .jo = p
   ·have hq : (EK.word .jo == p) = true := beq_iff_eq.2 hw
    have hkk : kindTo p (5 + 1) = 5 := by show (if 0 < 5 ∧ wordsL[5]? = some p then _ else _) = _;rw [if_pos ⟨by omega,by rw [← hw];rfl⟩];rfl
    have hek2 := obj_set (o := 0) (.int .i64 5) hek
    have hgk2 : (wr.setCell ⟨w.heap.size + 1,0,none⟩ (.int .i64 5)).heap[g]? = _ := obj_other _ hgk (by omega)
    have hbk2 : Below (w.heap.size + 1) W1 (wr.setCell ⟨w.heap.size + 1,0,none⟩ (.int .i64 5)) := hbk.setCell (p := ⟨w.heap.size + 1,0,none⟩) (Nat.le_refl _) _
    clear hek hgk hbk hw
    go_wp2
    go_roundw
    case rel => exact ⟨6,by simp,by omega,by rw [hkk];exact hek2,hbk2,hgk2⟩
    case measure => simp
   ·have hq : (EK.word .jo == p) = false := by rw [beq_eq_false_iff_ne];exact hw
    have hkk : kindTo p (5 + 1) = kindTo p 5 := by show (if 0 < 5 ∧ wordsL[5]? = some p then _ else _) = _;rw [if_neg (fun h => hw (Option.some.inj h.2))]
    go_wp2
    go_roundw
    case rel => exact ⟨6,by simp,by omega,by rw [hkk];exact hek,hbk,hgk⟩
    case measure => simp
  by_cases h6 : k = 6
  ·subst h6
   have hix := idx_words 6 _ rfl (by omega)
   have hc1 : wr.cell? ⟨w.heap.size + 1,0,none⟩ = some (.int .i64 (kindTo p 6)) := obj_cell hek rfl
   have hf1 : wr.frozen? ⟨w.heap.size + 1,0,none⟩ = false := obj_free hek
   by_cases hw : EK.word .re = p
   ·have hq : (EK.word .re == p) = true := beq_iff_eq.2 hw
    have hkk : kindTo p (6 + 1) = 6 := by show (if 0 < 6 ∧ wordsL[6]? = some p then _ else _) = _;rw [if_pos ⟨by omega,by rw [← hw];rfl⟩];rfl
    have hek2 := obj_set (o := 0) (.int .i64 6) hek
    have hgk2 : (wr.setCell ⟨w.heap.size + 1,0,none⟩ (.int .i64 6)).heap[g]? = _ := obj_other _ hgk (by omega)
    have hbk2 : Below (w.heap.size + 1) W1 (wr.setCell ⟨w.heap.size + 1,0,none⟩ (.int .i64 6)) := hbk.setCell (p := ⟨w.heap.size + 1,0,none⟩) (Nat.le_refl _) _
    clear hek hgk hbk hw
    go_wp2
    go_roundw
    case rel => exact ⟨7,by simp,by omega,by rw [hkk];exact hek2,hbk2,hgk2⟩
    case measure => simp
   ·have hq : (EK.word .re == p) = false := by rw [beq_eq_false_iff_ne];exact hw
    have hkk : kindTo p (6 + 1) = kindTo p 6 := by show (if 0 < 6 ∧ wordsL[6]? = some p then _ else _) = _;rw [if_neg (fun h => hw (Option.some.inj h.2))]
    go_wp2
    go_roundw
    case rel => exact ⟨7,by simp,by omega,by rw [hkk];exact hek,hbk,hgk⟩
    case measure => simp
  by_cases h7 : k = 7
  ·subst h7
   have hix := idx_words 7 _ rfl (by omega)
   have hc1 : wr.cell? ⟨w.heap.size + 1,0,none⟩ = some (.int .i64 (kindTo p 7)) := obj_cell hek rfl
   have hf1 : wr.frozen? ⟨w.heap.size + 1,0,none⟩ = false := obj_free hek
   by_cases hw : EK.word .ti = p
   ·have hq : (EK.word .ti == p) = true := beq_iff_eq.2 hw
    have hkk : kindTo p (7 + 1) = 7 := by show (if 0 < 7 ∧ wordsL[7]? = some p then _ else _) = _;rw [if_pos ⟨by omega,by rw [← hw];rfl⟩];rfl
    have hek2 := obj_set (o := 0) (.int .i64 7) hek
    have hgk2 : (wr.setCell ⟨w.heap.size + 1,0,none⟩ (.int .i64 7)).heap[g]? = _ := obj_other _ hgk (by omega)
    have hbk2 : Below (w.heap.size + 1) W1 (wr.setCell ⟨w.heap.size + 1,0,none⟩ (.int .i64 7)) := hbk.setCell (p := ⟨w.heap.size + 1,0,none⟩) (Nat.le_refl _) _
    clear hek hgk hbk hw
    go_wp2
    go_roundw
    case rel => exact ⟨8,by simp,by omega,by rw [hkk];exact hek2,hbk2,hgk2⟩
    case measure => simp
   ·have hq : (EK.word .ti == p) = false := by rw [beq_eq_false_iff_ne];exact hw
    have hkk : kindTo p (7 + 1) = kindTo p 7 := by show (if 0 < 7 ∧ wordsL[7]? = some p then _ else _) = _;rw [if_neg (fun h => hw (Option.some.inj h.2))]
    go_wp2
    go_roundw
    case rel => exact ⟨8,by simp,by omega,by rw [hkk];exact hek,hbk,hgk⟩
    case measure => simp
  obtain rfl : k = 8 := by omega
  have hlE := hek
  rw [kindTo_8] at hek
  clear hlE hc0
  have hbw : Below w.heap.size w wr := hb0.trans ((hb1.mono (by omega)).trans (hbk.mono (by omega)))
  have hr0 : wr.heap[w.heap.size]? = some (.cells (zEv 0) 25 (0,0)) := by
   rw [hbk.block _ (by omega)];exact heap_below hb1 ho0
  have hgr := hg.below hbw
  have hsr : W1.heap.size ≤ wr.heap.size := hbk.size
  clear ho0 ho1 hg0 hg1 hb1 hb0 hs0 hgs hbk
  cases hofw : EK.ofW p with
  | none =>
   have HF := Lib.hid (evVals_none (l := l) (by rw [← HP.out];exact hofw))
   rw [hofw] at hek
   clear hofw
   ·have hek1 : wr.heap[w.heap.size + 1]? = some (.cells (zEv 0) 25 (0,0)) := hek
    clear hek
    have hk0 : wr.cell? ⟨w.heap.size + 1,0,none⟩ = some (.int .i64 0) := obj_cell hek1 rfl
    have hk4 : wr.cell? ⟨w.heap.size + 1,4,none⟩ = some (.bool false) := obj_cell hek1 rfl
    have hf4 : wr.frozen? ⟨w.heap.size + 1,4,none⟩ = false := obj_free hek1
    have hek2 : (wr.setCell ⟨w.heap.size + 1,4,none⟩ (.bool false)).heap[w.heap.size + 1]? = some (.cells (zEv 0) 25 (0,0)) := obj_set (o := 4) (.bool false) hek1
    have hgk2 : (wr.setCell ⟨w.heap.size + 1,4,none⟩ (.bool false)).heap[g]? = some (.cells (l.map fun x => Value.string (bS x)).toArray 9 (0,0)) := obj_other _ hgk (by omega)
    have hr2 : (wr.setCell ⟨w.heap.size + 1,4,none⟩ (.bool false)).heap[w.heap.size]? = some (.cells (zEv 0) 25 (0,0)) := obj_other _ hr0 (by omega)
    have hbw2 : Below w.heap.size w (wr.setCell ⟨w.heap.size + 1,4,none⟩ (.bool false)) := hbw.setCell (p := ⟨w.heap.size + 1,4,none⟩) (by simp) _
    have hs2 : (wr.setCell ⟨w.heap.size + 1,4,none⟩ (.bool false)).heap.size = wr.heap.size := by simp
    obtain ⟨W2,hW2⟩ : ∃ W2,W2 = wr.setCell ⟨w.heap.size + 1,4,none⟩ (.bool false) := ⟨_,rfl⟩
    rw [← hW2] at hek2 hgk2 hr2 hbw2 hs2
    clear hek1 hgk hr0 hbw hgr
    have hnum := fun W h => numbers_zero (w.heap.size + 1) W h
    have hn0 : W2.cell? ⟨w.heap.size + 1,0,none⟩ = some (.int .i64 0) := obj_cell hek2 rfl
    go_upto_region 10 with (fail)
    rw [← hW2]
    clear hW2 hk0 hk4 hf4
    go_wp2_with (go_at_call 20;refine (hnum _ hn0).mono ?_;rintro e W3 ⟨rfl,hb3⟩)
    have hs3 := hb3.size
    have hek3 := heap_below hb3 hek2
    have hgk3 := heap_below hb3 hgk2
    have hr3 := heap_below hb3 hr2
    have hbw3 : Below w.heap.size w W3 := hbw2.trans (hb3.mono (by omega))
    clear hek2 hgk2 hr2 hbw2 hb3 hn0 hnum
    go_loopw [44] (fun i wr => ∃ k : Nat,i = .int .i64 k ∧ k ≤ 0 ∧ wr.heap[w.heap.size + 1]? = some (.cells (zEv 0) 25 (0,0)) ∧ wr.heap[g]? = some (.cells (l.map fun x => Value.string (bS x)).toArray 9 (0,0)) ∧ wr.heap[w.heap.size]? = some (.cells (zEv 0) 25 (0,0)) ∧ Below w.heap.size w wr ∧ w.heap.size + 2 ≤ wr.heap.size) (fun i _ => match i with | .int _ z => 0 - z.toNat | _ => 0)
    case atStart => exact ⟨0,rfl,by omega,hek3,hgk3,hr3,hbw3,by omega⟩
    case round =>
     obtain ⟨k,rfl,hk,hekq,hgkq,hrq,hbq,hsq⟩ := hrel
     clear hek3 hgk3 hr3 hbw3
     have hgq := hg.below hbq
     obtain rfl : k = 0 := by omega
     have hBe : Box wr (w.heap.size + 1) (zEv 0) := ⟨_,hekq⟩
     have hBr : Box wr w.heap.size (zEv 0) := ⟨_,hrq⟩
     obtain ⟨cs,hcs⟩ : ∃ cs,cs = (zEv 0) := ⟨_,rfl⟩
     rw [← hcs] at hBe
     have HSs := Lib.hid (show (zEv 0).size = cs.size by rw [hcs] <;> rfl)
     have HSz := Lib.hid (show (Tryd.prog.info? 25).map (·.size) = some cs.size by rw [hcs];kernel_rfl)
     have HS1 := Lib.hid (show cs.all (·.oneCell') = true by rw [hcs];exact zE_one 0)
     have HCS := Lib.hid hcs
     have HBe := Lib.hid hBe
     have HBr := Lib.hid hBr
     clear hcs hBe hBr hekq hgkq hrq
     go_wp2_with (first | (refine wpList_load_box rfl 25 (.tmp 3) rfl (w.heap.size + 1) (by rfl) cs _ HBe.out Tryd.underlying25 rfl HSz.out ?_) | (refine wpList_store_box rfl 25 (.tmp 2) (.tmp 66) rfl w.heap.size _ cs (by rfl) (by rfl) HBr.out HSs.out HSz.out HS1.out ?_;intro w5 Z5 ho5))
     obtain ⟨T5,Z5⟩ := Z5
     refine bodyPost_ret (results_cell_row rfl _ _ w.heap.size T5 cs (0,0) _ (by rfl) Z5 Tryd.underlying25 rfl HSz.out) rfl ⟨?_,hbq.trans (ho5.below (Nat.le_refl _))⟩
     rw [HCS.out,HF.out] <;> rfl
  | some kd =>
   have HF := Lib.hid (evVals_some (l := l) (by rw [← HP.out];exact hofw))
   rw [hofw] at hek
   clear hofw
   simp only at hek
   cases kd
   ·have hek1 : wr.heap[w.heap.size + 1]? = some (.cells (zEv 1) 25 (0,0)) := hek
    clear hek
    have hk0 : wr.cell? ⟨w.heap.size + 1,0,none⟩ = some (.int .i64 1) := obj_cell hek1 rfl
    have hk4 : wr.cell? ⟨w.heap.size + 1,4,none⟩ = some (.bool false) := obj_cell hek1 rfl
    have hf4 : wr.frozen? ⟨w.heap.size + 1,4,none⟩ = false := obj_free hek1
    have hek2 : (wr.setCell ⟨w.heap.size + 1,4,none⟩ (.bool false)).heap[w.heap.size + 1]? = some (.cells (EK.vals .op 0 0 0) 25 (0,0)) := obj_set (o := 4) (.bool false) hek1
    have hgk2 : (wr.setCell ⟨w.heap.size + 1,4,none⟩ (.bool false)).heap[g]? = some (.cells (l.map fun x => Value.string (bS x)).toArray 9 (0,0)) := obj_other _ hgk (by omega)
    have hr2 : (wr.setCell ⟨w.heap.size + 1,4,none⟩ (.bool false)).heap[w.heap.size]? = some (.cells (zEv 0) 25 (0,0)) := obj_other _ hr0 (by omega)
    have hbw2 : Below w.heap.size w (wr.setCell ⟨w.heap.size + 1,4,none⟩ (.bool false)) := hbw.setCell (p := ⟨w.heap.size + 1,4,none⟩) (by simp) _
    have hs2 : (wr.setCell ⟨w.heap.size + 1,4,none⟩ (.bool false)).heap.size = wr.heap.size := by simp
    obtain ⟨W2,hW2⟩ : ∃ W2,W2 = wr.setCell ⟨w.heap.size + 1,4,none⟩ (.bool false) := ⟨_,rfl⟩
    rw [← hW2] at hek2 hgk2 hr2 hbw2 hs2
    clear hek1 hgk hr0 hbw hgr
    have hnum := fun W h => numbers_at .op (w.heap.size + 1) W h
    simp only [EK.nsl,EK.n] at hnum
    have hn0 : W2.cell? ⟨w.heap.size + 1,0,none⟩ = some (.int .i64 1) := obj_cell hek2 rfl
    go_upto_region 10 with (fail)
    rw [← hW2]
    clear hW2 hk0 hk4 hf4
    go_wp2_with (go_at_call 20;refine (hnum _ hn0).mono ?_;rintro e W3 ⟨g2,rfl,hg2,hb3,hp3⟩)
    have hs3 := hb3.size
    have hek3 := heap_below hb3 hek2
    have hgk3 := heap_below hb3 hgk2
    have hr3 := heap_below hb3 hr2
    have hbw3 : Below w.heap.size w W3 := hbw2.trans (hb3.mono (by omega))
    replace hp3 : W3.heap[g2]? = some (.cells #[.pointer (some ⟨w.heap.size + 1,1,none⟩)] 59 (0,0)) := hp3 (by simp [EK.offs])
    have hne2 : w.heap.size + 1 < g2 := by omega
    clear hek2 hgk2 hr2 hbw2 hb3 hn0 hnum
    go_loopw [44] (fun i wr => ∃ k : Nat,i = .int .i64 k ∧ k ≤ 1 ∧ wr.heap[w.heap.size + 1]? = some (.cells (EK.vals .op (if 0 < k then avM l 0 else 0) 0 0) 25 (0,0)) ∧ wr.heap[g]? = some (.cells (l.map fun x => Value.string (bS x)).toArray 9 (0,0)) ∧ wr.heap[w.heap.size]? = some (.cells (zEv 0) 25 (0,0)) ∧ Below w.heap.size w wr ∧ w.heap.size + 2 ≤ wr.heap.size ∧ wr.heap[g2]? = some (.cells #[.pointer (some ⟨w.heap.size + 1,1,none⟩)] 59 (0,0))) (fun i _ => match i with | .int _ z => 1 - z.toNat | _ => 0)
    case atStart => exact ⟨0,rfl,by omega,hek3,hgk3,hr3,hbw3,by omega,hp3⟩
    case round =>
     obtain ⟨k,rfl,hk,hekq,hgkq,hrq,hbq,hsq,hpq⟩ := hrel
     clear hek3 hgk3 hr3 hbw3 hp3
     have hgq := hg.below hbq
     by_cases h0 : k = 0
     ·subst h0
      have hej : wr.heap[w.heap.size + 1]? = some (.cells (EK.vals .op 0 0 0) 25 (0,0)) := hekq
      have hcp : wr.cell? ⟨g2,0,none⟩ = some (.pointer (some ⟨w.heap.size + 1,1,none⟩)) := obj_cell hpq rfl
      have hco : wr.cell? ⟨w.heap.size + 1,1,none⟩ = some (.int .i64 0) := obj_cell hej rfl
      have hfo : wr.frozen? ⟨w.heap.size + 1,1,none⟩ = false := obj_free hej
      clear hekq
      by_cases hlt : 1 < l.length
      ·have hltI : (1 : Int) < (l.length : Int) := by omega
       have hlg : l[1]? = some (l.getD 1 []) := by rw [zC,zE hlt];rfl
       have hav : avM l 0 = atoiV (l.getD 1 []) := av_hit hlt
       have hplj := HPL.out _ (zD hlg)
       obtain ⟨pj,hpj⟩ : ∃ pj,pj = l.getD 1 [] := ⟨_,rfl⟩
       rw [← hpj] at hlg hav hplj
       have hcl : wr.cell? ⟨g,1,none⟩ = some (.string (bS pj)) := obj_cell hgkq (by simp [hlg])
       have HAV := Lib.hid hav
       clear hav hpj hlg
       go_wp2_with (go_at_call 27;refine (lnAtoi pj hplj _ hgq).mono ?_;rintro e W4 ⟨er,rfl,hb4⟩;have hek4 := heap_below hb4 hej;have hco4 : W4.cell? ⟨w.heap.size + 1,1,none⟩ = some (.int .i64 0) := obj_cell hek4 rfl;have hfo4 : W4.frozen? ⟨w.heap.size + 1,1,none⟩ = false := obj_free hek4)
       go_roundw
       case rel =>
        refine ⟨1,by simp,by omega,?_,obj_other _ (heap_below hb4 hgkq) (by omega),obj_other _ (heap_below hb4 hrq) (by omega),(hbq.trans (hb4.mono (by omega))).setCell (p := ⟨w.heap.size + 1,1,none⟩) (by simp) _,by have := hb4.size;simp;omega,obj_other _ (heap_below hb4 hpq) (by omega)⟩
        have := obj_set (o := 1) (.int .i64 (atoiV pj)) hek4
        rw [← HAV.out] at this ⊢
        exact this
       case measure => simp
      ·have hltI : ¬ (1 : Int) < (l.length : Int) := by omega
       have HAV := Lib.hid (av_miss (l := l) (i := 0) hlt)
       go_wp2
       go_roundw
       case rel =>
        refine ⟨1,by simp,by omega,?_,hgkq,hrq,hbq,hsq,hpq⟩
        have hE : (EK.vals .op (avM l 0) 0 0) = (EK.vals .op 0 0 0) := by rw [HAV.out]
        show wr.heap[w.heap.size + 1]? = some (.cells (EK.vals .op (avM l 0) 0 0) 25 (0,0))
        rw [hE];exact hej
       case measure => simp
     obtain rfl : k = 1 := by omega
     have hBe : Box wr (w.heap.size + 1) (EK.vals .op (avM l 0) 0 0) := ⟨_,hekq⟩
     have hBr : Box wr w.heap.size (zEv 0) := ⟨_,hrq⟩
     obtain ⟨cs,hcs⟩ : ∃ cs,cs = (EK.vals .op (avM l 0) 0 0) := ⟨_,rfl⟩
     rw [← hcs] at hBe
     have HSs := Lib.hid (show (zEv 0).size = cs.size by rw [hcs] <;> rfl)
     have HSz := Lib.hid (show (Tryd.prog.info? 25).map (·.size) = some cs.size by rw [hcs];kernel_rfl)
     have HS1 := Lib.hid (show cs.all (·.oneCell') = true by rw [hcs];exact vals_one _ _ _ _)
     have HCS := Lib.hid hcs
     have HBe := Lib.hid hBe
     have HBr := Lib.hid hBr
     clear hcs hBe hBr hekq hgkq hrq hpq
     go_wp2_with (first | (refine wpList_load_box rfl 25 (.tmp 3) rfl (w.heap.size + 1) (by rfl) cs _ HBe.out Tryd.underlying25 rfl HSz.out ?_) | (refine wpList_store_box rfl 25 (.tmp 2) (.tmp 66) rfl w.heap.size _ cs (by rfl) (by rfl) HBr.out HSs.out HSz.out HS1.out ?_;intro w5 Z5 ho5))
     obtain ⟨T5,Z5⟩ := Z5
     refine bodyPost_ret (results_cell_row rfl _ _ w.heap.size T5 cs (0,0) _ (by rfl) Z5 Tryd.underlying25 rfl HSz.out) rfl ⟨?_,hbq.trans (ho5.below (Nat.le_refl _))⟩
     rw [HCS.out,HF.out] <;> rfl
   ·have hek1 : wr.heap[w.heap.size + 1]? = some (.cells (zEv 2) 25 (0,0)) := hek
    clear hek
    have hk0 : wr.cell? ⟨w.heap.size + 1,0,none⟩ = some (.int .i64 2) := obj_cell hek1 rfl
    have hk4 : wr.cell? ⟨w.heap.size + 1,4,none⟩ = some (.bool false) := obj_cell hek1 rfl
    have hf4 : wr.frozen? ⟨w.heap.size + 1,4,none⟩ = false := obj_free hek1
    have hek2 : (wr.setCell ⟨w.heap.size + 1,4,none⟩ (.bool false)).heap[w.heap.size + 1]? = some (.cells (EK.vals .da 0 0 0) 25 (0,0)) := obj_set (o := 4) (.bool false) hek1
    have hgk2 : (wr.setCell ⟨w.heap.size + 1,4,none⟩ (.bool false)).heap[g]? = some (.cells (l.map fun x => Value.string (bS x)).toArray 9 (0,0)) := obj_other _ hgk (by omega)
    have hr2 : (wr.setCell ⟨w.heap.size + 1,4,none⟩ (.bool false)).heap[w.heap.size]? = some (.cells (zEv 0) 25 (0,0)) := obj_other _ hr0 (by omega)
    have hbw2 : Below w.heap.size w (wr.setCell ⟨w.heap.size + 1,4,none⟩ (.bool false)) := hbw.setCell (p := ⟨w.heap.size + 1,4,none⟩) (by simp) _
    have hs2 : (wr.setCell ⟨w.heap.size + 1,4,none⟩ (.bool false)).heap.size = wr.heap.size := by simp
    obtain ⟨W2,hW2⟩ : ∃ W2,W2 = wr.setCell ⟨w.heap.size + 1,4,none⟩ (.bool false) := ⟨_,rfl⟩
    rw [← hW2] at hek2 hgk2 hr2 hbw2 hs2
    clear hek1 hgk hr0 hbw hgr
    have hnum := fun W h => numbers_at .da (w.heap.size + 1) W h
    simp only [EK.nsl,EK.n] at hnum
    have hn0 : W2.cell? ⟨w.heap.size + 1,0,none⟩ = some (.int .i64 2) := obj_cell hek2 rfl
    go_upto_region 10 with (fail)
    rw [← hW2]
    clear hW2 hk0 hk4 hf4
    go_wp2_with (go_at_call 20;refine (hnum _ hn0).mono ?_;rintro e W3 ⟨g2,rfl,hg2,hb3,hp3⟩)
    have hs3 := hb3.size
    have hek3 := heap_below hb3 hek2
    have hgk3 := heap_below hb3 hgk2
    have hr3 := heap_below hb3 hr2
    have hbw3 : Below w.heap.size w W3 := hbw2.trans (hb3.mono (by omega))
    replace hp3 : W3.heap[g2]? = some (.cells #[.pointer (some ⟨w.heap.size + 1,2,none⟩),.pointer (some ⟨w.heap.size + 1,3,none⟩)] 59 (0,0)) := hp3 (by simp [EK.offs])
    have hne2 : w.heap.size + 1 < g2 := by omega
    clear hek2 hgk2 hr2 hbw2 hb3 hn0 hnum
    go_loopw [44] (fun i wr => ∃ k : Nat,i = .int .i64 k ∧ k ≤ 2 ∧ wr.heap[w.heap.size + 1]? = some (.cells (EK.vals .da (if 0 < k then avM l 0 else 0) (if 1 < k then avM l 1 else 0) 0) 25 (0,0)) ∧ wr.heap[g]? = some (.cells (l.map fun x => Value.string (bS x)).toArray 9 (0,0)) ∧ wr.heap[w.heap.size]? = some (.cells (zEv 0) 25 (0,0)) ∧ Below w.heap.size w wr ∧ w.heap.size + 2 ≤ wr.heap.size ∧ wr.heap[g2]? = some (.cells #[.pointer (some ⟨w.heap.size + 1,2,none⟩),.pointer (some ⟨w.heap.size + 1,3,none⟩)] 59 (0,0))) (fun i _ => match i with | .int _ z => 2 - z.toNat | _ => 0)
    case atStart => exact ⟨0,rfl,by omega,hek3,hgk3,hr3,hbw3,by omega,hp3⟩
    case round =>
     obtain ⟨k,rfl,hk,hekq,hgkq,hrq,hbq,hsq,hpq⟩ := hrel
     clear hek3 hgk3 hr3 hbw3 hp3
     have hgq := hg.below hbq
     by_cases h0 : k = 0
     ·subst h0
      have hej : wr.heap[w.heap.size + 1]? = some (.cells (EK.vals .da 0 0 0) 25 (0,0)) := hekq
      have hcp : wr.cell? ⟨g2,0,none⟩ = some (.pointer (some ⟨w.heap.size + 1,2,none⟩)) := obj_cell hpq rfl
      have hco : wr.cell? ⟨w.heap.size + 1,2,none⟩ = some (.int .i64 0) := obj_cell hej rfl
      have hfo : wr.frozen? ⟨w.heap.size + 1,2,none⟩ = false := obj_free hej
      clear hekq
      by_cases hlt : 1 < l.length
      ·have hltI : (1 : Int) < (l.length : Int) := by omega
       have hlg : l[1]? = some (l.getD 1 []) := by rw [zC,zE hlt];rfl
       have hav : avM l 0 = atoiV (l.getD 1 []) := av_hit hlt
       have hplj := HPL.out _ (zD hlg)
       obtain ⟨pj,hpj⟩ : ∃ pj,pj = l.getD 1 [] := ⟨_,rfl⟩
       rw [← hpj] at hlg hav hplj
       have hcl : wr.cell? ⟨g,1,none⟩ = some (.string (bS pj)) := obj_cell hgkq (by simp [hlg])
       have HAV := Lib.hid hav
       clear hav hpj hlg
       go_wp2_with (go_at_call 27;refine (lnAtoi pj hplj _ hgq).mono ?_;rintro e W4 ⟨er,rfl,hb4⟩;have hek4 := heap_below hb4 hej;have hco4 : W4.cell? ⟨w.heap.size + 1,2,none⟩ = some (.int .i64 0) := obj_cell hek4 rfl;have hfo4 : W4.frozen? ⟨w.heap.size + 1,2,none⟩ = false := obj_free hek4)
       go_roundw
       case rel =>
        refine ⟨1,by simp,by omega,?_,obj_other _ (heap_below hb4 hgkq) (by omega),obj_other _ (heap_below hb4 hrq) (by omega),(hbq.trans (hb4.mono (by omega))).setCell (p := ⟨w.heap.size + 1,2,none⟩) (by simp) _,by have := hb4.size;simp;omega,obj_other _ (heap_below hb4 hpq) (by omega)⟩
        have := obj_set (o := 2) (.int .i64 (atoiV pj)) hek4
        rw [← HAV.out] at this ⊢
        exact this
       case measure => simp
      ·have hltI : ¬ (1 : Int) < (l.length : Int) := by omega
       have HAV := Lib.hid (av_miss (l := l) (i := 0) hlt)
       go_wp2
       go_roundw
       case rel =>
        refine ⟨1,by simp,by omega,?_,hgkq,hrq,hbq,hsq,hpq⟩
        have hE : (EK.vals .da (avM l 0) 0 0) = (EK.vals .da 0 0 0) := by rw [HAV.out]
        show wr.heap[w.heap.size + 1]? = some (.cells (EK.vals .da (avM l 0) 0 0) 25 (0,0))
        rw [hE];exact hej
       case measure => simp
     by_cases h1 : k = 1
     ·subst h1
      have hej : wr.heap[w.heap.size + 1]? = some (.cells (EK.vals .da (avM l 0) 0 0) 25 (0,0)) := hekq
      have hcp : wr.cell? ⟨g2,1,none⟩ = some (.pointer (some ⟨w.heap.size + 1,3,none⟩)) := obj_cell hpq rfl
      have hco : wr.cell? ⟨w.heap.size + 1,3,none⟩ = some (.int .i64 0) := obj_cell hej rfl
      have hfo : wr.frozen? ⟨w.heap.size + 1,3,none⟩ = false := obj_free hej
      clear hekq
      by_cases hlt : 2 < l.length
      ·have hltI : (2 : Int) < (l.length : Int) := by omega
       have hlg : l[2]? = some (l.getD 2 []) := by rw [zC,zE hlt];rfl
       have hav : avM l 1 = atoiV (l.getD 2 []) := av_hit hlt
       have hplj := HPL.out _ (zD hlg)
       obtain ⟨pj,hpj⟩ : ∃ pj,pj = l.getD 2 [] := ⟨_,rfl⟩
       rw [← hpj] at hlg hav hplj
       have hcl : wr.cell? ⟨g,2,none⟩ = some (.string (bS pj)) := obj_cell hgkq (by simp [hlg])
       have HAV := Lib.hid hav
       clear hav hpj hlg
       go_wp2_with (go_at_call 27;refine (lnAtoi pj hplj _ hgq).mono ?_;rintro e W4 ⟨er,rfl,hb4⟩;have hek4 := heap_below hb4 hej;have hco4 : W4.cell? ⟨w.heap.size + 1,3,none⟩ = some (.int .i64 0) := obj_cell hek4 rfl;have hfo4 : W4.frozen? ⟨w.heap.size + 1,3,none⟩ = false := obj_free hek4)
       go_roundw
       case rel =>
        refine ⟨2,by simp,by omega,?_,obj_other _ (heap_below hb4 hgkq) (by omega),obj_other _ (heap_below hb4 hrq) (by omega),(hbq.trans (hb4.mono (by omega))).setCell (p := ⟨w.heap.size + 1,3,none⟩) (by simp) _,by have := hb4.size;simp;omega,obj_other _ (heap_below hb4 hpq) (by omega)⟩
        have := obj_set (o := 3) (.int .i64 (atoiV pj)) hek4
        rw [← HAV.out] at this ⊢
        exact this
       case measure => simp
      ·have hltI : ¬ (2 : Int) < (l.length : Int) := by omega
       have HAV := Lib.hid (av_miss (l := l) (i := 1) hlt)
       go_wp2
       go_roundw
       case rel =>
        refine ⟨2,by simp,by omega,?_,hgkq,hrq,hbq,hsq,hpq⟩
        have hE : (EK.vals .da (avM l 0) (avM l 1) 0) = (EK.vals .da (avM l 0) 0 0) := by rw [HAV.out]
        show wr.heap[w.heap.size + 1]? = some (.cells (EK.vals .da (avM l 0) (avM l 1) 0) 25 (0,0))
        rw [hE];exact hej
       case measure => simp
     obtain rfl : k = 2 := by omega
     have hBe : Box wr (w.heap.size + 1) (EK.vals .da (avM l 0) (avM l 1) 0) := ⟨_,hekq⟩
     have hBr : Box wr w.heap.size (zEv 0) := ⟨_,hrq⟩
     obtain ⟨cs,hcs⟩ : ∃ cs,cs = (EK.vals .da (avM l 0) (avM l 1) 0) := ⟨_,rfl⟩
     rw [← hcs] at hBe
     have HSs := Lib.hid (show (zEv 0).size = cs.size by rw [hcs] <;> rfl)
     have HSz := Lib.hid (show (Tryd.prog.info? 25).map (·.size) = some cs.size by rw [hcs];kernel_rfl)
     have HS1 := Lib.hid (show cs.all (·.oneCell') = true by rw [hcs];exact vals_one _ _ _ _)
     have HCS := Lib.hid hcs
     have HBe := Lib.hid hBe
     have HBr := Lib.hid hBr
     clear hcs hBe hBr hekq hgkq hrq hpq
     go_wp2_with (first | (refine wpList_load_box rfl 25 (.tmp 3) rfl (w.heap.size + 1) (by rfl) cs _ HBe.out Tryd.underlying25 rfl HSz.out ?_) | (refine wpList_store_box rfl 25 (.tmp 2) (.tmp 66) rfl w.heap.size _ cs (by rfl) (by rfl) HBr.out HSs.out HSz.out HS1.out ?_;intro w5 Z5 ho5))
     obtain ⟨T5,Z5⟩ := Z5
     refine bodyPost_ret (results_cell_row rfl _ _ w.heap.size T5 cs (0,0) _ (by rfl) Z5 Tryd.underlying25 rfl HSz.out) rfl ⟨?_,hbq.trans (ho5.below (Nat.le_refl _))⟩
     rw [HCS.out,HF.out] <;> rfl
   ·have hek1 : wr.heap[w.heap.size + 1]? = some (.cells (zEv 3) 25 (0,0)) := hek
    clear hek
    have hk0 : wr.cell? ⟨w.heap.size + 1,0,none⟩ = some (.int .i64 3) := obj_cell hek1 rfl
    have hk4 : wr.cell? ⟨w.heap.size + 1,4,none⟩ = some (.bool false) := obj_cell hek1 rfl
    have hf4 : wr.frozen? ⟨w.heap.size + 1,4,none⟩ = false := obj_free hek1
    have hek2 : (wr.setCell ⟨w.heap.size + 1,4,none⟩ (.bool false)).heap[w.heap.size + 1]? = some (.cells (EK.vals .cl 0 0 0) 25 (0,0)) := obj_set (o := 4) (.bool false) hek1
    have hgk2 : (wr.setCell ⟨w.heap.size + 1,4,none⟩ (.bool false)).heap[g]? = some (.cells (l.map fun x => Value.string (bS x)).toArray 9 (0,0)) := obj_other _ hgk (by omega)
    have hr2 : (wr.setCell ⟨w.heap.size + 1,4,none⟩ (.bool false)).heap[w.heap.size]? = some (.cells (zEv 0) 25 (0,0)) := obj_other _ hr0 (by omega)
    have hbw2 : Below w.heap.size w (wr.setCell ⟨w.heap.size + 1,4,none⟩ (.bool false)) := hbw.setCell (p := ⟨w.heap.size + 1,4,none⟩) (by simp) _
    have hs2 : (wr.setCell ⟨w.heap.size + 1,4,none⟩ (.bool false)).heap.size = wr.heap.size := by simp
    obtain ⟨W2,hW2⟩ : ∃ W2,W2 = wr.setCell ⟨w.heap.size + 1,4,none⟩ (.bool false) := ⟨_,rfl⟩
    rw [← hW2] at hek2 hgk2 hr2 hbw2 hs2
    clear hek1 hgk hr0 hbw hgr
    have hnum := fun W h => numbers_at .cl (w.heap.size + 1) W h
    simp only [EK.nsl,EK.n] at hnum
    have hn0 : W2.cell? ⟨w.heap.size + 1,0,none⟩ = some (.int .i64 3) := obj_cell hek2 rfl
    go_upto_region 10 with (fail)
    rw [← hW2]
    clear hW2 hk0 hk4 hf4
    go_wp2_with (go_at_call 20;refine (hnum _ hn0).mono ?_;rintro e W3 ⟨g2,rfl,hg2,hb3,hp3⟩)
    have hs3 := hb3.size
    have hek3 := heap_below hb3 hek2
    have hgk3 := heap_below hb3 hgk2
    have hr3 := heap_below hb3 hr2
    have hbw3 : Below w.heap.size w W3 := hbw2.trans (hb3.mono (by omega))
    replace hp3 : W3.heap[g2]? = some (.cells #[.pointer (some ⟨w.heap.size + 1,2,none⟩),.pointer (some ⟨w.heap.size + 1,3,none⟩)] 59 (0,0)) := hp3 (by simp [EK.offs])
    have hne2 : w.heap.size + 1 < g2 := by omega
    clear hek2 hgk2 hr2 hbw2 hb3 hn0 hnum
    go_loopw [44] (fun i wr => ∃ k : Nat,i = .int .i64 k ∧ k ≤ 2 ∧ wr.heap[w.heap.size + 1]? = some (.cells (EK.vals .cl (if 0 < k then avM l 0 else 0) (if 1 < k then avM l 1 else 0) 0) 25 (0,0)) ∧ wr.heap[g]? = some (.cells (l.map fun x => Value.string (bS x)).toArray 9 (0,0)) ∧ wr.heap[w.heap.size]? = some (.cells (zEv 0) 25 (0,0)) ∧ Below w.heap.size w wr ∧ w.heap.size + 2 ≤ wr.heap.size ∧ wr.heap[g2]? = some (.cells #[.pointer (some ⟨w.heap.size + 1,2,none⟩),.pointer (some ⟨w.heap.size + 1,3,none⟩)] 59 (0,0))) (fun i _ => match i with | .int _ z => 2 - z.toNat | _ => 0)
    case atStart => exact ⟨0,rfl,by omega,hek3,hgk3,hr3,hbw3,by omega,hp3⟩
    case round =>
     obtain ⟨k,rfl,hk,hekq,hgkq,hrq,hbq,hsq,hpq⟩ := hrel
     clear hek3 hgk3 hr3 hbw3 hp3
     have hgq := hg.below hbq
     by_cases h0 : k = 0
     ·subst h0
      have hej : wr.heap[w.heap.size + 1]? = some (.cells (EK.vals .cl 0 0 0) 25 (0,0)) := hekq
      have hcp : wr.cell? ⟨g2,0,none⟩ = some (.pointer (some ⟨w.heap.size + 1,2,none⟩)) := obj_cell hpq rfl
      have hco : wr.cell? ⟨w.heap.size + 1,2,none⟩ = some (.int .i64 0) := obj_cell hej rfl
      have hfo : wr.frozen? ⟨w.heap.size + 1,2,none⟩ = false := obj_free hej
      clear hekq
      by_cases hlt : 1 < l.length
      ·have hltI : (1 : Int) < (l.length : Int) := by omega
       have hlg : l[1]? = some (l.getD 1 []) := by rw [zC,zE hlt];rfl
       have hav : avM l 0 = atoiV (l.getD 1 []) := av_hit hlt
       have hplj := HPL.out _ (zD hlg)
       obtain ⟨pj,hpj⟩ : ∃ pj,pj = l.getD 1 [] := ⟨_,rfl⟩
       rw [← hpj] at hlg hav hplj
       have hcl : wr.cell? ⟨g,1,none⟩ = some (.string (bS pj)) := obj_cell hgkq (by simp [hlg])
       have HAV := Lib.hid hav
       clear hav hpj hlg
       go_wp2_with (go_at_call 27;refine (lnAtoi pj hplj _ hgq).mono ?_;rintro e W4 ⟨er,rfl,hb4⟩;have hek4 := heap_below hb4 hej;have hco4 : W4.cell? ⟨w.heap.size + 1,2,none⟩ = some (.int .i64 0) := obj_cell hek4 rfl;have hfo4 : W4.frozen? ⟨w.heap.size + 1,2,none⟩ = false := obj_free hek4)
       go_roundw
       case rel =>
        refine ⟨1,by simp,by omega,?_,obj_other _ (heap_below hb4 hgkq) (by omega),obj_other _ (heap_below hb4 hrq) (by omega),(hbq.trans (hb4.mono (by omega))).setCell (p := ⟨w.heap.size + 1,2,none⟩) (by simp) _,by have := hb4.size;simp;omega,obj_other _ (heap_below hb4 hpq) (by omega)⟩
        have := obj_set (o := 2) (.int .i64 (atoiV pj)) hek4
        rw [← HAV.out] at this ⊢
        exact this
       case measure => simp
      ·have hltI : ¬ (1 : Int) < (l.length : Int) := by omega
       have HAV := Lib.hid (av_miss (l := l) (i := 0) hlt)
       go_wp2
       go_roundw
       case rel =>
        refine ⟨1,by simp,by omega,?_,hgkq,hrq,hbq,hsq,hpq⟩
        have hE : (EK.vals .cl (avM l 0) 0 0) = (EK.vals .cl 0 0 0) := by rw [HAV.out]
        show wr.heap[w.heap.size + 1]? = some (.cells (EK.vals .cl (avM l 0) 0 0) 25 (0,0))
        rw [hE];exact hej
       case measure => simp
     by_cases h1 : k = 1
     ·subst h1
      have hej : wr.heap[w.heap.size + 1]? = some (.cells (EK.vals .cl (avM l 0) 0 0) 25 (0,0)) := hekq
      have hcp : wr.cell? ⟨g2,1,none⟩ = some (.pointer (some ⟨w.heap.size + 1,3,none⟩)) := obj_cell hpq rfl
      have hco : wr.cell? ⟨w.heap.size + 1,3,none⟩ = some (.int .i64 0) := obj_cell hej rfl
      have hfo : wr.frozen? ⟨w.heap.size + 1,3,none⟩ = false := obj_free hej
      clear hekq
      by_cases hlt : 2 < l.length
      ·have hltI : (2 : Int) < (l.length : Int) := by omega
       have hlg : l[2]? = some (l.getD 2 []) := by rw [zC,zE hlt];rfl
       have hav : avM l 1 = atoiV (l.getD 2 []) := av_hit hlt
       have hplj := HPL.out _ (zD hlg)
       obtain ⟨pj,hpj⟩ : ∃ pj,pj = l.getD 2 [] := ⟨_,rfl⟩
       rw [← hpj] at hlg hav hplj
       have hcl : wr.cell? ⟨g,2,none⟩ = some (.string (bS pj)) := obj_cell hgkq (by simp [hlg])
       have HAV := Lib.hid hav
       clear hav hpj hlg
       go_wp2_with (go_at_call 27;refine (lnAtoi pj hplj _ hgq).mono ?_;rintro e W4 ⟨er,rfl,hb4⟩;have hek4 := heap_below hb4 hej;have hco4 : W4.cell? ⟨w.heap.size + 1,3,none⟩ = some (.int .i64 0) := obj_cell hek4 rfl;have hfo4 : W4.frozen? ⟨w.heap.size + 1,3,none⟩ = false := obj_free hek4)
       go_roundw
       case rel =>
        refine ⟨2,by simp,by omega,?_,obj_other _ (heap_below hb4 hgkq) (by omega),obj_other _ (heap_below hb4 hrq) (by omega),(hbq.trans (hb4.mono (by omega))).setCell (p := ⟨w.heap.size + 1,3,none⟩) (by simp) _,by have := hb4.size;simp;omega,obj_other _ (heap_below hb4 hpq) (by omega)⟩
        have := obj_set (o := 3) (.int .i64 (atoiV pj)) hek4
        rw [← HAV.out] at this ⊢
        exact this
       case measure => simp
      ·have hltI : ¬ (2 : Int) < (l.length : Int) := by omega
       have HAV := Lib.hid (av_miss (l := l) (i := 1) hlt)
       go_wp2
       go_roundw
       case rel =>
        refine ⟨2,by simp,by omega,?_,hgkq,hrq,hbq,hsq,hpq⟩
        have hE : (EK.vals .cl (avM l 0) (avM l 1) 0) = (EK.vals .cl (avM l 0) 0 0) := by rw [HAV.out]
        show wr.heap[w.heap.size + 1]? = some (.cells (EK.vals .cl (avM l 0) (avM l 1) 0) 25 (0,0))
        rw [hE];exact hej
       case measure => simp
     obtain rfl : k = 2 := by omega
     have hBe : Box wr (w.heap.size + 1) (EK.vals .cl (avM l 0) (avM l 1) 0) := ⟨_,hekq⟩
     have hBr : Box wr w.heap.size (zEv 0) := ⟨_,hrq⟩
     obtain ⟨cs,hcs⟩ : ∃ cs,cs = (EK.vals .cl (avM l 0) (avM l 1) 0) := ⟨_,rfl⟩
     rw [← hcs] at hBe
     have HSs := Lib.hid (show (zEv 0).size = cs.size by rw [hcs] <;> rfl)
     have HSz := Lib.hid (show (Tryd.prog.info? 25).map (·.size) = some cs.size by rw [hcs];kernel_rfl)
     have HS1 := Lib.hid (show cs.all (·.oneCell') = true by rw [hcs];exact vals_one _ _ _ _)
     have HCS := Lib.hid hcs
     have HBe := Lib.hid hBe
     have HBr := Lib.hid hBr
     clear hcs hBe hBr hekq hgkq hrq hpq
     go_wp2_with (first | (refine wpList_load_box rfl 25 (.tmp 3) rfl (w.heap.size + 1) (by rfl) cs _ HBe.out Tryd.underlying25 rfl HSz.out ?_) | (refine wpList_store_box rfl 25 (.tmp 2) (.tmp 66) rfl w.heap.size _ cs (by rfl) (by rfl) HBr.out HSs.out HSz.out HS1.out ?_;intro w5 Z5 ho5))
     obtain ⟨T5,Z5⟩ := Z5
     refine bodyPost_ret (results_cell_row rfl _ _ w.heap.size T5 cs (0,0) _ (by rfl) Z5 Tryd.underlying25 rfl HSz.out) rfl ⟨?_,hbq.trans (ho5.below (Nat.le_refl _))⟩
     rw [HCS.out,HF.out] <;> rfl
   ·have hek1 : wr.heap[w.heap.size + 1]? = some (.cells (zEv 4) 25 (0,0)) := hek
    clear hek
    have hk0 : wr.cell? ⟨w.heap.size + 1,0,none⟩ = some (.int .i64 4) := obj_cell hek1 rfl
    have hk4 : wr.cell? ⟨w.heap.size + 1,4,none⟩ = some (.bool false) := obj_cell hek1 rfl
    have hf4 : wr.frozen? ⟨w.heap.size + 1,4,none⟩ = false := obj_free hek1
    obtain ⟨q,hq⟩ : ∃ q,q = l.getD (l.length - 1) [] := ⟨_,rfl⟩
    have hlq : l[l.length - 1]? = some q := by rw [hq,zC,zE (by omega)];rfl
    have hcq : wr.cell? ⟨g,l.length - 1,none⟩ = some (.string (bS q)) := obj_cell hgk (by simp [hlq])
    have hlw : IntKind.i64.wrap ((l.length : Int) - 1) = (l.length : Int) - 1 := wrap_in ⟨by omega,by omega⟩
    have hl1 : (0 : Int) ≤ (l.length : Int) - 1 := by omega
    have hl2 : (l.length : Int) - 1 < (l.length : Int) := by omega
    have HQ := Lib.hid hq
    clear hq hlq
    by_cases hgd : q = [103,111,111,100]
    ·have HGM := Lib.hid (show goodM l = 1 by unfold goodM;rw [if_pos (by rw [← HQ.out];exact hgd)])
     have hqe : (q == [103,111,111,100]) = true := beq_iff_eq.2 hgd
     clear hgd
     have hek2 : (wr.setCell ⟨w.heap.size + 1,4,none⟩ (.bool true)).heap[w.heap.size + 1]? = some (.cells (EK.vals .an 0 0 (goodM l)) 25 (0,0)) := by rw [HGM.out];exact obj_set (o := 4) (.bool true) hek1
     have hgk2 : (wr.setCell ⟨w.heap.size + 1,4,none⟩ (.bool true)).heap[g]? = some (.cells (l.map fun x => Value.string (bS x)).toArray 9 (0,0)) := obj_other _ hgk (by omega)
     have hr2 : (wr.setCell ⟨w.heap.size + 1,4,none⟩ (.bool true)).heap[w.heap.size]? = some (.cells (zEv 0) 25 (0,0)) := obj_other _ hr0 (by omega)
     have hbw2 : Below w.heap.size w (wr.setCell ⟨w.heap.size + 1,4,none⟩ (.bool true)) := hbw.setCell (p := ⟨w.heap.size + 1,4,none⟩) (by simp) _
     have hs2 : (wr.setCell ⟨w.heap.size + 1,4,none⟩ (.bool true)).heap.size = wr.heap.size := by simp
     obtain ⟨W2,hW2⟩ : ∃ W2,W2 = wr.setCell ⟨w.heap.size + 1,4,none⟩ (.bool true) := ⟨_,rfl⟩
     rw [← hW2] at hek2 hgk2 hr2 hbw2 hs2
     clear hek1 hgk hr0 hbw hgr
     have hnum := fun W h => numbers_at .an (w.heap.size + 1) W h
     simp only [EK.nsl,EK.n] at hnum
     have hn0 : W2.cell? ⟨w.heap.size + 1,0,none⟩ = some (.int .i64 4) := obj_cell hek2 rfl
     go_upto_region 10 with (fail)
     rw [← hW2]
     clear hW2 hk0 hk4 hf4
     go_wp2_with (go_at_call 20;refine (hnum _ hn0).mono ?_;rintro e W3 ⟨g2,rfl,hg2,hb3,hp3⟩)
     have hs3 := hb3.size
     have hek3 := heap_below hb3 hek2
     have hgk3 := heap_below hb3 hgk2
     have hr3 := heap_below hb3 hr2
     have hbw3 : Below w.heap.size w W3 := hbw2.trans (hb3.mono (by omega))
     replace hp3 : W3.heap[g2]? = some (.cells #[.pointer (some ⟨w.heap.size + 1,2,none⟩),.pointer (some ⟨w.heap.size + 1,3,none⟩)] 59 (0,0)) := hp3 (by simp [EK.offs])
     have hne2 : w.heap.size + 1 < g2 := by omega
     clear hek2 hgk2 hr2 hbw2 hb3 hn0 hnum
     go_loopw [44] (fun i wr => ∃ k : Nat,i = .int .i64 k ∧ k ≤ 2 ∧ wr.heap[w.heap.size + 1]? = some (.cells (EK.vals .an (if 0 < k then avM l 0 else 0) (if 1 < k then avM l 1 else 0) (goodM l)) 25 (0,0)) ∧ wr.heap[g]? = some (.cells (l.map fun x => Value.string (bS x)).toArray 9 (0,0)) ∧ wr.heap[w.heap.size]? = some (.cells (zEv 0) 25 (0,0)) ∧ Below w.heap.size w wr ∧ w.heap.size + 2 ≤ wr.heap.size ∧ wr.heap[g2]? = some (.cells #[.pointer (some ⟨w.heap.size + 1,2,none⟩),.pointer (some ⟨w.heap.size + 1,3,none⟩)] 59 (0,0))) (fun i _ => match i with | .int _ z => 2 - z.toNat | _ => 0)
     case atStart => exact ⟨0,rfl,by omega,hek3,hgk3,hr3,hbw3,by omega,hp3⟩
     case round =>
      obtain ⟨k,rfl,hk,hekq,hgkq,hrq,hbq,hsq,hpq⟩ := hrel
      clear hek3 hgk3 hr3 hbw3 hp3
      have hgq := hg.below hbq
      by_cases h0 : k = 0
      ·subst h0
       have hej : wr.heap[w.heap.size + 1]? = some (.cells (EK.vals .an 0 0 (goodM l)) 25 (0,0)) := hekq
       have hcp : wr.cell? ⟨g2,0,none⟩ = some (.pointer (some ⟨w.heap.size + 1,2,none⟩)) := obj_cell hpq rfl
       have hco : wr.cell? ⟨w.heap.size + 1,2,none⟩ = some (.int .i64 0) := obj_cell hej rfl
       have hfo : wr.frozen? ⟨w.heap.size + 1,2,none⟩ = false := obj_free hej
       clear hekq
       by_cases hlt : 1 < l.length
       ·have hltI : (1 : Int) < (l.length : Int) := by omega
        have hlg : l[1]? = some (l.getD 1 []) := by rw [zC,zE hlt];rfl
        have hav : avM l 0 = atoiV (l.getD 1 []) := av_hit hlt
        have hplj := HPL.out _ (zD hlg)
        obtain ⟨pj,hpj⟩ : ∃ pj,pj = l.getD 1 [] := ⟨_,rfl⟩
        rw [← hpj] at hlg hav hplj
        have hcl : wr.cell? ⟨g,1,none⟩ = some (.string (bS pj)) := obj_cell hgkq (by simp [hlg])
        have HAV := Lib.hid hav
        clear hav hpj hlg
        go_wp2_with (go_at_call 27;refine (lnAtoi pj hplj _ hgq).mono ?_;rintro e W4 ⟨er,rfl,hb4⟩;have hek4 := heap_below hb4 hej;have hco4 : W4.cell? ⟨w.heap.size + 1,2,none⟩ = some (.int .i64 0) := obj_cell hek4 rfl;have hfo4 : W4.frozen? ⟨w.heap.size + 1,2,none⟩ = false := obj_free hek4)
        go_roundw
        case rel =>
         refine ⟨1,by simp,by omega,?_,obj_other _ (heap_below hb4 hgkq) (by omega),obj_other _ (heap_below hb4 hrq) (by omega),(hbq.trans (hb4.mono (by omega))).setCell (p := ⟨w.heap.size + 1,2,none⟩) (by simp) _,by have := hb4.size;simp;omega,obj_other _ (heap_below hb4 hpq) (by omega)⟩
         have := obj_set (o := 2) (.int .i64 (atoiV pj)) hek4
         rw [← HAV.out] at this ⊢
         exact this
        case measure => simp
       ·have hltI : ¬ (1 : Int) < (l.length : Int) := by omega
        have HAV := Lib.hid (av_miss (l := l) (i := 0) hlt)
        go_wp2
        go_roundw
        case rel =>
         refine ⟨1,by simp,by omega,?_,hgkq,hrq,hbq,hsq,hpq⟩
         have hE : (EK.vals .an (avM l 0) 0 (goodM l)) = (EK.vals .an 0 0 (goodM l)) := by rw [HAV.out]
         show wr.heap[w.heap.size + 1]? = some (.cells (EK.vals .an (avM l 0) 0 (goodM l)) 25 (0,0))
         rw [hE];exact hej
        case measure => simp
      by_cases h1 : k = 1
      ·subst h1
       have hej : wr.heap[w.heap.size + 1]? = some (.cells (EK.vals .an (avM l 0) 0 (goodM l)) 25 (0,0)) := hekq
       have hcp : wr.cell? ⟨g2,1,none⟩ = some (.pointer (some ⟨w.heap.size + 1,3,none⟩)) := obj_cell hpq rfl
       have hco : wr.cell? ⟨w.heap.size + 1,3,none⟩ = some (.int .i64 0) := obj_cell hej rfl
       have hfo : wr.frozen? ⟨w.heap.size + 1,3,none⟩ = false := obj_free hej
       clear hekq
       by_cases hlt : 2 < l.length
       ·have hltI : (2 : Int) < (l.length : Int) := by omega
        have hlg : l[2]? = some (l.getD 2 []) := by rw [zC,zE hlt];rfl
        have hav : avM l 1 = atoiV (l.getD 2 []) := av_hit hlt
        have hplj := HPL.out _ (zD hlg)
        obtain ⟨pj,hpj⟩ : ∃ pj,pj = l.getD 2 [] := ⟨_,rfl⟩
        rw [← hpj] at hlg hav hplj
        have hcl : wr.cell? ⟨g,2,none⟩ = some (.string (bS pj)) := obj_cell hgkq (by simp [hlg])
        have HAV := Lib.hid hav
        clear hav hpj hlg
        go_wp2_with (go_at_call 27;refine (lnAtoi pj hplj _ hgq).mono ?_;rintro e W4 ⟨er,rfl,hb4⟩;have hek4 := heap_below hb4 hej;have hco4 : W4.cell? ⟨w.heap.size + 1,3,none⟩ = some (.int .i64 0) := obj_cell hek4 rfl;have hfo4 : W4.frozen? ⟨w.heap.size + 1,3,none⟩ = false := obj_free hek4)
        go_roundw
        case rel =>
         refine ⟨2,by simp,by omega,?_,obj_other _ (heap_below hb4 hgkq) (by omega),obj_other _ (heap_below hb4 hrq) (by omega),(hbq.trans (hb4.mono (by omega))).setCell (p := ⟨w.heap.size + 1,3,none⟩) (by simp) _,by have := hb4.size;simp;omega,obj_other _ (heap_below hb4 hpq) (by omega)⟩
         have := obj_set (o := 3) (.int .i64 (atoiV pj)) hek4
         rw [← HAV.out] at this ⊢
         exact this
        case measure => simp
       ·have hltI : ¬ (2 : Int) < (l.length : Int) := by omega
        have HAV := Lib.hid (av_miss (l := l) (i := 1) hlt)
        go_wp2
        go_roundw
        case rel =>
         refine ⟨2,by simp,by omega,?_,hgkq,hrq,hbq,hsq,hpq⟩
         have hE : (EK.vals .an (avM l 0) (avM l 1) (goodM l)) = (EK.vals .an (avM l 0) 0 (goodM l)) := by rw [HAV.out]
         show wr.heap[w.heap.size + 1]? = some (.cells (EK.vals .an (avM l 0) (avM l 1) (goodM l)) 25 (0,0))
         rw [hE];exact hej
        case measure => simp
      obtain rfl : k = 2 := by omega
      have hBe : Box wr (w.heap.size + 1) (EK.vals .an (avM l 0) (avM l 1) (goodM l)) := ⟨_,hekq⟩
      have hBr : Box wr w.heap.size (zEv 0) := ⟨_,hrq⟩
      obtain ⟨cs,hcs⟩ : ∃ cs,cs = (EK.vals .an (avM l 0) (avM l 1) (goodM l)) := ⟨_,rfl⟩
      rw [← hcs] at hBe
      have HSs := Lib.hid (show (zEv 0).size = cs.size by rw [hcs] <;> rfl)
      have HSz := Lib.hid (show (Tryd.prog.info? 25).map (·.size) = some cs.size by rw [hcs];kernel_rfl)
      have HS1 := Lib.hid (show cs.all (·.oneCell') = true by rw [hcs];exact vals_one _ _ _ _)
      have HCS := Lib.hid hcs
      have HBe := Lib.hid hBe
      have HBr := Lib.hid hBr
      clear hcs hBe hBr hekq hgkq hrq hpq
      go_wp2_with (first | (refine wpList_load_box rfl 25 (.tmp 3) rfl (w.heap.size + 1) (by rfl) cs _ HBe.out Tryd.underlying25 rfl HSz.out ?_) | (refine wpList_store_box rfl 25 (.tmp 2) (.tmp 66) rfl w.heap.size _ cs (by rfl) (by rfl) HBr.out HSs.out HSz.out HS1.out ?_;intro w5 Z5 ho5))
      obtain ⟨T5,Z5⟩ := Z5
      refine bodyPost_ret (results_cell_row rfl _ _ w.heap.size T5 cs (0,0) _ (by rfl) Z5 Tryd.underlying25 rfl HSz.out) rfl ⟨?_,hbq.trans (ho5.below (Nat.le_refl _))⟩
      rw [HCS.out,HF.out] <;> rfl
    ·have HGM := Lib.hid (show goodM l = 0 by unfold goodM;rw [if_neg (by rw [← HQ.out];exact hgd)])
     have hqe : (q == [103,111,111,100]) = false := beq_eq_false_iff_ne.2 hgd
     clear hgd
     have hek2 : (wr.setCell ⟨w.heap.size + 1,4,none⟩ (.bool false)).heap[w.heap.size + 1]? = some (.cells (EK.vals .an 0 0 (goodM l)) 25 (0,0)) := by rw [HGM.out];exact obj_set (o := 4) (.bool false) hek1
     have hgk2 : (wr.setCell ⟨w.heap.size + 1,4,none⟩ (.bool false)).heap[g]? = some (.cells (l.map fun x => Value.string (bS x)).toArray 9 (0,0)) := obj_other _ hgk (by omega)
     have hr2 : (wr.setCell ⟨w.heap.size + 1,4,none⟩ (.bool false)).heap[w.heap.size]? = some (.cells (zEv 0) 25 (0,0)) := obj_other _ hr0 (by omega)
     have hbw2 : Below w.heap.size w (wr.setCell ⟨w.heap.size + 1,4,none⟩ (.bool false)) := hbw.setCell (p := ⟨w.heap.size + 1,4,none⟩) (by simp) _
     have hs2 : (wr.setCell ⟨w.heap.size + 1,4,none⟩ (.bool false)).heap.size = wr.heap.size := by simp
     obtain ⟨W2,hW2⟩ : ∃ W2,W2 = wr.setCell ⟨w.heap.size + 1,4,none⟩ (.bool false) := ⟨_,rfl⟩
     rw [← hW2] at hek2 hgk2 hr2 hbw2 hs2
     clear hek1 hgk hr0 hbw hgr
     have hnum := fun W h => numbers_at .an (w.heap.size + 1) W h
     simp only [EK.nsl,EK.n] at hnum
     have hn0 : W2.cell? ⟨w.heap.size + 1,0,none⟩ = some (.int .i64 4) := obj_cell hek2 rfl
     go_upto_region 10 with (fail)
     rw [← hW2]
     clear hW2 hk0 hk4 hf4
     go_wp2_with (go_at_call 20;refine (hnum _ hn0).mono ?_;rintro e W3 ⟨g2,rfl,hg2,hb3,hp3⟩)
     have hs3 := hb3.size
     have hek3 := heap_below hb3 hek2
     have hgk3 := heap_below hb3 hgk2
     have hr3 := heap_below hb3 hr2
     have hbw3 : Below w.heap.size w W3 := hbw2.trans (hb3.mono (by omega))
     replace hp3 : W3.heap[g2]? = some (.cells #[.pointer (some ⟨w.heap.size + 1,2,none⟩),.pointer (some ⟨w.heap.size + 1,3,none⟩)] 59 (0,0)) := hp3 (by simp [EK.offs])
     have hne2 : w.heap.size + 1 < g2 := by omega
     clear hek2 hgk2 hr2 hbw2 hb3 hn0 hnum
     go_loopw [44] (fun i wr => ∃ k : Nat,i = .int .i64 k ∧ k ≤ 2 ∧ wr.heap[w.heap.size + 1]? = some (.cells (EK.vals .an (if 0 < k then avM l 0 else 0) (if 1 < k then avM l 1 else 0) (goodM l)) 25 (0,0)) ∧ wr.heap[g]? = some (.cells (l.map fun x => Value.string (bS x)).toArray 9 (0,0)) ∧ wr.heap[w.heap.size]? = some (.cells (zEv 0) 25 (0,0)) ∧ Below w.heap.size w wr ∧ w.heap.size + 2 ≤ wr.heap.size ∧ wr.heap[g2]? = some (.cells #[.pointer (some ⟨w.heap.size + 1,2,none⟩),.pointer (some ⟨w.heap.size + 1,3,none⟩)] 59 (0,0))) (fun i _ => match i with | .int _ z => 2 - z.toNat | _ => 0)
     case atStart => exact ⟨0,rfl,by omega,hek3,hgk3,hr3,hbw3,by omega,hp3⟩
     case round =>
      obtain ⟨k,rfl,hk,hekq,hgkq,hrq,hbq,hsq,hpq⟩ := hrel
      clear hek3 hgk3 hr3 hbw3 hp3
      have hgq := hg.below hbq
      by_cases h0 : k = 0
      ·subst h0
       have hej : wr.heap[w.heap.size + 1]? = some (.cells (EK.vals .an 0 0 (goodM l)) 25 (0,0)) := hekq
       have hcp : wr.cell? ⟨g2,0,none⟩ = some (.pointer (some ⟨w.heap.size + 1,2,none⟩)) := obj_cell hpq rfl
       have hco : wr.cell? ⟨w.heap.size + 1,2,none⟩ = some (.int .i64 0) := obj_cell hej rfl
       have hfo : wr.frozen? ⟨w.heap.size + 1,2,none⟩ = false := obj_free hej
       clear hekq
       by_cases hlt : 1 < l.length
       ·have hltI : (1 : Int) < (l.length : Int) := by omega
        have hlg : l[1]? = some (l.getD 1 []) := by rw [zC,zE hlt];rfl
        have hav : avM l 0 = atoiV (l.getD 1 []) := av_hit hlt
        have hplj := HPL.out _ (zD hlg)
        obtain ⟨pj,hpj⟩ : ∃ pj,pj = l.getD 1 [] := ⟨_,rfl⟩
        rw [← hpj] at hlg hav hplj
        have hcl : wr.cell? ⟨g,1,none⟩ = some (.string (bS pj)) := obj_cell hgkq (by simp [hlg])
        have HAV := Lib.hid hav
        clear hav hpj hlg
        go_wp2_with (go_at_call 27;refine (lnAtoi pj hplj _ hgq).mono ?_;rintro e W4 ⟨er,rfl,hb4⟩;have hek4 := heap_below hb4 hej;have hco4 : W4.cell? ⟨w.heap.size + 1,2,none⟩ = some (.int .i64 0) := obj_cell hek4 rfl;have hfo4 : W4.frozen? ⟨w.heap.size + 1,2,none⟩ = false := obj_free hek4)
        go_roundw
        case rel =>
         refine ⟨1,by simp,by omega,?_,obj_other _ (heap_below hb4 hgkq) (by omega),obj_other _ (heap_below hb4 hrq) (by omega),(hbq.trans (hb4.mono (by omega))).setCell (p := ⟨w.heap.size + 1,2,none⟩) (by simp) _,by have := hb4.size;simp;omega,obj_other _ (heap_below hb4 hpq) (by omega)⟩
         have := obj_set (o := 2) (.int .i64 (atoiV pj)) hek4
         rw [← HAV.out] at this ⊢
         exact this
        case measure => simp
       ·have hltI : ¬ (1 : Int) < (l.length : Int) := by omega
        have HAV := Lib.hid (av_miss (l := l) (i := 0) hlt)
        go_wp2
        go_roundw
        case rel =>
         refine ⟨1,by simp,by omega,?_,hgkq,hrq,hbq,hsq,hpq⟩
         have hE : (EK.vals .an (avM l 0) 0 (goodM l)) = (EK.vals .an 0 0 (goodM l)) := by rw [HAV.out]
         show wr.heap[w.heap.size + 1]? = some (.cells (EK.vals .an (avM l 0) 0 (goodM l)) 25 (0,0))
         rw [hE];exact hej
        case measure => simp
      by_cases h1 : k = 1
      ·subst h1
       have hej : wr.heap[w.heap.size + 1]? = some (.cells (EK.vals .an (avM l 0) 0 (goodM l)) 25 (0,0)) := hekq
       have hcp : wr.cell? ⟨g2,1,none⟩ = some (.pointer (some ⟨w.heap.size + 1,3,none⟩)) := obj_cell hpq rfl
       have hco : wr.cell? ⟨w.heap.size + 1,3,none⟩ = some (.int .i64 0) := obj_cell hej rfl
       have hfo : wr.frozen? ⟨w.heap.size + 1,3,none⟩ = false := obj_free hej
       clear hekq
       by_cases hlt : 2 < l.length
       ·have hltI : (2 : Int) < (l.length : Int) := by omega
        have hlg : l[2]? = some (l.getD 2 []) := by rw [zC,zE hlt];rfl
        have hav : avM l 1 = atoiV (l.getD 2 []) := av_hit hlt
        have hplj := HPL.out _ (zD hlg)
        obtain ⟨pj,hpj⟩ : ∃ pj,pj = l.getD 2 [] := ⟨_,rfl⟩
        rw [← hpj] at hlg hav hplj
        have hcl : wr.cell? ⟨g,2,none⟩ = some (.string (bS pj)) := obj_cell hgkq (by simp [hlg])
        have HAV := Lib.hid hav
        clear hav hpj hlg
        go_wp2_with (go_at_call 27;refine (lnAtoi pj hplj _ hgq).mono ?_;rintro e W4 ⟨er,rfl,hb4⟩;have hek4 := heap_below hb4 hej;have hco4 : W4.cell? ⟨w.heap.size + 1,3,none⟩ = some (.int .i64 0) := obj_cell hek4 rfl;have hfo4 : W4.frozen? ⟨w.heap.size + 1,3,none⟩ = false := obj_free hek4)
        go_roundw
        case rel =>
         refine ⟨2,by simp,by omega,?_,obj_other _ (heap_below hb4 hgkq) (by omega),obj_other _ (heap_below hb4 hrq) (by omega),(hbq.trans (hb4.mono (by omega))).setCell (p := ⟨w.heap.size + 1,3,none⟩) (by simp) _,by have := hb4.size;simp;omega,obj_other _ (heap_below hb4 hpq) (by omega)⟩
         have := obj_set (o := 3) (.int .i64 (atoiV pj)) hek4
         rw [← HAV.out] at this ⊢
         exact this
        case measure => simp
       ·have hltI : ¬ (2 : Int) < (l.length : Int) := by omega
        have HAV := Lib.hid (av_miss (l := l) (i := 1) hlt)
        go_wp2
        go_roundw
        case rel =>
         refine ⟨2,by simp,by omega,?_,hgkq,hrq,hbq,hsq,hpq⟩
         have hE : (EK.vals .an (avM l 0) (avM l 1) (goodM l)) = (EK.vals .an (avM l 0) 0 (goodM l)) := by rw [HAV.out]
         show wr.heap[w.heap.size + 1]? = some (.cells (EK.vals .an (avM l 0) (avM l 1) (goodM l)) 25 (0,0))
         rw [hE];exact hej
        case measure => simp
      obtain rfl : k = 2 := by omega
      have hBe : Box wr (w.heap.size + 1) (EK.vals .an (avM l 0) (avM l 1) (goodM l)) := ⟨_,hekq⟩
      have hBr : Box wr w.heap.size (zEv 0) := ⟨_,hrq⟩
      obtain ⟨cs,hcs⟩ : ∃ cs,cs = (EK.vals .an (avM l 0) (avM l 1) (goodM l)) := ⟨_,rfl⟩
      rw [← hcs] at hBe
      have HSs := Lib.hid (show (zEv 0).size = cs.size by rw [hcs] <;> rfl)
      have HSz := Lib.hid (show (Tryd.prog.info? 25).map (·.size) = some cs.size by rw [hcs];kernel_rfl)
      have HS1 := Lib.hid (show cs.all (·.oneCell') = true by rw [hcs];exact vals_one _ _ _ _)
      have HCS := Lib.hid hcs
      have HBe := Lib.hid hBe
      have HBr := Lib.hid hBr
      clear hcs hBe hBr hekq hgkq hrq hpq
      go_wp2_with (first | (refine wpList_load_box rfl 25 (.tmp 3) rfl (w.heap.size + 1) (by rfl) cs _ HBe.out Tryd.underlying25 rfl HSz.out ?_) | (refine wpList_store_box rfl 25 (.tmp 2) (.tmp 66) rfl w.heap.size _ cs (by rfl) (by rfl) HBr.out HSs.out HSz.out HS1.out ?_;intro w5 Z5 ho5))
      obtain ⟨T5,Z5⟩ := Z5
      refine bodyPost_ret (results_cell_row rfl _ _ w.heap.size T5 cs (0,0) _ (by rfl) Z5 Tryd.underlying25 rfl HSz.out) rfl ⟨?_,hbq.trans (ho5.below (Nat.le_refl _))⟩
      rw [HCS.out,HF.out] <;> rfl
   ·have hek1 : wr.heap[w.heap.size + 1]? = some (.cells (zEv 5) 25 (0,0)) := hek
    clear hek
    have hk0 : wr.cell? ⟨w.heap.size + 1,0,none⟩ = some (.int .i64 5) := obj_cell hek1 rfl
    have hk4 : wr.cell? ⟨w.heap.size + 1,4,none⟩ = some (.bool false) := obj_cell hek1 rfl
    have hf4 : wr.frozen? ⟨w.heap.size + 1,4,none⟩ = false := obj_free hek1
    have hek2 : (wr.setCell ⟨w.heap.size + 1,4,none⟩ (.bool false)).heap[w.heap.size + 1]? = some (.cells (EK.vals .jo 0 0 0) 25 (0,0)) := obj_set (o := 4) (.bool false) hek1
    have hgk2 : (wr.setCell ⟨w.heap.size + 1,4,none⟩ (.bool false)).heap[g]? = some (.cells (l.map fun x => Value.string (bS x)).toArray 9 (0,0)) := obj_other _ hgk (by omega)
    have hr2 : (wr.setCell ⟨w.heap.size + 1,4,none⟩ (.bool false)).heap[w.heap.size]? = some (.cells (zEv 0) 25 (0,0)) := obj_other _ hr0 (by omega)
    have hbw2 : Below w.heap.size w (wr.setCell ⟨w.heap.size + 1,4,none⟩ (.bool false)) := hbw.setCell (p := ⟨w.heap.size + 1,4,none⟩) (by simp) _
    have hs2 : (wr.setCell ⟨w.heap.size + 1,4,none⟩ (.bool false)).heap.size = wr.heap.size := by simp
    obtain ⟨W2,hW2⟩ : ∃ W2,W2 = wr.setCell ⟨w.heap.size + 1,4,none⟩ (.bool false) := ⟨_,rfl⟩
    rw [← hW2] at hek2 hgk2 hr2 hbw2 hs2
    clear hek1 hgk hr0 hbw hgr
    have hnum := fun W h => numbers_at .jo (w.heap.size + 1) W h
    simp only [EK.nsl,EK.n] at hnum
    have hn0 : W2.cell? ⟨w.heap.size + 1,0,none⟩ = some (.int .i64 5) := obj_cell hek2 rfl
    go_upto_region 10 with (fail)
    rw [← hW2]
    clear hW2 hk0 hk4 hf4
    go_wp2_with (go_at_call 20;refine (hnum _ hn0).mono ?_;rintro e W3 ⟨g2,rfl,hg2,hb3,hp3⟩)
    have hs3 := hb3.size
    have hek3 := heap_below hb3 hek2
    have hgk3 := heap_below hb3 hgk2
    have hr3 := heap_below hb3 hr2
    have hbw3 : Below w.heap.size w W3 := hbw2.trans (hb3.mono (by omega))
    replace hp3 : W3.heap[g2]? = some (.cells #[.pointer (some ⟨w.heap.size + 1,5,none⟩),.pointer (some ⟨w.heap.size + 1,6,none⟩),.pointer (some ⟨w.heap.size + 1,7,none⟩)] 59 (0,0)) := hp3 (by simp [EK.offs])
    have hne2 : w.heap.size + 1 < g2 := by omega
    clear hek2 hgk2 hr2 hbw2 hb3 hn0 hnum
    go_loopw [44] (fun i wr => ∃ k : Nat,i = .int .i64 k ∧ k ≤ 3 ∧ wr.heap[w.heap.size + 1]? = some (.cells (EK.vals .jo (if 0 < k then avM l 0 else 0) (if 1 < k then avM l 1 else 0) (if 2 < k then avM l 2 else 0)) 25 (0,0)) ∧ wr.heap[g]? = some (.cells (l.map fun x => Value.string (bS x)).toArray 9 (0,0)) ∧ wr.heap[w.heap.size]? = some (.cells (zEv 0) 25 (0,0)) ∧ Below w.heap.size w wr ∧ w.heap.size + 2 ≤ wr.heap.size ∧ wr.heap[g2]? = some (.cells #[.pointer (some ⟨w.heap.size + 1,5,none⟩),.pointer (some ⟨w.heap.size + 1,6,none⟩),.pointer (some ⟨w.heap.size + 1,7,none⟩)] 59 (0,0))) (fun i _ => match i with | .int _ z => 3 - z.toNat | _ => 0)
    case atStart => exact ⟨0,rfl,by omega,hek3,hgk3,hr3,hbw3,by omega,hp3⟩
    case round =>
     obtain ⟨k,rfl,hk,hekq,hgkq,hrq,hbq,hsq,hpq⟩ := hrel
     clear hek3 hgk3 hr3 hbw3 hp3
     have hgq := hg.below hbq
     by_cases h0 : k = 0
     ·subst h0
      have hej : wr.heap[w.heap.size + 1]? = some (.cells (EK.vals .jo 0 0 0) 25 (0,0)) := hekq
      have hcp : wr.cell? ⟨g2,0,none⟩ = some (.pointer (some ⟨w.heap.size + 1,5,none⟩)) := obj_cell hpq rfl
      have hco : wr.cell? ⟨w.heap.size + 1,5,none⟩ = some (.int .i64 0) := obj_cell hej rfl
      have hfo : wr.frozen? ⟨w.heap.size + 1,5,none⟩ = false := obj_free hej
      clear hekq
      by_cases hlt : 1 < l.length
      ·have hltI : (1 : Int) < (l.length : Int) := by omega
       have hlg : l[1]? = some (l.getD 1 []) := by rw [zC,zE hlt];rfl
       have hav : avM l 0 = atoiV (l.getD 1 []) := av_hit hlt
       have hplj := HPL.out _ (zD hlg)
       obtain ⟨pj,hpj⟩ : ∃ pj,pj = l.getD 1 [] := ⟨_,rfl⟩
       rw [← hpj] at hlg hav hplj
       have hcl : wr.cell? ⟨g,1,none⟩ = some (.string (bS pj)) := obj_cell hgkq (by simp [hlg])
       have HAV := Lib.hid hav
       clear hav hpj hlg
       go_wp2_with (go_at_call 27;refine (lnAtoi pj hplj _ hgq).mono ?_;rintro e W4 ⟨er,rfl,hb4⟩;have hek4 := heap_below hb4 hej;have hco4 : W4.cell? ⟨w.heap.size + 1,5,none⟩ = some (.int .i64 0) := obj_cell hek4 rfl;have hfo4 : W4.frozen? ⟨w.heap.size + 1,5,none⟩ = false := obj_free hek4)
       go_roundw
       case rel =>
        refine ⟨1,by simp,by omega,?_,obj_other _ (heap_below hb4 hgkq) (by omega),obj_other _ (heap_below hb4 hrq) (by omega),(hbq.trans (hb4.mono (by omega))).setCell (p := ⟨w.heap.size + 1,5,none⟩) (by simp) _,by have := hb4.size;simp;omega,obj_other _ (heap_below hb4 hpq) (by omega)⟩
        have := obj_set (o := 5) (.int .i64 (atoiV pj)) hek4
        rw [← HAV.out] at this ⊢
        exact this
       case measure => simp
      ·have hltI : ¬ (1 : Int) < (l.length : Int) := by omega
       have HAV := Lib.hid (av_miss (l := l) (i := 0) hlt)
       go_wp2
       go_roundw
       case rel =>
        refine ⟨1,by simp,by omega,?_,hgkq,hrq,hbq,hsq,hpq⟩
        have hE : (EK.vals .jo (avM l 0) 0 0) = (EK.vals .jo 0 0 0) := by rw [HAV.out]
        show wr.heap[w.heap.size + 1]? = some (.cells (EK.vals .jo (avM l 0) 0 0) 25 (0,0))
        rw [hE];exact hej
       case measure => simp
     by_cases h1 : k = 1
     ·subst h1
      have hej : wr.heap[w.heap.size + 1]? = some (.cells (EK.vals .jo (avM l 0) 0 0) 25 (0,0)) := hekq
      have hcp : wr.cell? ⟨g2,1,none⟩ = some (.pointer (some ⟨w.heap.size + 1,6,none⟩)) := obj_cell hpq rfl
      have hco : wr.cell? ⟨w.heap.size + 1,6,none⟩ = some (.int .i64 0) := obj_cell hej rfl
      have hfo : wr.frozen? ⟨w.heap.size + 1,6,none⟩ = false := obj_free hej
      clear hekq
      by_cases hlt : 2 < l.length
      ·have hltI : (2 : Int) < (l.length : Int) := by omega
       have hlg : l[2]? = some (l.getD 2 []) := by rw [zC,zE hlt];rfl
       have hav : avM l 1 = atoiV (l.getD 2 []) := av_hit hlt
       have hplj := HPL.out _ (zD hlg)
       obtain ⟨pj,hpj⟩ : ∃ pj,pj = l.getD 2 [] := ⟨_,rfl⟩
       rw [← hpj] at hlg hav hplj
       have hcl : wr.cell? ⟨g,2,none⟩ = some (.string (bS pj)) := obj_cell hgkq (by simp [hlg])
       have HAV := Lib.hid hav
       clear hav hpj hlg
       go_wp2_with (go_at_call 27;refine (lnAtoi pj hplj _ hgq).mono ?_;rintro e W4 ⟨er,rfl,hb4⟩;have hek4 := heap_below hb4 hej;have hco4 : W4.cell? ⟨w.heap.size + 1,6,none⟩ = some (.int .i64 0) := obj_cell hek4 rfl;have hfo4 : W4.frozen? ⟨w.heap.size + 1,6,none⟩ = false := obj_free hek4)
       go_roundw
       case rel =>
        refine ⟨2,by simp,by omega,?_,obj_other _ (heap_below hb4 hgkq) (by omega),obj_other _ (heap_below hb4 hrq) (by omega),(hbq.trans (hb4.mono (by omega))).setCell (p := ⟨w.heap.size + 1,6,none⟩) (by simp) _,by have := hb4.size;simp;omega,obj_other _ (heap_below hb4 hpq) (by omega)⟩
        have := obj_set (o := 6) (.int .i64 (atoiV pj)) hek4
        rw [← HAV.out] at this ⊢
        exact this
       case measure => simp
      ·have hltI : ¬ (2 : Int) < (l.length : Int) := by omega
       have HAV := Lib.hid (av_miss (l := l) (i := 1) hlt)
       go_wp2
       go_roundw
       case rel =>
        refine ⟨2,by simp,by omega,?_,hgkq,hrq,hbq,hsq,hpq⟩
        have hE : (EK.vals .jo (avM l 0) (avM l 1) 0) = (EK.vals .jo (avM l 0) 0 0) := by rw [HAV.out]
        show wr.heap[w.heap.size + 1]? = some (.cells (EK.vals .jo (avM l 0) (avM l 1) 0) 25 (0,0))
        rw [hE];exact hej
       case measure => simp
     by_cases h2 : k = 2
     ·subst h2
      have hej : wr.heap[w.heap.size + 1]? = some (.cells (EK.vals .jo (avM l 0) (avM l 1) 0) 25 (0,0)) := hekq
      have hcp : wr.cell? ⟨g2,2,none⟩ = some (.pointer (some ⟨w.heap.size + 1,7,none⟩)) := obj_cell hpq rfl
      have hco : wr.cell? ⟨w.heap.size + 1,7,none⟩ = some (.int .i64 0) := obj_cell hej rfl
      have hfo : wr.frozen? ⟨w.heap.size + 1,7,none⟩ = false := obj_free hej
      clear hekq
      by_cases hlt : 3 < l.length
      ·have hltI : (3 : Int) < (l.length : Int) := by omega
       have hlg : l[3]? = some (l.getD 3 []) := by rw [zC,zE hlt];rfl
       have hav : avM l 2 = atoiV (l.getD 3 []) := av_hit hlt
       have hplj := HPL.out _ (zD hlg)
       obtain ⟨pj,hpj⟩ : ∃ pj,pj = l.getD 3 [] := ⟨_,rfl⟩
       rw [← hpj] at hlg hav hplj
       have hcl : wr.cell? ⟨g,3,none⟩ = some (.string (bS pj)) := obj_cell hgkq (by simp [hlg])
       have HAV := Lib.hid hav
       clear hav hpj hlg
       go_wp2_with (go_at_call 27;refine (lnAtoi pj hplj _ hgq).mono ?_;rintro e W4 ⟨er,rfl,hb4⟩;have hek4 := heap_below hb4 hej;have hco4 : W4.cell? ⟨w.heap.size + 1,7,none⟩ = some (.int .i64 0) := obj_cell hek4 rfl;have hfo4 : W4.frozen? ⟨w.heap.size + 1,7,none⟩ = false := obj_free hek4)
       go_roundw
       case rel =>
        refine ⟨3,by simp,by omega,?_,obj_other _ (heap_below hb4 hgkq) (by omega),obj_other _ (heap_below hb4 hrq) (by omega),(hbq.trans (hb4.mono (by omega))).setCell (p := ⟨w.heap.size + 1,7,none⟩) (by simp) _,by have := hb4.size;simp;omega,obj_other _ (heap_below hb4 hpq) (by omega)⟩
        have := obj_set (o := 7) (.int .i64 (atoiV pj)) hek4
        rw [← HAV.out] at this ⊢
        exact this
       case measure => simp
      ·have hltI : ¬ (3 : Int) < (l.length : Int) := by omega
       have HAV := Lib.hid (av_miss (l := l) (i := 2) hlt)
       go_wp2
       go_roundw
       case rel =>
        refine ⟨3,by simp,by omega,?_,hgkq,hrq,hbq,hsq,hpq⟩
        have hE : (EK.vals .jo (avM l 0) (avM l 1) (avM l 2)) = (EK.vals .jo (avM l 0) (avM l 1) 0) := by rw [HAV.out]
        show wr.heap[w.heap.size + 1]? = some (.cells (EK.vals .jo (avM l 0) (avM l 1) (avM l 2)) 25 (0,0))
        rw [hE];exact hej
       case measure => simp
     obtain rfl : k = 3 := by omega
     have hBe : Box wr (w.heap.size + 1) (EK.vals .jo (avM l 0) (avM l 1) (avM l 2)) := ⟨_,hekq⟩
     have hBr : Box wr w.heap.size (zEv 0) := ⟨_,hrq⟩
     obtain ⟨cs,hcs⟩ : ∃ cs,cs = (EK.vals .jo (avM l 0) (avM l 1) (avM l 2)) := ⟨_,rfl⟩
     rw [← hcs] at hBe
     have HSs := Lib.hid (show (zEv 0).size = cs.size by rw [hcs] <;> rfl)
     have HSz := Lib.hid (show (Tryd.prog.info? 25).map (·.size) = some cs.size by rw [hcs];kernel_rfl)
     have HS1 := Lib.hid (show cs.all (·.oneCell') = true by rw [hcs];exact vals_one _ _ _ _)
     have HCS := Lib.hid hcs
     have HBe := Lib.hid hBe
     have HBr := Lib.hid hBr
     clear hcs hBe hBr hekq hgkq hrq hpq
     go_wp2_with (first | (refine wpList_load_box rfl 25 (.tmp 3) rfl (w.heap.size + 1) (by rfl) cs _ HBe.out Tryd.underlying25 rfl HSz.out ?_) | (refine wpList_store_box rfl 25 (.tmp 2) (.tmp 66) rfl w.heap.size _ cs (by rfl) (by rfl) HBr.out HSs.out HSz.out HS1.out ?_;intro w5 Z5 ho5))
     obtain ⟨T5,Z5⟩ := Z5
     refine bodyPost_ret (results_cell_row rfl _ _ w.heap.size T5 cs (0,0) _ (by rfl) Z5 Tryd.underlying25 rfl HSz.out) rfl ⟨?_,hbq.trans (ho5.below (Nat.le_refl _))⟩
     rw [HCS.out,HF.out] <;> rfl
   ·have hek1 : wr.heap[w.heap.size + 1]? = some (.cells (zEv 6) 25 (0,0)) := hek
    clear hek
    have hk0 : wr.cell? ⟨w.heap.size + 1,0,none⟩ = some (.int .i64 6) := obj_cell hek1 rfl
    have hk4 : wr.cell? ⟨w.heap.size + 1,4,none⟩ = some (.bool false) := obj_cell hek1 rfl
    have hf4 : wr.frozen? ⟨w.heap.size + 1,4,none⟩ = false := obj_free hek1
    have hek2 : (wr.setCell ⟨w.heap.size + 1,4,none⟩ (.bool false)).heap[w.heap.size + 1]? = some (.cells (EK.vals .re 0 0 0) 25 (0,0)) := obj_set (o := 4) (.bool false) hek1
    have hgk2 : (wr.setCell ⟨w.heap.size + 1,4,none⟩ (.bool false)).heap[g]? = some (.cells (l.map fun x => Value.string (bS x)).toArray 9 (0,0)) := obj_other _ hgk (by omega)
    have hr2 : (wr.setCell ⟨w.heap.size + 1,4,none⟩ (.bool false)).heap[w.heap.size]? = some (.cells (zEv 0) 25 (0,0)) := obj_other _ hr0 (by omega)
    have hbw2 : Below w.heap.size w (wr.setCell ⟨w.heap.size + 1,4,none⟩ (.bool false)) := hbw.setCell (p := ⟨w.heap.size + 1,4,none⟩) (by simp) _
    have hs2 : (wr.setCell ⟨w.heap.size + 1,4,none⟩ (.bool false)).heap.size = wr.heap.size := by simp
    obtain ⟨W2,hW2⟩ : ∃ W2,W2 = wr.setCell ⟨w.heap.size + 1,4,none⟩ (.bool false) := ⟨_,rfl⟩
    rw [← hW2] at hek2 hgk2 hr2 hbw2 hs2
    clear hek1 hgk hr0 hbw hgr
    have hnum := fun W h => numbers_at .re (w.heap.size + 1) W h
    simp only [EK.nsl,EK.n] at hnum
    have hn0 : W2.cell? ⟨w.heap.size + 1,0,none⟩ = some (.int .i64 6) := obj_cell hek2 rfl
    go_upto_region 10 with (fail)
    rw [← hW2]
    clear hW2 hk0 hk4 hf4
    go_wp2_with (go_at_call 20;refine (hnum _ hn0).mono ?_;rintro e W3 ⟨g2,rfl,hg2,hb3,hp3⟩)
    have hs3 := hb3.size
    have hek3 := heap_below hb3 hek2
    have hgk3 := heap_below hb3 hgk2
    have hr3 := heap_below hb3 hr2
    have hbw3 : Below w.heap.size w W3 := hbw2.trans (hb3.mono (by omega))
    replace hp3 : W3.heap[g2]? = some (.cells #[.pointer (some ⟨w.heap.size + 1,5,none⟩),.pointer (some ⟨w.heap.size + 1,6,none⟩)] 59 (0,0)) := hp3 (by simp [EK.offs])
    have hne2 : w.heap.size + 1 < g2 := by omega
    clear hek2 hgk2 hr2 hbw2 hb3 hn0 hnum
    go_loopw [44] (fun i wr => ∃ k : Nat,i = .int .i64 k ∧ k ≤ 2 ∧ wr.heap[w.heap.size + 1]? = some (.cells (EK.vals .re (if 0 < k then avM l 0 else 0) (if 1 < k then avM l 1 else 0) 0) 25 (0,0)) ∧ wr.heap[g]? = some (.cells (l.map fun x => Value.string (bS x)).toArray 9 (0,0)) ∧ wr.heap[w.heap.size]? = some (.cells (zEv 0) 25 (0,0)) ∧ Below w.heap.size w wr ∧ w.heap.size + 2 ≤ wr.heap.size ∧ wr.heap[g2]? = some (.cells #[.pointer (some ⟨w.heap.size + 1,5,none⟩),.pointer (some ⟨w.heap.size + 1,6,none⟩)] 59 (0,0))) (fun i _ => match i with | .int _ z => 2 - z.toNat | _ => 0)
    case atStart => exact ⟨0,rfl,by omega,hek3,hgk3,hr3,hbw3,by omega,hp3⟩
    case round =>
     obtain ⟨k,rfl,hk,hekq,hgkq,hrq,hbq,hsq,hpq⟩ := hrel
     clear hek3 hgk3 hr3 hbw3 hp3
     have hgq := hg.below hbq
     by_cases h0 : k = 0
     ·subst h0
      have hej : wr.heap[w.heap.size + 1]? = some (.cells (EK.vals .re 0 0 0) 25 (0,0)) := hekq
      have hcp : wr.cell? ⟨g2,0,none⟩ = some (.pointer (some ⟨w.heap.size + 1,5,none⟩)) := obj_cell hpq rfl
      have hco : wr.cell? ⟨w.heap.size + 1,5,none⟩ = some (.int .i64 0) := obj_cell hej rfl
      have hfo : wr.frozen? ⟨w.heap.size + 1,5,none⟩ = false := obj_free hej
      clear hekq
      by_cases hlt : 1 < l.length
      ·have hltI : (1 : Int) < (l.length : Int) := by omega
       have hlg : l[1]? = some (l.getD 1 []) := by rw [zC,zE hlt];rfl
       have hav : avM l 0 = atoiV (l.getD 1 []) := av_hit hlt
       have hplj := HPL.out _ (zD hlg)
       obtain ⟨pj,hpj⟩ : ∃ pj,pj = l.getD 1 [] := ⟨_,rfl⟩
       rw [← hpj] at hlg hav hplj
       have hcl : wr.cell? ⟨g,1,none⟩ = some (.string (bS pj)) := obj_cell hgkq (by simp [hlg])
       have HAV := Lib.hid hav
       clear hav hpj hlg
       go_wp2_with (go_at_call 27;refine (lnAtoi pj hplj _ hgq).mono ?_;rintro e W4 ⟨er,rfl,hb4⟩;have hek4 := heap_below hb4 hej;have hco4 : W4.cell? ⟨w.heap.size + 1,5,none⟩ = some (.int .i64 0) := obj_cell hek4 rfl;have hfo4 : W4.frozen? ⟨w.heap.size + 1,5,none⟩ = false := obj_free hek4)
       go_roundw
       case rel =>
        refine ⟨1,by simp,by omega,?_,obj_other _ (heap_below hb4 hgkq) (by omega),obj_other _ (heap_below hb4 hrq) (by omega),(hbq.trans (hb4.mono (by omega))).setCell (p := ⟨w.heap.size + 1,5,none⟩) (by simp) _,by have := hb4.size;simp;omega,obj_other _ (heap_below hb4 hpq) (by omega)⟩
        have := obj_set (o := 5) (.int .i64 (atoiV pj)) hek4
        rw [← HAV.out] at this ⊢
        exact this
       case measure => simp
      ·have hltI : ¬ (1 : Int) < (l.length : Int) := by omega
       have HAV := Lib.hid (av_miss (l := l) (i := 0) hlt)
       go_wp2
       go_roundw
       case rel =>
        refine ⟨1,by simp,by omega,?_,hgkq,hrq,hbq,hsq,hpq⟩
        have hE : (EK.vals .re (avM l 0) 0 0) = (EK.vals .re 0 0 0) := by rw [HAV.out]
        show wr.heap[w.heap.size + 1]? = some (.cells (EK.vals .re (avM l 0) 0 0) 25 (0,0))
        rw [hE];exact hej
       case measure => simp
     by_cases h1 : k = 1
     ·subst h1
      have hej : wr.heap[w.heap.size + 1]? = some (.cells (EK.vals .re (avM l 0) 0 0) 25 (0,0)) := hekq
      have hcp : wr.cell? ⟨g2,1,none⟩ = some (.pointer (some ⟨w.heap.size + 1,6,none⟩)) := obj_cell hpq rfl
      have hco : wr.cell? ⟨w.heap.size + 1,6,none⟩ = some (.int .i64 0) := obj_cell hej rfl
      have hfo : wr.frozen? ⟨w.heap.size + 1,6,none⟩ = false := obj_free hej
      clear hekq
      by_cases hlt : 2 < l.length
      ·have hltI : (2 : Int) < (l.length : Int) := by omega
       have hlg : l[2]? = some (l.getD 2 []) := by rw [zC,zE hlt];rfl
       have hav : avM l 1 = atoiV (l.getD 2 []) := av_hit hlt
       have hplj := HPL.out _ (zD hlg)
       obtain ⟨pj,hpj⟩ : ∃ pj,pj = l.getD 2 [] := ⟨_,rfl⟩
       rw [← hpj] at hlg hav hplj
       have hcl : wr.cell? ⟨g,2,none⟩ = some (.string (bS pj)) := obj_cell hgkq (by simp [hlg])
       have HAV := Lib.hid hav
       clear hav hpj hlg
       go_wp2_with (go_at_call 27;refine (lnAtoi pj hplj _ hgq).mono ?_;rintro e W4 ⟨er,rfl,hb4⟩;have hek4 := heap_below hb4 hej;have hco4 : W4.cell? ⟨w.heap.size + 1,6,none⟩ = some (.int .i64 0) := obj_cell hek4 rfl;have hfo4 : W4.frozen? ⟨w.heap.size + 1,6,none⟩ = false := obj_free hek4)
       go_roundw
       case rel =>
        refine ⟨2,by simp,by omega,?_,obj_other _ (heap_below hb4 hgkq) (by omega),obj_other _ (heap_below hb4 hrq) (by omega),(hbq.trans (hb4.mono (by omega))).setCell (p := ⟨w.heap.size + 1,6,none⟩) (by simp) _,by have := hb4.size;simp;omega,obj_other _ (heap_below hb4 hpq) (by omega)⟩
        have := obj_set (o := 6) (.int .i64 (atoiV pj)) hek4
        rw [← HAV.out] at this ⊢
        exact this
       case measure => simp
      ·have hltI : ¬ (2 : Int) < (l.length : Int) := by omega
       have HAV := Lib.hid (av_miss (l := l) (i := 1) hlt)
       go_wp2
       go_roundw
       case rel =>
        refine ⟨2,by simp,by omega,?_,hgkq,hrq,hbq,hsq,hpq⟩
        have hE : (EK.vals .re (avM l 0) (avM l 1) 0) = (EK.vals .re (avM l 0) 0 0) := by rw [HAV.out]
        show wr.heap[w.heap.size + 1]? = some (.cells (EK.vals .re (avM l 0) (avM l 1) 0) 25 (0,0))
        rw [hE];exact hej
       case measure => simp
     obtain rfl : k = 2 := by omega
     have hBe : Box wr (w.heap.size + 1) (EK.vals .re (avM l 0) (avM l 1) 0) := ⟨_,hekq⟩
     have hBr : Box wr w.heap.size (zEv 0) := ⟨_,hrq⟩
     obtain ⟨cs,hcs⟩ : ∃ cs,cs = (EK.vals .re (avM l 0) (avM l 1) 0) := ⟨_,rfl⟩
     rw [← hcs] at hBe
     have HSs := Lib.hid (show (zEv 0).size = cs.size by rw [hcs] <;> rfl)
     have HSz := Lib.hid (show (Tryd.prog.info? 25).map (·.size) = some cs.size by rw [hcs];kernel_rfl)
     have HS1 := Lib.hid (show cs.all (·.oneCell') = true by rw [hcs];exact vals_one _ _ _ _)
     have HCS := Lib.hid hcs
     have HBe := Lib.hid hBe
     have HBr := Lib.hid hBr
     clear hcs hBe hBr hekq hgkq hrq hpq
     go_wp2_with (first | (refine wpList_load_box rfl 25 (.tmp 3) rfl (w.heap.size + 1) (by rfl) cs _ HBe.out Tryd.underlying25 rfl HSz.out ?_) | (refine wpList_store_box rfl 25 (.tmp 2) (.tmp 66) rfl w.heap.size _ cs (by rfl) (by rfl) HBr.out HSs.out HSz.out HS1.out ?_;intro w5 Z5 ho5))
     obtain ⟨T5,Z5⟩ := Z5
     refine bodyPost_ret (results_cell_row rfl _ _ w.heap.size T5 cs (0,0) _ (by rfl) Z5 Tryd.underlying25 rfl HSz.out) rfl ⟨?_,hbq.trans (ho5.below (Nat.le_refl _))⟩
     rw [HCS.out,HF.out] <;> rfl
   ·have hek1 : wr.heap[w.heap.size + 1]? = some (.cells (zEv 7) 25 (0,0)) := hek
    clear hek
    have hk0 : wr.cell? ⟨w.heap.size + 1,0,none⟩ = some (.int .i64 7) := obj_cell hek1 rfl
    have hk4 : wr.cell? ⟨w.heap.size + 1,4,none⟩ = some (.bool false) := obj_cell hek1 rfl
    have hf4 : wr.frozen? ⟨w.heap.size + 1,4,none⟩ = false := obj_free hek1
    have hek2 : (wr.setCell ⟨w.heap.size + 1,4,none⟩ (.bool false)).heap[w.heap.size + 1]? = some (.cells (EK.vals .ti 0 0 0) 25 (0,0)) := obj_set (o := 4) (.bool false) hek1
    have hgk2 : (wr.setCell ⟨w.heap.size + 1,4,none⟩ (.bool false)).heap[g]? = some (.cells (l.map fun x => Value.string (bS x)).toArray 9 (0,0)) := obj_other _ hgk (by omega)
    have hr2 : (wr.setCell ⟨w.heap.size + 1,4,none⟩ (.bool false)).heap[w.heap.size]? = some (.cells (zEv 0) 25 (0,0)) := obj_other _ hr0 (by omega)
    have hbw2 : Below w.heap.size w (wr.setCell ⟨w.heap.size + 1,4,none⟩ (.bool false)) := hbw.setCell (p := ⟨w.heap.size + 1,4,none⟩) (by simp) _
    have hs2 : (wr.setCell ⟨w.heap.size + 1,4,none⟩ (.bool false)).heap.size = wr.heap.size := by simp
    obtain ⟨W2,hW2⟩ : ∃ W2,W2 = wr.setCell ⟨w.heap.size + 1,4,none⟩ (.bool false) := ⟨_,rfl⟩
    rw [← hW2] at hek2 hgk2 hr2 hbw2 hs2
    clear hek1 hgk hr0 hbw hgr
    have hnum := fun W h => numbers_at .ti (w.heap.size + 1) W h
    simp only [EK.nsl,EK.n] at hnum
    have hn0 : W2.cell? ⟨w.heap.size + 1,0,none⟩ = some (.int .i64 7) := obj_cell hek2 rfl
    go_upto_region 10 with (fail)
    rw [← hW2]
    clear hW2 hk0 hk4 hf4
    go_wp2_with (go_at_call 20;refine (hnum _ hn0).mono ?_;rintro e W3 ⟨g2,rfl,hg2,hb3,hp3⟩)
    have hs3 := hb3.size
    have hek3 := heap_below hb3 hek2
    have hgk3 := heap_below hb3 hgk2
    have hr3 := heap_below hb3 hr2
    have hbw3 : Below w.heap.size w W3 := hbw2.trans (hb3.mono (by omega))
    clear hek2 hgk2 hr2 hbw2 hb3 hn0 hnum
    go_loopw [44] (fun i wr => ∃ k : Nat,i = .int .i64 k ∧ k ≤ 0 ∧ wr.heap[w.heap.size + 1]? = some (.cells (EK.vals .ti (if 0 < k then avM l 0 else 0) 0 0) 25 (0,0)) ∧ wr.heap[g]? = some (.cells (l.map fun x => Value.string (bS x)).toArray 9 (0,0)) ∧ wr.heap[w.heap.size]? = some (.cells (zEv 0) 25 (0,0)) ∧ Below w.heap.size w wr ∧ w.heap.size + 2 ≤ wr.heap.size) (fun i _ => match i with | .int _ z => 0 - z.toNat | _ => 0)
    case atStart => exact ⟨0,rfl,by omega,hek3,hgk3,hr3,hbw3,by omega⟩
    case round =>
     obtain ⟨k,rfl,hk,hekq,hgkq,hrq,hbq,hsq⟩ := hrel
     clear hek3 hgk3 hr3 hbw3
     have hgq := hg.below hbq
     obtain rfl : k = 0 := by omega
     have hBe : Box wr (w.heap.size + 1) (EK.vals .ti 0 0 0) := ⟨_,hekq⟩
     have hBr : Box wr w.heap.size (zEv 0) := ⟨_,hrq⟩
     obtain ⟨cs,hcs⟩ : ∃ cs,cs = (EK.vals .ti 0 0 0) := ⟨_,rfl⟩
     rw [← hcs] at hBe
     have HSs := Lib.hid (show (zEv 0).size = cs.size by rw [hcs] <;> rfl)
     have HSz := Lib.hid (show (Tryd.prog.info? 25).map (·.size) = some cs.size by rw [hcs];kernel_rfl)
     have HS1 := Lib.hid (show cs.all (·.oneCell') = true by rw [hcs];exact vals_one _ _ _ _)
     have HCS := Lib.hid hcs
     have HBe := Lib.hid hBe
     have HBr := Lib.hid hBr
     clear hcs hBe hBr hekq hgkq hrq
     go_wp2_with (first | (refine wpList_load_box rfl 25 (.tmp 3) rfl (w.heap.size + 1) (by rfl) cs _ HBe.out Tryd.underlying25 rfl HSz.out ?_) | (refine wpList_store_box rfl 25 (.tmp 2) (.tmp 66) rfl w.heap.size _ cs (by rfl) (by rfl) HBr.out HSs.out HSz.out HS1.out ?_;intro w5 Z5 ho5))
     obtain ⟨T5,Z5⟩ := Z5
     refine bodyPost_ret (results_cell_row rfl _ _ w.heap.size T5 cs (0,0) _ (by rfl) Z5 Tryd.underlying25 rfl HSz.out) rfl ⟨?_,hbq.trans (ho5.below (Nat.le_refl _))⟩
     rw [HCS.out,HF.out] <;> rfl
attribute [local go_sem] Oper.semAt_some
theorem lines_in (s : ByteArray) (n : Nat) (w : World) :
  CallsIn Fence.wide n Tryd.prog 15 #[.string s] w fun e w' => e = .returned (.func (.func 23) #[] #[.pointer (some ⟨w.heap.size,0,none⟩)]) ∧
   w' = w.alloc (.cells #[.string s] 9) := by
 refine callsIn_of_wp Tryd.func15 rfl trivial ?_ rfl
 simp only [Tryd.ntmps15,List.size_toArray,List.length_cons,List.length_nil,Nat.reduceAdd,Nat.reduceSub,Array.replicate_succ,Array.replicate_zero,List.push_toArray,List.append_toArray,List.nil_append,List.cons_append]
 gi_wp2
 go_ret
 exact ⟨by simp,rfl⟩
def KpL (b1 : Nat) (A B : World) : Prop := B.heap[b1]? = A.heap[b1]?
def restL (b1 : Nat) (w : World) : Nat := match w.cell? ⟨b1,0,none⟩ with | some (.string x) => x.size | _ => 0
theorem restL_eq {b1 : Nat} {w : World} {r : List UInt8} (h : w.cell? ⟨b1,0,none⟩ = some (.string (bS r))) : restL b1 w = r.length := by unfold restL;rw [h];rfl
theorem cut_head (a r : List UInt8) : (bS (a ++ 10 :: r)).extract 0 (a.length + 1) = bS (a ++ [10]) := by
 apply ByteArray.ext
 apply Array.ext'
 rw [Lib.extract_data]
 have e : a ++ 10 :: r = (a ++ [10]) ++ r := by simp
 simp only [bS,List.drop_zero,Nat.sub_zero,e]
 rw [show a.length + 1 = (a ++ [10]).length by simp,List.take_left]
theorem cut_tail (a r : List UInt8) : (bS (a ++ 10 :: r)).extract (a.length + 1) (bS (a ++ 10 :: r)).size = bS r := by
 apply ByteArray.ext
 apply Array.ext'
 rw [Lib.extract_to_end]
 simp [bS]
theorem grown_b {A B : World} (h : Below A.heap.size A B) : A.grownBy B none := ⟨h.os,h.tape,h.output,h.size,fun k hk _ => h.block k hk⟩
theorem lines1_in (s : List UInt8) (hs : s.length ≤ 1000000) (n b1 : Nat) (hn : 1 ≤ n) :
  SeqC Fence.wide n Tryd.prog 23 #[.pointer (some ⟨b1,0,none⟩)] (fun x : List UInt8 => #[.string (bS x)]) (KpL b1) (fun xs => xs = linesL s) (fun pre => ∃ rest,linesL s = pre ++ rest) (fun x => x.length ≤ s.length) (linesL s).length b1
   (fun W => W.heap[b1]? = some (.cells #[.string (bS s)] 9 (0,0))) := by
 intro l J Jx W hR hJ hJx cJ cJx hY h0
 refine callsIn_of_wp Tryd.func23 rfl trivial ?_ rfl
 simp only [Tryd.ntmps23,List.size_toArray,List.length_cons,List.length_nil,Nat.reduceAdd,Nat.reduceSub,Array.replicate_succ,Array.replicate_zero,List.push_toArray,List.append_toArray,List.nil_append,List.cons_append]
 gi_wp2
 gi_loopw [3] (fun _ wr => ∃ (pre : List (List UInt8)) (r : List UInt8),linesL s = pre ++ linesL r ∧ wr.heap[b1]? = some (.cells #[.string (bS r)] 9 (0,0)) ∧ J pre wr ∧ r.length ≤ s.length)
  (fun _ wr => restL b1 wr)
 case atStart => exact ⟨[],s,rfl,hR,h0,Nat.le_refl _⟩
 case round =>
  obtain ⟨pre,r,hl,hr,hj,hrl⟩ := hrel
  have hc : wr.cell? ⟨b1,0,none⟩ = some (.string (bS r)) := obj_cell hr rfl
  have hf : wr.frozen? ⟨b1,0,none⟩ = false := obj_free hr
  by_cases hn0 : r = []
  ·subst hn0
   have hl2 : linesL s = pre := by rw [hl];show pre ++ [] = pre;exact List.append_nil _
   have HL := Lib.hid hl2
   clear hl hl2
   gi_wp2
   go_end0
   exact ⟨⟨_,rfl⟩,.inl ⟨_,rfl,by rw [HL.out];exact hj⟩⟩
  ·have hby := fun W => lnByte r 10 W
   have e10 : (10 : Int).toNat.toUInt8 = 10 := rfl
   rw [e10] at hby
   have hpos : 0 < r.length := List.length_pos_iff.2 hn0
   have hposI : (0 : Int) < (bS r).size := by rw [bS_size];omega
   have wfn : Fence.wide.fn 24 := trivial
   rcases byte_cases 10 r with hno | ⟨a,r2,rfl,hno⟩
   ·rw [byte_none hno] at hby
    have hl2 : linesL s = pre ++ [r] := by rw [hl,lines_last hno hn0]
    have HL := Lib.hid hl2
    have hlen : pre.length < (linesL s).length := by rw [hl2];simp
    obtain ⟨fn,tmps,assign,body,hy,hRd⟩ := hY pre r (wr.setCell ⟨b1,0,none⟩ (.string ⟨#[]⟩)) (cJ pre wr _ hj ⟨_,hc⟩) hlen hrl
    have hr2 : (wr.setCell ⟨b1,0,none⟩ (.string ⟨#[]⟩)).heap[b1]? = some (.cells #[.string (bS [])] 9 (0,0)) := obj_set (o := 0) (.string ⟨#[]⟩) hr
    have HM := Lib.hid (restL_eq hc)
    clear hl hl2 hlen
    gi_wp2_with (gi_at_call 24;refine (callsIn_wide.2 (hby _)).mono ?_;rintro e w' ⟨rfl,rfl⟩)
    refine hRd.mono ?_
    rintro e W3 (⟨rfl,hJ3,hk3⟩ | ⟨rfl,hJx3⟩)
    ·have hr3 : W3.heap[b1]? = some (.cells #[.string (bS [])] 9 (0,0)) := hk3.trans hr2
     have HM3 := Lib.hid (restL_eq (obj_cell hr3 rfl))
     gi_wp2
     go_roundw
     case rel => exact ⟨_,[],by rw [HL.out];show _ = _ ++ [];rw [List.append_nil],hr3,hJ3,by simp⟩
     case measure => rw [HM.out,HM3.out];exact hpos
    ·gi_wp2
     refine bodyPost_ret (results_none rfl _ _ _) rfl ?_
     exact ⟨⟨_,rfl⟩,.inr ⟨_,⟨[],by rw [HL.out];simp⟩,hJx3⟩⟩
   ·have hbr : Lib.indexByte (a ++ 10 :: r2) 10 = a.length := byte_app r2 hno
    rw [hbr] at hby
    have hl2 : linesL s = pre ++ ((a ++ [10]) :: linesL r2) := by rw [hl,lines_line r2 hno]
    have HL := Lib.hid hl2
    have hlen : pre.length < (linesL s).length := by rw [hl2];simp
    have hx1 := cut_head a r2
    have hx2 := cut_tail a r2
    have hsz : (bS (a ++ 10 :: r2)).size = a.length + 1 + r2.length := by rw [bS_size];simp;omega
    have hCr := Lib.hid hr
    have hal : a.length + 1 ≤ 1000000 := by simp at hrl;omega
    have hrl2 : r2.length ≤ s.length := by simp at hrl;omega
    have hxl : (a ++ [10]).length ≤ s.length := by simp at hrl ⊢;omega
    have hw1 : IntKind.i64.wrap ((a.length : Int) + 1) = (a.length : Int) + 1 := wrap_in ⟨by omega,by omega⟩
    have hh0 : (0 : Int) ≤ (a.length : Int) + 1 := by omega
    have hh1 : (a.length : Int) + 1 ≤ ((bS (a ++ 10 :: r2)).size : Int) := by rw [hsz];omega
    clear hl hl2 hposI hsz hrl
    gi_wp2_with (gi_at_call 24;refine (callsIn_wide.2 (hby _)).mono ?_;rintro e w' ⟨rfl,rfl⟩)
    refine wpIn_region_still_tail 9 (by kernel_rfl) (by kernel_rfl) ?_
    obtain ⟨w2,hw2⟩ : ∃ w2,w2 = ({ w' with drawn := w'.drawn + 1 } : World) := ⟨_,rfl⟩
    have hb2 : Below w'.heap.size w' w2 := by rw [hw2];exact ⟨rfl,rfl,rfl,Nat.le_refl _,fun _ _ => rfl⟩
    replace hj : J pre w2 := hJ _ w' w2 none hj (grown_b hb2) (fun r e => by cases e)
    replace hr := heap_below hb2 hr
    replace hc := cell_below hb2 hc
    have hM := restL_eq hc
    replace hf : w2.frozen? ⟨b1,0,none⟩ = false := obj_free hr
    have hMw : restL b1 w' = restL b1 w2 := by unfold restL;rw [hw2];rfl
    rw [← hw2]
    clear hw2 hb2
    have HMw := Lib.hid (hMw.trans hM)
    clear hMw hM hCr
    obtain ⟨fn,tmps,assign,body,hy,hRd⟩ := hY pre (a ++ [10]) (w2.setCell ⟨b1,0,none⟩ (.string (bS r2))) (cJ pre w2 _ hj ⟨_,hc⟩) hlen hxl
    have hr2 : (w2.setCell ⟨b1,0,none⟩ (.string (bS r2))).heap[b1]? = some (.cells #[.string (bS r2)] 9 (0,0)) := obj_set (o := 0) (.string (bS r2)) hr
    have hHlen := Lib.hid hlen
    clear hlen
    simp only [List.take_succ_cons,List.take_zero,List.drop_succ_cons,List.drop_zero]
    repeat still_step
    have ht1 : ((a.length : Int) + 1).toNat = a.length + 1 := by omega
    have hsl1 : ∀ W,(Instr.slice 9 (.string (bS (a ++ 10 :: r2))) none (some (.int .i64 ((a.length : Int) + 1))) none).run Tryd.prog W = .ok (.string (bS (a ++ [10]))) W := fun W => by
     rw [run_slice_string_h W 9 _ Tryd.underlying9 .i64 _ hh0 hh1,ht1,hx1]
    have hsl2 : ∀ W,(Instr.slice 9 (.string (bS (a ++ 10 :: r2))) (some (.int .i64 ((a.length : Int) + 1))) none none).run Tryd.prog W = .ok (.string (bS r2)) W := fun W => by
     rw [run_slice_string_l W 9 _ Tryd.underlying9 .i64 _ hh0 hh1,ht1,hx2]
    refine wpStill_step fun K hK => ?_
    simp [go_sem,Oper.still,Oper.stillUpon,hsl1,hx1]
    refine hK _ ?_
    clear hK K
    repeat still_step
    refine wpStill_nil ?_
    clear hsl1 hsl2
    gi_wp2
    refine hRd.mono ?_
    rintro e W3 (⟨rfl,hJ3,hk3⟩ | ⟨rfl,hJx3⟩)
    ·have hr3 : W3.heap[b1]? = some (.cells #[.string (bS r2)] 9 (0,0)) := hk3.trans hr2
     have HM3 := Lib.hid (restL_eq (obj_cell hr3 rfl))
     gi_wp2
     go_roundw
     case rel => exact ⟨_,r2,by rw [HL.out];simp,hr3,hJ3,hrl2⟩
     case measure => rw [HMw.out,HM3.out];simp;omega
    ·gi_wp2
     refine bodyPost_ret (results_none rfl _ _ _) rfl ?_
     exact ⟨⟨_,rfl⟩,.inr ⟨_,⟨linesL r2,by rw [HL.out];simp⟩,hJx3⟩⟩
end Go.Proofs.YtbhcfldafpndbaaDoor
namespace Go.Proofs.YtbhcfldafpndbaaDoor
open Go.RowKit
attribute [local simp] AK_at acode_seq acode_region acode_draw acode_cond CB_u acode_block acode_loop acode_exit acode_scope acode_ret acode_skip seqQ_n seqQ_e seqQ_r blockQ_n blockQ_e blockQ_r TK_at OK_at SK_at aops_nil aops_cons asch_done asch_one asch_two asch_top astep aop_eq isLoud aloud aloud1 isWrite qv evS strip gof eget hget putO eput herase oks opnds gS afin afin0 binD arith D.cells takeD fillD keep trim envOf Fin aresl aresv resD argOk pickV isP deq deqs boundD slD lenD isT isSl ptrIds chunks mn_min mx_max splice_one splice_more Rbr_at Rfr_at frR frV frC flatC brwR brwV brwC omap leR leV leC leL leVL rnR rnV rnC rnO rho_0 hputs herases rnS LtS LtR LtV LtC LtO lget noV noC flatR flatV rho
attribute [local simp ↓] CB_t CB_f
theorem wchk_code : cfun Tryd.prog [] 11 = some ⟨(.seq (qR 0 [oB 1 0,oK 2 0]) (.seq (qR 1 [oX 3 (.alloc [qZ]),oY (.store 1 (.t 3) (kI 0))]) (.seq (qR 2 [oX 9 (.call 17 [(.t 1),(.t 3)]),oM 8 9,oE 10 8 0,oE 11 8 1,oM 4 10,oM 5 11]) (.seq (.seq (qR 3 [oM 12 5,oX 13 (.not (.t 12))]) (.cond 13 (.seq (qR 4 [oK 2 5]) .ret) .skip)) (.seq (.seq (qR 5 [oM 14 4,oH 15 14,oK 16 0]) (.block 0 (.loop (.seq (qR 6 [oX 17 (.bin .lss (.t 16) (.t 15))]) (.seq (.cond 17 .skip (.exit 0)) (.seq (.block 1 (.seq (qR 7 [oI 18 3 14 16,oA 19 3 18,oX 7 (.alloc [.nilp,qZ,qZ]),oS 3 7 19]) (.seq (.draw 8 (qN (oF 20 0 7) (qN (oL 21 1 20) (qN (oN 22 21) (qN (oL 23 1 22) (qN (oF 24 1 7) (qN (oL 25 1 24) (qN (oX 26 (.bin .lss (.t 23) (.t 25))) (qN (oM 27 26) (qN (oG 28 (.fad 0 (.t 7)) 27 false) (qN (oG 29 (.load false 1 (.t 28)) 27 false) (qN (oG 30 (.nchk (.t 29)) 27 false) (qN (oG 31 (.load false 1 (.t 30)) 27 false) (qN (oG 32 (.fad 2 (.t 7)) 27 false) (qN (oG 33 (.load false 1 (.t 32)) 27 false) (qN (oG 34 (.bin .gtr (.t 31) (.t 33)) 27 false) (qN (oX 35 (.pick (.t 27) (.k qT) (.t 34))) .done))))))))))))))))) (.cond 35 (.seq (qR 9 [oK 2 2]) .ret) .skip)))) (qR 10 [oX 36 (.bin .add (.t 16) (kI 1)),oM 16 36]))))))) (.seq (.seq (qR 11 [oA 37 8 1,oX 38 (.call 18 [(.t 37)]),oX 39 (.build [qZ,qZ,qZ,qZ,qF,qZ,qZ,qZ] []),oX 40 (.eqa true [.i,.i,.i,.i,.b,.i,.i,.i] (.t 38) (.t 39))]) (.cond 40 (.seq (qR 12 [oK 2 3]) .ret) .skip)) (.seq (qR 13 [oK 2 0]) .ret))))))),[(.t 2)],41⟩ := by kernel_rfl
def EK.vv (kd : EK) (x y z : Int) (i : Nat) : Int := if i = 0 then x else if i = 1 then y else match kd with | .an => 0 | _ => z
theorem wcheck_bad (kd : EK) (x y z : Int) (h : ¬ kd.Ok x y z) (hz : kd = .an → 0 ≤ z ∧ z ≤ 1) : PF Tryd.prog 11 [.agg (kd.cells x y z)] (I 2) := by
 cases hkd : kd
 all_goals
  have hfl := wfields_ev kd x y z 0
  have h2 := h
  rw [hkd] at hfl h2
  simp only [EK.Ok] at h2
  try (exact absurd trivial h2)
 all_goals
  have hz2 := hz
  rw [hkd] at hz2
  refine pO (h3 := by simp [EK.cells]) wchk_code [0,1,2,3,4,5,7,13,14,15,16,17,35,40] [] fun B hBN hB0 => ?_
  simp [EK.cells]
  refine WCall.hf [0,1] hfl (by simp) rfl rfl (by decide) (by simp) (by simp) (by simp) (by simp) (by simp [EK.cells]) ?_
  rintro d H' nx' ⟨rfl,rfl,rfl⟩
  simp [EK.cells,EK.fd,EK.fh,EK.fn,EK.rows,flowR,askR]
  refine W.loopS (fun i : Nat => ⟨[(16,I i),(15,I kd.len),(14,kd.sl 2),(3,.ptr 1 0),(1,.ptr 0 0)],kd.hp 2 1 [(1,.cells [I 0]),(0,.cells (kd.cells x y z))],3⟩)
   (fun n i => n = kd.len - i ∧ i ≤ kd.len ∧ ∀ j,j < i → kd.lo j ≤ kd.vv x y z j ∧ kd.vv x y z j ≤ kd.hi j) ?_ ?_
  ·exact ⟨_,0,(gr0 [0,1,kd.fo] hB0 (by simp [EK.fo,hkd,EK.cells,EK.len,EK.sl,EK.hp,EK.rw]) (by simp [EK.fo,hkd,EK.cells,EK.len,EK.sl,EK.hp,EK.rw]) (.inl (by simp [EK.fo,hkd,EK.cells,EK.len,EK.sl,EK.hp,EK.rw]))),rfl,by omega,fun j h => by omega⟩
  rintro n i ⟨hn,hi,hin⟩
  refine acode_sound [0,1,2,3,4,5,7,13,14,15,16,17,35,40] [] _ _ _ ?_
  have hi2 := hi
  have i1 : InR 1 := inW (by omega) (by omega)
  have i2 : InR 2 := inW (by omega) (by omega)
  have i3 : InR 3 := inW (by omega) (by omega)
  have hh0 : kd.vv x y z 0 = x := rfl
  have hh1 : kd.vv x y z 1 = y := rfl
  rw [hkd] at hi2 hin hh0 hh1
  simp only [EK.len] at hi2
  have hi3 : i = 0 ∨ i = 1 ∨ i = 2 ∨ i = 3 := by omega
  rcases hi3 with rfl | rfl | rfl | rfl
  ·focus
    by_cases c1 : x < EK.lo kd 0
    ·rw [hkd] at c1
     simp only [EK.lo] at c1
     simp [c1,hkd,EK.cells,EK.len,EK.sl,EK.hp,EK.rw]
    by_cases c2 : EK.hi kd 0 < x
    ·rw [hkd] at c1 c2
     simp only [EK.lo,EK.hi] at c1 c2
     simp [c1,c2,hkd,EK.cells,EK.len,EK.sl,EK.hp,EK.rw]
    rw [hkd] at c1 c2
    simp only [EK.lo,EK.hi] at c1 c2
    simp [i1,i2,i3,c1,c2,hkd,EK.cells,EK.len,EK.sl,EK.hp,EK.rw]
    exact ⟨_,1,(gr0 [0,1,2] hB0 (by simp [hkd,EK.cells,EK.len,EK.sl,EK.hp,EK.rw]) (by simp [hkd,EK.cells,EK.len,EK.sl,EK.hp,EK.rw]) (.inl (by simp [hkd,EK.cells,EK.len,EK.sl,EK.hp,EK.rw]))),(by simp [hkd,EK.len] at hn;omega),rfl,(by simp [hkd,EK.len]),fun j hj => by
     try rw [hkd]
     by_cases hj2 : j < 0
     ·exact hin j hj2
     obtain rfl : j = 0 := by omega
     simp [EK.lo,EK.hi,EK.vv];omega⟩
  ·first
    | (focus
      have g0 := hin 0 (by omega)
      exfalso
      simp [EK.lo,EK.hi,EK.vv] at g0
      try (have hz3 := hz2 rfl)
      omega
      done)
    | (focus
      by_cases c1 : y < EK.lo kd 1
      ·rw [hkd] at c1
       simp only [EK.lo] at c1
       simp [c1,hkd,EK.cells,EK.len,EK.sl,EK.hp,EK.rw]
      by_cases c2 : EK.hi kd 1 < y
      ·rw [hkd] at c1 c2
       simp only [EK.lo,EK.hi] at c1 c2
       simp [c1,c2,hkd,EK.cells,EK.len,EK.sl,EK.hp,EK.rw]
      rw [hkd] at c1 c2
      simp only [EK.lo,EK.hi] at c1 c2
      simp [i1,i2,i3,c1,c2,hkd,EK.cells,EK.len,EK.sl,EK.hp,EK.rw]
      exact ⟨_,2,(gr0 [0,1,2] hB0 (by simp [hkd,EK.cells,EK.len,EK.sl,EK.hp,EK.rw]) (by simp [hkd,EK.cells,EK.len,EK.sl,EK.hp,EK.rw]) (.inl (by simp [hkd,EK.cells,EK.len,EK.sl,EK.hp,EK.rw]))),(by simp [hkd,EK.len] at hn;omega),rfl,(by simp [hkd,EK.len]),fun j hj => by
       try rw [hkd]
       by_cases hj2 : j < 1
       ·exact hin j hj2
       obtain rfl : j = 1 := by omega
       simp [EK.lo,EK.hi,EK.vv];omega⟩
      done)
  ·first
    | (exfalso;omega)
    | (focus
      have g0 := hin 0 (by omega)
      have g1 := hin 1 (by omega)
      exfalso
      simp [EK.lo,EK.hi,EK.vv] at g0
      simp [EK.lo,EK.hi,EK.vv] at g1
      try (have hz3 := hz2 rfl)
      omega
      done)
    | (focus
      simp [i1,i2,i3,hkd,EK.cells,EK.len,EK.sl,EK.hp,EK.rw]
      exact ⟨_,3,(gr0 [0,1,2] hB0 (by simp [hkd,EK.cells,EK.len,EK.sl,EK.hp,EK.rw]) (by simp [hkd,EK.cells,EK.len,EK.sl,EK.hp,EK.rw]) (.inl (by simp [hkd,EK.cells,EK.len,EK.sl,EK.hp,EK.rw]))),(by simp [hkd,EK.len] at hn;omega),rfl,(by simp [hkd,EK.len]),fun j hj => by
       try rw [hkd]
       by_cases hj2 : j < 2
       ·exact hin j hj2
       obtain rfl : j = 2 := by omega
       simp [EK.lo,EK.hi,EK.vv]⟩
      done)
    | (focus
      by_cases c1 : z < EK.lo kd 2
      ·rw [hkd] at c1
       simp only [EK.lo] at c1
       simp [c1,hkd,EK.cells,EK.len,EK.sl,EK.hp,EK.rw]
      by_cases c2 : EK.hi kd 2 < z
      ·rw [hkd] at c1 c2
       simp only [EK.lo,EK.hi] at c1 c2
       simp [c1,c2,hkd,EK.cells,EK.len,EK.sl,EK.hp,EK.rw]
      rw [hkd] at c1 c2
      simp only [EK.lo,EK.hi] at c1 c2
      simp [i1,i2,i3,c1,c2,hkd,EK.cells,EK.len,EK.sl,EK.hp,EK.rw]
      exact ⟨_,3,(gr0 [0,1,2] hB0 (by simp [hkd,EK.cells,EK.len,EK.sl,EK.hp,EK.rw]) (by simp [hkd,EK.cells,EK.len,EK.sl,EK.hp,EK.rw]) (.inl (by simp [hkd,EK.cells,EK.len,EK.sl,EK.hp,EK.rw]))),(by simp [hkd,EK.len] at hn;omega),rfl,(by simp [hkd,EK.len]),fun j hj => by
       try rw [hkd]
       by_cases hj2 : j < 2
       ·exact hin j hj2
       obtain rfl : j = 2 := by omega
       simp [EK.lo,EK.hi,EK.vv];omega⟩
      done)
  ·first
    | (exfalso;omega)
    | (focus
      have g0 := hin 0 (by omega)
      have g1 := hin 1 (by omega)
      have g2 := hin 2 (by omega)
      exfalso
      simp [EK.lo,EK.hi,EK.vv] at g0
      simp [EK.lo,EK.hi,EK.vv] at g1
      simp [EK.lo,EK.hi,EK.vv] at g2
      try (have hz3 := hz2 rfl)
      omega
      done)
theorem wcheck_none : PF Tryd.prog 11 [.agg zeroE] (I 5) := by
 have hfl := wfields_none 0 0 0 0 false 0 0 0 0 (.inl (by omega))
 refine pO (h3 := by simp [zeroE]) wchk_code [0,1,2,3,4,5,7,13,14,15,16,17,35,40] [] fun B hBN hB0 => ?_
 simp [zeroE]
 refine wH [0,1] hfl ?_
 rintro d H' nx' ⟨rfl,rfl,rfl⟩
 simp
theorem vals_vv (kd : EK) (x y z : Int) (Z : Cells) : VV s0 Z (.agg (kd.cells x y z)) (.agg (kd.vals x y z)) := by
 refine ⟨kd.vals x y z,rfl,by cases kd <;> rfl,fun j d hj => ?_⟩
 have hj8 : j < 8 := by
  have := (zB.1 hj).1
  have e : (kd.cells x y z).length = 8 := by cases kd <;> rfl
  omega
 have hj9 : j = 0 ∨ j = 1 ∨ j = 2 ∨ j = 3 ∨ j = 4 ∨ j = 5 ∨ j = 6 ∨ j = 7 := by omega
 cases kd <;> rcases hj9 with rfl | rfl | rfl | rfl | rfl | rfl | rfl | rfl <;> (cases hj;first | exact VT.int _ _ | exact VT.bool _)
theorem zero_vv (Z : Cells) : VV s0 Z (.agg zeroE) (.agg (zEv 0)) := by
 refine ⟨zEv 0,rfl,rfl,fun j d hj => ?_⟩
 have hj8 : j < 8 := (zB.1 hj).1
 have hj9 : j = 0 ∨ j = 1 ∨ j = 2 ∨ j = 3 ∨ j = 4 ∨ j = 5 ∨ j = 6 ∨ j = 7 := by omega
 rcases hj9 with rfl | rfl | rfl | rfl | rfl | rfl | rfl | rfl <;> (cases hj;first | exact VT.int _ _ | exact VT.bool _)
def chkL (l : List (List UInt8)) : Int := match evL l with | none => 5 | some e => if e.1.Ok e.2.1 e.2.2.1 e.2.2.2 then 0 else 2
theorem pf_calls {f : FuncId} {d : D} {v : Value} {z : Int} (h : PF Tryd.prog f [d] (I z)) (hv : ∀ Z,VV s0 Z d v) (w : World) : Calls Tryd.prog f #[v] w fun e w' => e = .returned (.int .i64 z) ∧ Below w.heap.size w w' := by
 refine (h.2 (fun _ _ => none) w #[v] (fun _ _ _ h => by cases h) rfl ?_).mono ?_
 ·intro j x hx
  match j,hx with
  | 0,hx => cases hx;exact hv _
  | j + 1,hx => simp at hx
 ·rintro e w' ⟨u,Z',rfl,hr,_,hb⟩
  have : VT Z' (I z) u := hr
  cases this
  exact ⟨rfl,hb⟩
theorem good_01 (l : List (List UInt8)) : 0 ≤ goodM l ∧ goodM l ≤ 1 := by unfold goodM;split <;> omega
theorem check_calls (l : List (List UInt8)) (w : World) : Calls Tryd.prog 11 #[.agg (evVals l)] w fun e w' => e = .returned (.int .i64 (chkL l)) ∧ Below w.heap.size w w' := by
 unfold evVals chkL
 cases h : EK.ofW (l.getD 0 []) with
 | none =>
  have he : evL l = none := by unfold evL;rw [h]
  rw [he]
  exact pf_calls wcheck_none zero_vv w
 | some kd =>
  have he : evL l = some (kd,avM l 0,avM l 1,kd.z3 l) := by unfold evL;rw [h]
  rw [he]
  simp only
  by_cases hok : kd.Ok (avM l 0) (avM l 1) (kd.z3 l)
  ·rw [if_pos hok]
   exact pf_calls (wcheck_pf kd _ _ _ hok) (vals_vv kd _ _ _) w
  ·rw [if_neg hok]
   exact pf_calls (wcheck_bad kd _ _ _ hok (fun e => by subst e;exact good_01 l)) (vals_vv kd _ _ _) w
end Go.Proofs.YtbhcfldafpndbaaDoor
namespace Go.Proofs.YtbhcfldafpndbaaDoor
open Go.RowKit Go.Shelf
attribute [local go_sem] Oper.semAt_some
def evF (l : List Ev) : List Value := (l.map fun e => (e.1.vals e.2.1 e.2.2.1 e.2.2.2).toList).flatten
theorem vals_size (kd : EK) (x y z : Int) : (kd.vals x y z).toList.length = 8 := by cases kd <;> rfl
theorem evF_snoc (l : List Ev) (e : Ev) : evF (l ++ [e]) = evF l ++ (e.1.vals e.2.1 e.2.2.1 e.2.2.2).toList := by simp [evF]
def AccOf (pre : List (List UInt8)) (acc : List Ev) : Prop := acc.length ≤ 4000 ∧ ∀ rest,readL [] (pre ++ rest) = readL acc rest
theorem acc_nil : AccOf [] [] := ⟨by simp,fun _ => rfl⟩
theorem acc_snoc {pre : List (List UInt8)} {acc : List Ev} (h : AccOf pre acc) {x : List UInt8} {e : Ev} (hn : acc.length ≠ 4000) (hx : okM x = some e) : AccOf (pre ++ [x]) (acc ++ [e]) := by
 refine ⟨by have := h.1;simp;omega,fun rest => ?_⟩
 rw [List.append_assoc,h.2,List.singleton_append,readL,if_neg hn,hx]
theorem acc_full {pre : List (List UInt8)} {acc : List Ev} (h : AccOf pre acc) (x : List UInt8) (hn : acc.length = 4000) (rest : List (List UInt8)) : readL [] (pre ++ [x] ++ rest) = ([],4000,9) := by
 rw [List.append_assoc,h.2,List.singleton_append,readL,if_pos hn]
theorem acc_bad {pre : List (List UInt8)} {acc : List Ev} (h : AccOf pre acc) {x : List UInt8} (hn : acc.length ≠ 4000) (hx : okM x = none) (rest : List (List UInt8)) : readL [] (pre ++ [x] ++ rest) = ([],acc.length,3) := by
 rw [List.append_assoc,h.2,List.singleton_append,readL,if_neg hn,hx]
theorem acc_end {pre : List (List UInt8)} {acc : List Ev} (h : AccOf pre acc) : readL [] pre = (acc,0,0) := by
 have := h.2 []
 rw [List.append_nil] at this;exact this
structure RdI (n0 b1 : Nat) (v : Value) (acc : List Ev) (w0 W : World) : Prop where
 l : W.heap[n0 + 3]? = some (.cells #[v] 23 (0,0))
 r2 : W.heap[n0]? = some (.cells #[.slice none 0 0] 23 (0,0))
 r3 : W.heap[n0 + 1]? = some (.cells #[.int .i64 0] 3 (0,0))
 r4 : W.heap[n0 + 2]? = some (.cells #[.int .i64 0] 29 (0,0))
 own : W.ownsRow (b1 + 1) 25 8 v acc.length (evF acc)
 b : Below n0 w0 W
structure RdX (n0 : Nat) (pre : List (List UInt8)) (w0 W : World) : Prop where
 r2 : W.heap[n0]? = some (.cells #[.slice none 0 0] 23 (0,0))
 rk : ∃ (k : Nat) (c : Int),W.heap[n0 + 1]? = some (.cells #[.int .i64 k] 3 (0,0)) ∧ W.heap[n0 + 2]? = some (.cells #[.int .i64 c] 29 (0,0)) ∧ ∀ rest,readL [] (pre ++ rest) = ([],k,c)
 b : Below n0 w0 W
theorem gb_heap {A B : World} {row : Option Nat} {m k : Nat} {o : Obj} (hg : A.grownBy B row) (hr : ∀ r,row = some r → m ≤ r ∧ ∃ o : Obj,A.heap[r]? = some o ∧ o.isCells = false) (h : A.heap[k]? = some o) (hk : k < m) : B.heap[k]? = some o :=
 (hg.block k (Array.getElem?_eq_some_iff.1 h).1 (fun e => by have := (hr k e.symm).1;omega)).trans h
theorem gb_row {A B : World} {row : Option Nat} {m base sz n : Nat} {e : TypeId} {v : Value} {xs : List Value} (h : A.ownsRow base e sz v n xs) (hg : A.grownBy B row) (hr : ∀ r,row = some r → m ≤ r ∧ ∃ o : Obj,A.heap[r]? = some o ∧ o.isCells = false) : B.ownsRow base e sz v n xs := by
 refine h.kept hg ?_
 rcases h.2 with ⟨rfl,_⟩ | ⟨g,cap,cur,rfl,_,hgb,_⟩
 ·exact .inl rfl
 ·refine .inr fun e' => ?_
  obtain ⟨_,o,ho,hc⟩ := hr g (by simpa [Value.ownBlock] using e'.symm)
  rw [hgb] at ho;cases ho;cases hc
theorem gb_below {n0 m : Nat} {w0 A B : World} {row : Option Nat} (h : Below n0 w0 A) (hn : n0 ≤ w0.heap.size) (hm : n0 ≤ m) (hg : A.grownBy B row) (hr : ∀ r,row = some r → m ≤ r ∧ ∃ o : Obj,A.heap[r]? = some o ∧ o.isCells = false) : Below n0 w0 B :=
 h.grown hg (Nat.le_trans hn h.size) (fun k e => Nat.le_trans hm (hr k e).1)
theorem rdI_own {n0 m : Nat} {w0 : World} (hn : n0 ≤ w0.heap.size) (hm : n0 + 4 < m) : OwnFrom m (fun (pre : List (List UInt8)) W => ∃ v acc,RdI n0 (n0 + 4) v acc w0 W ∧ AccOf pre acc) := by
 rintro pre A B row ⟨v,acc,h,ha⟩ hg hr
 exact ⟨v,acc,⟨gb_heap hg hr h.l (by omega),gb_heap hg hr h.r2 (by omega),gb_heap hg hr h.r3 (by omega),gb_heap hg hr h.r4 (by omega),gb_row h.own hg hr,gb_below h.b hn (by omega) hg hr⟩,ha⟩
theorem rdX_own {n0 m : Nat} {w0 : World} {p : Prop} (hn : n0 ≤ w0.heap.size) (hm : n0 + 4 < m) : OwnFrom m (fun (pre : List (List UInt8)) W => p ∧ RdX n0 pre w0 W) := by
 rintro pre A B row ⟨hp,h,⟨k,c,h3,h4,hk⟩,hb⟩ hg hr
 exact ⟨hp,gb_heap hg hr h (by omega),⟨k,c,gb_heap hg hr h3 (by omega),gb_heap hg hr h4 (by omega),hk⟩,gb_below hb hn (by omega) hg hr⟩
theorem rdI_cell {n0 b1 : Nat} {w0 : World} (hb : b1 = n0 + 4) : AbC b1 (fun (pre : List (List UInt8)) W => ∃ v acc,RdI n0 (n0 + 4) v acc w0 W ∧ AccOf pre acc) := by
 subst hb
 rintro pre W u ⟨v,acc,h,ha⟩ _
 refine ⟨v,acc,⟨(setCell_heap u (by omega)).trans h.l,(setCell_heap u (by omega)).trans h.r2,(setCell_heap u (by omega)).trans h.r3,(setCell_heap u (by omega)).trans h.r4,h.own.kept (grownBy_setCell' W _ u) ?_,h.b.setCell (by show n0 ≤ n0 + 4;omega) u⟩,ha⟩
 cases hv : v.ownBlock with
 | none => exact .inl rfl
 | some k => exact .inr fun e => by cases e;have := (h.own.lt _ hv).1;omega
theorem rdX_cell {n0 b1 : Nat} {w0 : World} {p : Prop} (hb : b1 = n0 + 4) : AbC b1 (fun (pre : List (List UInt8)) W => p ∧ RdX n0 pre w0 W) := by
 subst hb
 rintro pre W u ⟨hp,h,⟨k,c,h3,h4,hk⟩,hb⟩ _
 exact ⟨hp,(setCell_heap u (by omega)).trans h,⟨k,c,(setCell_heap u (by omega)).trans h3,(setCell_heap u (by omega)).trans h4,hk⟩,hb.setCell (by show n0 ≤ n0 + 4;omega) u⟩
theorem own_set {W : World} {base sz n k : Nat} {e : TypeId} {v : Value} {xs : List Value} (u : Value) (h : W.ownsRow base e sz v n xs) (hk : k < base) : (W.setCell ⟨k,0,none⟩ u).ownsRow base e sz v n xs := by
 refine h.kept (grownBy_setCell' W _ u) ?_
 cases hv : v.ownBlock with
 | none => exact .inl rfl
 | some j => exact .inr fun e => by cases e;have := (h.lt _ hv).1;omega
theorem row_form {W : World} {base sz n : Nat} {e : TypeId} {v : Value} {xs : List Value} (h : W.ownsRow base e sz v n xs) : ∃ a c,v = .slice a n c := by
 rcases h.2 with ⟨rfl,rfl⟩ | ⟨g,cap,cur,rfl,_⟩
 ·exact ⟨_,_,rfl⟩
 ·exact ⟨_,_,rfl⟩
theorem set3 {W : World} {n0 : Nat} {x0 y0 z0 : Value} (x y z : Value) {t1 t2 t3 : TypeId} (r2 : W.heap[n0]? = some (.cells #[x0] t1 (0,0))) (r3 : W.heap[n0 + 1]? = some (.cells #[y0] t2 (0,0))) (r4 : W.heap[n0 + 2]? = some (.cells #[z0] t3 (0,0))) :
  let V := ((W.setCell ⟨n0,0,none⟩ x).setCell ⟨n0 + 1,0,none⟩ y).setCell ⟨n0 + 1 + 1,0,none⟩ z
  V.heap[n0]? = some (.cells #[x] t1 (0,0)) ∧ V.heap[n0 + 1]? = some (.cells #[y] t2 (0,0)) ∧ V.heap[n0 + 2]? = some (.cells #[z] t3 (0,0)) ∧ (∀ k,n0 + 2 < k → V.heap[k]? = W.heap[k]?) ∧ (∀ {w0},Below n0 w0 W → Below n0 w0 V) ∧
   (∀ {base sz n e v xs},n0 + 2 < base → W.ownsRow base e sz v n xs → V.ownsRow base e sz v n xs) := by
 intro V
 refine ⟨?_,?_,?_,fun k hk => ?_,fun hb => ?_,fun hb h => own_set _ (own_set _ (own_set _ h (by omega)) (by omega)) (by omega)⟩
 ·exact (setCell_heap _ (by omega)).trans ((setCell_heap _ (by omega)).trans (obj_set (o := 0) x r2))
 ·exact (setCell_heap _ (by omega)).trans (obj_set (o := 0) y ((setCell_heap _ (by omega)).trans r3))
 ·exact obj_set (o := 0) z ((setCell_heap _ (by omega)).trans ((setCell_heap _ (by omega)).trans r4))
 ·exact (setCell_heap _ (by omega)).trans ((setCell_heap _ (by omega)).trans (setCell_heap _ (by omega)))
 ·exact ((hb.setCell (by show n0 ≤ n0;omega) _).setCell (by show n0 ≤ n0 + 1;omega) _).setCell (by show n0 ≤ n0 + 1 + 1;omega) _
theorem belowP {W : World} {n0 D : Nat} {o : Obj} (h : n0 ≤ D) : Below n0 W (W.putObj D o) := ⟨rfl,rfl,rfl,by simp,fun k hk => World.putObj_heap_other (by omega)⟩
theorem ownsLe {w : World} {b b' : Nat} {e : TypeId} {sz n : Nat} {v : Value} {xs : List Value} (hle : b' ≤ b) (h : w.ownsRow b e sz v n xs) : w.ownsRow b' e sz v n xs :=
 ⟨h.1,h.2.imp id fun ⟨g,cap,cur,h1,h2,r⟩ => ⟨g,cap,cur,h1,Nat.le_trans hle h2,r⟩⟩
theorem RdI.below {n0 b1 : Nat} {v : Value} {acc : List Ev} {w0 A B : World} (h : RdI n0 b1 v acc w0 A) (hb : Below A.heap.size A B) : RdI n0 b1 v acc w0 B := by
 have h0 : n0 ≤ A.heap.size := Nat.le_of_lt (Array.getElem?_eq_some_iff.1 h.r2).1
 exact ⟨heap_below hb h.l,heap_below hb h.r2,heap_below hb h.r3,heap_below hb h.r4,owns_call h.own hb,h.b.trans (hb.mono h0)⟩
theorem RdI.drew {n0 b1 : Nat} {v : Value} {acc : List Ev} {w0 A : World} (h : RdI n0 b1 v acc w0 A) : RdI n0 b1 v acc w0 { A with drawn := A.drawn + 1 } :=
 ⟨h.l,h.r2,h.r3,h.r4,h.own,⟨h.b.os,h.b.tape,h.b.output,h.b.size,h.b.block⟩⟩
theorem kf_below {m : Nat} {A B : World} (hb : Below A.heap.size A B) : KeepsFrom m A B := ⟨hb.size,fun k o _ h _ => (hb.block k (Array.getElem?_eq_some_iff.1 h).1).trans h⟩
theorem kf_drew {m : Nat} {A : World} : KeepsFrom m A { A with drawn := A.drawn + 1 } := ⟨Nat.le_refl _,fun k o _ h _ => h⟩
theorem ev_shape (l : List (List UInt8)) : ∃ (a b c d : Int) (g : Bool) (e f h : Int),evVals l = #[.int .i64 a,.int .i64 b,.int .i64 c,.int .i64 d,.bool g,.int .i64 e,.int .i64 f,.int .i64 h] := by
 unfold evVals
 split
 ·exact ⟨_,_,_,_,_,_,_,_,rfl⟩
 ·rename_i e _
  obtain ⟨kd,x,y,z⟩ := e
  cases kd <;> exact ⟨_,_,_,_,_,_,_,_,rfl⟩
theorem chk_zero {l : List (List UInt8)} (h : chkL l = 0) : ∃ e : Ev,evL l = some e ∧ e.1.Ok e.2.1 e.2.2.1 e.2.2.2 := by
 unfold chkL at h
 cases he : evL l with
 | none => rw [he] at h;simp at h
 | some e =>
  rw [he] at h
  by_cases hk : e.1.Ok e.2.1 e.2.2.1 e.2.2.2
  ·exact ⟨e,rfl,hk⟩
  ·simp [hk] at h
theorem okM_chk {x : List UInt8} (h : chkL (piecesM x) ≠ 0) : okM x = none := by
 unfold okM
 unfold chkL at h
 cases he : evL (piecesM x) with
 | none => rfl
 | some e =>
  rw [he] at h
  by_cases hk : e.1.Ok e.2.1 e.2.2.1 e.2.2.2
  ·simp [hk] at h
  ·simp [hk]
theorem RdI.g {b1 : Nat} {v : Value} {acc : List Ev} {w W : World} (h : RdI w.heap.size b1 v acc w W) (hg : LnG w) : LnG W := hg.below h.b
theorem evSz : (Tryd.prog.info? 25).map (·.size) = some 8 := by kernel_rfl
theorem bS_inj {a b : List UInt8} (h : bS a = bS b) : a = b := by
 have := congrArg (fun s : ByteArray => s.data.toList) h
 simpa [bS] using this
theorem cells_new (W : World) (cs : List Value) (t : TypeId) : ∀ j u,cs[j]? = some u → (W.alloc (.cells cs.toArray t)).cell? (Addr.add ⟨W.heap.size,0,none⟩ j) = some u := fun j u h => by
 have e : Addr.add ⟨W.heap.size,0,none⟩ j = ⟨W.heap.size,j,none⟩ := by
  by_cases hj : j = 0 <;> simp [Addr.add,hj]
 rw [e]
 have hn : (W.alloc (.cells cs.toArray t)).heap[(⟨W.heap.size,j,none⟩ : Addr).block]? = some (.cells cs.toArray t (0,0)) := World.alloc_heap_new W _
 unfold World.cell?
 rw [hn]
 simp [h]
def Halt1 (p : Prop) : Prop := p
theorem halt1 {p : Prop} (h : Halt1 p) : p := h
theorem evUnder : Tryd.prog.underlying 23 = some (.slice 25) := by kernel_rfl
theorem evInfo : (Tryd.prog.info? 25).map (fun i => (i.zero,i.size,i.bytes)) = some (some (.agg (zEv 0)),8,64) := by kernel_rfl
theorem alloc5 (w : World) (a b c d e : Obj) : (((((w.alloc a).alloc b).alloc c).alloc d).alloc e).heap.size = w.heap.size + 5 ∧ (((((w.alloc a).alloc b).alloc c).alloc d).alloc e).heap[w.heap.size]? = some a ∧
  (((((w.alloc a).alloc b).alloc c).alloc d).alloc e).heap[w.heap.size + 1]? = some b ∧ (((((w.alloc a).alloc b).alloc c).alloc d).alloc e).heap[w.heap.size + 2]? = some c ∧ (((((w.alloc a).alloc b).alloc c).alloc d).alloc e).heap[w.heap.size + 3]? = some d ∧
  (((((w.alloc a).alloc b).alloc c).alloc d).alloc e).heap[w.heap.size + 4]? = some e ∧ Below w.heap.size w (((((w.alloc a).alloc b).alloc c).alloc d).alloc e) := by
 have old : ∀ (W : World) (o : Obj) (k : Nat),k < W.heap.size → (W.alloc o).heap[k]? = W.heap[k]? := fun W o k h => Below.heap_alloc W o k h
 have new : ∀ (W : World) (o : Obj) (k : Nat),k = W.heap.size → (W.alloc o).heap[k]? = some o := fun W o k h => by rw [h];exact World.alloc_heap_new W o
 refine ⟨by simp,?_,?_,?_,?_,?_,?_⟩
 ·rw [old _ _ _ (by simp <;> omega),old _ _ _ (by simp;omega),old _ _ _ (by simp <;> omega),old _ _ _ (by simp),new _ _ _ rfl]
 ·rw [old _ _ _ (by simp <;> omega),old _ _ _ (by simp <;> omega),old _ _ _ (by simp),new _ _ _ (by simp)]
 ·rw [old _ _ _ (by simp <;> omega),old _ _ _ (by simp),new _ _ _ (by simp)]
 ·rw [old _ _ _ (by simp),new _ _ _ (by simp)]
 ·rw [new _ _ _ (by simp)]
 ·exact (((((Below.refl _ w).alloc (Nat.le_refl _) _).alloc (by simp) _).alloc (by simp;omega) _).alloc (by simp;omega) _).alloc (by simp;omega) _
theorem read_results {W : World} {tmps : Array Value} {n0 : Nat} {x : Value} {y z : Int} (h2 : tmps.getD 2 undef = .pointer (some ⟨n0,0,none⟩)) (h3 : tmps.getD 3 undef = .pointer (some ⟨n0 + 1,0,none⟩)) (h4 : tmps.getD 4 undef = .pointer (some ⟨n0 + 1 + 1,0,none⟩))
  (r2 : W.heap[n0]? = some (.cells #[x] 23 (0,0))) (r3 : W.heap[n0 + 1]? = some (.cells #[.int .i64 y] 3 (0,0))) (r4 : W.heap[n0 + 2]? = some (.cells #[.int .i64 z] 29 (0,0))) :
  (results Tryd.f9 tmps).run Tryd.prog W = .ok (.tuple #[x,.int .i64 y,.int .i64 z]) W := by
 have c2 : W.cell? ⟨n0,0,none⟩ = some x := obj_cell (o := 0) r2 rfl
 have c3 : W.cell? ⟨n0 + 1,0,none⟩ = some (.int .i64 y) := obj_cell (o := 0) r3 rfl
 have c4 : W.cell? ⟨n0 + 1 + 1,0,none⟩ = some (.int .i64 z) := obj_cell (o := 0) r4 rfl
 simp only [Array.getD_eq_getD_getElem?] at h2 h3 h4
 simp [results,Tryd.f9,h2,h3,h4,go_sem,c2,c3,c4]
theorem read_in (s : List UInt8) (w : World) (hg : LnG w) :
  CallsIn Fence.wide 3 Tryd.prog 9 #[.string (bS s)] w fun e w' => ∃ v,e = .returned (.tuple #[v,.int .i64 (readM s).2.1,.int .i64 (readM s).2.2]) ∧
   w'.ownsRow w.heap.size 25 8 v (readM s).1.length (evF (readM s).1) ∧ Below w.heap.size w w' := by
 refine callsIn_of_wp_marks Tryd.func9 rfl trivial ?_ rfl
 simp only [Tryd.ntmps9,List.size_toArray,List.length_cons,List.length_nil,Nat.reduceAdd,Nat.reduceSub,Array.replicate_succ,Array.replicate_zero,List.push_toArray,List.append_toArray,List.nil_append,List.cons_append]
 have hsz : ((bS s).size : Int) = s.length := by rw [bS_size]
 by_cases hbig : 200000 < s.length
 ·have hb : (200000 : Int) < (bS s).size := by rw [hsz];omega
  have hm : readM s = ([],0,1) := by unfold readM;rw [if_pos hbig]
  rw [hm]
  gi_wp2
  refine ⟨_,read_results rfl rfl rfl (n0 := w.heap.size) (x := .slice none 0 0) (y := 0) (z := 1) ?_ ?_ ?_,?_⟩
  ·exact (Below.heap_alloc _ _ _ (by simp;omega)).trans ((Below.heap_alloc _ _ _ (by simp)).trans (World.alloc_heap_new w _))
  ·refine (Below.heap_alloc _ _ _ (by simp)).trans ?_
   have := World.alloc_heap_new (w.alloc (.cells #[.slice none 0 0] 23)) (.cells #[.int .i64 0] 3)
   rwa [World.size_alloc] at this
  ·have := World.alloc_heap_new ((w.alloc (.cells #[.slice none 0 0] 23)).alloc (.cells #[.int .i64 0] 3)) (.cells #[.int .i64 1] 29)
   rwa [World.size_alloc,World.size_alloc] at this
  ·exact ⟨_,rfl,World.ownsRow_nil _ _ _ _,(((Below.refl _ w).alloc (Nat.le_refl _) _).alloc (by simp) _).alloc (by simp;omega) _⟩
 ·have hb : ¬ (200000 : Int) < (bS s).size := by rw [hsz];omega
  have hm : readM s = readL [] (linesL s) := by unfold readM;rw [if_neg hbig]
  rw [hm]
  have f1 : Fence.wide.fn 15 := trivial
  gi_wp2_with (gi_at_call 15;refine (lines_in (bS s) _ _).mono ?_;rintro e v1 ⟨rfl,rfl⟩)
  obtain ⟨u,hu⟩ : ∃ u,u = (((((w.alloc (Obj.cells #[Value.slice none 0 0] 23)).alloc (Obj.cells #[Value.int IntKind.i64 0] 3)).alloc (Obj.cells #[Value.int IntKind.i64 0] 29)).alloc (Obj.cells #[Value.slice none 0 0] 23)).alloc (Obj.cells #[Value.string (bS s)] 9)) := ⟨_,rfl⟩
  obtain ⟨us,u0,u1,u2,u3,u4,uB⟩ := alloc5 w (Obj.cells #[Value.slice none 0 0] 23) (Obj.cells #[Value.int IntKind.i64 0] 3) (Obj.cells #[Value.int IntKind.i64 0] 29) (Obj.cells #[Value.slice none 0 0] 23) (Obj.cells #[Value.string (bS s)] 9)
  rw [← hu] at us u0 u1 u2 u3 u4 uB
  have hun : (((((w.alloc (Obj.cells #[Value.slice none 0 0] 23)).alloc (Obj.cells #[Value.int IntKind.i64 0] 3)).alloc (Obj.cells #[Value.int IntKind.i64 0] 29)).alloc (Obj.cells #[Value.slice none 0 0] 23)).alloc (Obj.cells #[Value.string (bS s)] 9)) = u := hu.symm
  rw [hun]
  clear hun hu
  have hls : s.length ≤ 1000000 := by omega
  refine rangeFunc_cell (F := Fence.wide) (n := 3) rfl (by omega) (gf := 23) rfl trivial (enters_of Tryd.func23 (by kernel_rfl) rfl) (b1 := w.heap.size + 1 + 1 + 1 + 1) (by omega)
   (lines1_in s hls 2 (w.heap.size + 1 + 1 + 1 + 1) (by omega)) (fun W hb => heap_below hb u4) (fun h k => k.trans h) (fun W l o o' hl _ _ _ => World.putObj_heap_other (by omega)) (fun _ => rfl)
   (fun pre W => ∃ v acc,RdI w.heap.size (w.heap.size + 4) v acc w W ∧ AccOf pre acc)
   (fun c pre W => c = .ret ∧ RdX w.heap.size pre w W)
   (rdI_own (by omega) (by omega)) (fun c => rdX_own (by omega) (by omega)) (rdI_cell (by omega)) (fun c => rdX_cell (by omega)) ⟨_,[],⟨u3,u0,u1,u2,World.ownsRow_nil _ _ _ _,uB⟩,acc_nil⟩
   (fun x => { tmps := #[.string (bS s),undef,.pointer (some ⟨w.heap.size,0,none⟩),.pointer (some ⟨w.heap.size + 1,0,none⟩),.pointer (some ⟨w.heap.size + 1 + 1,0,none⟩),.pointer (some ⟨w.heap.size + 1 + 1 + 1,0,none⟩),.string (bS x),undef,.string (bS s),.int .i64 s.length,.bool (decide ((200000 : Int) < s.length)),.string (bS s),
    .func (.func 23) #[] #[.pointer (some ⟨w.heap.size + 1 + 1 + 1 + 1,0,none⟩)],.string (bS x),undef,undef,undef,undef,undef,undef,undef,undef,undef,undef,undef,undef,undef,undef,undef,undef,undef,undef,undef,undef,undef,undef,undef],defers := [] })
   ?assign ?body ?done ?stop
  case assign =>
   intro l x W K hK
   gi_wp2
   exact hK
  case body =>
   rintro l pre x W hl hlW ⟨v,acc,hR,hA⟩ hlen hxl
   obtain ⟨va,vc,rfl⟩ := row_form hR.own
   have c5 : W.cell? ⟨w.heap.size + 1 + 1 + 1,0,none⟩ = some (.slice va acc.length vc) := obj_cell (o := 0) hR.l rfl
   have c2 : W.cell? ⟨w.heap.size,0,none⟩ = some (.slice none 0 0) := obj_cell (o := 0) hR.r2 rfl
   have c3 : W.cell? ⟨w.heap.size + 1,0,none⟩ = some (.int .i64 0) := obj_cell (o := 0) hR.r3 rfl
   have c4 : W.cell? ⟨w.heap.size + 1 + 1,0,none⟩ = some (.int .i64 0) := obj_cell (o := 0) hR.r4 rfl
   have g2 : W.frozen? ⟨w.heap.size,0,none⟩ = false := obj_free hR.r2
   have g3 : W.frozen? ⟨w.heap.size + 1,0,none⟩ = false := obj_free hR.r3
   have g4 : W.frozen? ⟨w.heap.size + 1 + 1,0,none⟩ = false := obj_free hR.r4
   by_cases hfull : acc.length = 4000
   ·have hfi : (acc.length : Int) = 4000 := by omega
    gi_wp2
    refine wpIn_region_orders [[0,1,2,3,4],[0,2,1,3,4],[2,0,1,3,4]] (by kernel_rfl) (by kernel_rfl) ?_
    have hS0 := hR.drew
    have hkd : KeepsFrom u.heap.size W { W with drawn := W.drawn + 1 } := kf_drew
    obtain ⟨w2,hw2⟩ : ∃ w2,w2 = ({ W with drawn := W.drawn + 1 } : World) := ⟨_,rfl⟩
    rw [← hw2] at hS0 hkd
    rw [← hw2]
    clear hw2
    have c5 : w2.cell? ⟨w.heap.size + 1 + 1 + 1,0,none⟩ = some (.slice va acc.length vc) := obj_cell (o := 0) hS0.l rfl
    have c2 : w2.cell? ⟨w.heap.size,0,none⟩ = some (.slice none 0 0) := obj_cell (o := 0) hS0.r2 rfl
    have c3 : w2.cell? ⟨w.heap.size + 1,0,none⟩ = some (.int .i64 0) := obj_cell (o := 0) hS0.r3 rfl
    have c4 : w2.cell? ⟨w.heap.size + 1 + 1,0,none⟩ = some (.int .i64 0) := obj_cell (o := 0) hS0.r4 rfl
    have g2 : w2.frozen? ⟨w.heap.size,0,none⟩ = false := obj_free hS0.r2
    have g3 : w2.frozen? ⟨w.heap.size + 1,0,none⟩ = false := obj_free hS0.r3
    have g4 : w2.frozen? ⟨w.heap.size + 1 + 1,0,none⟩ = false := obj_free hS0.r4
    obtain ⟨s2,s3,s4,sk,sb,so⟩ := set3 (.slice none 0 0) (.int .i64 4000) (.int .i64 9) hS0.r2 hS0.r3 hS0.r4
    have hSb := sb hS0.b
    have hSz := (sb (Below.refl _ _)).size
    intro lo hlo
    simp only [List.mem_cons,List.not_mem_nil,or_false] at hlo
    rcases hlo with rfl | rfl | rfl
    all_goals
     refine (show wpListIn _ _ _ _ _ [_,_,_,_,_] _ _ from ?_)
     gi_wp2
     exact ⟨(hkd.trans ⟨hSz,fun k o hk h _ => (sk k (by omega)).trans h⟩),rfl,s2,⟨4000,9,s3,s4,fun rest => acc_full hA x hfull rest⟩,hSb⟩
   ·have hfi : ¬ (acc.length : Int) = 4000 := by omega
    have hgW : LnG W := hR.g hg
    have hal : acc.length ≤ 4000 := hA.1
    obtain ⟨i0,hi0,hz0,hz1,hz2⟩ := info_parts evInfo
    obtain ⟨q1,q2,q3,q4,qb,q5,q6,q7,hev⟩ := ev_shape (piecesM x)
    have hchk : ∀ W',Calls Tryd.prog 11 #[.agg #[.int .i64 q1,.int .i64 q2,.int .i64 q3,.int .i64 q4,.bool qb,.int .i64 q5,.int .i64 q6,.int .i64 q7]] W' fun e w' => e = .returned (.int .i64 (chkL (piecesM x))) ∧ Below W'.heap.size W' w' := fun W' => by rw [← hev];exact check_calls _ W'
    have e1 : Fence.wide.fn 16 := trivial
    have e2 : Fence.wide.fn 11 := trivial
    have e3 : Fence.wide.fn 13 := trivial
    by_cases hz : chkL (piecesM x) = 0
    ·obtain ⟨⟨kd,X,Y,Z⟩,hevl,hok⟩ := chk_zero hz
     have hev2 : kd.vals X Y Z = #[.int .i64 q1,.int .i64 q2,.int .i64 q3,.int .i64 q4,.bool qb,.int .i64 q5,.int .i64 q6,.int .i64 q7] := by rw [← hev];unfold evVals;rw [hevl]
     have hline : ∀ W',LnG W' → Calls Tryd.prog 13 #[.agg #[.int .i64 q1,.int .i64 q2,.int .i64 q3,.int .i64 q4,.bool qb,.int .i64 q5,.int .i64 q6,.int .i64 q7]] W' fun e w' => e = .returned (.string (bS (lineL (kd,X,Y,Z)))) ∧ Below W'.heap.size W' w' := fun W' hW' => by rw [← hev2];exact line_calls kd X Y Z hok W' hW'
     by_cases hL : lineL (kd,X,Y,Z) = x
     ·rw [hL] at hline
      have hokM : okM x = some (kd,X,Y,Z) := by unfold okM;rw [hevl];exact if_pos ⟨hok,hL⟩
      gi_wp2_with (first | (gi_at_call 16;refine ((callsIn_wide.2 (ev_a x (by omega) W hgW)).inRound l).mono ?_;rintro e W2 ⟨rfl,hb2⟩;rw [hev]) | (refine wpListIn_store_box rfl 25 (.tmp 7) (.tmp 20) rfl W2.heap.size _ #[.int .i64 q1,.int .i64 q2,.int .i64 q3,.int .i64 q4,.bool qb,.int .i64 q5,.int .i64 q6,.int .i64 q7] rfl rfl (Box.new _ _ _) rfl evSz (by simp [Value.oneCell']) ?_;intro W4 HB4 HO4;have hb4 : Below W.heap.size W W4 := hb2.trans ((((Below.refl _ W2).alloc (Nat.le_refl _) _).mono hb2.size).trans (HO4.below hb2.size))) | (refine wpListIn_load_box rfl 25 (.tmp 7) rfl W2.heap.size (by rfl) _ _ HB6 Tryd.underlying25 rfl evSz ?_) | (refine wpListIn_load_box rfl 25 (.tmp 7) rfl W2.heap.size (by rfl) _ _ HB5 Tryd.underlying25 rfl evSz ?_) | (refine wpListIn_load_box rfl 25 (.tmp 7) rfl W2.heap.size (by rfl) _ _ HB4 Tryd.underlying25 rfl evSz ?_) | (gi_at_call 11;refine ((callsIn_wide.2 (hchk W4)).inRound l).mono ?_;rintro e W5 ⟨rfl,hb5⟩;have HB5 := HB4.call hb5;have z0 : W5.cell? ⟨W2.heap.size,0,none⟩ = some (.int .i64 q1) := HB5.cell 0 _ rfl;have z1 : W5.cell? ⟨W2.heap.size,1,none⟩ = some (.int .i64 q2) := HB5.cell 1 _ rfl;have z2 : W5.cell? ⟨W2.heap.size,2,none⟩ = some (.int .i64 q3) := HB5.cell 2 _ rfl;have z3 : W5.cell? ⟨W2.heap.size,3,none⟩ = some (.int .i64 q4) := HB5.cell 3 _ rfl;have z4 : W5.cell? ⟨W2.heap.size,4,none⟩ = some (.bool qb) := HB5.cell 4 _ rfl;have z5 : W5.cell? ⟨W2.heap.size,5,none⟩ = some (.int .i64 q5) := HB5.cell 5 _ rfl;have z6 : W5.cell? ⟨W2.heap.size,6,none⟩ = some (.int .i64 q6) := HB5.cell 6 _ rfl;have z7 : W5.cell? ⟨W2.heap.size,7,none⟩ = some (.int .i64 q7) := HB5.cell 7 _ rfl;have hb45 : Below W.heap.size W W5 := hb4.trans (hb5.mono hb4.size)) | (gi_at_call 13;refine ((callsIn_wide.2 (hline W5 (hgW.below hb45))).inRound l).mono ?_;rintro e W6 ⟨rfl,hb6⟩;have HB6 := HB5.call hb6;have hb46 : Below W.heap.size W W6 := hb45.trans (hb6.mono hb45.size);have hR6 := hR.below hb46;have c56 : W6.cell? ⟨w.heap.size + 1 + 1 + 1,0,none⟩ = some (.slice va acc.length vc) := obj_cell (o := 0) hR6.l rfl) | (gi_at_builtin;refine halt1 ?_))
      unfold Halt1
      have hS6 : w.heap.size + 5 ≤ W6.heap.size := by have := HB6.lt;have := hb2.size;omega
      refine wpListIn_append_own _ rfl _ _ 23 rfl (w.heap.size + 4 + 1) 25 i0 (.agg (zEv 0)) 8 64 evUnder hi0 hz0 hz1 hz2 rfl (by decide) _ _ _ rfl (hR6.own.alloc _) ⟨W6.heap.size,0,none⟩ 1 1 [.int .i64 q1,.int .i64 q2,.int .i64 q3,.int .i64 q4,.bool qb,.int .i64 q5,.int .i64 q6,.int .i64 q7] rfl rfl (cells_new W6 _ _) (by simp [Value.oneCell']) (by unfold maxLen;omega) (by omega) (by simp;omega) ?_
      intro v' w1 hown' hgrow _
      obtain ⟨g',cap',rfl⟩ := ownsRow_succ hown'
      obtain ⟨hv1,hv2',hr2,hk2,hb2'⟩ := Boxed.appended (show Boxed W6 (w.heap.size + 3) 23 _ from hR6.l) (by decide) (ownsLe (b' := w.heap.size) (by omega) hR6.own) (by omega) (by omega) (ownsLe (b' := w.heap.size) (by omega) hown') hgrow
      have hc1 : w1.cell? ⟨w.heap.size + 1 + 1 + 1,0,none⟩ = _ := hv1.cell
      have hf1 : w1.frozen? ⟨w.heap.size + 1 + 1 + 1,0,none⟩ = _ := hv1.frozen
      gi_wp2
      have hob : ∀ k,k ≤ w.heap.size + 4 → some k ≠ (Value.slice va acc.length vc).ownBlock := fun k hk e => by have := (hR6.own.lt k e.symm).1;omega
      have fk : ∀ (k : Nat) (o : Obj),k ≤ w.heap.size + 4 → k ≠ w.heap.size + 3 → W6.heap[k]? = some o → (w1.setCell ⟨w.heap.size + 3,0,none⟩ (.slice (some ⟨g',0,none⟩) (acc.length + 1) cap')).heap[k]? = some o := fun k o hk hne h =>
       (setCell_heap _ (by omega)).trans ((hgrow.block k (by have := (Array.getElem?_eq_some_iff.1 h).1;simp;omega) (hob k hk)).trans ((Below.heap_alloc _ _ _ (Array.getElem?_eq_some_iff.1 h).1).trans h))
      have hb1W : W6.heap[w.heap.size + 4]? = W.heap[w.heap.size + 4]? := hb46.block _ (by omega)
      obtain ⟨ob,hob1⟩ : ∃ o,W.heap[w.heap.size + 4]? = some o := ⟨_,Array.getElem?_eq_getElem (by omega)⟩
      refine ⟨(kf_below hb46).trans (hk2.from _),(fk _ _ (Nat.le_refl _) (by omega) (hb1W.trans hob1)).trans hob1.symm,_,acc ++ [(kd,X,Y,Z)],⟨hv2',fk _ _ (by omega) (by omega) hR6.r2,fk _ _ (by omega) (by omega) hR6.r3,fk _ _ (by omega) (by omega) hR6.r4,?_,hR6.b.trans hb2'⟩,acc_snoc hA hfull hokM⟩
      have hl1 : (acc ++ [(kd,X,Y,Z)]).length = acc.length + 1 := by simp
      rw [hl1,evF_snoc]
      simp only [hev2]
      exact hown'.kept (grownBy_setCell' w1 _ _) (.inr (hv1.not_row (by decide) hown').symm)
     ·have hLs : ¬ bS (lineL (kd,X,Y,Z)) = bS x := fun e => hL (bS_inj e)
      have hLb : (lineL (kd,X,Y,Z) == x) = false := by simpa using hL
      have hokM : okM x = none := by unfold okM;rw [hevl];exact if_neg fun h => hL h.2
      gi_wp2_with (first | (gi_at_call 16;refine ((callsIn_wide.2 (ev_a x (by omega) W hgW)).inRound l).mono ?_;rintro e W2 ⟨rfl,hb2⟩;rw [hev]) | (refine wpListIn_store_box rfl 25 (.tmp 7) (.tmp 20) rfl W2.heap.size _ #[.int .i64 q1,.int .i64 q2,.int .i64 q3,.int .i64 q4,.bool qb,.int .i64 q5,.int .i64 q6,.int .i64 q7] rfl rfl (Box.new _ _ _) rfl evSz (by simp [Value.oneCell']) ?_;intro W4 HB4 HO4;have hb4 : Below W.heap.size W W4 := hb2.trans ((((Below.refl _ W2).alloc (Nat.le_refl _) _).mono hb2.size).trans (HO4.below hb2.size))) | (refine wpListIn_load_box rfl 25 (.tmp 7) rfl W2.heap.size (by rfl) _ _ HB6 Tryd.underlying25 rfl evSz ?_) | (refine wpListIn_load_box rfl 25 (.tmp 7) rfl W2.heap.size (by rfl) _ _ HB5 Tryd.underlying25 rfl evSz ?_) | (refine wpListIn_load_box rfl 25 (.tmp 7) rfl W2.heap.size (by rfl) _ _ HB4 Tryd.underlying25 rfl evSz ?_) | (gi_at_call 11;refine ((callsIn_wide.2 (hchk W4)).inRound l).mono ?_;rintro e W5 ⟨rfl,hb5⟩;have HB5 := HB4.call hb5;have z0 : W5.cell? ⟨W2.heap.size,0,none⟩ = some (.int .i64 q1) := HB5.cell 0 _ rfl;have z1 : W5.cell? ⟨W2.heap.size,1,none⟩ = some (.int .i64 q2) := HB5.cell 1 _ rfl;have z2 : W5.cell? ⟨W2.heap.size,2,none⟩ = some (.int .i64 q3) := HB5.cell 2 _ rfl;have z3 : W5.cell? ⟨W2.heap.size,3,none⟩ = some (.int .i64 q4) := HB5.cell 3 _ rfl;have z4 : W5.cell? ⟨W2.heap.size,4,none⟩ = some (.bool qb) := HB5.cell 4 _ rfl;have z5 : W5.cell? ⟨W2.heap.size,5,none⟩ = some (.int .i64 q5) := HB5.cell 5 _ rfl;have z6 : W5.cell? ⟨W2.heap.size,6,none⟩ = some (.int .i64 q6) := HB5.cell 6 _ rfl;have z7 : W5.cell? ⟨W2.heap.size,7,none⟩ = some (.int .i64 q7) := HB5.cell 7 _ rfl;have hb45 : Below W.heap.size W W5 := hb4.trans (hb5.mono hb4.size)) | (gi_at_call 13;refine ((callsIn_wide.2 (hline W5 (hgW.below hb45))).inRound l).mono ?_;rintro e W6 ⟨rfl,hb6⟩;have HB6 := HB5.call hb6;have hb46 : Below W.heap.size W W6 := hb45.trans (hb6.mono hb45.size);have hR6 := hR.below hb46))
      refine wpIn_region_orders [[0,1,2,3,4],[0,2,1,3,4],[2,0,1,3,4]] (by kernel_rfl) (by kernel_rfl) ?_
      have hS0 := hR6.drew
      have hkd : KeepsFrom u.heap.size W6 { W6 with drawn := W6.drawn + 1 } := kf_drew
      obtain ⟨w2,hw2⟩ : ∃ w2,w2 = ({ W6 with drawn := W6.drawn + 1 } : World) := ⟨_,rfl⟩
      rw [← hw2] at hS0 hkd
      rw [← hw2]
      clear hw2
      have c5 : w2.cell? ⟨w.heap.size + 1 + 1 + 1,0,none⟩ = some (.slice va acc.length vc) := obj_cell (o := 0) hS0.l rfl
      have c2 : w2.cell? ⟨w.heap.size,0,none⟩ = some (.slice none 0 0) := obj_cell (o := 0) hS0.r2 rfl
      have c3 : w2.cell? ⟨w.heap.size + 1,0,none⟩ = some (.int .i64 0) := obj_cell (o := 0) hS0.r3 rfl
      have c4 : w2.cell? ⟨w.heap.size + 1 + 1,0,none⟩ = some (.int .i64 0) := obj_cell (o := 0) hS0.r4 rfl
      have g2 : w2.frozen? ⟨w.heap.size,0,none⟩ = false := obj_free hS0.r2
      have g3 : w2.frozen? ⟨w.heap.size + 1,0,none⟩ = false := obj_free hS0.r3
      have g4 : w2.frozen? ⟨w.heap.size + 1 + 1,0,none⟩ = false := obj_free hS0.r4
      obtain ⟨s2,s3,s4,sk,sb,so⟩ := set3 (.slice none 0 0) (.int .i64 acc.length) (.int .i64 3) hS0.r2 hS0.r3 hS0.r4
      have hSb := sb hS0.b
      have hSz := (sb (Below.refl _ _)).size
      intro lo hlo
      simp only [List.mem_cons,List.not_mem_nil,or_false] at hlo
      rcases hlo with rfl | rfl | rfl
      all_goals
       refine (show wpListIn _ _ _ _ _ [_,_,_,_,_] _ _ from ?_)
       gi_wp2
       exact ⟨(kf_below hb46).trans (hkd.trans ⟨hSz,fun k o hk h _ => (sk k (by omega)).trans h⟩),rfl,s2,⟨acc.length,3,s3,s4,fun rest => acc_bad hA hfull hokM rest⟩,hSb⟩
    ·gi_wp2_with (first | (gi_at_call 16;refine ((callsIn_wide.2 (ev_a x (by omega) W hgW)).inRound l).mono ?_;rintro e W2 ⟨rfl,hb2⟩;rw [hev]) | (refine wpListIn_store_box rfl 25 (.tmp 7) (.tmp 20) rfl W2.heap.size _ #[.int .i64 q1,.int .i64 q2,.int .i64 q3,.int .i64 q4,.bool qb,.int .i64 q5,.int .i64 q6,.int .i64 q7] rfl rfl (Box.new _ _ _) rfl evSz (by simp [Value.oneCell']) ?_;intro W4 HB4 HO4;have hb4 : Below W.heap.size W W4 := hb2.trans ((((Below.refl _ W2).alloc (Nat.le_refl _) _).mono hb2.size).trans (HO4.below hb2.size))) | (refine wpListIn_load_box rfl 25 (.tmp 7) rfl W2.heap.size (by rfl) _ _ HB6 Tryd.underlying25 rfl evSz ?_) | (refine wpListIn_load_box rfl 25 (.tmp 7) rfl W2.heap.size (by rfl) _ _ HB5 Tryd.underlying25 rfl evSz ?_) | (refine wpListIn_load_box rfl 25 (.tmp 7) rfl W2.heap.size (by rfl) _ _ HB4 Tryd.underlying25 rfl evSz ?_) | (gi_at_call 11;refine ((callsIn_wide.2 (hchk W4)).inRound l).mono ?_;rintro e W5 ⟨rfl,hb5⟩;have HB5 := HB4.call hb5;have z0 : W5.cell? ⟨W2.heap.size,0,none⟩ = some (.int .i64 q1) := HB5.cell 0 _ rfl;have z1 : W5.cell? ⟨W2.heap.size,1,none⟩ = some (.int .i64 q2) := HB5.cell 1 _ rfl;have z2 : W5.cell? ⟨W2.heap.size,2,none⟩ = some (.int .i64 q3) := HB5.cell 2 _ rfl;have z3 : W5.cell? ⟨W2.heap.size,3,none⟩ = some (.int .i64 q4) := HB5.cell 3 _ rfl;have z4 : W5.cell? ⟨W2.heap.size,4,none⟩ = some (.bool qb) := HB5.cell 4 _ rfl;have z5 : W5.cell? ⟨W2.heap.size,5,none⟩ = some (.int .i64 q5) := HB5.cell 5 _ rfl;have z6 : W5.cell? ⟨W2.heap.size,6,none⟩ = some (.int .i64 q6) := HB5.cell 6 _ rfl;have z7 : W5.cell? ⟨W2.heap.size,7,none⟩ = some (.int .i64 q7) := HB5.cell 7 _ rfl;have hb45 : Below W.heap.size W W5 := hb4.trans (hb5.mono hb4.size)))
     have hR5 := hR.below hb45
     refine wpIn_region_orders [[0,1,2,3,4],[0,2,1,3,4],[2,0,1,3,4]] (by kernel_rfl) (by kernel_rfl) ?_
     have hS0 := hR5.drew
     have hkd : KeepsFrom u.heap.size W5 { W5 with drawn := W5.drawn + 1 } := kf_drew
     obtain ⟨w2,hw2⟩ : ∃ w2,w2 = ({ W5 with drawn := W5.drawn + 1 } : World) := ⟨_,rfl⟩
     rw [← hw2] at hS0 hkd
     rw [← hw2]
     clear hw2
     have c5 : w2.cell? ⟨w.heap.size + 1 + 1 + 1,0,none⟩ = some (.slice va acc.length vc) := obj_cell (o := 0) hS0.l rfl
     have c2 : w2.cell? ⟨w.heap.size,0,none⟩ = some (.slice none 0 0) := obj_cell (o := 0) hS0.r2 rfl
     have c3 : w2.cell? ⟨w.heap.size + 1,0,none⟩ = some (.int .i64 0) := obj_cell (o := 0) hS0.r3 rfl
     have c4 : w2.cell? ⟨w.heap.size + 1 + 1,0,none⟩ = some (.int .i64 0) := obj_cell (o := 0) hS0.r4 rfl
     have g2 : w2.frozen? ⟨w.heap.size,0,none⟩ = false := obj_free hS0.r2
     have g3 : w2.frozen? ⟨w.heap.size + 1,0,none⟩ = false := obj_free hS0.r3
     have g4 : w2.frozen? ⟨w.heap.size + 1 + 1,0,none⟩ = false := obj_free hS0.r4
     obtain ⟨s2,s3,s4,sk,sb,so⟩ := set3 (.slice none 0 0) (.int .i64 acc.length) (.int .i64 3) hS0.r2 hS0.r3 hS0.r4
     have hSb := sb hS0.b
     have hSz := (sb (Below.refl _ _)).size
     intro lo hlo
     simp only [List.mem_cons,List.not_mem_nil,or_false] at hlo
     rcases hlo with rfl | rfl | rfl
     all_goals
      refine (show wpListIn _ _ _ _ _ [_,_,_,_,_] _ _ from ?_)
      gi_wp2
      exact ⟨(kf_below hb45).trans (hkd.trans ⟨hSz,fun k o hk h _ => (sk k (by omega)).trans h⟩),rfl,s2,⟨acc.length,3,s3,s4,fun rest => acc_bad hA hfull (okM_chk hz) rest⟩,hSb⟩

  case done =>
   rintro D xs W hD rfl ⟨v,acc,hR,hA⟩ hK
   have hend := acc_end hA
   obtain ⟨va,vc,rfl⟩ := row_form hR.own
   have c5 : W.cell? ⟨w.heap.size + 1 + 1 + 1,0,none⟩ = some (.slice va acc.length vc) := obj_cell (o := 0) hR.l rfl
   have c2 : W.cell? ⟨w.heap.size,0,none⟩ = some (.slice none 0 0) := obj_cell (o := 0) hR.r2 rfl
   have c3 : W.cell? ⟨w.heap.size + 1,0,none⟩ = some (.int .i64 0) := obj_cell (o := 0) hR.r3 rfl
   have c4 : W.cell? ⟨w.heap.size + 1 + 1,0,none⟩ = some (.int .i64 0) := obj_cell (o := 0) hR.r4 rfl
   have g2 : W.frozen? ⟨w.heap.size,0,none⟩ = false := obj_free hR.r2
   have g3 : W.frozen? ⟨w.heap.size + 1,0,none⟩ = false := obj_free hR.r3
   have g4 : W.frozen? ⟨w.heap.size + 1 + 1,0,none⟩ = false := obj_free hR.r4
   obtain ⟨s2,s3,s4,sk,sb,so⟩ := set3 (.slice va acc.length vc) (.int .i64 0) (.int .i64 0) hR.r2 hR.r3 hR.r4
   have hSo := so (by omega) hR.own
   have hSb := sb hR.b
   have hSK := (sk D (by omega)).trans hK
   gi_wp2
   refine ⟨by simp,.inl ⟨_,_,rfl,run_takeDeferred hSK,?_⟩⟩
   refine ⟨_,read_results rfl rfl rfl (n0 := w.heap.size) (x := .slice va acc.length vc) (y := 0) (z := 0) ?_ ?_ ?_,?_⟩
   ·exact (World.putObj_heap_other (by omega)).trans s2
   ·exact (World.putObj_heap_other (by omega)).trans s3
   ·exact (World.putObj_heap_other (by omega)).trans s4
   ·rw [hend]
    exact ⟨_,rfl,ownsLe (by omega) (ownsRow_putObj hSo _ hSK rfl),hSb.trans (belowP (by omega))⟩
  case stop =>
   rintro D c pre W hD ⟨rest,hr⟩ ⟨rfl,hX⟩ hK
   obtain ⟨k,c,h3,h4,hk⟩ := hX.rk
   have hb := hX.b
   have h2 := hX.r2
   gi_wp2
   refine ⟨by simp,.inl ⟨_,_,rfl,run_takeDeferred hK,?_⟩⟩
   refine ⟨_,read_results rfl rfl rfl (n0 := w.heap.size) (x := .slice none 0 0) (y := k) (z := c) ?_ ?_ ?_,?_⟩
   ·exact (World.putObj_heap_other (by omega)).trans h2
   ·exact (World.putObj_heap_other (by omega)).trans h3
   ·exact (World.putObj_heap_other (by omega)).trans h4
   ·rw [hr,hk]
    exact ⟨_,rfl,World.ownsRow_nil _ _ _ _,hb.trans (belowP (by omega))⟩
theorem vals_shape (kd : EK) (x y z : Int) : ∃ (a b c d : Int) (g : Bool) (e f h : Int),kd.vals x y z = #[.int .i64 a,.int .i64 b,.int .i64 c,.int .i64 d,.bool g,.int .i64 e,.int .i64 f,.int .i64 h] := by
 cases kd <;> exact ⟨_,_,_,_,_,_,_,_,rfl⟩
def EvsAt (W : World) (a : Option Addr) (b off : Nat) (evs : List Ev) : Prop :=
 (evs ≠ [] → a = some ⟨b,off,none⟩ ∧ b < W.heap.size) ∧ ∀ i e,evs[i]? = some e → ∀ j v,(e.1.vals e.2.1 e.2.2.1 e.2.2.2)[j]? = some v → W.cell? ⟨b,off + i * 8 + j,none⟩ = some v
theorem showM_snoc (l : List Ev) (e : Ev) : showM (l ++ [e]) = showM l ++ lineL e := by simp [showM]
theorem take_snoc {α : Type} (l : List α) (k : Nat) (e : α) (h : l[k]? = some e) : l.take (k + 1) = l.take k ++ [e] := by
 obtain ⟨hlt, rfl⟩ := List.getElem?_eq_some_iff.1 h
 exact List.take_succ_eq_append_getElem hlt
theorem show_calls (evs : List Ev) (hok : ∀ e ∈ evs,e.Ok) (hlen : evs.length ≤ 4000) (a : Option Addr) (b off cap : Nat) (hcap : evs.length ≤ cap) (w : World) (hg : LnG w) (hE : EvsAt w a b off evs) :
  Calls Tryd.prog 8 #[.slice a evs.length cap] w fun r w' => r = .returned (.tuple #[.string (bS (showM evs)),.int .i64 0,.int .i64 0]) ∧ Below w.heap.size w w' := by
 obtain ⟨W0,hW0⟩ : ∃ W0,W0 = w.alloc (.cells #[.pointer none,.slice none 0 0] tB) := ⟨_,rfl⟩
 have hb0 : Below w.heap.size w W0 := by rw [hW0];exact (Below.refl _ _).alloc (Nat.le_refl _) _
 have hs0 : W0.heap.size = w.heap.size + 1 := by rw [hW0];simp
 have hB0 : Bld w.heap.size w.heap.size [] W0 := by rw [hW0];exact Bld.fresh w
 have hbig : ¬ (4000 : Int) < evs.length := by omega
 have hsl := show_le evs hok
 go_enter Tryd.func8,Tryd.ntmps8
 go_upto_region 4 with (fail)
 rw [← hW0]
 clear hW0
 go_wp2
 go_loopw [14] (fun i wr => ∃ k : Nat,i = .int .i64 k ∧ k ≤ evs.length ∧ Bld w.heap.size w.heap.size (showM (evs.take k)) wr ∧ Below w.heap.size W0 wr ∧ w.heap.size < wr.heap.size) (fun i _ => match i with | .int _ z => evs.length - z.toNat | _ => 0)
 case atStart => exact ⟨0,rfl,by omega,hB0,Below.refl _ _,by omega⟩
 case round =>
  obtain ⟨k,rfl,hk,hBk,hbk,hszk⟩ := hrel
  have hbw : Below w.heap.size w wr := hb0.trans hbk
  by_cases hlt : k < evs.length
  ·obtain ⟨⟨kd,X,Y,Z⟩,hx⟩ : ∃ e,evs[k]? = some e := ⟨_,zE hlt⟩
   have hmem : (kd,X,Y,Z) ∈ evs := zD hx
   have hoke : kd.Ok X Y Z := hok _ hmem
   have hne : evs ≠ [] := by rintro rfl;cases hmem
   obtain ⟨rfl,hbl⟩ := hE.1 hne
   obtain ⟨q1,q2,q3,q4,qb,q5,q6,q7,hev⟩ := vals_shape kd X Y Z
   have hcs := hE.2 k _ hx
   simp only [hev] at hcs
   have z0 : wr.cell? ⟨b,off + k * 8,none⟩ = some (.int .i64 q1) := (hbw.cell (p := ⟨b,off + k * 8,none⟩) hbl).trans (hcs 0 _ rfl)
   have z1 : wr.cell? ⟨b,off + k * 8 + 1,none⟩ = some (.int .i64 q2) := (hbw.cell (p := ⟨b,off + k * 8 + 1,none⟩) hbl).trans (hcs 1 _ rfl)
   have z2 : wr.cell? ⟨b,off + k * 8 + 2,none⟩ = some (.int .i64 q3) := (hbw.cell (p := ⟨b,off + k * 8 + 2,none⟩) hbl).trans (hcs 2 _ rfl)
   have z3 : wr.cell? ⟨b,off + k * 8 + 3,none⟩ = some (.int .i64 q4) := (hbw.cell (p := ⟨b,off + k * 8 + 3,none⟩) hbl).trans (hcs 3 _ rfl)
   have z4 : wr.cell? ⟨b,off + k * 8 + 4,none⟩ = some (.bool qb) := (hbw.cell (p := ⟨b,off + k * 8 + 4,none⟩) hbl).trans (hcs 4 _ rfl)
   have z5 : wr.cell? ⟨b,off + k * 8 + 5,none⟩ = some (.int .i64 q5) := (hbw.cell (p := ⟨b,off + k * 8 + 5,none⟩) hbl).trans (hcs 5 _ rfl)
   have z6 : wr.cell? ⟨b,off + k * 8 + 6,none⟩ = some (.int .i64 q6) := (hbw.cell (p := ⟨b,off + k * 8 + 6,none⟩) hbl).trans (hcs 6 _ rfl)
   have z7 : wr.cell? ⟨b,off + k * 8 + 7,none⟩ = some (.int .i64 q7) := (hbw.cell (p := ⟨b,off + k * 8 + 7,none⟩) hbl).trans (hcs 7 _ rfl)
   have hchk : ∀ W',Calls Tryd.prog 11 #[.agg #[.int .i64 q1,.int .i64 q2,.int .i64 q3,.int .i64 q4,.bool qb,.int .i64 q5,.int .i64 q6,.int .i64 q7]] W' fun e w' => e = .returned (.int .i64 0) ∧ Below W'.heap.size W' w' := fun W' => by rw [← hev];exact pf_calls (wcheck_pf kd X Y Z hoke) (vals_vv kd X Y Z) W'
   have hline : ∀ W',LnG W' → Calls Tryd.prog 13 #[.agg #[.int .i64 q1,.int .i64 q2,.int .i64 q3,.int .i64 q4,.bool qb,.int .i64 q5,.int .i64 q6,.int .i64 q7]] W' fun e w' => e = .returned (.string (bS (lineL (kd,X,Y,Z)))) ∧ Below W'.heap.size W' w' := fun W' hW' => by rw [← hev];exact line_calls kd X Y Z hoke W' hW'
   have hltI : (k : Int) < evs.length := by omega
   have hlL := (line_le (e := (kd,X,Y,Z)) hoke).2
   have htk := show_le (evs.take k) (fun e he => hok e (List.mem_of_mem_take he))
   have htl : (evs.take k).length = k := by simp;omega
   have HCS := Lib.hid hcs
   have HEV := Lib.hid hev
   have HX := Lib.hid hx
   clear hcs hev hx
   go_wp2_with (first | (refine wpList_store_box rfl 25 (.tmp 7) (.tmp 18) rfl wr.heap.size _ #[.int .i64 q1,.int .i64 q2,.int .i64 q3,.int .i64 q4,.bool qb,.int .i64 q5,.int .i64 q6,.int .i64 q7] (by rfl) (by rfl) (Box.new _ _ _) rfl evSz (by simp [Value.oneCell']) ?_;intro W4 HB4 HO4;have hb4 : Below wr.heap.size wr W4 := ((Below.refl _ wr).alloc (Nat.le_refl _) _).trans (HO4.below (Nat.le_refl _))) | (refine wpList_load_box rfl 25 (.tmp 7) rfl wr.heap.size (by rfl) _ _ HB5 Tryd.underlying25 rfl evSz ?_) | (refine wpList_load_box rfl 25 (.tmp 7) rfl wr.heap.size (by rfl) _ _ HB4 Tryd.underlying25 rfl evSz ?_) | (go_at_call 11;refine (hchk W4).mono ?_;rintro e W5 ⟨rfl,hb5⟩;have HB5 := HB4.call hb5;have hb45 : Below wr.heap.size wr W5 := hb4.trans (hb5.mono hb4.size)) | (go_at_call 13;refine (hline W5 (hg.below (hbw.trans (hb45.mono hbw.size)))).mono ?_;rintro e W6 ⟨rfl,hb6⟩;have hb46 : Below wr.heap.size wr W6 := hb45.trans (hb6.mono hb45.size)) | (go_at_call 12;refine (bldWs w.heap.size w.heap.size (showM (evs.take k)) (lineL (kd,X,Y,Z)) W6 (hBk.below hb46) (by omega) (by have := hb46.size;omega)).mono ?_;rintro e W7 ⟨rfl,hB7,hb7,hk7⟩))
   refine ⟨⟨k + 1,by simp,by omega,?_,hbk.trans ((hb46.mono (by omega)).trans hb7),by have := hb46.size;have := hb7.size;omega⟩,?_⟩
   ·rw [take_snoc evs k _ HX.out,showM_snoc];exact hB7
   ·show evs.length - ((k : Int) + 1).toNat < evs.length - (k : Int).toNat
    omega
  ·have hke : k = evs.length := by omega
   subst hke
   have hnl : ¬ (evs.length : Int) < evs.length := by omega
   rw [List.take_length] at hBk
   go_wp2_with (go_at_call 14;refine (bldSt w.heap.size w.heap.size _ _ hBk (by omega)).mono ?_;rintro e W6 ⟨rfl,hb6⟩)
   refine bodyPost_ret (results_tmp3 rfl _ _ _) rfl ⟨rfl,hbw.trans hb6⟩
end Go.Proofs.YtbhcfldafpndbaaDoor
namespace Go.Proofs.YtbhcfldafpndbaaDoor
open Go.RowKit
def PFg (G : World → Prop) (P : Program) (f : FuncId) (ds : List D) (d : D) : Prop :=
 callable P f = true ∧ ∀ (Z : Cells) (w : World) (vs : Array Value),G w → (∀ b o v,Z b o = some v → w.cell? ⟨b,o,none⟩ = some v) → vs.size = ds.length → (∀ j x,ds[j]? = some x → VV s0 Z x (vs.getD j undef)) →
  Calls P f vs w fun e w' => ∃ v Z',e = .returned v ∧ VR s0 Z' d v ∧ Zx Z Z' w w' ∧ Below w.heap.size w w'
def PFng (G : World → Prop) (P : Program) (f : FuncId) (ds : List D) (d : D) : Prop :=
 callable P f = true ∧ ∀ (Z : Cells) (w : World) (vs : Array Value),G w → (∀ b o v,Z b o = some v → w.cell? ⟨b,o,none⟩ = some v) → vs.size = ds.length → (∀ j x,ds[j]? = some x → VV s0 Z x (vs.getD j undef)) →
  Calls P f vs w fun e w' => ∃ v Zn,e = .returned v ∧ VR s0 Zn d v ∧ (∀ b o u,Zn b o = some u → w.heap.size ≤ b ∧ w'.cell? ⟨b,o,none⟩ = some u) ∧ Below w.heap.size w w'
section
variable {P : Program} {sb : Bool} {B : Base} {w w' : World} {s s' : Nat → Value} {Z Z' : Cells} {st : St} {a : Act} {o : Oper} {K : St → Prop} {K' : Act → World → Prop} {Q : Exit → Act → World → Prop}
theorem CallOk.pfng {G : World → Prop} (hG : ∀ w,Fr B.F B.w0 w → G w) {f : FuncId} {ds es : List D} {d : D} {dst : Option Nat} (hpf : PFng G P f es d) (hes : match omap (brwV st.heap) ds with | some e => leVL e es | none => False) (hK : K ⟨putO st.env dst d,st.heap,st.nx⟩) : CallOk P sb B f ds dst st K := by
 obtain ⟨hcal,hpf⟩ := hpf
 refine ⟨hcal,fun s Z w vs h hl hv0 => ?_⟩
 split at hes
 case h_2 => exact hes.elim
 rename_i es' hes'
 obtain ⟨g1,g2⟩ := omap_some hes'
 obtain ⟨l1,l2⟩ := leVL_get hes
 have hv : ∀ j x,ds[j]? = some x → VV s Z x (vs.getD j undef) := fun j x hx => by
  have hlt : j < es'.length := by rw [g1];exact (zB.1 hx).1
  obtain ⟨y,hy,hb⟩ := g2 j _ (zE hlt)
  rw [hx] at hy
  cases hy
  exact brwV_vv hb (hv0 j x hx)
 refine (hpf (allZ w) w vs (hG w h.fr) (fun b o v h => h) (by omega) fun j x hx => ?_).mono ?_
 ·obtain ⟨x',hx',hle⟩ := l2 j x hx
  obtain ⟨y,hy,hb⟩ := g2 j x' hx'
  exact leV_sound hle (brwV_sound h.know (fun b o v hz => h.zok b o v hz) (fun _ _ _ _ _ o v hc => hc) hb (hv j y hy))
 rintro e w' ⟨v,Zn,he,hr,hn,hb⟩
 have hZ : ∀ b o u,Z b o = some u → b < w.heap.size := fun b o u hu => World.block_lt_of_cell? w _ (h.zok b o u hu)
 have hzx : Zx Z (fun b o => match Z b o with | some u => some u | none => Zn b o) w w' := by
  refine ⟨fun b o u hu => by simp only [hu],fun b o u hu => ?_,fun b o u hu => ?_⟩
  ·cases hq : Z b o with
   | none => simp only [hq] at hu;exact .inr (hn b o u hu).1
   | some u' => simp only [hq] at hu;exact .inl (by rw [← hu])
  ·cases hq : Z b o with
   | none => simp only [hq] at hu;exact (hn b o u hu).2
   | some u' =>
    simp only [hq,zA] at hu
    subst hu
    have := h.zok b o u' hq
    rw [hb.cell (p := ⟨b,o,none⟩) (World.block_lt_of_cell? w _ this)];exact this
 refine ⟨v,he,fun _ => hb,d,st.heap,st.nx,s,_,?_,hr.lt0.mono (Nat.zero_le _),h.call hb hzx,Nat.le_refl _,fun _ _ => rfl,hzx.old,hK⟩
 refine VR.mono (n := 0) (fun b o u hu => ?_) (fun _ h => by omega) hr.lt0 (hr.of0 (s := s)).1
 cases hq : Z b o with
 | none => simp only [hu]
 | some u' => have := hZ b o u' hq;have := (hn b o u hu).1;omega
theorem WCall.pfng {G : World → Prop} (hG : ∀ w,Fr B.F B.w0 w → G w) {f : FuncId} {as_ : List Opd} {es : List D} {d : D} {dst : Option Nat} (hpf : PFng G P f es d) (hok : oks st.env (.call f as_) = true) (hes : match omap (brwV st.heap) (as_.map (evS st.env)) with | some e => leVL e es | none => False)
  (hK : K ⟨putO st.env dst d,st.heap,st.nx⟩) : WCall P sb B (.call f as_) dst st K := WCall.of hok (CallOk.pfng hG hpf hes hK)
end
section
variable {P : Program} {hw : List FuncId} {f : FuncId} {code : AC} {res : List AR} {n : Nat} {ds : List D} {H : List (Nat × Ob)} {nx : Nat} {R : D → List (Nat × Ob) → Nat → Prop}
theorem PFg.of {G : World → Prop} (hGb : ∀ w w',G w → Below w.heap.size w w' → G w') {e : D} (hm : P.follows .mixedOrders = true) (hc : cfun P hw f = some ⟨code,res,n⟩) (hlen : ds.length ≤ n) (hno : ds.all argOk = true) (hnv : ds.all noV = true)
  (h : ∀ B : Base,B.N = n → B.n0 = 0 → (∀ w,Fr B.F B.w0 w → G w) → W P B hw code (Fin res (Rbr e)) ⟨envOf 0 ds,[],0⟩) : PFg G P f ds e := by
 obtain ⟨fn,c,hf,hb,h1,h2,h3,hcal⟩ := cfun_some hc
 refine ⟨hcal,fun Z w vs hgw hz hl hv => ?_⟩
 refine (body_sound (B := ⟨n,fun _ => False,w,0,s0,Z⟩) hm hc rfl hlen hno (fun d hd => noV_lt (List.all_eq_true.1 hnv d hd)) (h _ rfl rfl (fun w1 h1 => hGb w w1 hgw ⟨h1.os,h1.tape,h1.output,h1.size,fun k hk => h1.block k hk (fun h => h)⟩)) (empty_rel n Z w hz) hl hv).mono ?_
 rintro x w' ⟨v,d,H',nx',s',Z',he,q1,q2,q3,q4⟩
 have hbel : Below w.heap.size w w' := ⟨q3.fr.os,q3.fr.tape,q3.fr.output,q3.fr.size,fun k hk => q3.fr.block k hk (fun h => h)⟩
 unfold Rbr at q4
 split at q4
 case h_2 => exact q4.elim
 rename_i e' he'
 refine ⟨v,Zown Z' H' s' w',he,leR_sound q4 (brwR_sound q3.know (fun b o u hu => ?_) (fun id ob b hid hb o u hu => ?_) he' q1),⟨fun b o u hu => ?_,fun b o u hu => ?_,fun b o u hu => ?_⟩,hbel⟩
 ·unfold Zown
  split
  ·exact q3.zok b o u hu
  ·exact hu
 ·unfold Zown
  rw [if_pos ⟨id,ob,hid,hb⟩]
  exact hu
 ·unfold Zown
  split
  ·exact q3.zok b o u (q3.bz b o u hu)
  ·exact q3.bz b o u hu
 ·unfold Zown at hu
  split at hu
  ·rename_i hx
   obtain ⟨id,ob,hid,hb⟩ := hx
   rcases q3.mine id ob b hid hb with h5 | h5
   ·exact .inr h5
   ·exact h5.elim
  ·rcases q3.bn b o u hu with h5 | h5 | h5
   ·exact .inl h5
   ·exact .inr h5
   ·exact h5.elim
 ·unfold Zown at hu
  split at hu
  ·exact hu
  ·exact q3.zok b o u hu
end
theorem vals_len (kd : EK) (x y z : Int) : (kd.vals x y z).size = 8 := by cases kd <;> rfl
theorem cells_vals (kd : EK) (x y z : Int) (Z : Cells) : ∀ (j : Nat) (d : D),(kd.cells x y z)[j]? = some d → ∃ v,(kd.vals x y z)[j]? = some v ∧ VT Z d v := by
 intro j d hj
 have hj8 : j < 8 := by
  have := (zB.1 hj).1
  have e : (kd.cells x y z).length = 8 := by cases kd <;> rfl
  omega
 have hj9 : j = 0 ∨ j = 1 ∨ j = 2 ∨ j = 3 ∨ j = 4 ∨ j = 5 ∨ j = 6 ∨ j = 7 := by omega
 cases kd <;> rcases hj9 with rfl | rfl | rfl | rfl | rfl | rfl | rfl | rfl <;> (cases hj;first | exact ⟨_,rfl,VT.int _ _⟩ | exact ⟨_,rfl,VT.bool _⟩)
theorem vals_cells (kd : EK) (x y z : Int) : ∀ (j : Nat) (v : Value),(kd.vals x y z)[j]? = some v → ∃ d,(kd.cells x y z)[j]? = some d ∧ ∀ Z u,VT Z d u → u = v := by
 intro j v hj
 have hj8 : j < 8 := by
  have := (Array.getElem?_eq_some_iff.1 hj).1
  have e : (kd.vals x y z).size = 8 := by cases kd <;> rfl
  omega
 have hj9 : j = 0 ∨ j = 1 ∨ j = 2 ∨ j = 3 ∨ j = 4 ∨ j = 5 ∨ j = 6 ∨ j = 7 := by omega
 cases kd <;> rcases hj9 with rfl | rfl | rfl | rfl | rfl | rfl | rfl | rfl <;> (cases hj;exact ⟨_,rfl,fun Z u hu => by cases hu;rfl⟩)
theorem evs_open {Z : Cells} {w : World} (hz : ∀ b o v,Z b o = some v → w.cell? ⟨b,o,none⟩ = some v) {evs : List Ev} {sl : Value} (hV : VT Z (.rows 8 (evs.map Ev.C)) sl) :
  ∃ a b off cap,sl = .slice a evs.length cap ∧ evs.length ≤ cap ∧ EvsAt w a b off evs := by
 generalize hys : evs.map Ev.C = ys at hV
 cases hV with
 | rnil _ a cap =>
  have h0 : evs = [] := List.map_eq_nil_iff.1 hys
  exact ⟨a,0,0,cap,by rw [h0];rfl,by simp [h0],fun hne => absurd h0 hne,fun i x hx => by rw [h0] at hx;simp at hx⟩
 | rows _ _ b off cap c h1 h2 h3 =>
  have hlen : ys.length = evs.length := by rw [← hys];simp
  have hcell : ∀ i e,evs[i]? = some e → ∀ j v,(e.1.vals e.2.1 e.2.2.1 e.2.2.2)[j]? = some v → w.cell? ⟨b,off + i * 8 + j,none⟩ = some v := fun i e he j v hj => by
   have hy : ys[i]? = some e.C := by rw [← hys,List.getElem?_map,he];rfl
   obtain ⟨d,hd,hu⟩ := vals_cells _ _ _ _ j v hj
   rw [← hu _ _ (h3 i _ j d hy hd)]
   exact hz _ _ _ (h2 i _ j d hy hd).2
  refine ⟨_,b,off,cap,by rw [hlen],by omega,fun hne => ⟨rfl,?_⟩,hcell⟩
  obtain ⟨x,hx⟩ := List.exists_mem_of_ne_nil _ hne
  obtain ⟨i,hi⟩ := zF hx
  obtain ⟨a,_,_,_,_,_,_,_,hs⟩ := vals_shape x.1 x.2.1 x.2.2.1 x.2.2.2
  exact World.block_lt_of_cell? w _ (hcell i x hi 0 (.int .i64 a) (by rw [hs];rfl))
theorem show_pfg (evs : List Ev) (hok : ∀ e ∈ evs,e.Ok) (hlen : evs.length ≤ 4000) : PFng LnG Tryd.prog 8 [.rows 8 (evs.map Ev.C)] (.tup [.str (bS (showM evs)),I 0,I 0]) := by
 refine ⟨by kernel_rfl,fun Z w vs hg hz hl hv => ?_⟩
 match vs,hl,hv with
 | ⟨[p]⟩,_,hv =>
  obtain ⟨a,b,off,cap,rfl,hcap,hE⟩ := evs_open hz (show VT Z (.rows 8 (evs.map Ev.C)) p from hv 0 _ rfl)
  refine (show_calls evs hok hlen a b off cap hcap w hg hE).mono ?_
  rintro r w' ⟨rfl,hb⟩
  refine ⟨_,fun _ _ => none,rfl,⟨_,rfl,rfl,fun j x hx => ?_⟩,fun b o u hu => (by cases hu),hb⟩
  match j,hx with
  | 0,hx => cases hx;exact VT.str _
  | 1,hx => cases hx;exact VT.int _ _
  | 2,hx => cases hx;exact VT.int _ _
  | j + 3,hx => simp at hx
theorem evF_at (evs : List Ev) : ∀ i e,evs[i]? = some e → ∀ j v,(e.1.vals e.2.1 e.2.2.1 e.2.2.2)[j]? = some v → (evF evs)[i * 8 + j]? = some v := by
 induction evs with
 | nil => intro i e h;simp at h
 | cons x evs ih =>
  intro i e h j v hv
  have e0 : evF (x :: evs) = (x.1.vals x.2.1 x.2.2.1 x.2.2.2).toList ++ evF evs := by simp [evF]
  rw [e0]
  have hl := vals_size x.1 x.2.1 x.2.2.1 x.2.2.2
  cases i with
  | zero =>
   simp only [List.getElem?_cons_zero,zA] at h
   subst h
   have hj : j < 8 := by have := (Array.getElem?_eq_some_iff.1 hv).1;rw [vals_len] at this;exact this
   rw [List.getElem?_append_left (by omega)]
   simpa using hv
  | succ i =>
   rw [List.getElem?_append_right (by omega),hl,show (i + 1) * 8 + j - 8 = i * 8 + j by omega]
   exact ih i e (by simpa using h) j v hv
theorem evs_row {W : World} {base : Nat} {v : Value} {evs : List Ev} (h : W.ownsRow base 25 8 v evs.length (evF evs)) :
  VT (fun b o => if base ≤ b then W.cell? ⟨b,o,none⟩ else none) (.rows 8 (evs.map Ev.C)) v := by
 rcases h.2 with ⟨rfl,h0⟩ | ⟨g,cap,cur,rfl,hb,hg,hcap,_,hcs,htk⟩
 ·have : evs = [] := List.length_eq_zero_iff.1 h0
  subst this
  exact VT.rnil _ _ _
 ·have hcell : ∀ i e,evs[i]? = some e → ∀ j v,(e.1.vals e.2.1 e.2.2.1 e.2.2.2)[j]? = some v → W.cell? ⟨g,i * 8 + j,none⟩ = some v := fun i e he j v hv => by
   have h1 := evF_at evs i e he j v hv
   rw [← htk] at h1
   have h2 : cur[i * 8 + j]? = some v := by
    have := List.getElem?_take.symm.trans h1
    split at this
    ·simpa using this
    ·cases this
   exact obj_cell hg h2
  have := VT.rows (Z := fun b o => if base ≤ b then W.cell? ⟨b,o,none⟩ else none) 8 (evs.map Ev.C) g 0 cap (fun i j => (W.cell? ⟨g,i * 8 + j,none⟩).getD undef) (by simpa using hcap) (fun i row j d hr hd => ?_) (fun i row j d hr hd => ?_)
  ·simpa using this
  ·rw [List.getElem?_map] at hr
   obtain ⟨e,he,rfl⟩ := Option.map_eq_some_iff.1 hr
   obtain ⟨u,hu,_⟩ := cells_vals _ _ _ _ (fun _ _ => none) j d hd
   have hc := hcell i e he j u hu
   have hj8 : j < 8 := by
    have := (Array.getElem?_eq_some_iff.1 hu).1
    rw [vals_len] at this;exact this
   refine ⟨hj8,?_⟩
   simp only [if_pos hb,Nat.zero_add]
   rw [hc];rfl
  ·rw [List.getElem?_map] at hr
   obtain ⟨e,he,rfl⟩ := Option.map_eq_some_iff.1 hr
   obtain ⟨u,hu,hvt⟩ := cells_vals _ _ _ _ (fun b o => if base ≤ b then W.cell? ⟨b,o,none⟩ else none) j d hd
   rw [hcell i e he j u hu]
   exact hvt
theorem read_pfg (s : List UInt8) : PFng LnG Tryd.prog 9 [.str (bS s)] (.tup [.rows 8 ((readM s).1.map Ev.C),I (readM s).2.1,I (readM s).2.2]) := by
 refine ⟨by kernel_rfl,fun Z w vs hg hz hl hv => ?_⟩
 match vs,hl,hv with
 | ⟨[p]⟩,_,hv =>
  have e1 : p = .string (bS s) := by
   have : VT Z (.str (bS s)) p := hv 0 _ rfl
   cases this;rfl
  subst e1
  refine callsIn_wide.1 (CallsIn.mono (read_in s w hg) ?_)
  rintro r w' ⟨v,rfl,hrow,hb⟩
  refine ⟨_,fun b o => if w.heap.size ≤ b then w'.cell? ⟨b,o,none⟩ else none,rfl,⟨_,rfl,rfl,fun j x hx => ?_⟩,fun b o u hu => ?_,hb⟩
  ·match j,hx with
   | 0,hx => cases hx;exact evs_row hrow
   | 1,hx => cases hx;exact VT.int _ _
   | 2,hx => cases hx;exact VT.int _ _
   | j + 3,hx => simp at hx
  ·simp only at hu
   split at hu
   ·rename_i hb2;exact ⟨hb2,hu⟩
   ·cases hu
end Go.Proofs.YtbhcfldafpndbaaDoor
namespace Go.Proofs.YtbhcfldafpndbaaDoor
open Go.RowKit
attribute [local simp] AK_at acode_seq acode_region acode_draw acode_cond CB_u acode_block acode_loop acode_exit acode_scope acode_ret acode_skip seqQ_n seqQ_e seqQ_r blockQ_n blockQ_e blockQ_r TK_at OK_at SK_at aops_nil aops_cons asch_done asch_one asch_two asch_top astep aop_eq isLoud aloud aloud1 isWrite qv evS strip gof eget hget putO eput herase oks opnds gS afin afin0 binD arith D.cells takeD fillD keep trim envOf Fin aresl aresv resD argOk pickV isP deq deqs boundD slD lenD isT isSl ptrIds chunks mn_min mx_max splice_one splice_more Rbr_at Rfr_at frR frV frC flatC brwR brwV brwC omap leR leV leC leL leVL rnR rnV rnC rnO rho_0 hputs herases rnS LtS LtR LtV LtC LtO lget noV noC flatR flatV rho
attribute [local simp ↓] CB_t CB_f
theorem lnb : ∀ w w',LnG w → Below w.heap.size w w' → LnG w' := fun w w' h hb => h.below hb
end Go.Proofs.YtbhcfldafpndbaaDoor
namespace Go.Proofs.YtbhcfldafpndbaaDoor
open Go.ChangeShapes Go.RowKit
theorem iface_of_trod {H : Type} {enc : TypeId × Value → H} {P : Program} {w : World} {base : Nat} {sp : Nat → Bool} {held : Bool} {fuel : Nat} {t : TypeId} {ms : Array (String × TypeId)} {cs : List Value} {nm : String} {d : DataW H} {p : List MemPlace}
  (ht : P.underlying t = some (.interface ms)) (h : DataW.trod enc P w base sp held fuel t cs = some (.iface nm d,p)) : ∃ u v,cs = [.iface u v] := by
 cases fuel with
 | zero => simp [DataW.trod] at h
 | succ fuel =>
  match cs with
  | [.iface u v] => exact ⟨u,v,rfl⟩
  | [.nilIface] => simp [DataW.trod,ht] at h
  | [] => simp [DataW.trod,ht] at h
  | [x] => cases x <;> simp [DataW.trod,ht] at h <;> exact ⟨_,_,rfl⟩
  | x :: y :: l => simp [DataW.trod,ht] at h
theorem laid_iface {P : Program} {n nm : String} {d : DataW Unit} {r : List (String × DataW Unit)} {W : World} {g : Nat} {t : TypeId} {ms : Array (String × TypeId)} (h : laidMet P ((n,.iface nm d) :: r) W)
  (hg : P.globalNamed n = some g) (ht : (P.globals[g]?).map (·.type) = some t) (hi : P.underlying t = some (.interface ms)) : ∃ tp p,W.cell? ⟨g,0,none⟩ = some (.iface tp p) := by
 obtain ⟨ps,⟨g0,t0,cs0,f0,p0,q0,hg0,ht0,hv0,hd0,_,e0⟩,_,_⟩ := h
 obtain rfl := Option.some.inj (hg.symm.trans hg0)
 obtain rfl := Option.some.inj (ht.symm.trans ht0)
 obtain ⟨u,v,hcs⟩ := iface_of_trod hi hd0
 obtain ⟨l0⟩ := cs0
 simp only at hcs
 subst hcs
 exact ⟨u,v,by simpa using World.var?_cell hg0 hv0 0⟩
theorem laid_strs {P : Program} {n : String} {zs : List (List UInt8)} {r : List (String × DataW Unit)} {W : World} {g k : Nat} {t e : TypeId} (h : laidMet P ((n,.agg (zs.map fun s => .lit (.string s))) :: r) W)
  (hg : P.globalNamed n = some g) (hty : (P.globals[g]?).map (·.type) = some t) (ht : P.underlying t = some (.array k e)) (he : P.underlying e = some .string) (hce : P.cellsOf e = 1) (hct : P.cellsOf t = k) :
  ∀ i x,zs[i]? = some x → W.cell? ⟨g,i,none⟩ = some (.string (bS x)) := by
 obtain ⟨ps,⟨g0,t0,cs0,f0,p0,q0,hg0,ht0,hv0,hd0,_,e0⟩,_,_⟩ := h
 obtain rfl := Option.some.inj (hg.symm.trans hg0)
 obtain rfl := Option.some.inj (hty.symm.trans ht0)
 intro i x hx
 cases f0 with
 | zero => simp [DataW.trod] at hd0
 | succ fuel =>
  simp only [DataW.trod,ht,hce,hct,Nat.mul_one] at hd0
  split at hd0
  ·rename_i hl
   obtain ⟨xs,hm,hxs0⟩ := Option.map_eq_some_iff.1 hd0
   have hxs : xs.map (·.1) = zs.map fun s => (DataW.lit (.string s) : DataW Unit) := by
    have := congrArg Prod.fst hxs0
    simpa using this
   have hxl : xs.length = k := by simpa using Lib.mapM_length hm
   have hzl : zs.length = k := by
    have := congrArg List.length hxs
    simp at this
    omega
   have hi : i < k := by rw [← hzl];exact (zB.1 hx).1
   obtain ⟨b,hb,hf⟩ := Lib.mapM_at hm i i (by simp [hi])
   obtain ⟨s,hc,rfl,_⟩ := DataW.trod_string he hf
   have h1 : cs0.toList[i]? = some (.string s) := by
    have := congrArg (·[0]?) hc
    simpa [List.getElem?_take,List.getElem?_drop] using this
   have h2 : (xs.map (·.1))[i]? = some (DataW.lit (.string s.data.toList) : DataW Unit) := by simp [hb]
   rw [hxs] at h2
   simp only [List.getElem?_map,Option.map_eq_some_iff,DataW.lit.injEq,Lit.string.injEq] at h2
   obtain ⟨z',hz',hzz⟩ := h2
   rw [hx] at hz'
   cases hz'
   have h3 := World.var?_cell hg0 hv0 i
   rw [h3,hzz,bS_of]
   simpa using h1
  ·cases hd0
theorem gPow : Tryd.prog.globalNamed "internal/strconv.uint64pow10" = some 4 := by kernel_rfl
theorem gPowT : (Tryd.prog.globals[4]?).map (·.type) = some 104 := by kernel_rfl
theorem gWd : Tryd.prog.globalNamed "usher/lines.words" = some 0 := by kernel_rfl
theorem gWdT : (Tryd.prog.globals[0]?).map (·.type) = some 63 := by kernel_rfl
theorem gEr : Tryd.prog.globalNamed "strconv.ErrRange" = some 3 := by kernel_rfl
theorem gErT : (Tryd.prog.globals[3]?).map (·.type) = some 46 := by kernel_rfl
theorem gEs : Tryd.prog.globalNamed "strconv.ErrSyntax" = some 2 := by kernel_rfl
theorem gEsT : (Tryd.prog.globals[2]?).map (·.type) = some 46 := by kernel_rfl
theorem lng_of {W : World} (h : laidMet Tryd.prog Rows.linesFixedRow.laid W) (hs : W.ShapedOpen Tryd.prog) : LnG W where
 pow := Lib.tabIs_of_head gPow gPowT Tryd.underlying104 Tryd.underlying87 (by kernel_rfl) (by kernel_rfl) h.tail.tail
 es := laid_iface h.tail.tail.tail.tail.tail gEs gEsT Tryd.underlying46
 er := laid_iface h.tail.tail.tail.tail gEr gErT Tryd.underlying46
 ml := Go.Proofs.cell_of_shapedOpen_int (k := .i64) (zero := #[.int .i64 0]) hs (of_decide_eq_true (by kernel_rfl)) (by kernel_rfl) rfl (by kernel_rfl) (by kernel_rfl) Tryd.underlying3
 wd := laid_strs (zs := wordsL) h.tail.tail.tail.tail.tail.tail gWd gWdT Tryd.underlying63 Tryd.underlying9 (by kernel_rfl) (by kernel_rfl)
theorem law_of_pfg {G : World → Prop} {f : FuncId} {ds : List D} (h : PFg G Tryd.prog f ds (.bool true)) {W : World} (hG : G W) (W0 : World) (vs : Array Value) (hl : vs.size = ds.length) (hv : ∀ j x,ds[j]? = some x → VV s0 (allZ W) x (vs.getD j undef)) :
  Calls Tryd.prog f vs W fun e W' => e = .returned (.bool true) ∧ Below W.heap.size W W' :=
 (h.2 (allZ W) W vs hG (fun b o v h => h) hl hv).mono fun e w' ⟨v,Z',he,hr,_,hb⟩ => ⟨by rw [he,hr.bool_inv],hb⟩
end Go.Proofs.YtbhcfldafpndbaaDoor
namespace Go.Proofs.YtbhcfldafpndbaaDoor
open Go.ChangeShapes Go.WideShapes Go.ChangeAt Go.RowKit
theorem nums_wf {z : Int} (h : (Lit.int .i64 z).wf = true) : -9223372036854775808 ≤ z ∧ z ≤ 9223372036854775807 := by
 have h1 : IntKind.i64.min = -9223372036854775808 := rfl
 have h2 : IntKind.i64.max = 9223372036854775807 := rfl
 simp only [Lit.wf,Bool.and_eq_true,decide_eq_true_eq] at h
 omega
def Elt (P : Program) (t : TypeId) (n : Nat) {α : Type} (E : α → List Value) (ok : α → Prop) : Prop :=
 ∀ {H : Type} {enc : TypeId × Value → H} {w : World} {base : Nat} {spare : Nat → Bool} {held : Bool} {fuel : Nat} {cs : List Value} {x : DataW H × List MemPlace},
  DataW.trod enc P w base spare held fuel t cs = some x → ∃ r : α,cs = E r ∧ (E r).length = n ∧ ok r
theorem Elt.bool {P : Program} {t : TypeId} (ht : P.underlying t = some .bool) : Elt P t 1 (fun b : Bool => [Value.bool b]) (fun _ => True) := fun h => by
 obtain ⟨b,rfl,_⟩ := DataW.trod_bool ht h
 exact ⟨b,rfl,rfl,trivial⟩
theorem Elt.int {P : Program} {t : TypeId} (ht : P.underlying t = some (.int .i64)) : Elt P t 1 (fun z : Int => [Value.int .i64 z]) InR := fun h => by
 obtain ⟨z,rfl,_,hw⟩ := DataW.trod_int ht h
 exact ⟨z,rfl,rfl,nums_wf hw⟩
end Go.Proofs.YtbhcfldafpndbaaDoor
