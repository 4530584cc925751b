/- What the program computes, step by step, and the rules for it. No condition of its own. -/
import Derived.Test.YtibemmkfcjlmpaaGreatUae
set_option linter.unusedSimpArgs false
set_option linter.unusedVariables false
set_option maxRecDepth 100000
set_option maxHeartbeats 8000000
namespace Go.Proofs.YtibemmkfcjlmpaaGreat
open Go.RowKit
structure OutFits (o : Outp) : Prop where
 k0 : 1 ≤ o.kind
 k1 : o.kind ≤ 10
 w0 : 0 ≤ o.why
 w1 : o.why ≤ 5
def bump (c : List Int) (i : Nat) : List Int := c.set i (c.getD i 0 + 1)
def tallyStep (c : List Int) (o : Outp) : List Int := if o.kind = 6 then bump (bump c o.kind.toNat) (11 + o.why.toNat) else bump c o.kind.toNat
def tallyL (l : List Outp) : List Int := l.foldl tallyStep (List.replicate 17 0)
theorem bump_len (c : List Int) (i : Nat) : (bump c i).length = c.length := by simp [bump]
theorem tallyStep_len (c : List Int) (o : Outp) : (tallyStep c o).length = c.length := by
 unfold tallyStep;split <;> simp [bump_len]
theorem bump_get (c : List Int) (i j : Nat) (hi : i < c.length) : (bump c i).getD j 0 = c.getD j 0 + (if i = j then 1 else 0) := by
 unfold bump
 by_cases h : i = j
 ·subst h;simp [List.getD,hi]
 ·simp [List.getD,List.getElem?_set_ne h,h]
def delta (o : Outp) (j : Nat) : Int := (if o.kind.toNat = j then 1 else 0) + (if o.kind = 6 ∧ 11 + o.why.toNat = j then 1 else 0)
def cnt (l : List Outp) (j : Nat) : Int := (l.map fun o => delta o j).sum
theorem tallyStep_get (c : List Int) (o : Outp) (h : OutFits o) (hc : c.length = 17) (j : Nat) : (tallyStep c o).getD j 0 = c.getD j 0 + delta o j := by
 obtain ⟨k0,k1,w0,w1⟩ := h
 unfold tallyStep delta
 split
 ·rename_i h6
  rw [bump_get _ _ _ (by rw [bump_len];omega),bump_get _ _ _ (by omega)]
  simp only [h6,true_and]
  omega
 ·rename_i h6
  rw [bump_get _ _ _ (by omega)]
  simp [h6]
theorem foldl_get (l : List Outp) (hok : ∀ x ∈ l,OutFits x) (c : List Int) (hc : c.length = 17) (j : Nat) : (l.foldl tallyStep c).getD j 0 = c.getD j 0 + cnt l j := by
 induction l generalizing c with
 | nil => simp [cnt]
 | cons o l ih =>
  rw [List.foldl_cons,ih (fun x hx => hok x (List.mem_cons_of_mem _ hx)) _ (by rw [tallyStep_len];exact hc),tallyStep_get c o (hok o (List.mem_cons_self ..)) hc]
  simp [cnt];omega
theorem zero17 (j : Nat) : (List.replicate 17 (0 : Int)).getD j 0 = 0 := by
 rw [zC,List.getElem?_replicate];split <;> rfl
theorem tallyL_get (l : List Outp) (hok : ∀ x ∈ l,OutFits x) (j : Nat) : (tallyL l).getD j 0 = cnt l j := by
 unfold tallyL
 rw [foldl_get l hok _ rfl j,zero17];omega
theorem foldl_len (l : List Outp) (c : List Int) : (l.foldl tallyStep c).length = c.length := by
 induction l generalizing c with
 | nil => rfl
 | cons o l ih => rw [List.foldl_cons,ih,tallyStep_len]
theorem tallyL_len (l : List Outp) : (tallyL l).length = 17 := by unfold tallyL;rw [foldl_len];rfl
theorem cnt_bd (l : List Outp) (j : Nat) : 0 ≤ cnt l j ∧ cnt l j ≤ 2 * l.length := by
 induction l with
 | nil => simp [cnt]
 | cons o l ih =>
  have : cnt (o :: l) j = delta o j + cnt l j := by simp [cnt]
  rw [this,List.length_cons]
  have : 0 ≤ delta o j ∧ delta o j ≤ 2 := by unfold delta;split <;> split <;> omega
  omega
theorem posF_le (fl : List Flw) (s : Int) : posF fl s ≤ fl.length := lowB_le _ _
theorem insF_len (fl : List Flw) (f : Flw) : (insF fl f).length = fl.length + 1 := by
 have := posF_le fl f.slot
 unfold insF
 simp;omega
structure Fs where
 ph : Nat
 b : Int
 sv : Bool
 ag : Nat
 deriving DecidableEq
def fs0 : Fs := ⟨0,0,false,0⟩
def Fs.bad : Fs := ⟨3,0,false,0⟩
def Fs.step (s : Fs) (o : Outp) : Fs :=
 if o.kind = 1 then (if s.ph = 0 then ⟨1,o.backend,false,0⟩ else .bad)
 else if s.ph ≠ 1 then .bad
 else if o.kind = 3 then s
 else if o.kind = 4 then (if s.sv = true then .bad else { s with sv := true })
 else if o.kind = 5 then (if s.sv = true then .bad else { s with b := o.backend,ag := s.ag + 1 })
 else if o.kind = 6 then (if (s.sv = true ∧ o.why ≠ 1 ∧ o.why ≠ 2) ∨ (s.sv = false ∧ o.why = 1) then .bad else { s with ph := 2 })
 else if o.kind = 7 then { s with ph := 2 } else .bad
def isFl (o : Outp) : Bool := decide (o.kind = 1 ∨ o.kind = 3 ∨ o.kind = 4 ∨ o.kind = 5 ∨ o.kind = 6 ∨ o.kind = 7)
def ofH (slot gen : Int) (o : Outp) : Bool := isFl o && decide (o.slot = slot ∧ o.gen = gen)
def fsOf (log : List Outp) (slot gen : Int) : Fs := (log.filter (ofH slot gen)).foldl Fs.step fs0
theorem fsOf_snoc (log : List Outp) (o : Outp) (slot gen : Int) : fsOf (log ++ [o]) slot gen = if ofH slot gen o = true then (fsOf log slot gen).step o else fsOf log slot gen := by
 unfold fsOf
 rw [List.filter_append,List.foldl_append]
 cases h : ofH slot gen o <;> simp [h]
def HOk (log : List Outp) (g : Gt) (slot gen : Int) : Prop :=
 (∃ f ∈ g.fl,f.slot = slot ∧ f.gen = gen ∧ fsOf log slot gen = ⟨1,f.backend,f.serving,f.tries.toNat⟩) ∨
 ((∀ f ∈ g.fl,¬ (f.slot = slot ∧ f.gen = gen)) ∧ (0 ≤ slot ∧ slot < g.tb.length ∧ 0 ≤ gen ∧ gen < (g.tb.getD slot.toNat tzero).gen) ∧ (fsOf log slot gen).ph = 2 ∧ ((fsOf log slot gen).ag : Int) ≤ g.c.c8) ∨
 ((∀ f ∈ g.fl,¬ (f.slot = slot ∧ f.gen = gen)) ∧ ¬ (0 ≤ slot ∧ slot < g.tb.length ∧ 0 ≤ gen ∧ gen < (g.tb.getD slot.toNat tzero).gen) ∧ fsOf log slot gen = fs0)
def LI (pre : List Outp) (g : Gt) : Prop := ∀ slot gen,HOk (pre ++ g.out) g slot gen
theorem LI.keep {pre : List Outp} {g g' : Gt} (h : LI pre g) (hf : g'.fl = g.fl) (ht : g'.tb = g.tb) (hc : g'.c = g.c) (ho : g'.out = g.out ∨ ∃ o,g'.out = g.out ++ [o] ∧ isFl o = false) : LI pre g' := by
 have hfs : ∀ slot gen,fsOf (pre ++ g'.out) slot gen = fsOf (pre ++ g.out) slot gen := fun slot gen => by
  rcases ho with e | ⟨o,e,hk⟩
  ·rw [e]
  ·rw [e,← List.append_assoc,fsOf_snoc]
   simp [ofH,hk]
 intro slot gen
 have := h slot gen
 unfold HOk at this ⊢
 rw [hfs,hf,ht,hc]
 exact this
theorem LI.put {pre : List Outp} {g : Gt} (h : LI pre g) {o : Outp} (ho : isFl o = false) : LI pre (g.put o) := h.keep rfl rfl rfl (.inr ⟨o,rfl,ho⟩)
theorem LI.note {pre : List Outp} {g : Gt} (h : LI pre g) (b : Int) (failed : Bool) : LI pre (g.note b failed) := h.keep rfl rfl rfl (.inl rfl)
theorem LI.spared {pre : List Outp} {g : Gt} (h : LI pre g) (b : Int) : LI pre (g.spared b) := by
 unfold Gt.spared
 split
 ·exact h.keep rfl rfl rfl (.inr ⟨_,rfl,by simp [isFl,goneO]⟩)
 ·exact h
theorem ofH_self {o : Outp} (h : isFl o = true) : ofH o.slot o.gen o = true := by simp [ofH,h]
theorem ofH_other {o : Outp} {slot gen : Int} (h : ¬ (o.slot = slot ∧ o.gen = gen)) : ofH slot gen o = false := by simp [ofH];intro _;exact fun h1 h2 => h ⟨h1,h2⟩
theorem LI.live {pre : List Outp} {g : Gt} (h : LI pre g) {f : Flw} (hf : f ∈ g.fl) (hs : FlT g.tb g.fl) : fsOf (pre ++ g.out) f.slot f.gen = ⟨1,f.backend,f.serving,f.tries.toNat⟩ := by
 rcases h f.slot f.gen with ⟨f',h1,h2,_,h3⟩ | ⟨h1,_⟩ | ⟨h1,_⟩
 ·rw [h3,hs.uniq h1 hf h2]
 ·exact absurd ⟨rfl,rfl⟩ (h1 f hf)
 ·exact absurd ⟨rfl,rfl⟩ (h1 f hf)
theorem LI.drop {pre : List Outp} {g : Gt} {n : Nat} (h : LI pre g) (hm : Mid g n (-1)) {i : Nat} (hi : i < g.fl.length) {o : Outp}
  (ho : o.kind = 7 ∨ (o.kind = 6 ∧ ((g.fl.getD i default).serving = true → o.why = 1 ∨ o.why = 2) ∧ ((g.fl.getD i default).serving = false → o.why ≠ 1))) : LI pre (g.drop i o) := by
 have hmem := List.getElem_mem hi
 have hg := getD_at default hi
 rw [hg] at ho
 unfold Gt.drop
 refine LI.spared ?_ _
 have hlv := h.live hmem hm.fs
 have hfl := hm.flow hmem
 have htr := (hm.fe _ hmem)
 have hinj := fun {j : Nat} (hj : j < g.fl.length) (hne : j ≠ i) => hm.fs.slot_lt hj hi hne
 intro slot gen
 have hh := h slot gen
 unfold Gt.dropA
 rw [hg]
 obtain ⟨f,hff⟩ : ∃ f,f = g.fl[i] := ⟨_,rfl⟩
 simp only [← hff] at ho hlv hfl htr hmem hinj ⊢
 obtain ⟨o',hoo⟩ : ∃ o' : Outp,o' = { o with slot := f.slot,gen := f.gen,backend := f.backend } := ⟨_,rfl⟩
 rw [← hoo]
 have hk : isFl o' = true := by
  rw [hoo]
  rcases ho with e | ⟨e,_⟩ <;> simp [isFl,e]
 unfold HOk
 simp only
 rw [← List.append_assoc,fsOf_snoc]
 have hnone : ∀ x ∈ g.fl.eraseIdx i,x.slot ≠ f.slot := fun x hx => by
  obtain ⟨j,hj,hji,rfl⟩ := mem_erase hx
  exact hinj hj hji
 by_cases e : f.slot = slot ∧ f.gen = gen
 ·obtain ⟨rfl,rfl⟩ := e
  right;left
  have e1 : ofH f.slot f.gen o' = true := by
   have := ofH_self hk
   rw [hoo] at this ⊢;exact this
  rw [if_pos e1,hlv]
  have hst : (Fs.step ⟨1,f.backend,f.serving,f.tries.toNat⟩ o') = ⟨2,f.backend,f.serving,f.tries.toNat⟩ := by
   have k1 : o'.kind = o.kind := by rw [hoo]
   have k2 : o'.why = o.why := by rw [hoo]
   unfold Fs.step
   rw [k1,k2]
   rcases ho with e | ⟨e,h1,h2⟩
   ·simp [e]
   ·simp [e]
    cases hs : f.serving with
    | true => have := h1 hs;simp;omega
    | false => have := h2 hs;simp [this]
  rw [hst]
  refine ⟨fun x hx hc => hnone x hx hc.1,⟨hfl.1,by simpa using hfl.2.1,hfl.2.2.2.1,?_⟩,rfl,?_⟩
  ·rw [getD_set,if_pos (by omega)];show f.gen < f.gen + 1;omega
  ·have := htr.1;have := htr.2.1
   show ((f.tries.toNat : Nat) : Int) ≤ g.c.c8
   omega
 ·have e1 : ofH slot gen o' = false := ofH_other (by rw [hoo];exact e)
  rw [e1]
  simp only [Bool.false_eq_true,if_false]
  rcases hh with ⟨x,hx,h1,h2,h3⟩ | ⟨h1,h2,h3,h4⟩ | ⟨h1,h2,h3⟩
  ·left
   refine ⟨x,?_,h1,h2,h3⟩
   obtain ⟨j,hj⟩ := zF hx
   obtain ⟨j1,rfl⟩ := zB.1 hj
   refine erase_mem j1 fun hji => e ?_
   subst hji
   rw [hff]
   exact ⟨h1,h2⟩
  ·right;left
   refine ⟨fun x hx => h1 x (List.mem_of_mem_eraseIdx hx),?_,h3,h4⟩
   rw [List.length_set,getD_set]
   split
   ·rename_i hc
    have : slot = f.slot := by omega
    rw [this,hfl.2.2.1] at h2
    exact ⟨by omega,by omega,h2.2.2.1,by show gen < f.gen + 1;have := h2.2.2.2;simp at this;omega⟩
   ·exact h2
  ·right;right
   refine ⟨fun x hx => h1 x (List.mem_of_mem_eraseIdx hx),?_,h3⟩
   rw [List.length_set,getD_set]
   split
   ·rename_i hc
    rintro ⟨q1,q2,q3,q4⟩
    have : slot = f.slot := by omega
    rw [this,hfl.2.2.1] at h2
    have q4 : gen < f.gen + 1 := q4
    exact h2 ⟨by omega,by omega,q3,by show gen < f.gen;have : f.gen ≠ gen := fun e2 => e ⟨by omega,e2⟩;omega⟩
   ·exact h2
theorem set_all {fl : List Flw} {i : Nat} (hi : i < fl.length) {f x : Flw} (hx : x ∈ fl.set i f) : x = f ∨ ∃ j,∃ h : j < fl.length,j ≠ i ∧ fl[j] = x := by
 obtain ⟨j,hj⟩ := zF hx
 obtain ⟨j1,j2⟩ := zB.1 hj
 rw [List.getElem_set] at j2
 split at j2
 ·exact .inl j2.symm
 ·rename_i hne
  simp only [List.length_set] at j1
  exact .inr ⟨j,j1,fun e => hne e.symm,j2⟩
theorem set_has {fl : List Flw} {i : Nat} (hi : i < fl.length) (f : Flw) : f ∈ fl.set i f := zD (i := i) (by rw [List.getElem?_set];simp [hi])
theorem set_keep {fl : List Flw} {i j : Nat} (hj : j < fl.length) (hne : j ≠ i) (f : Flw) : fl[j] ∈ fl.set i f := zD (i := j) (by rw [List.getElem?_set,if_neg (by omega),zE hj])
theorem LI.upd {pre : List Outp} {g g' : Gt} (h : LI pre g) (hs : FlT g.tb g.fl) {i : Nat} (hi : i < g.fl.length) {f : Flw} (e1 : f.slot = g.fl[i].slot) (e2 : f.gen = g.fl[i].gen)
  (hf : g'.fl = g.fl.set i f) (hl : g'.tb.length = g.tb.length) (ht : ∀ s,(g'.tb.getD s tzero).gen = (g.tb.getD s tzero).gen) (hc : g'.c = g.c)
  (ho : (g'.out = g.out ∧ f.backend = g.fl[i].backend ∧ f.serving = g.fl[i].serving ∧ f.tries = g.fl[i].tries) ∨
   ∃ o,g'.out = g.out ++ [o] ∧ o.slot = f.slot ∧ o.gen = f.gen ∧ isFl o = true ∧ Fs.step ⟨1,g.fl[i].backend,g.fl[i].serving,g.fl[i].tries.toNat⟩ o = ⟨1,f.backend,f.serving,f.tries.toNat⟩) : LI pre g' := by
 have hmem := List.getElem_mem hi
 have hlv := h.live hmem hs
 intro slot gen
 have hh := h slot gen
 have hmemf : ∀ x,(∃ y ∈ g'.fl,y.slot = slot ∧ y.gen = gen ∧ y = x) → True := fun _ _ => trivial
 unfold HOk
 rw [hf,hl,ht,hc]
 by_cases e : g.fl[i].slot = slot ∧ g.fl[i].gen = gen
 ·obtain ⟨rfl,rfl⟩ := e
  left
  refine ⟨f,set_has hi f,e1,e2,?_⟩
  rcases ho with ⟨h1,h2,h3,h4⟩ | ⟨o,h1,h2,h3,h4,h5⟩
  ·rw [h1,hlv,h2,h3,h4]
  ·have e5 : ofH g.fl[i].slot g.fl[i].gen o = true := by
    have := ofH_self h4
    rwa [h2,h3,e1,e2] at this
   rw [h1,← List.append_assoc,fsOf_snoc,if_pos e5,hlv,h5]
 ·have hfs : fsOf (pre ++ g'.out) slot gen = fsOf (pre ++ g.out) slot gen := by
   rcases ho with ⟨h1,_⟩ | ⟨o,h1,h2,h3,_⟩
   ·rw [h1]
   ·rw [h1,← List.append_assoc,fsOf_snoc,ofH_other (by rw [h2,h3,e1,e2];exact e)];simp
  rw [hfs]
  have hno : (∀ x ∈ g.fl,¬ (x.slot = slot ∧ x.gen = gen)) → ∀ x ∈ g.fl.set i f,¬ (x.slot = slot ∧ x.gen = gen) := fun h1 x hx => by
   rcases set_all hi hx with rfl | ⟨j,hj,_,rfl⟩
   ·rw [e1,e2];exact e
   ·exact h1 _ (List.getElem_mem hj)
  rcases hh with ⟨x,hx,h1,h2,h3⟩ | ⟨h1,h2,h3⟩ | ⟨h1,h2,h3⟩
  ·left
   obtain ⟨j,hj⟩ := zF hx
   obtain ⟨j1,rfl⟩ := zB.1 hj
   exact ⟨_,set_keep j1 (fun hji => e (by subst hji;exact ⟨h1,h2⟩)) f,h1,h2,h3⟩
  ·exact .inr (.inl ⟨hno h1,h2,h3⟩)
  ·exact .inr (.inr ⟨hno h1,h2,h3⟩)
theorem LI.dueA {pre : List Outp} {g : Gt} {n : Nat} (h : LI pre g) (hm : Mid g n (-1)) {i : Nat} (hi : i < g.fl.length) (z : Int) : LI pre (g.dueA i z) := by
 have hg := getD_at default hi
 refine h.upd hm.fs hi (f := { g.fl.getD i default with due := z }) (by rw [hg]) (by rw [hg]) rfl rfl (fun _ => rfl) rfl (.inl ⟨rfl,?_⟩)
 rw [hg];exact ⟨rfl,rfl,rfl⟩
theorem LI.moved {pre : List Outp} {g : Gt} {n : Nat} (h : LI pre g) (hm : Mid g n (-1)) {i : Nat} (hi : i < g.fl.length) (b tok : Int) (hsv : (g.fl.getD i default).serving = false) : LI pre (g.moved i b tok) := by
 have hg := getD_at default hi
 have hfl := hm.flow (List.getElem_mem hi)
 have htr := hm.fe _ (List.getElem_mem hi)
 rw [hg] at hsv
 refine h.upd hm.fs hi (f := { g.fl.getD i default with backend := b,tries := (g.fl.getD i default).tries + 1,due := g.now + g.c.c7 }) (by rw [hg]) (by rw [hg]) rfl (by simp [Gt.moved]) (fun s => ?_) rfl
  (.inr ⟨_,rfl,rfl,rfl,by simp [isFl],?_⟩)
 ·show ((g.tb.set (g.fl.getD i default).slot.toNat _).getD s tzero).gen = _
  rw [hg,getD_set]
  split
  ·rename_i hc
   rw [hc.1,hfl.2.2.1]
  ·rfl
 ·rw [hg]
  have h1 := htr.1
  have e1 : (g.fl[i].tries + 1).toNat = g.fl[i].tries.toNat + 1 := by omega
  simp [Fs.step,hsv,e1]
theorem LI.taken {pre : List Outp} {g : Gt} {n : Nat} (h : LI pre g) (hm : Mid g n (-1)) {s : Nat} (hs : s < g.tb.length) (hfree : tfree (g.tb.getD s tzero) = true) (key b : Int) : LI pre (g.taken s key b) := by
 unfold tfree at hfree
 rw [Bool.and_eq_true] at hfree
 have hus : (g.tb.getD s tzero).used = false := by simpa using hfree.1
 have hok := hm.tok.2.2 _ (getD_mem (l := g.tb) tzero hs)
 have hno : ∀ x ∈ g.fl,x.slot ≠ (s : Int) := fun x hx e2 => by
  have h1 := hm.fs.at_ x hx
  have : x.slot.toNat = s := by rw [e2];simp
  rw [this] at h1
  rw [h1.2.2] at hus
  cases hus
 intro slot gen
 have hh := h slot gen
 unfold Gt.taken HOk
 simp only
 rw [← List.append_assoc,fsOf_snoc,List.length_set]
 have hgen : ∀ k,((g.tb.set s ⟨(g.tb.getD s tzero).gen,true,key,b⟩).getD k tzero).gen = (g.tb.getD k tzero).gen := fun k => by
  rw [getD_set]
  split
  ·rename_i hc;rw [hc.1]
  ·rfl
 rw [hgen]
 by_cases e : (s : Int) = slot ∧ (g.tb.getD s tzero).gen = gen
 ·obtain ⟨rfl,rfl⟩ := e
  left
  refine ⟨_,insF_mem.2 (.inl rfl),rfl,rfl,?_⟩
  rw [if_pos (by simp [ofH,isFl])]
  rcases hh with ⟨x,hx,h1,_⟩ | ⟨_,h2,_⟩ | ⟨_,_,h3⟩
  ·exact absurd h1 (hno x hx)
  ·rw [Int.toNat_natCast] at h2;omega
  ·rw [h3];simp [Fs.step,fs0]
 ·rw [ofH_other (o := ⟨1,s,(g.tb.getD s tzero).gen,b,0,0,0⟩) e]
  simp only [Bool.false_eq_true,if_false]
  have hno2 : (∀ x ∈ g.fl,¬ (x.slot = slot ∧ x.gen = gen)) → ∀ x ∈ insF g.fl ⟨s,(g.tb.getD s tzero).gen,key,b,false,0,g.now + g.c.c7⟩,¬ (x.slot = slot ∧ x.gen = gen) := fun h1 x hx => by
   rcases insF_mem.1 hx with rfl | hx
   ·exact e
   ·exact h1 x hx
  rcases hh with ⟨x,hx,h1,h2,h3⟩ | ⟨h1,h2,h3⟩ | ⟨h1,h2,h3⟩
  ·exact .inl ⟨x,insF_mem.2 (.inr hx),h1,h2,h3⟩
  ·exact .inr (.inl ⟨hno2 h1,h2,h3⟩)
  ·exact .inr (.inr ⟨hno2 h1,h2,h3⟩)
theorem LI.failed {pre : List Outp} {g : Gt} {n : Nat} (h : LI pre g) (hm : Mid g n (-1)) {i : Nat} (hi : i < g.fl.length) {why : Int} (hw : why ≠ 1) (hsv : (g.fl.getD i default).serving = false) : LI pre (g.failed i why) := by
 have hb := hm.flow (List.getElem_mem hi)
 have hg := getD_at default hi
 have hn := hm.note (g.fl.getD i default).backend (by rw [hg];omega) true
 have hln := h.note (g.fl.getD i default).backend true
 have hd : ∀ w,w ≠ 1 → LI pre ((g.note (g.fl.getD i default).backend true).drop i (resetO w)) := fun w hw => hln.drop hn hi (.inr ⟨rfl,(fun h2 => absurd (hsv.symm.trans h2) (by simp)),fun _ => hw⟩)
 unfold Gt.failed
 simp only
 split
 ·exact hd _ hw
 ·split
  ·exact hd _ (by omega)
  ·split
   ·exact (hln.moved hn hi _ _ hsv).spared _
   ·exact hln.moved hn hi _ _ hsv
theorem LI.off1 {pre : List Outp} {g : Gt} {n : Nat} (h : LI pre g) (hm : Mid g n (-1)) {f0 : Flw} (hf0 : f0 ∈ g.fl) : LI pre (g.off1 f0.slot) := by
 obtain ⟨hi,he,_,hgd⟩ := find_mem hm.fs.so hf0
 unfold Gt.off1
 simp only
 split
 ·rename_i hs
  exact h.drop hm hi (.inr ⟨rfl,fun _ => .inl rfl,fun h2 => by rw [hs] at h2;cases h2⟩)
 ·rename_i hs
  exact h.failed hm hi (by omega) (by simpa using hs)
theorem LI.offs {pre : List Outp} : ∀ (l : List Int) {g : Gt} {n : Nat},LI pre g → Mid g n (-1) → l.Nodup → (∀ s ∈ l,∃ f ∈ g.fl,f.slot = s) → LI pre (g.offs l)
 | [],g,n,h,_,_,_ => h
 | s :: l,g,n,h,hm,hnd,hs => by
  obtain ⟨f0,hf0,rfl⟩ := hs s (by simp)
  obtain ⟨h1,h2,h3,h4⟩ := off1_same hm hf0
  obtain ⟨n1,n2⟩ := List.nodup_cons.1 hnd
  exact LI.offs l (h.off1 hm hf0) h1 n2 fun s hs2 => by
   obtain ⟨f,hf,e⟩ := hs s (List.mem_cons_of_mem _ hs2)
   refine ⟨f,h4 f hf fun e2 => n1 ?_,e⟩
   rw [← e2,e];exact hs2
theorem LI.cut1 {pre : List Outp} : ∀ (l : List Hnd) {g : Gt} {n : Nat},LI pre g → Mid g n (-1) → (l.map (·.1)).Nodup → (∀ h ∈ l,∃ f ∈ g.fl,f.slot = h.1) → LI pre (g.cut1 l)
 | [],g,n,h,_,_,_ => h
 | s :: l,g,n,h,hm,hnd,hs => by
  obtain ⟨f0,hf0,e0⟩ := hs s (by simp)
  obtain ⟨hi,he,_,hgd⟩ := find_mem hm.fs.so hf0
  rw [e0] at hi
  obtain ⟨h1,h2⟩ := drop_same hm hi (resetO 2)
  have hd := hm.drop hi (resetO 2)
  rw [List.map_cons] at hnd
  obtain ⟨n1,n2⟩ := List.nodup_cons.1 hnd
  have hgs : (g.fl.getD (findF g.fl s.1).toNat default).slot = s.1 := by rw [← e0,hgd]
  exact LI.cut1 l (h.drop hm hi (.inr ⟨rfl,fun _ => .inr rfl,fun _ => by show (2 : Int) ≠ 1;omega⟩)) hd n2 fun s2 hs2 => by
   obtain ⟨f,hf,e⟩ := hs s2 (List.mem_cons_of_mem _ hs2)
   exact ⟨f,(h2 f).2 ⟨hf,fun e2 => n1 (List.mem_map.2 ⟨s2,hs2,by omega⟩)⟩,e⟩
theorem LI.cuts {pre : List Outp} : ∀ (l : List Lif) {g : Gt} {n : Nat},LI pre g → Mid g n (-1) → LI pre (g.cuts l)
 | [],g,n,h,_ => h
 | x :: l,g,n,h,hm => by
  unfold Gt.cuts
  split
  ·exact LI.cuts l h hm
  ·exact LI.cuts l (h.cut1 _ hm (ofL_nodup _ _) (ofL_flows hm _)) (cut1_mid hm _)
theorem LI.tick {pre : List Outp} {g : Gt} {n : Nat} (h : LI pre g) (hr : Rest g n) (hn : n + 1 ≤ 1000000) : LI pre g.tick := by
 obtain ⟨hnd,hoff⟩ := off_flows hr.mid
 have h0 : LI pre g.tick0 := h.keep rfl rfl rfl (.inl rfl)
 unfold Gt.tick
 exact LI.cuts _ (h0.offs (offM g) (hr.tick0 hn) hnd fun s hs => by
  obtain ⟨f,hf,_,e⟩ := (hoff s).1 hs
  exact ⟨f,hf,e⟩) (hr.offed hn).1
theorem LI.opened {pre : List Outp} {g : Gt} {n : Nat} (h : LI pre g) (hm : Mid g n (-1)) (key : Int) : LI pre (g.opened key) := by
 unfold Gt.opened
 split
 ·exact h.put (by simp [isFl])
 ·rename_i hf
  obtain ⟨h1,h2,_⟩ := free_at hf
  split
  ·exact h.put (by simp [isFl])
  ·exact h.taken hm h1 h2 _ _
theorem LI.asked {pre : List Outp} {g : Gt} (h : LI pre g) (e : Evt) : LI pre (g.ask e) := by
 unfold Gt.ask
 simp only
 have h1 : ∀ L R o ws,isFl o = false → LI pre { g with L := L,R := R,ws := ws,out := g.out ++ [o] } := fun L R o ws ho => h.keep rfl rfl rfl (.inr ⟨o,rfl,ho⟩)
 split
 ·exact h1 _ _ _ g.ws (by simp [isFl])
 ·split
  ·exact (h1 _ _ _ g.ws (by simp [isFl])).put (by simp [isFl,goneO])
  ·exact (h1 _ _ _ _ (by simp [isFl])).spared _
theorem LI.flowed {pre : List Outp} {g : Gt} {n : Nat} (h : LI pre g) (hm : Mid g n (-1)) (e : Evt) : LI pre (g.flow e) := by
 unfold Gt.flow
 split
 ·exact h.put (by simp [isFl])
 ·rename_i hg
  obtain ⟨f,hf,e1,e2⟩ := hm.fs.got (Decidable.not_not.1 hg)
  obtain ⟨hi,he,_,hgd⟩ := find_mem hm.fs.so hf
  simp only
  rw [← e1,← e2]
  have hgi := getD_at default hi
  rw [hgi] at hgd
  split
  ·exact h.drop hm hi (.inl rfl)
  ·split
   · -- data: one output of a live flow
    have hfwd : ∀ g1 : Gt,LI pre g1 → FlT g1.tb g1.fl → (∃ f' ∈ g1.fl,f'.slot = f.slot ∧ f'.gen = f.gen) → ∀ b,LI pre (g1.put ⟨3,f.slot,f.gen,b,0,0,0⟩) := fun g1 hl hs ⟨f',hf',e3,e4⟩ b => by
     obtain ⟨j,hj⟩ := zF hf'
     obtain ⟨j1,rfl⟩ := zB.1 hj
     refine hl.upd hs j1 (f := g1.fl[j]) rfl rfl ?_ rfl (fun _ => rfl) rfl (.inr ⟨_,rfl,e3.symm,e4.symm,by simp [isFl],by simp [Fs.step]⟩)
     exact (List.set_getElem_self _).symm
    split
    ·rename_i hs
     have hd := h.dueA hm hi (g.now + g.c.c6)
     have h6 := hm.c.w6
     have hmd := hm.dueA (z := g.now + g.c.c6) hi (by omega) (by rw [hs];simp)
     exact hfwd _ hd hmd.fs ⟨_,set_has hi _,by rw [hgi,hgd],by rw [hgi,hgd]⟩ _
    ·exact hfwd _ h hm.fs ⟨f,hf,rfl,rfl⟩ _
   ·split
    ·exact h.put (by simp [isFl])
    ·rename_i hs
     have hs : (g.fl.getD (findF g.fl f.slot).toNat default).serving = false := by simpa using hs
     split
     ·have hsd := served_due g _ hi (g.fl.getD (findF g.fl f.slot).toNat default).backend (g.now + g.c.c6) false
      refine h.upd hm.fs hi (f := { g.fl.getD (findF g.fl f.slot).toNat default with serving := true,due := g.now + g.c.c6 }) (by rw [hgi]) (by rw [hgi]) hsd.1 rfl (fun _ => rfl) rfl (.inr ⟨_,rfl,?_,?_,by simp [isFl],?_⟩)
      ·show f.slot = _;rw [hgi,hgd]
      ·show f.gen = _;rw [hgi,hgd]
      ·rw [hgi] at hs ⊢
       simp [Fs.step,hs]
     ·exact h.failed hm hi (by omega) hs
theorem LI.step {pre : List Outp} {g : Gt} {n : Nat} (h : LI pre g) (hr : Rest g n) (e : Evt) (hn : n + 1 ≤ 1000000) : LI pre (g.step e) := by
 unfold Gt.step
 split
 ·exact h.opened hr.mid _
 ·split
  ·exact h.asked e
  ·split
   ·exact h.tick hr hn
   ·exact h.flowed hr.mid e
theorem LI.begin (c : Cfg) : LI [] (begM c) := by
 intro slot gen
 refine .inr (.inr ⟨by simp [begM],?_,rfl⟩)
 rintro ⟨h1,h2,h3,h4⟩
 have : ((begM c).tb.getD slot.toNat tzero) = tzero := by
  show (List.replicate c.slots.toNat tzero).getD _ _ = _
  rw [zC,List.getElem?_replicate];split <;> rfl
 rw [this] at h4
 simp [tzero] at h4
 omega
theorem kN_ask {l : List Outp} (h : ∀ o ∈ l,o.kind = 8 ∨ o.kind = 9) (k : Int) (hk : k ≠ 8 ∧ k ≠ 9) : kN k l = 0 := List.countP_eq_zero.2 fun o ho => by have := h o ho;simp;omega
theorem kN_one {l : List Outp} (h : ∀ o ∈ l,o.kind ≠ 1) : kN 1 l = 0 := List.countP_eq_zero.2 fun o ho => by have := h o ho;simp;omega
theorem P_outputs {g : Gt} {n : Nat} (h : Rest g n) (h0 : g.out = []) {e : Evt} (he : EvtOk e) (hn : n + 1 ≤ 1000000) : (g.step e).fl.length + kN 6 (g.step e).out + kN 7 (g.step e).out = g.fl.length + kN 1 (g.step e).out := by
 cases step_kd h e hn with
 | full _ _ h => rw [h];simp [Gt.put,kN,h0]
 | busy _ _ _ h => rw [h];simp [Gt.put,kN,h0]
 | taken _ _ _ h => rw [h];simp [Gt.taken,kN,h0,insF_len]
 | ask _ h2 =>
  obtain ⟨a1,a2,a3,a4,a5,_,_,l,a6,a7⟩ := ask_same h.mid he
  rw [h2,a1,a6,h0,List.nil_append,kN_ask a7 6 (by omega),kN_ask a7 7 (by omega),kN_ask a7 1 (by omega)]
 | tick o _ h1 h2 =>
  have e1 : (g.step e).out = o := by rw [h2.out];show g.out ++ o = o;rw [h0];rfl
  rw [e1,kN_one h2.kd]
  exact h2.len
 | flow l _ _ h2 =>
  have e1 : (g.step e).out = l := by rw [h2.out,h0];rfl
  rw [e1,kN_one h2.kd]
  exact h2.len
theorem step_ok {g : Gt} {n : Nat} (h : Rest g n) (h0 : g.out = []) {e : Evt} (he : EvtOk e) (hn : n + 1 ≤ 1000000) : ∀ o ∈ (g.step e).out,OOk o := by
 intro o ho
 have hs := step_kd h e hn
 generalize g.step e = g' at ho hs
 have hz : ∀ k c : Int,1 ≤ k → k ≤ 10 → OOk ⟨k,0,0,0,0,c,0⟩ := fun k c k0 k1 => ⟨k0,k1,by simp,by simp,by simp,by simp,by simp,by simp,by simp,by simp⟩
 have h40 := h.mid.tok.2.1
 cases hs with
 | full _ _ h => rw [h] at ho;simp [Gt.put,h0] at ho;subst ho;exact hz 2 9 (by omega) (by omega)
 | busy _ _ _ h => rw [h] at ho;simp [Gt.put,h0] at ho;subst ho;exact hz 2 11 (by omega) (by omega)
 | taken _ hf hp h2 =>
  obtain ⟨f1,f2,f3⟩ := free_at hf
  rw [h2] at ho
  have ho : o ∈ g.out ++ [(⟨1,((freeZ g.tb).toNat : Nat),(g.tb.getD (freeZ g.tb).toNat tzero).gen,(pickG g e.key (-1)).1,0,0,0⟩ : Outp)] := ho
  rw [h0,List.nil_append] at ho
  have ho := List.mem_singleton.1 ho
  subst ho
  have hpk := h.mid.pickedB (.inl (by omega)) hp
  have hg := h.mid.tok.2.2 _ (getD_mem (l := g.tb) tzero f1)
  have hg0 := hg.1
  unfold tfree at f2
  rw [Bool.and_eq_true] at f2
  have hg1 : (g.tb.getD (freeZ g.tb).toNat tzero).gen < 1048576 := by simpa using f2.2
  exact ⟨by simp,by simp,by simp,by simp,by show (0 : Int) ≤ ((freeZ g.tb).toNat : Nat);omega,by show (((freeZ g.tb).toNat : Nat) : Int) < 40;omega,hg0,by show (g.tb.getD (freeZ g.tb).toNat tzero).gen ≤ _;omega,hpk.2.1,hpk.2.2⟩
 | ask _ h2 =>
  have hb0 := he.2.2.2.2.2.2.1
  have hb1 := he.2.2.2.2.2.2.2.1
  have h8 : ∀ r c : Int,OOk ⟨8,0,0,0,r,c,0⟩ := fun r c => ⟨by simp,by simp,by simp,by simp,by simp,by simp,by simp,by simp,by simp,by simp⟩
  have h9 : ∀ r : Int,OOk (goneO e.backend r) := fun r => ⟨by simp [goneO],by simp [goneO],by simp [goneO],by simp [goneO],by simp [goneO],by simp [goneO],by simp [goneO],by simp [goneO],hb0,hb1⟩
  rw [h2] at ho
  unfold Gt.ask at ho
  simp only [h0,List.nil_append] at ho
  split at ho
  ·rw [List.mem_singleton.1 ho];exact h8 _ _
  ·split at ho
   ·simp only [Gt.put,List.singleton_append,List.mem_cons,List.not_mem_nil,or_false] at ho
    rcases ho with rfl | rfl
    ·exact h8 _ _
    ·exact h9 _
   ·unfold Gt.spared at ho
    split at ho
    ·simp only [List.singleton_append,List.mem_cons,List.not_mem_nil,or_false] at ho
     rcases ho with rfl | rfl
     ·exact h8 _ _
     ·exact h9 _
    ·rw [List.mem_singleton.1 ho];exact h8 _ _
 | tick l h7 h1 h2 =>
  have e1 : g'.out = l := by rw [h2.out];show g.out ++ l = l;rw [h0];rfl
  rw [e1] at ho
  exact h2.ok o ho
 | flow l _ _ h2 =>
  have e1 : g'.out = l := by rw [h2.out,h0];rfl
  rw [e1] at ho
  exact h2.ok o ho
def outsP (p : Ply) : List Outp := (p.steps.map (·.out)).flatten
structure PInv (p : Ply) (k : Nat) : Prop where
 rest : Rest p.last k
 lo : p.last.out = []
 cfg : p.last.c = p.c
 li : LI (outsP p) p.last
 giv : p.given = accM (outsP p)
 sts : ∀ s ∈ p.steps,StpOk p.c s k
 cnt : p.last.fl.length + kN 6 (outsP p) + kN 7 (outsP p) = kN 1 (outsP p)
 oks : ∀ o ∈ outsP p,OOk o
theorem outsP_act (p : Ply) (e : Evt) : outsP (p.act e) = outsP p ++ (p.last.step e).out := by simp [outsP,Ply.act]
theorem accM_app (a b : List Outp) : accM (a ++ b) = accM a ++ accM b := by simp [accM]
theorem PInv.act {p : Ply} {k : Nat} (h : PInv p k) {e : Evt} (he : EvIn e) (hk : k + 1 ≤ 1000000) : PInv (p.act e) (k + 1) := by
 have hs := h.rest.step he.ok hk
 have hli : LI (outsP p ++ (p.last.step e).out) (p.last.step e).clean := by
  have := LI.step h.li h.rest e hk
  intro slot gen
  have h2 := this slot gen
  unfold HOk Gt.clean at *
  simp only [List.append_nil]
  exact h2
 refine ⟨⟨{ hs.mid with },hs.late,hs.dr⟩,rfl,?_,?_,?_,?_,?_,?_⟩
 ·show (p.last.step e).c = p.c
  rw [step_c h.rest he.ok hk,h.cfg]
 ·rw [outsP_act];exact hli
 ·show p.given ++ accM _ = _
  rw [outsP_act,accM_app,h.giv]
 ·intro s hs2
  rcases List.mem_append.1 hs2 with hs2 | hs2
  ·have := h.sts s hs2
   obtain ⟨n,hn,hr⟩ := this.ex
   exact { this with ex := ⟨n,by omega,hr⟩,kk := hk }
  ·rw [List.mem_singleton.1 hs2]
   exact ⟨he,⟨k,Nat.le_refl _,h.rest⟩,hk,h.lo,h.cfg,rfl,rfl⟩
 ·have h1 := P_outputs h.rest h.lo he.ok hk
  have h2 := h.cnt
  show (p.last.step e).fl.length + _ + _ = _
  rw [outsP_act,kN_app,kN_app,kN_app]
  omega
 ·rw [outsP_act]
  intro o ho
  rcases List.mem_append.1 ho with ho | ho
  ·exact h.oks o ho
  ·exact step_ok h.rest h.lo he.ok hk o ho
theorem play0_inv {c : Cfg} (h : c.Ok) : PInv (play0 c) 0 := ⟨beg_rest h,rfl,rfl,LI.begin c,rfl,by simp [play0],rfl,by simp [outsP,play0]⟩
theorem play4_inv {c : Cfg} (h : c.Ok) : PInv (play4 c) 4 :=
 ((((play0_inv h).act (join_in (by omega) (by omega) (by omega) (by omega) (by omega) (by omega)) (by omega)).act (join_in (by omega) (by omega) (by omega) (by omega) (by omega) (by omega)) (by omega)).act
  (join_in (by omega) (by omega) (by omega) (by omega) (by omega) (by omega)) (by omega)).act tick_in (by omega)
theorem step_ph (s : Fs) (o : Outp) : (s.step o).ph ≠ 0 := by
 unfold Fs.step Fs.bad
 repeat' split
 all_goals first | omega | (simp;omega) | simp_all
theorem fold_ph : ∀ (l : List Outp) (s : Fs),l ≠ [] → (l.foldl Fs.step s).ph ≠ 0
 | [],s,h => absurd rfl h
 | [o],s,_ => step_ph s o
 | o :: o2 :: l,s,_ => fold_ph (o2 :: l) (s.step o) (by simp)
theorem LI.range {pre : List Outp} {g : Gt} {n : Nat} (h : LI pre g) (hm : Mid g n (-1)) {slot gen : Int} (hp : (fsOf (pre ++ g.out) slot gen).ph ≠ 0) : 0 ≤ slot ∧ slot < g.tb.length ∧ 0 ≤ gen ∧ gen < 1048576 := by
 rcases h slot gen with ⟨f,hf,rfl,rfl,_⟩ | ⟨_,h2,_⟩ | ⟨_,_,h3⟩
 ·have := hm.flow hf
  exact ⟨this.1,this.2.1,this.2.2.2.1,this.2.2.2.2.1⟩
 ·have := hm.gens _ (getD_mem (l := g.tb) tzero (j := slot.toNat) (by omega))
  have hnn := hm.nn
  refine ⟨h2.1,h2.2.1,h2.2.2.1,?_⟩
  have : (g.tb.getD slot.toNat tzero).gen ≤ n := by split at this <;> omega
  omega
 ·rw [h3] at hp;exact absurd rfl hp
theorem acc_ph {log : List Outp} {o : Outp} (ho : o ∈ log) (hk : o.kind = 1) : (fsOf log o.slot o.gen).ph ≠ 0 := by
 unfold fsOf
 refine fold_ph _ _ fun h => ?_
 have : o ∈ log.filter (ofH o.slot o.gen) := List.mem_filter.2 ⟨ho,by simp [ofH,isFl,hk]⟩
 rw [h] at this;cases this
theorem PInv.given {p : Ply} {k : Nat} (h : PInv p k) {x : Int × Int} (hx : x ∈ p.given) : 0 ≤ x.1 ∧ x.1 ≤ 39 ∧ 0 ≤ x.2 ∧ x.2 ≤ 1048576 ∧ (fsOf (outsP p) x.1 x.2).ph ≠ 0 := by
 rw [h.giv] at hx
 obtain ⟨o,ho,rfl⟩ := List.mem_map.1 hx
 obtain ⟨h1,h2⟩ := List.mem_filter.1 ho
 have hp := acc_ph h1 (by simpa using h2)
 have := h.li.range h.rest.mid (slot := o.slot) (gen := o.gen) (by rw [h.lo,List.append_nil];exact hp)
 have h40 := h.rest.mid.tok.2.1
 exact ⟨this.1,by show o.slot ≤ 39;omega,this.2.2.1,by show o.gen ≤ _;omega,hp⟩
theorem PInv.hand {p : Ply} {k : Nat} (h : PInv p k) (a b c : Int) : 0 ≤ (handP p a b c).1 ∧ (handP p a b c).1 ≤ 39 ∧ 0 ≤ (handP p a b c).2 ∧ (handP p a b c).2 ≤ 1048576 := by
 unfold handP
 split
 ·rename_i hc
  have hq := pickedZ_range a (min (p.given.length : Int) 8) (by omega)
  have hm : p.given.getD (p.given.length - 1 - (pickedZ a (min (p.given.length : Int) 8)).toNat) (0,0) ∈ p.given := getD_mem _ (by omega)
  have := h.given hm
  exact ⟨this.1,this.2.1,this.2.2.1,this.2.2.2.1⟩
 ·have h1 := pickedZ_range a 8 (by omega)
  have h2 := pickedZ_range b 3 (by omega)
  exact ⟨h1.1,by show pickedZ a 8 ≤ 39;omega,h2.1,by show pickedZ b 3 ≤ _;omega⟩
theorem PInv.event {p : Ply} {k : Nat} (h : PInv p k) (x a b c : Int) : EvIn (eventP p x a b c) := by
 obtain ⟨h1,h2,h3,h4⟩ := h.hand a b c
 have q1 := pickedZ_range a 100 (by omega)
 have q2 := pickedZ_range a 30 (by omega)
 have q3 := pickedZ_range b 5 (by omega)
 have q4 := pickedZ_range c 8 (by omega)
 have z : ∀ P : Prop,P → P := fun _ h => h
 unfold eventP
 simp only
 split
 ·exact ⟨⟨by simp [evOpen],by simp [evOpen],q1.1,by show pickedZ a 100 ≤ _;omega,by simp [evOpen],by simp [evOpen],by simp [evOpen],by simp [evOpen],by simp [evOpen]⟩,by simp [evOpen],by simp [evOpen],by simp [evOpen],by simp [evOpen]⟩
 ·split
  ·exact ⟨⟨by simp [evData],by simp [evData],by simp [evData],by simp [evData],by simp [evData],by simp [evData],by simp [evData],by simp [evData],by simp [evData]⟩,h1,h2,h3,h4⟩
  ·split
   ·exact ⟨⟨by simp [evClose],by simp [evClose],by simp [evClose],by simp [evClose],by simp [evClose],by simp [evClose],by simp [evClose],by simp [evClose],by simp [evClose]⟩,h1,h2,h3,h4⟩
   ·split
    ·exact ⟨⟨by simp [evAns],by simp [evAns],by simp [evAns],by simp [evAns],by simp [evAns],by simp [evAns],by simp [evAns],by simp [evAns],by simp [evAns]⟩,h1,h2,h3,h4⟩
    ·split
     ·exact join_in q2.1 (by omega) q3.1 (by omega) (by omega) (by omega)
     ·split
      ·exact ⟨⟨by simp [evRet],by simp [evRet],by simp [evRet],by simp [evRet],q2.1,by show pickedZ a 30 ≤ _;omega,q3.1,by show pickedZ b 5 < 12;omega,by simp [evRet]⟩,by simp [evRet],by simp [evRet],by simp [evRet],by simp [evRet]⟩
      ·exact tick_in
theorem deeds_inv : ∀ (l : List (List Int)) {p : Ply} {k : Nat},PInv p k → k + l.length ≤ 1000000 → PInv (deedsM p l) (k + l.length)
 | [],p,k,h,_ => h
 | d :: l,p,k,h,hk => by
  simp only [List.length_cons] at hk
  have := deeds_inv l (h.act (h.event (d.getD 0 0) (d.getD 1 0) (d.getD 2 0) (d.getD 3 0)) (by omega)) (by omega)
  have e : k + 1 + l.length = k + (l.length + 1) := by omega
  rw [e] at this
  exact this
theorem played_inv {c : Cfg} (h : c.Ok) (l : List (List Int)) (most : Nat) (hm : most ≤ 100) : PInv (playedM c l most) (4 + (l.take most).length) :=
 deeds_inv _ (play4_inv h) (by rw [List.length_take];omega)
def potF (g : Gt) (f : Flw) : Int := (f.due - g.now) + if f.serving = true then 0 else (g.c.c8 - f.tries) * g.c.c7
def PB (g : Gt) (B : Int) : Prop := ∀ f ∈ g.fl,potF g f ≤ B
theorem PB.sub {g g' : Gt} {B : Int} (h : PB g B) (hn : g'.now = g.now) (hc : g'.c = g.c) (hf : ∀ f ∈ g'.fl,f ∈ g.fl) : PB g' B := fun f hf2 => by
 have := h f (hf f hf2)
 unfold potF at this ⊢
 rw [hn,hc];exact this
theorem PB.drop {g : Gt} {n : Nat} {B : Int} (h : PB g B) (hm : Mid g n (-1)) {i : Nat} (hi : i < g.fl.length) (o : Outp) : PB (g.drop i o) B := by
 obtain ⟨h1,h2⟩ := drop_same hm hi o
 exact h.sub h1.now h1.c fun f hf => ((h2 f).1 hf).1
theorem PB.failed {g : Gt} {n : Nat} {B : Int} (h : PB g B) (hm : Mid g n (-1)) {i : Nat} (hi : i < g.fl.length) (why : Int) (hsv : (g.fl.getD i default).serving = false) : PB (g.failed i why) B := by
 have hb := hm.flow (List.getElem_mem hi)
 have hg := getD_at default hi
 have hn := hm.note (g.fl.getD i default).backend (by rw [hg];omega) true
 have hpn : PB (g.note (g.fl.getD i default).backend true) B := h.sub rfl rfl fun f hf => hf
 have hmv : ∀ b t,PB ((g.note (g.fl.getD i default).backend true).moved i b t) B := fun b t f hf => by
  rcases List.mem_or_eq_of_mem_set hf with hf | rfl
  ·exact hpn f hf
  ·have h1 := h _ (List.getElem_mem hi)
   have h2 := hm.fe _ (List.getElem_mem hi)
   rw [← hg] at h1 h2
   unfold potF at h1 ⊢
   rw [hsv] at h1
   simp only [Bool.false_eq_true,if_false] at h1
   show (g.now + g.c.c7 - g.now) + (if (g.fl.getD i default).serving = true then 0 else (g.c.c8 - ((g.fl.getD i default).tries + 1)) * g.c.c7) ≤ B
   rw [hsv]
   simp only [Bool.false_eq_true,if_false]
   have e : (g.c.c8 - ((g.fl.getD i default).tries + 1)) * g.c.c7 = (g.c.c8 - (g.fl.getD i default).tries) * g.c.c7 - g.c.c7 := by
    rw [show g.c.c8 - ((g.fl.getD i default).tries + 1) = (g.c.c8 - (g.fl.getD i default).tries) - 1 by omega,Int.sub_mul,Int.one_mul]
   rw [e]
   omega
 unfold Gt.failed
 simp only
 split
 ·exact hpn.drop hn hi _
 ·split
  ·exact hpn.drop hn hi _
  ·split
   ·obtain ⟨s1,s2,_⟩ := spared_same (g := (g.note (g.fl.getD i default).backend true).moved i (pickG (g.note (g.fl.getD i default).backend true) (g.fl.getD i default).key (g.fl.getD i default).slot).1 (g.tok - g.c.bud.den)) hm.bk.sorted (g.fl.getD i default).backend
    exact (hmv _ _).sub s1.now s1.c fun f hf => by rw [s2] at hf;exact hf
   ·exact hmv _ _
theorem PB.offs {B : Int} : ∀ (l : List Int) {g : Gt} {n : Nat},PB g B → Mid g n (-1) → l.Nodup → (∀ s ∈ l,∃ f ∈ g.fl,f.slot = s) → PB (g.offs l) B
 | [],g,n,h,_,_,_ => h
 | s :: l,g,n,h,hm,hnd,hs => by
  obtain ⟨f0,hf0,rfl⟩ := hs s (by simp)
  obtain ⟨h1,h2,h3,h4⟩ := off1_same hm hf0
  obtain ⟨n1,n2⟩ := List.nodup_cons.1 hnd
  have hp : PB (g.off1 f0.slot) B := by
   obtain ⟨hi,_,_,hgd⟩ := find_mem hm.fs.so hf0
   unfold Gt.off1
   simp only
   split
   ·exact h.drop hm hi _
   ·rename_i hs;exact h.failed hm hi 5 (by simpa using hs)
  exact PB.offs l hp h1 n2 fun s hs2 => by
   obtain ⟨f,hf,e⟩ := hs s (List.mem_cons_of_mem _ hs2)
   refine ⟨f,h4 f hf fun e2 => n1 ?_,e⟩
   rw [← e2,e];exact hs2
theorem PB.cuts {B : Int} : ∀ (l : List Lif) {g : Gt} {n : Nat},PB g B → Mid g n (-1) → PB (g.cuts l) B
 | [],g,n,h,_ => h
 | x :: l,g,n,h,hm => by
  unfold Gt.cuts
  split
  ·exact PB.cuts l h hm
  ·have h1 := cut1_same x.backend (ofL g.tb x.backend) hm (ofL_nodup _ _) (ofL_flows hm _) (fun f hf hb => by
    obtain ⟨q1,q2,q3⟩ := hm.fs.at_ f hf
    exact ⟨(f.slot.toNat,f.gen),ofL_mem.2 ⟨by show f.slot.toNat < _;omega,by show (g.tb.getD f.slot.toNat tzero).used = true;rw [q3],by show (g.tb.getD f.slot.toNat tzero).backend = _;rw [q3];exact hb,by show (g.tb.getD f.slot.toNat tzero).gen = _;rw [q3]⟩,by show f.slot = (f.slot.toNat : Int);omega⟩)
   exact PB.cuts l (h.sub h1.2.1.now h1.2.1.c fun f hf => (h1.2.2 f hf).1) h1.1
theorem PB.tick {g : Gt} {n : Nat} {B : Int} (h : PB g B) (hr : Rest g n) (hn : n + 1 ≤ 1000000) : PB g.tick (B - 1) := by
 obtain ⟨hnd,hoff⟩ := off_flows hr.mid
 have h0 : PB g.tick0 (B - 1) := fun f hf => by
  have := h f hf
  unfold potF at this ⊢
  show (f.due - (g.now + 1)) + (if f.serving = true then 0 else (g.c.c8 - f.tries) * g.c.c7) ≤ B - 1
  omega
 unfold Gt.tick
 exact PB.cuts _ (h0.offs (offM g) (hr.tick0 hn) hnd fun s hs => by
  obtain ⟨f,hf,_,e⟩ := (hoff s).1 hs
  exact ⟨f,hf,e⟩) (hr.offed hn).1
theorem PB.start {g : Gt} {n : Nat} (hr : Rest g n) : PB g (g.c.c6 + (g.c.c8 + 1) * g.c.c7) := fun f hf => by
 have h1 := hr.mid.fe f hf
 have h6 := hr.mid.c.w6
 have h7 := hr.mid.c.w7
 have h8 := hr.mid.c.w8
 have e : (g.c.c8 + 1) * g.c.c7 = g.c.c8 * g.c.c7 + g.c.c7 := by rw [Int.add_mul,Int.one_mul]
 have hk : 0 ≤ g.c.c8 * g.c.c7 := Int.mul_nonneg (by omega) (by omega)
 have ht : 0 ≤ f.tries * g.c.c7 := Int.mul_nonneg h1.1 (by omega)
 unfold potF
 rw [e]
 obtain ⟨_,_,_,h2,_⟩ := h1
 split
 ·rename_i hs;rw [hs] at h2;simp at h2;omega
 ·rename_i hs
  rw [if_neg hs] at h2
  rw [Int.sub_mul];omega
def ticksP (p : Ply) : Nat → Ply
 | 0 => p
 | k + 1 => (ticksP p k).act evTick
theorem ticks_inv {p : Ply} {n : Nat} (h : PInv p n) : ∀ k,n + k ≤ 1000000 → PInv (ticksP p k) (n + k) ∧ PB (ticksP p k).last (p.c.c6 + (p.c.c8 + 1) * p.c.c7 - k) ∧ (ticksP p k).c = p.c
 | 0,_ => ⟨h,by rw [← h.cfg];have := PB.start h.rest;simpa [ticksP] using this,rfl⟩
 | k + 1,hk => by
  obtain ⟨h1,h2,h3⟩ := ticks_inv h k (by omega)
  refine ⟨h1.act tick_in (by omega),?_,h3⟩
  have h4 := h2.tick h1.rest (by omega)
  have e : (p.c.c6 + (p.c.c8 + 1) * p.c.c7 - k) - 1 = p.c.c6 + (p.c.c8 + 1) * p.c.c7 - ((k + 1 : Nat) : Int) := by omega
  rw [e] at h4
  have e2 : ((ticksP p k).last.step evTick) = (ticksP p k).last.tick := by
   unfold Gt.step evTick
   rw [if_neg (by simp),if_neg (by simp),if_pos rfl]
  show PB ((ticksP p k).last.step evTick).clean _
  rw [e2]
  exact h4.sub rfl rfl fun f hf => hf
theorem ticks_end {p : Ply} {n : Nat} (h : PInv p n) (k : Nat) (hk : n + k ≤ 1000000) (ht : p.c.c6 + (p.c.c8 + 1) * p.c.c7 ≤ k) : (ticksP p k).last.fl = [] := by
 obtain ⟨h1,h2,h3⟩ := ticks_inv h k hk
 rw [List.eq_nil_iff_forall_not_mem]
 intro f hf
 have h4 := h2 f hf
 have h5 := h1.rest.late f hf
 have h6 := h1.rest.mid.fe f hf
 have h7 := h1.rest.mid.c.w7
 have hm : 0 ≤ ((ticksP p k).last.c.c8 - f.tries) * (ticksP p k).last.c.c7 := Int.mul_nonneg (by omega) (by omega)
 unfold potF at h4
 split at h4 <;> omega
end Go.Proofs.YtibemmkfcjlmpaaGreat
namespace Go.Proofs.YtibemmkfcjlmpaaGreat
open Go.RowKit
attribute [local simp] AK_at acode_seq acode_region acode_draw acode_cond CB_u acode_block acode_loop acode_exit acode_scope acode_ret acode_skip seqQ_n seqQ_e seqQ_r blockQ_n blockQ_e blockQ_r TK_at OK_at SK_at aops_nil aops_cons asch_done asch_one asch_two asch_top astep aop_eq isLoud aloud aloud1 isWrite qv evS strip gof eget hget putO eput herase oks opnds gS afin afin0 binD arith D.cells takeD fillD keep trim envOf Fin aresl aresv resD argOk pickV isP deq deqs boundD slD lenD isT isSl ptrIds chunks mn_min mx_max splice_one splice_more Rbr_at Rfr_at frR frV frC flatC brwR brwV brwC omap leR leV leC leL leVL rnR rnV rnC rnO rho_0 hputs herases rnS LtS LtR LtV LtC LtO lget noV noC flatR flatV rho
attribute [local simp ↓] CB_t CB_f
theorem inT {z : Int} (h1 : -9223372036854775808 ≤ z) (h2 : z ≤ 9223372036854775807) : InR z := ⟨h1,h2⟩
theorem rnC_I (ρ : Nat → Nat) : rnC ρ ∘ I = I := rfl
theorem tfits_code : cfun Tryz.prog [] 58 = some ⟨(.seq (qR 0 [oB 1 0,oX 2 (.mov (.k qF))]) (.seq (qR 1 [oF 3 0 1,oL 4 1 3,oX 5 (.bin .geq (.t 4) (kI 1)),oM 6 5,oG 7 (.fad 0 (.t 1)) 6 true,oG 8 (.load false 1 (.t 7)) 6 true,oG 9 (.bin .leq (.t 8) (kI 10)) 6 true,oX 10 (.pick (.t 6) (.t 9) (.k qF)),oM 11 10,oG 12 (.fad 6 (.t 1)) 11 true,oG 13 (.load false 1 (.t 12)) 11 true,oG 14 (.bin .geq (.t 13) (kI 0)) 11 true,oX 15 (.pick (.t 11) (.t 14) (.k qF)),oM 16 15,oG 17 (.fad 6 (.t 1)) 16 true,oG 18 (.load false 1 (.t 17)) 16 true,oG 19 (.bin .leq (.t 18) (kI 5)) 16 true,oX 20 (.pick (.t 16) (.t 19) (.k qF)),oM 2 20]) .ret)),[(.t 2)],21⟩ := by kernel_rfl
theorem tfits_pf (o : Outp) (h : OutFits o) : PF Tryz.prog 58 [.agg o.D] (.bool true) := by
 obtain ⟨h1,h2,h3,h4⟩ := h
 refine pO (h3 := by simp [Outp.D]) tfits_code [0,1,2] [] fun B hBN hB0 => ?_
 simp [Outp.D,h1,h2,h3,h4]
theorem tallyL_succ (l : List Outp) (i : Nat) (h : i < l.length) : tallyL (l.take (i + 1)) = tallyStep (tallyL (l.take i)) l[i] := by
 unfold tallyL
 rw [List.take_succ_eq_append_getElem h,List.foldl_append];rfl
theorem tof_code : cfun Tryz.prog [] 34 = some ⟨(.seq (qR 0 [oX 2 (.alloc [qZ,qZ,qZ,qZ,qZ,qZ,qZ,qZ,qZ,qZ,qZ,qZ,qZ,qZ,qZ,qZ,qZ]),oK 3 0]) (.seq (qR 1 [oX 4 (.alloc [qZ,qZ,qZ,qZ,qZ,qZ,qZ,qZ,qZ,qZ,qZ,qZ,qZ,qZ,qZ,qZ,qZ])]) (.seq (.seq (qR 2 [oM 7 0,oH 8 7,oK 9 0]) (.block 0 (.loop (.seq (qR 3 [oX 10 (.bin .lss (.t 9) (.t 8))]) (.seq (.cond 10 .skip (.exit 0)) (.seq (.block 1 (.seq (qR 4 [oI 11 7 7 9,oA 12 7 11,oX 6 (.alloc [qZ,qZ,qZ,qZ,qZ,qZ,qZ]),oS 7 6 12]) (.seq (.seq (qR 5 [oA 13 7 6,oX 14 (.call 58 [(.t 13)]),oX 15 (.not (.t 14))]) (.cond 15 (.seq (qR 6 [oX 16 (.build [qZ,qZ,qZ,qZ,qZ,qZ,qZ,qZ,qZ,qZ,qZ,qZ,qZ,qZ,qZ,qZ,qZ] []),oS 17 2 16,oK 3 5]) .ret) .skip)) (.seq (qR 7 [oF 17 0 6,oL 18 1 17,oF 19 0 4,oX 20 (.iada 11 1 (.t 19) (.t 18)),oL 21 1 20,oX 22 (.bin .add (.t 21) (kI 1)),oF 23 0 4,oX 24 (.iada 11 1 (.t 23) (.t 18)),oS 1 24 22]) (.seq (qR 8 [oF 25 0 6,oL 26 1 25,oX 27 (.bin .eql (.t 26) (kI 6))]) (.cond 27 (qR 9 [oF 28 6 6,oL 29 1 28,oF 30 11 4,oX 31 (.iada 6 1 (.t 30) (.t 29)),oL 32 1 31,oX 33 (.bin .add (.t 32) (kI 1)),oF 34 11 4,oX 35 (.iada 6 1 (.t 34) (.t 29)),oS 1 35 33]) .skip)))))) (qR 10 [oX 36 (.bin .add (.t 9) (kI 1)),oM 9 36]))))))) (.seq (qR 11 [oA 37 17 4,oS 17 2 37,oK 3 0]) .ret)))),[(.c 2 true 17),(.t 3)],38⟩ := by kernel_rfl
theorem tof_pf (l : List Outp) (hl : l.length ≤ 100000000) (hok : ∀ x ∈ l,OutFits x) : PF Tryz.prog 34 [.rows 7 (l.map Outp.D)] (.tup [.agg ((tallyL l).map I),I 0]) := by
 refine pO tof_code [0,2,3,4,6,7,8,9,10,15,27] [] fun B hBN hB0 => ?_
 simp
 refine W.loopS (fun y : Nat × List Int => ⟨[(9,I y.1),(8,I l.length),(7,D.rows 7 (l.map Outp.D)),(4,D.ptr 1 0),(3,I 0),(2,D.ptr 0 0),(0,D.rows 7 (l.map Outp.D))],[(1,.cells (y.2.map I)),(0,.cells ((List.replicate 17 (0 : Int)).map I))],2⟩)
  (fun n y => n = l.length - y.1 ∧ y.1 ≤ l.length ∧ y.2 = tallyL (l.take y.1)) ?_ ?_
 ·exact ⟨_,(0,List.replicate 17 0),Gh.of_eq (by simp [List.replicate]),rfl,by simp,by simp [tallyL]⟩
 ·rintro n ⟨i,cs⟩ ⟨hn,hi,hcs⟩
  simp only at hn hi hcs
  refine acode_sound [0,2,3,4,6,7,8,9,10,15,27] [] _ _ _ ?_
  by_cases hlt : i < l.length
  ·obtain ⟨o,ho⟩ : ∃ o,o = l[i] := ⟨_,rfl⟩
   have hfo : OutFits o := ho ▸ hok _ (List.getElem_mem hlt)
   have hts := tallyL_succ l i hlt
   rw [← ho,← hcs] at hts
   obtain ⟨h1,h2,h3,h4⟩ := id hfo
   have hlen : cs.length = 17 := by rw [hcs,tallyL_len]
   have hbd : ∀ j,0 ≤ cs.getD j 0 ∧ cs.getD j 0 ≤ 2 * i := fun j => by
    rw [hcs,tallyL_get _ (fun x hx => hok x (List.mem_of_mem_take hx))]
    have := cnt_bd (l.take i) j
    simp at this;omega
   have k0 : 0 ≤ o.kind := by omega
   have k1 : o.kind < 11 := by omega
   have k2 : o.kind.toNat < cs.length := by omega
   have k2' : o.kind.toNat < 17 := by omega
   have k3 : 11 + o.why.toNat < cs.length := by omega
   have k4 : 0 ≤ o.why ∧ o.why < 6 := by omega
   have hb1 := hbd o.kind.toNat
   have e1 : cs[o.kind.toNat] = cs.getD o.kind.toNat 0 := by simp [List.getD,k2]
   have i1 : InR (cs[o.kind.toNat] + 1) := by rw [e1];exact inT (by omega) (by omega)
   have ii : InR ((i : Int) + 1) := inT (by omega) (by omega)
   simp [hlt,← ho,Outp.D]
   by_cases h6 : o.kind = 6
   ·have k6 : 6 < cs.length := by omega
    have hb6 := hbd 6
    have e6 : cs[6] = cs.getD 6 0 := by simp [List.getD,k6]
    have i6 : InR (cs[6] + 1) := by rw [e6];exact inT (by omega) (by omega)
    have hbw := hbd (11 + o.why.toNat)
    have ew : cs[11 + o.why.toNat] = cs.getD (11 + o.why.toNat) 0 := by simp [List.getD,k3]
    have iw : InR (cs[11 + o.why.toNat] + 1) := by rw [ew];exact inT (by omega) (by omega)
    have nw : ¬ (6 = 11 + o.why.toNat) := by omega
    have hst : tallyStep cs o = (cs.set 6 (cs[6] + 1)).set (11 + o.why.toNat) (cs[11 + o.why.toNat] + 1) := by
     unfold tallyStep bump
     rw [if_pos h6,h6]
     simp [List.getD,k6,k3,nw]
    have hset : ((cs.map I).set 6 (D.int .i64 (cs[6] + 1))).set (11 + o.why.toNat) (D.int .i64 (cs[11 + o.why.toNat] + 1)) = (tallyStep cs o).map I := by rw [hst,List.map_set,List.map_set]
    repeat' (first
     | simp [Outp.D,k6,i6,h6,ii,k3,k4,iw,nw]
     | refine ⟨wcS ?_,?_⟩
     | (refine WCall.pf (tfits_pf o hfo) ?_ ?_ ?_ ?_;iterate 3 (solve|simp [Outp.D,k6,i6,h6,ii,k3,k4,iw,nw]))
     | with_reducible refine aI ?_ ?_ ?_)
    rw [hset]
    exact ⟨by omega,by omega,by omega,by omega,_,(i + 1,tallyStep cs o),(gr0 [] hB0 (by simp [Outp.D,rnC_I,h6]) (by simp [Outp.D,rnC_I,h6]) (.inr rfl)),by omega,rfl,by omega,hts.symm⟩
   ·have hst : tallyStep cs o = cs.set o.kind.toNat (cs[o.kind.toNat] + 1) := by
     unfold tallyStep bump
     rw [if_neg h6,e1]
    have hset : (cs.map I).set o.kind.toNat (D.int .i64 (cs[o.kind.toNat] + 1)) = (tallyStep cs o).map I := by rw [hst,List.map_set]
    repeat' (first
     | simp [Outp.D,k0,k1,k2,i1,h6,ii]
     | refine ⟨wcS ?_,?_⟩
     | (refine WCall.pf (tfits_pf o hfo) ?_ ?_ ?_ ?_;iterate 3 (solve|simp [Outp.D,k0,k1,k2,i1,h6,ii]))
     | with_reducible refine aI ?_ ?_ ?_)
    rw [hset]
    exact ⟨by omega,by omega,_,(i + 1,tallyStep cs o),(gr0 [] hB0 (by simp [Outp.D,rnC_I]) (by simp [Outp.D,rnC_I]) (.inr rfl)),by omega,rfl,by omega,hts.symm⟩
  ·have hie : i = l.length := by omega
   subst hie
   rw [List.take_length] at hcs
   have hlen : cs.length = 17 := by rw [hcs,tallyL_len]
   obtain ⟨c,hc⟩ : ∃ c,c = tallyL l := ⟨_,rfl⟩
   rw [← hc] at hcs ⊢
   subst hcs
   match cs,hlen with
   | [c0,c1,c2,c3,c4,c5,c6,c7,c8,c9,c10,c11,c12,c13,c14,c15,c16],_ => simp
structure OutBy (o : Outp) : Prop where
 fits : OutFits o
 slot : InR o.slot
 gen : InR o.gen
 back : 0 ≤ o.backend ∧ o.backend < 12
def liveN (l : List Outp) : Int := cnt l 1 - cnt l 6 - cnt l 7
def liveD (n : Int) : D := if n < 0 then .tup [I 0,I 6] else .tup [I n,I 0]
theorem tlive_code : cfun Tryz.prog [] 36 = some ⟨(.seq (qR 0 [oK 2 0,oK 3 0]) (.seq (qR 1 [oM 8 0,oX 9 (.call 34 [(.t 8)]),oM 7 9,oE 10 7 0,oE 11 7 1,oX 4 (.alloc [qZ,qZ,qZ,qZ,qZ,qZ,qZ,qZ,qZ,qZ,qZ,qZ,qZ,qZ,qZ,qZ,qZ]),oS 17 4 10,oM 5 11]) (.seq (.seq (qR 2 [oM 12 5,oX 13 (.bin .neq (.t 12) (kI 0))]) (.cond 13 (.seq (qR 3 [oM 14 5,oK 2 0,oM 3 14]) .ret) .skip)) (.seq (qR 4 [oF 15 0 4,oX 16 (.iada 11 1 (.t 15) (kI 1)),oL 17 1 16,oF 18 0 4,oX 19 (.iada 11 1 (.t 18) (kI 6)),oL 20 1 19,oX 21 (.bin .sub (.t 17) (.t 20)),oF 22 0 4,oX 23 (.iada 11 1 (.t 22) (kI 7)),oL 24 1 23,oX 25 (.bin .sub (.t 21) (.t 24)),oM 6 25]) (.seq (.seq (qR 5 [oM 26 6,oX 27 (.bin .lss (.t 26) (kI 0))]) (.cond 27 (.seq (qR 6 [oK 2 0,oK 3 6]) .ret) .skip)) (.seq (qR 7 [oM 28 6,oM 2 28,oK 3 0]) .ret)))))),[(.t 2),(.t 3)],29⟩ := by kernel_rfl
theorem tlive_pf (A : List Outp) (hl : A.length ≤ 100000000) (fA : ∀ x ∈ A,OutFits x) : PF Tryz.prog 36 [.rows 7 (A.map Outp.D)] (liveD (liveN A)) := by
 have htof := tof_pf A hl fA
 have hgt := tallyL_get A fA
 obtain ⟨C,hC⟩ : ∃ C,C = tallyL A := ⟨_,rfl⟩
 have h17 : C.length = 17 := by rw [hC,tallyL_len]
 rw [← hC] at htof
 simp only [← hC] at hgt
 have hcb : ∀ j,0 ≤ cnt A j ∧ cnt A j ≤ 200000000 := fun j => by have := cnt_bd A j;omega
 obtain ⟨c0,c1,c2,c3,c4,c5,c6,c7,c8,c9,c10,c11,c12,c13,c14,c15,c16,hCe⟩ : ∃ c0 c1 c2 c3 c4 c5 c6 c7 c8 c9 c10 c11 c12 c13 c14 c15 c16,C = [c0,c1,c2,c3,c4,c5,c6,c7,c8,c9,c10,c11,c12,c13,c14,c15,c16] := by
  match C,h17 with
  | [c0,c1,c2,c3,c4,c5,c6,c7,c8,c9,c10,c11,c12,c13,c14,c15,c16],_ => exact ⟨c0,c1,c2,c3,c4,c5,c6,c7,c8,c9,c10,c11,c12,c13,c14,c15,c16,rfl⟩
 rw [hCe] at htof
 have g1 : c1 = cnt A 1 := by have := hgt 1;rw [hCe] at this;simpa using this
 have g6 : c6 = cnt A 6 := by have := hgt 6;rw [hCe] at this;simpa using this
 have g7 : c7 = cnt A 7 := by have := hgt 7;rw [hCe] at this;simpa using this
 have hn : liveN A = c1 - c6 - c7 := by rw [g1,g6,g7];rfl
 have b1 := hcb 1
 have b6 := hcb 6
 have b7 := hcb 7
 rw [← g1] at b1
 rw [← g6] at b6
 rw [← g7] at b7
 have i1 : InR (c1 - c6) := inT (by omega) (by omega)
 have i2 : InR (c1 - c6 - c7) := inT (by omega) (by omega)
 rw [hn]
 clear hn g1 g6 g7 hcb hgt hC hCe h17
 refine pO tlive_code [0,2,3,4,5,6,13,27] [] fun B hBN hB0 => ?_
 by_cases h : c1 - c6 - c7 < 0
 ·simp only [liveD,if_pos h]
  repeat' (first
   | simp [i1,i2,h,splice]
   | refine ⟨wcS ?_,?_⟩
   | (refine WCall.pf (htof) ?_ ?_ ?_ ?_;iterate 3 (solve|simp [i1,i2,h,splice]))
   | with_reducible refine aI ?_ ?_ ?_)
 ·simp only [liveD,if_neg h]
  repeat' (first
   | simp [i1,i2,h,splice]
   | refine ⟨wcS ?_,?_⟩
   | (refine WCall.pf (htof) ?_ ?_ ?_ ?_;iterate 3 (solve|simp [i1,i2,h,splice]))
   | with_reducible refine aI ?_ ?_ ?_)
end Go.Proofs.YtibemmkfcjlmpaaGreat
namespace Go.Proofs.YtibemmkfcjlmpaaGreat
open Go.RowKit
theorem OOk.by_ {o : Outp} (h : OOk o) : OutBy o := by
 obtain ⟨h1,h2,h3,h4,h5,h6,h7,h8,h9,h10⟩ := h
 exact ⟨⟨h1,h2,h3,h4⟩,inT (by omega) (by omega),inT (by omega) (by omega),h9,h10⟩
theorem cnt_kN (l : List Outp) (h : ∀ o ∈ l,OutFits o) (j : Nat) (hj : j < 11) : cnt l j = (kN j l : Nat) := by
 induction l with
 | nil => rfl
 | cons o l ih =>
  have ho := h o (by simp)
  have h0 := ho.k0
  have h1 := ho.w0
  have ih := ih fun x hx => h x (List.mem_cons_of_mem _ hx)
  have e : cnt (o :: l) j = delta o j + cnt l j := by simp [cnt]
  rw [e,ih]
  unfold kN delta
  rw [List.countP_cons,if_neg (by omega : ¬ (o.kind = 6 ∧ 11 + o.why.toNat = j))]
  by_cases hk : o.kind = (j : Int)
  ·rw [if_pos (by omega)];simp [hk];omega
  ·rw [if_neg (by omega)];simp [hk]
theorem PInv.live {p : Ply} {k : Nat} (h : PInv p k) : liveN (outsP p) = p.last.fl.length := by
 have hf : ∀ o ∈ outsP p,OutFits o := fun o ho => (h.oks o ho).by_.fits
 unfold liveN
 rw [cnt_kN _ hf 1 (by omega),cnt_kN _ hf 6 (by omega),cnt_kN _ hf 7 (by omega)]
 have := h.cnt
 show ((kN 1 (outsP p) : Nat) : Int) - (kN 6 (outsP p) : Nat) - (kN 7 (outsP p) : Nat) = _
 omega
end Go.Proofs.YtibemmkfcjlmpaaGreat
namespace Go.Proofs.YtibemmkfcjlmpaaGreat
open Go.RowKit
attribute [local simp] AK_at acode_seq acode_region acode_draw acode_cond CB_u acode_block acode_loop acode_exit acode_scope acode_ret acode_skip seqQ_n seqQ_e seqQ_r blockQ_n blockQ_e blockQ_r TK_at OK_at SK_at aops_nil aops_cons asch_done asch_one asch_two asch_top astep aop_eq isLoud aloud aloud1 isWrite qv evS strip gof eget hget putO eput herase oks opnds gS afin afin0 binD arith D.cells takeD fillD keep trim envOf Fin aresl aresv resD argOk pickV isP deq deqs boundD slD lenD isT isSl ptrIds chunks mn_min mx_max splice_one splice_more Rbr_at Rfr_at frR frV frC flatC brwR brwV brwC omap leR leV leC leL leVL rnR rnV rnC rnO rho_0 hputs herases rnS LtS LtR LtV LtC LtO lget noV noC flatR flatV rho
attribute [local simp ↓] CB_t CB_f
def outsN (p : Ply) (i : Nat) : List Outp := ((p.steps.take i).map (·.out)).flatten
theorem uouts_code : cfun Tryz.prog [] 37 = some ⟨(.seq (qR 0 [oX 2 (.mov (.k .nil0))]) (.seq (qR 1 [oX 3 (.mov (.k .nil0))]) (.seq (.seq (qR 2 [oK 4 0]) (.block 0 (.loop (.seq (.seq (qR 3 [oM 5 4,oM 6 0,oN 7 6,oF 8 16 7,oL 9 1 8,oH 10 9,oX 11 (.bin .lss (.t 5) (.t 10))]) (.cond 11 .skip (.exit 0))) (.seq (.block 1 (qR 5 [oM 14 3,oM 15 0,oN 16 15,oF 17 16 16,oL 18 1 17,oM 19 4,oI 20 61 18 19,oF 21 60 20,oL 22 1 21,oX 23 (.app 7 56 [qZ,qZ,qZ,qZ,qZ,qZ,qZ] (.t 14) (.t 22)),oM 3 23])) (qR 4 [oM 12 4,oX 13 (.bin .add (.t 12) (kI 1)),oM 4 13])))))) (.seq (qR 6 [oM 24 3,oM 2 24]) .ret)))),[(.t 2)],25⟩ := by kernel_rfl
theorem uouts_pf (p : Ply) (hl : p.steps.length ≤ 100000) (ho : (outsP p).length ≤ 100000000) : PF Tryz.prog 37 [.pc p.P] (.rows 7 ((outsP p).map Outp.D)) := by
 obtain ⟨P,hP⟩ : ∃ P,P = p.P := ⟨_,rfl⟩
 rw [← hP]
 have hP' := hP
 simp only [Ply.P,Ply.cells,Cfg.D,Gt.W,Gt.cells,List.cons_append,List.nil_append] at hP'
 have hot : ∀ i,(h : i < p.steps.length) → outsN p (i + 1) = outsN p i ++ p.steps[i].out := fun i h => by
  unfold outsN
  rw [List.take_succ_eq_append_getElem h,List.map_append,List.flatten_append];simp
 have hle : ∀ i,(outsN p i).length ≤ (outsP p).length := fun i => by
  unfold outsN
  have e : outsP p = ((p.steps.take i).map (·.out)).flatten ++ ((p.steps.drop i).map (·.out)).flatten := by
   unfold outsP
   rw [← List.flatten_append,← List.map_append,List.take_append_drop]
  rw [e,List.length_append];omega
 have hall : outsP p = outsN p p.steps.length := by unfold outsN;rw [List.take_length];rfl
 have hz : outsN p 0 = [] := rfl
 refine pO uouts_code [0,2,3,4,11] [] fun B hBN hB0 => ?_
 simp
 refine W.loopS (fun y : Nat => ⟨[(4,I y),(3,.own 0),(0,.pc P)],[(0,.row 7 ((outsN p y).map Outp.D))],1⟩)
  (fun m i => m = p.steps.length - i ∧ i ≤ p.steps.length) ?_ ?_
 ·refine ⟨_,0,(Gh.adopt 3 7 (by omega) (by simp)).trans ?_,rfl,by omega⟩
  simp
  exact (gr0 [0] hB0 (by simp [hz]) (by simp [hz]) (.inl (by simp [hz])))
 rintro m i ⟨hm,hi⟩
 refine acode_sound [0,2,3,4,11] [] _ _ _ ?_
 (try dsimp only)
 by_cases hlt : i < p.steps.length
 ·have ho1 := hot i hlt
  have hle1 := hle (i + 1)
  rw [ho1,List.length_append] at hle1
  generalize outsN p i = acc at ho1 hle1 ⊢
  obtain ⟨s,hs⟩ : ∃ s,s = p.steps[i] := ⟨_,rfl⟩
  rw [← hs] at ho1 hle1
  have hsD : s.D[60]? = some (.rows 7 (s.out.map Outp.D)) := rfl
  have hsD2 : ∀ h,s.D[60]'h = .rows 7 (s.out.map Outp.D) := fun _ => rfl
  have ii : InR ((i : Int) + 1) := inW (by omega) (by omega)
  have hcap : (acc.length + s.out.length) * 56 ≤ 140737488355328 := by omega
  simp [hP',hlt,← hs,Stp.D,Evt.D,Gt.W,Gt.cells,ii,hcap]
  rw [← hP']
  exact ⟨fun _ _ => rfl,_,i + 1,(gr0 [1] hB0 (by simp [ho1]) (by simp [ho1]) (.inl (by simp [ho1]))),by omega,rfl,by omega⟩
 ·obtain rfl : i = p.steps.length := by omega
  rw [← hall]
  simp [hP']
end Go.Proofs.YtibemmkfcjlmpaaGreat
namespace Go.Proofs.YtibemmkfcjlmpaaGreat
open Go.RowKit
theorem StpOk.facts {c : Cfg} {s : Stp} {k : Nat} (h : StpOk c s k) : ∃ n,n + 1 ≤ 1000000 ∧ Rest s.before n ∧ Rest (s.before.step s.ev) (n + 1) := by
 obtain ⟨n,hn,hr⟩ := h.ex
 have := h.kk
 exact ⟨n,by omega,hr,hr.step h.ev.ok (by omega)⟩
theorem flat_le {α β : Type} (f : α → List β) (n : Nat) : ∀ l : List α,(∀ x ∈ l,(f x).length ≤ n) → ((l.map f).flatten).length ≤ n * l.length
 | [],_ => by simp
 | x :: l,h => by
  have h1 := h x (by simp)
  have h2 := flat_le f n l fun y hy => h y (by simp [hy])
  simp only [List.map_cons,List.flatten_cons,List.length_append,List.length_cons,Nat.mul_add,Nat.mul_one]
  omega
theorem outs_le {p : Ply} {k : Nat} (h : ∀ s ∈ p.steps,StpOk p.c s k) : (outsP p).length ≤ 2000 * p.steps.length :=
 flat_le _ _ _ fun s hs => by
  have hst := h s hs
  obtain ⟨n,hn,hr1,_⟩ := hst.facts
  rw [hst.out]
  exact step_out hr1 hst.lo hn s.ev
theorem top_startI (s : List Int) (l : List (List Int)) (hs : s.length = 16 ∧ ∀ z ∈ s,InR z) (hl : l.length ≤ Go.maxLen) (hr : ∀ r ∈ l,r.length = 4 ∧ ∀ z ∈ r,InR z) :
  ∃ (p : Ply) (k : Nat),p.c.Ok ∧ PInv p k ∧ PR p k ∧ k ≤ 64 ∧ (outsP p).length ≤ 1000000 ∧ HF Tryz.prog 23 [.agg (s.map I),.rows 4 (l.map fun r => r.map I),I 60] [] 0 (fun d H' nx' => d = .tup [.ptr 0 0,.bool true] ∧ H' = p.H 1 2 ∧ nx' = 3) := by
 obtain ⟨c,hc,_,hpl⟩ := played_hf s l 60 hs hl hr (by omega)
 have hI := played_inv hc l 60 (by omega)
 have hP := deeds_PR (play4_PR hc) (l.take 60) (l.take 60).length (Nat.le_refl _) (by rw [List.length_take];omega)
 rw [List.take_length] at hP
 have hlt : (l.take 60).length ≤ 60 := by rw [List.length_take];omega
 have ho := outs_le hI.sts
 have hsl : (playedM c l 60).steps.length ≤ 4 + (l.take 60).length := hP.sl
 refine ⟨playedM c l 60,_,?_,hI,hP,by omega,by omega,hpl⟩
 have h1 := hI.cfg
 have h2 := hI.rest.mid.c
 rw [h1] at h2;exact h2
end Go.Proofs.YtibemmkfcjlmpaaGreat
namespace Go.Proofs.YtibemmkfcjlmpaaGreat
open Go.RowKit
attribute [local simp] AK_at acode_seq acode_region acode_draw acode_cond CB_u acode_block acode_loop acode_exit acode_scope acode_ret acode_skip seqQ_n seqQ_e seqQ_r blockQ_n blockQ_e blockQ_r TK_at OK_at SK_at aops_nil aops_cons asch_done asch_one asch_two asch_top astep aop_eq isLoud aloud aloud1 isWrite qv evS strip gof eget hget putO eput herase oks opnds gS afin afin0 binD arith D.cells takeD fillD keep trim envOf Fin aresl aresv resD argOk pickV isP deq deqs boundD slD lenD isT isSl ptrIds chunks mn_min mx_max splice_one splice_more Rbr_at Rfr_at frR frV frC flatC brwR brwV brwC omap leR leV leC leL leVL rnR rnV rnC rnO rho_0 hputs herases rnS LtS LtR LtV LtC LtO lget noV noC flatR flatV rho
attribute [local simp ↓] CB_t CB_f
theorem ticks_c (p : Ply) : ∀ k,(ticksP p k).c = p.c
 | 0 => rfl
 | k + 1 => ticks_c p k
theorem ticks_PR {p : Ply} {K : Nat} (h : PR p K) : ∀ k,K + k ≤ 20000 → PR (ticksP p k) (K + k)
 | 0,_ => h
 | k + 1,hk => (ticks_PR h k (by omega)).act tick_in (by omega)
theorem tidl_code : cfun Tryz.prog [] 18 = some ⟨(.seq (qR 0 [oB 2 0,oX 4 (.mov (.k qF))]) (.seq (qR 1 [oA 12 16 2,oM 13 1,oX 14 (.call 23 [(.t 12),(.t 13),(kI 60)]),oM 11 14,oE 15 11 0,oE 16 11 1,oM 5 15,oM 6 16]) (.seq (qR 2 [oM 17 5,oN 18 17,oF 19 0 18,oA 20 16 19,oX 7 (.alloc [qZ,qZ,qZ,qZ,qZ,qZ,qZ,qZ,qZ,qZ,qZ,qZ,qZ,qZ,qZ,qZ]),oS 16 7 20]) (.seq (.seq (qR 3 [oK 8 0]) (.block 0 (.loop (.seq (.seq (qR 4 [oM 21 8,oF 22 6 7,oL 23 1 22,oF 24 8 7,oL 25 1 24,oX 26 (.bin .add (.t 25) (kI 1)),oF 27 7 7,oL 28 1 27,oX 29 (.bin .mul (.t 26) (.t 28)),oX 30 (.bin .add (.t 23) (.t 29)),oX 31 (.bin .lss (.t 21) (.t 30)),oM 32 31,oG 33 (.mov (.t 6)) 32 true,oX 34 (.pick (.t 32) (.t 33) (.k qF))]) (.cond 34 .skip (.exit 0))) (.seq (.block 1 (qR 6 [oM 37 5,oX 38 (.build [qZ,qZ,qZ,qZ,qF,qZ,qZ,qZ] [(0,(1,(kI 7)))]),oX 39 (.call 35 [(.t 37),(.t 38)]),oM 6 39])) (qR 5 [oM 35 8,oX 36 (.bin .add (.t 35) (kI 1)),oM 8 36])))))) (.seq (qR 7 [oM 41 5,oX 42 (.call 37 [(.t 41)]),oX 43 (.call 36 [(.t 42)]),oM 40 43,oE 44 40 0,oE 45 40 1,oM 9 44,oM 10 45]) (.seq (qR 8 [oM 46 6,oM 47 46,oG 48 (.mov (.t 5)) 47 true,oG 49 (.nchk (.t 48)) 47 true,oG 50 (.fad 17 (.t 49)) 47 true,oG 51 (.fad 18 (.t 50)) 47 true,oG 52 (.load false 1 (.t 51)) 47 true,oG 53 (.len (.t 52)) 47 true,oG 54 (.bin .eql (.t 53) (kI 0)) 47 true,oX 55 (.pick (.t 47) (.t 54) (.k qF)),oM 56 55,oG 57 (.mov (.t 10)) 56 true,oG 58 (.bin .eql (.t 57) (kI 0)) 56 true,oX 59 (.pick (.t 56) (.t 58) (.k qF)),oM 60 59,oG 61 (.mov (.t 9)) 60 true,oG 62 (.bin .eql (.t 61) (kI 0)) 60 true,oX 63 (.pick (.t 60) (.t 62) (.k qF)),oM 4 63]) .ret)))))),[(.t 4)],64⟩ := by kernel_rfl
theorem tidl_pf (s : List Int) (l : List (List Int)) (hs : s.length = 16 ∧ ∀ z ∈ s,InR z) (hl : l.length ≤ Go.maxLen) (hr : ∀ r ∈ l,r.length = 4 ∧ ∀ z ∈ r,InR z) :
  PF Tryz.prog 18 [.agg (s.map I),.rows 4 (l.map fun r => r.map I)] (.bool true) := by
 obtain ⟨p,K,hc,hI,hR,hK64,hol,hpl⟩ := top_startI s l hs hl hr
 obtain ⟨a0,a1,a2,a3,a4,a5,a6,a7,a8,a9,a10,a11,a12,a13,a14,a15,rfl⟩ := sixteen hs.1
 have w6 := hc.w6
 have w7 := hc.w7
 have w8 := hc.w8
 have m0 : 0 ≤ (p.c.c8 + 1) * p.c.c7 := Int.mul_nonneg (by omega) (by omega)
 have m1 : (p.c.c8 + 1) * p.c.c7 ≤ 21 * 500 := Int.mul_le_mul (by omega) (by omega) (by omega) (by omega)
 obtain ⟨T,hT⟩ : ∃ T : Nat,(T : Int) = p.c.c6 + (p.c.c8 + 1) * p.c.c7 := ⟨(p.c.c6 + (p.c.c8 + 1) * p.c.c7).toNat,by omega⟩
 have hT2 : T ≤ 11000 := by omega
 have i1 : InR (p.c.c8 + 1) := inW (by omega) (by omega)
 have i2 : InR ((p.c.c8 + 1) * p.c.c7) := inW (by omega) (by omega)
 have i3 : InR (p.c.c6 + (p.c.c8 + 1) * p.c.c7) := inW (by omega) (by omega)
 have hPR := fun k (hk : k ≤ T) => ticks_PR hR k (by omega)
 have hend := ticks_end hI T (by omega) (by omega)
 obtain ⟨hI2,_,_⟩ := ticks_inv hI T (by omega)
 have hcf := ticks_c p
 have hq0 : ticksP p 0 = p := rfl
 have hqs : ∀ i,(ticksP p i).act evTick = ticksP p (i + 1) := fun _ => rfl
 clear m0 m1 w6 w7 w8 hs hr hl hI hol
 refine pO tidl_code [0,1,2,4,5,6,7,8,9,10,34] [7] fun B hBN hB0 => ?_
 simp
 refine WCall.hf0 hpl (by simp) (by simp) (by simp) (by simp) ?_
 rintro d H' nx' ⟨rfl,rfl,rfl⟩
 clear hpl
 simp only [Ply.H,Ply.cells,Cfg.D,Gt.W,Gt.cells,List.cons_append,List.nil_append]
 simp
 refine W.loopS (fun y : Nat => ⟨[(8,I y),(7,.ptr 3 0),(6,.bool true),(5,.ptr 0 0)],(3,.cells p.c.D) :: (ticksP p y).H 1 2,4⟩)
  (fun m i => m = T - i ∧ i ≤ T) ?_ ?_
 ·exact ⟨_,0,(gr0 [1,2,3,4] hB0 (by simp [hq0,Ply.H,Ply.cells,Cfg.D,Gt.W,Gt.cells]) (by simp [hq0,Ply.H,Ply.cells,Cfg.D,Gt.W,Gt.cells]) (.inl (by simp [hq0,Ply.H,Ply.cells,Cfg.D,Gt.W,Gt.cells]))),rfl,by omega⟩
 rintro m i ⟨hm,hi⟩
 refine acode_sound [0,1,2,4,5,6,7,8,9,10,34] [7] _ _ _ ?_
 (try dsimp only)
 by_cases hlt : i < T
 ·have hdo := pdo_hf (ticksP p i) (K + i) evTick (hPR i hi) chk_tick (by omega)
  rw [hqs] at hdo
  simp only [evTick,Evt.D] at hdo
  have ii : InR ((i : Int) + 1) := inW (by omega) (by omega)
  have hltI : (i : Int) < p.c.c6 + (p.c.c8 + 1) * p.c.c7 := by omega
  unfold Ply.H at hdo ⊢
  simp [Cfg.D,i1,i2,i3,hltI]
  refine WCall.hf [0,1,2] (hdo) (by simp) rfl rfl (by decide) (by simp) (by simp [Ply.cells,Cfg.D,Gt.W,Gt.cells]) (by simp [Ply.cells,Cfg.D,Gt.W,Gt.cells]) (by simp [Ply.cells,Cfg.D,Gt.W,Gt.cells]) (by simp [Ply.cells,Cfg.D,Gt.W,Gt.cells]) ?_
  rintro d H' nx' ⟨rfl,rfl,rfl⟩
  simp [ii]
  exact ⟨_,i + 1,(gr0 [0,4,5,3] hB0 (by simp [Ply.H,Ply.cells,Cfg.D,Gt.W,Gt.cells]) (by simp [Ply.H,Ply.cells,Cfg.D,Gt.W,Gt.cells]) (.inl (by simp [Ply.H,Ply.cells,Cfg.D,Gt.W,Gt.cells]))),by omega,rfl,by omega⟩
 obtain rfl : i = T := by omega
 have hltI : ¬ (i : Int) < p.c.c6 + (p.c.c8 + 1) * p.c.c7 := by omega
 have hR2 := hPR i hi
 clear hPR hqs hq0 hcf
 generalize ticksP p i = q at *
 have hsl := hR2.sl
 have huo := uouts_pf q (by omega) (by have := outs_le hI2.sts;omega)
 have hoo := outs_le hI2.sts
 have hof : ∀ o ∈ outsP q,OutFits o := fun o ho => (hI2.oks o ho).by_.fits
 have htl := tlive_pf (outsP q) (by omega) hof
 have hlv := hI2.live
 rw [hlv,hend] at htl
 unfold liveD at htl
 rw [if_neg (by simp)] at htl
 obtain ⟨P,hP⟩ : ∃ P,P = q.P := ⟨_,rfl⟩
 have hP' := hP
 simp only [Ply.P,Ply.cells,Cfg.D,Gt.W,Gt.cells,List.cons_append,List.nil_append] at hP'
 rw [hend] at hP'
 rw [← hP] at huo
 simp [Cfg.D,i1,i2,i3,hltI]
 simp only [Ply.H,Ply.cells,Cfg.D,Gt.W,Gt.cells,List.cons_append,List.nil_append]
 refine W.freeze [0,1,2,3] ?_
 simp [freeze,hkeep,hdrop,fzS,fzR,fzV,fzC,fzO]
 rw [hend,← hP']
 refine acode_sound [0,1,2,4,5,6,7,8,9,10,34] [] _ _ _ ?_
 generalize outsP q = O at huo htl
 repeat' (first
  | simp [hP']
  | refine ⟨wcS ?_,?_⟩
  | (refine WCall.pf (huo) ?_ ?_ ?_ ?_;iterate 3 (solve|simp [hP']))
  | (refine WCall.pf (htl) ?_ ?_ ?_ ?_;iterate 3 (solve|simp [hP']))
  | with_reducible refine aI ?_ ?_ ?_)
end Go.Proofs.YtibemmkfcjlmpaaGreat
