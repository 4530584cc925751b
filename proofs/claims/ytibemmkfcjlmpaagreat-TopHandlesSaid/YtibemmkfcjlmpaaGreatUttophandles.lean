/- What the program computes, step by step, and the rules for it. No condition of its own. -/
import Derived.Test.YtibemmkfcjlmpaaGreatUae
set_option linter.unusedSimpArgs false
set_option linter.unusedVariables false
set_option maxRecDepth 100000
set_option maxHeartbeats 8000000
namespace Go.Proofs.YtibemmkfcjlmpaaGreat
open Go.RowKit
def delta (o : Outp) (j : Nat) : Int := (if o.kind.toNat = j then 1 else 0) + (if o.kind = 6 ∧ 11 + o.why.toNat = j then 1 else 0)
def cnt (l : List Outp) (j : Nat) : Int := (l.map fun o => delta o j).sum
theorem posF_le (fl : List Flw) (s : Int) : posF fl s ≤ fl.length := lowB_le _ _
theorem insF_len (fl : List Flw) (f : Flw) : (insF fl f).length = fl.length + 1 := by
 have := posF_le fl f.slot
 unfold insF
 simp;omega
structure Fs where
 ph : Nat
 b : Int
 sv : Bool
 ag : Nat
 deriving DecidableEq
def fs0 : Fs := ⟨0,0,false,0⟩
def Fs.bad : Fs := ⟨3,0,false,0⟩
def Fs.step (s : Fs) (o : Outp) : Fs :=
 if o.kind = 1 then (if s.ph = 0 then ⟨1,o.backend,false,0⟩ else .bad)
 else if s.ph ≠ 1 then .bad
 else if o.kind = 3 then s
 else if o.kind = 4 then (if s.sv = true then .bad else { s with sv := true })
 else if o.kind = 5 then (if s.sv = true then .bad else { s with b := o.backend,ag := s.ag + 1 })
 else if o.kind = 6 then (if (s.sv = true ∧ o.why ≠ 1 ∧ o.why ≠ 2) ∨ (s.sv = false ∧ o.why = 1) then .bad else { s with ph := 2 })
 else if o.kind = 7 then { s with ph := 2 } else .bad
def isFl (o : Outp) : Bool := decide (o.kind = 1 ∨ o.kind = 3 ∨ o.kind = 4 ∨ o.kind = 5 ∨ o.kind = 6 ∨ o.kind = 7)
def ofH (slot gen : Int) (o : Outp) : Bool := isFl o && decide (o.slot = slot ∧ o.gen = gen)
def fsOf (log : List Outp) (slot gen : Int) : Fs := (log.filter (ofH slot gen)).foldl Fs.step fs0
theorem fsOf_snoc (log : List Outp) (o : Outp) (slot gen : Int) : fsOf (log ++ [o]) slot gen = if ofH slot gen o = true then (fsOf log slot gen).step o else fsOf log slot gen := by
 unfold fsOf
 rw [List.filter_append,List.foldl_append]
 cases h : ofH slot gen o <;> simp [h]
def HOk (log : List Outp) (g : Gt) (slot gen : Int) : Prop :=
 (∃ f ∈ g.fl,f.slot = slot ∧ f.gen = gen ∧ fsOf log slot gen = ⟨1,f.backend,f.serving,f.tries.toNat⟩) ∨
 ((∀ f ∈ g.fl,¬ (f.slot = slot ∧ f.gen = gen)) ∧ (0 ≤ slot ∧ slot < g.tb.length ∧ 0 ≤ gen ∧ gen < (g.tb.getD slot.toNat tzero).gen) ∧ (fsOf log slot gen).ph = 2 ∧ ((fsOf log slot gen).ag : Int) ≤ g.c.c8) ∨
 ((∀ f ∈ g.fl,¬ (f.slot = slot ∧ f.gen = gen)) ∧ ¬ (0 ≤ slot ∧ slot < g.tb.length ∧ 0 ≤ gen ∧ gen < (g.tb.getD slot.toNat tzero).gen) ∧ fsOf log slot gen = fs0)
def LI (pre : List Outp) (g : Gt) : Prop := ∀ slot gen,HOk (pre ++ g.out) g slot gen
theorem LI.keep {pre : List Outp} {g g' : Gt} (h : LI pre g) (hf : g'.fl = g.fl) (ht : g'.tb = g.tb) (hc : g'.c = g.c) (ho : g'.out = g.out ∨ ∃ o,g'.out = g.out ++ [o] ∧ isFl o = false) : LI pre g' := by
 have hfs : ∀ slot gen,fsOf (pre ++ g'.out) slot gen = fsOf (pre ++ g.out) slot gen := fun slot gen => by
  rcases ho with e | ⟨o,e,hk⟩
  ·rw [e]
  ·rw [e,← List.append_assoc,fsOf_snoc]
   simp [ofH,hk]
 intro slot gen
 have := h slot gen
 unfold HOk at this ⊢
 rw [hfs,hf,ht,hc]
 exact this
theorem LI.put {pre : List Outp} {g : Gt} (h : LI pre g) {o : Outp} (ho : isFl o = false) : LI pre (g.put o) := h.keep rfl rfl rfl (.inr ⟨o,rfl,ho⟩)
theorem LI.note {pre : List Outp} {g : Gt} (h : LI pre g) (b : Int) (failed : Bool) : LI pre (g.note b failed) := h.keep rfl rfl rfl (.inl rfl)
theorem LI.spared {pre : List Outp} {g : Gt} (h : LI pre g) (b : Int) : LI pre (g.spared b) := by
 unfold Gt.spared
 split
 ·exact h.keep rfl rfl rfl (.inr ⟨_,rfl,by simp [isFl,goneO]⟩)
 ·exact h
theorem ofH_self {o : Outp} (h : isFl o = true) : ofH o.slot o.gen o = true := by simp [ofH,h]
theorem ofH_other {o : Outp} {slot gen : Int} (h : ¬ (o.slot = slot ∧ o.gen = gen)) : ofH slot gen o = false := by simp [ofH];intro _;exact fun h1 h2 => h ⟨h1,h2⟩
theorem LI.live {pre : List Outp} {g : Gt} (h : LI pre g) {f : Flw} (hf : f ∈ g.fl) (hs : FlT g.tb g.fl) : fsOf (pre ++ g.out) f.slot f.gen = ⟨1,f.backend,f.serving,f.tries.toNat⟩ := by
 rcases h f.slot f.gen with ⟨f',h1,h2,_,h3⟩ | ⟨h1,_⟩ | ⟨h1,_⟩
 ·rw [h3,hs.uniq h1 hf h2]
 ·exact absurd ⟨rfl,rfl⟩ (h1 f hf)
 ·exact absurd ⟨rfl,rfl⟩ (h1 f hf)
theorem LI.drop {pre : List Outp} {g : Gt} {n : Nat} (h : LI pre g) (hm : Mid g n (-1)) {i : Nat} (hi : i < g.fl.length) {o : Outp}
  (ho : o.kind = 7 ∨ (o.kind = 6 ∧ ((g.fl.getD i default).serving = true → o.why = 1 ∨ o.why = 2) ∧ ((g.fl.getD i default).serving = false → o.why ≠ 1))) : LI pre (g.drop i o) := by
 have hmem := List.getElem_mem hi
 have hg := getD_at default hi
 rw [hg] at ho
 unfold Gt.drop
 refine LI.spared ?_ _
 have hlv := h.live hmem hm.fs
 have hfl := hm.flow hmem
 have htr := (hm.fe _ hmem)
 have hinj := fun {j : Nat} (hj : j < g.fl.length) (hne : j ≠ i) => hm.fs.slot_lt hj hi hne
 intro slot gen
 have hh := h slot gen
 unfold Gt.dropA
 rw [hg]
 obtain ⟨f,hff⟩ : ∃ f,f = g.fl[i] := ⟨_,rfl⟩
 simp only [← hff] at ho hlv hfl htr hmem hinj ⊢
 obtain ⟨o',hoo⟩ : ∃ o' : Outp,o' = { o with slot := f.slot,gen := f.gen,backend := f.backend } := ⟨_,rfl⟩
 rw [← hoo]
 have hk : isFl o' = true := by
  rw [hoo]
  rcases ho with e | ⟨e,_⟩ <;> simp [isFl,e]
 unfold HOk
 simp only
 rw [← List.append_assoc,fsOf_snoc]
 have hnone : ∀ x ∈ g.fl.eraseIdx i,x.slot ≠ f.slot := fun x hx => by
  obtain ⟨j,hj,hji,rfl⟩ := mem_erase hx
  exact hinj hj hji
 by_cases e : f.slot = slot ∧ f.gen = gen
 ·obtain ⟨rfl,rfl⟩ := e
  right;left
  have e1 : ofH f.slot f.gen o' = true := by
   have := ofH_self hk
   rw [hoo] at this ⊢;exact this
  rw [if_pos e1,hlv]
  have hst : (Fs.step ⟨1,f.backend,f.serving,f.tries.toNat⟩ o') = ⟨2,f.backend,f.serving,f.tries.toNat⟩ := by
   have k1 : o'.kind = o.kind := by rw [hoo]
   have k2 : o'.why = o.why := by rw [hoo]
   unfold Fs.step
   rw [k1,k2]
   rcases ho with e | ⟨e,h1,h2⟩
   ·simp [e]
   ·simp [e]
    cases hs : f.serving with
    | true => have := h1 hs;simp;omega
    | false => have := h2 hs;simp [this]
  rw [hst]
  refine ⟨fun x hx hc => hnone x hx hc.1,⟨hfl.1,by simpa using hfl.2.1,hfl.2.2.2.1,?_⟩,rfl,?_⟩
  ·rw [getD_set,if_pos (by omega)];show f.gen < f.gen + 1;omega
  ·have := htr.1;have := htr.2.1
   show ((f.tries.toNat : Nat) : Int) ≤ g.c.c8
   omega
 ·have e1 : ofH slot gen o' = false := ofH_other (by rw [hoo];exact e)
  rw [e1]
  simp only [Bool.false_eq_true,if_false]
  rcases hh with ⟨x,hx,h1,h2,h3⟩ | ⟨h1,h2,h3,h4⟩ | ⟨h1,h2,h3⟩
  ·left
   refine ⟨x,?_,h1,h2,h3⟩
   obtain ⟨j,hj⟩ := zF hx
   obtain ⟨j1,rfl⟩ := zB.1 hj
   refine erase_mem j1 fun hji => e ?_
   subst hji
   rw [hff]
   exact ⟨h1,h2⟩
  ·right;left
   refine ⟨fun x hx => h1 x (List.mem_of_mem_eraseIdx hx),?_,h3,h4⟩
   rw [List.length_set,getD_set]
   split
   ·rename_i hc
    have : slot = f.slot := by omega
    rw [this,hfl.2.2.1] at h2
    exact ⟨by omega,by omega,h2.2.2.1,by show gen < f.gen + 1;have := h2.2.2.2;simp at this;omega⟩
   ·exact h2
  ·right;right
   refine ⟨fun x hx => h1 x (List.mem_of_mem_eraseIdx hx),?_,h3⟩
   rw [List.length_set,getD_set]
   split
   ·rename_i hc
    rintro ⟨q1,q2,q3,q4⟩
    have : slot = f.slot := by omega
    rw [this,hfl.2.2.1] at h2
    have q4 : gen < f.gen + 1 := q4
    exact h2 ⟨by omega,by omega,q3,by show gen < f.gen;have : f.gen ≠ gen := fun e2 => e ⟨by omega,e2⟩;omega⟩
   ·exact h2
theorem set_all {fl : List Flw} {i : Nat} (hi : i < fl.length) {f x : Flw} (hx : x ∈ fl.set i f) : x = f ∨ ∃ j,∃ h : j < fl.length,j ≠ i ∧ fl[j] = x := by
 obtain ⟨j,hj⟩ := zF hx
 obtain ⟨j1,j2⟩ := zB.1 hj
 rw [List.getElem_set] at j2
 split at j2
 ·exact .inl j2.symm
 ·rename_i hne
  simp only [List.length_set] at j1
  exact .inr ⟨j,j1,fun e => hne e.symm,j2⟩
theorem set_has {fl : List Flw} {i : Nat} (hi : i < fl.length) (f : Flw) : f ∈ fl.set i f := zD (i := i) (by rw [List.getElem?_set];simp [hi])
theorem set_keep {fl : List Flw} {i j : Nat} (hj : j < fl.length) (hne : j ≠ i) (f : Flw) : fl[j] ∈ fl.set i f := zD (i := j) (by rw [List.getElem?_set,if_neg (by omega),zE hj])
theorem LI.upd {pre : List Outp} {g g' : Gt} (h : LI pre g) (hs : FlT g.tb g.fl) {i : Nat} (hi : i < g.fl.length) {f : Flw} (e1 : f.slot = g.fl[i].slot) (e2 : f.gen = g.fl[i].gen)
  (hf : g'.fl = g.fl.set i f) (hl : g'.tb.length = g.tb.length) (ht : ∀ s,(g'.tb.getD s tzero).gen = (g.tb.getD s tzero).gen) (hc : g'.c = g.c)
  (ho : (g'.out = g.out ∧ f.backend = g.fl[i].backend ∧ f.serving = g.fl[i].serving ∧ f.tries = g.fl[i].tries) ∨
   ∃ o,g'.out = g.out ++ [o] ∧ o.slot = f.slot ∧ o.gen = f.gen ∧ isFl o = true ∧ Fs.step ⟨1,g.fl[i].backend,g.fl[i].serving,g.fl[i].tries.toNat⟩ o = ⟨1,f.backend,f.serving,f.tries.toNat⟩) : LI pre g' := by
 have hmem := List.getElem_mem hi
 have hlv := h.live hmem hs
 intro slot gen
 have hh := h slot gen
 have hmemf : ∀ x,(∃ y ∈ g'.fl,y.slot = slot ∧ y.gen = gen ∧ y = x) → True := fun _ _ => trivial
 unfold HOk
 rw [hf,hl,ht,hc]
 by_cases e : g.fl[i].slot = slot ∧ g.fl[i].gen = gen
 ·obtain ⟨rfl,rfl⟩ := e
  left
  refine ⟨f,set_has hi f,e1,e2,?_⟩
  rcases ho with ⟨h1,h2,h3,h4⟩ | ⟨o,h1,h2,h3,h4,h5⟩
  ·rw [h1,hlv,h2,h3,h4]
  ·have e5 : ofH g.fl[i].slot g.fl[i].gen o = true := by
    have := ofH_self h4
    rwa [h2,h3,e1,e2] at this
   rw [h1,← List.append_assoc,fsOf_snoc,if_pos e5,hlv,h5]
 ·have hfs : fsOf (pre ++ g'.out) slot gen = fsOf (pre ++ g.out) slot gen := by
   rcases ho with ⟨h1,_⟩ | ⟨o,h1,h2,h3,_⟩
   ·rw [h1]
   ·rw [h1,← List.append_assoc,fsOf_snoc,ofH_other (by rw [h2,h3,e1,e2];exact e)];simp
  rw [hfs]
  have hno : (∀ x ∈ g.fl,¬ (x.slot = slot ∧ x.gen = gen)) → ∀ x ∈ g.fl.set i f,¬ (x.slot = slot ∧ x.gen = gen) := fun h1 x hx => by
   rcases set_all hi hx with rfl | ⟨j,hj,_,rfl⟩
   ·rw [e1,e2];exact e
   ·exact h1 _ (List.getElem_mem hj)
  rcases hh with ⟨x,hx,h1,h2,h3⟩ | ⟨h1,h2,h3⟩ | ⟨h1,h2,h3⟩
  ·left
   obtain ⟨j,hj⟩ := zF hx
   obtain ⟨j1,rfl⟩ := zB.1 hj
   exact ⟨_,set_keep j1 (fun hji => e (by subst hji;exact ⟨h1,h2⟩)) f,h1,h2,h3⟩
  ·exact .inr (.inl ⟨hno h1,h2,h3⟩)
  ·exact .inr (.inr ⟨hno h1,h2,h3⟩)
theorem LI.dueA {pre : List Outp} {g : Gt} {n : Nat} (h : LI pre g) (hm : Mid g n (-1)) {i : Nat} (hi : i < g.fl.length) (z : Int) : LI pre (g.dueA i z) := by
 have hg := getD_at default hi
 refine h.upd hm.fs hi (f := { g.fl.getD i default with due := z }) (by rw [hg]) (by rw [hg]) rfl rfl (fun _ => rfl) rfl (.inl ⟨rfl,?_⟩)
 rw [hg];exact ⟨rfl,rfl,rfl⟩
theorem LI.moved {pre : List Outp} {g : Gt} {n : Nat} (h : LI pre g) (hm : Mid g n (-1)) {i : Nat} (hi : i < g.fl.length) (b tok : Int) (hsv : (g.fl.getD i default).serving = false) : LI pre (g.moved i b tok) := by
 have hg := getD_at default hi
 have hfl := hm.flow (List.getElem_mem hi)
 have htr := hm.fe _ (List.getElem_mem hi)
 rw [hg] at hsv
 refine h.upd hm.fs hi (f := { g.fl.getD i default with backend := b,tries := (g.fl.getD i default).tries + 1,due := g.now + g.c.c7 }) (by rw [hg]) (by rw [hg]) rfl (by simp [Gt.moved]) (fun s => ?_) rfl
  (.inr ⟨_,rfl,rfl,rfl,by simp [isFl],?_⟩)
 ·show ((g.tb.set (g.fl.getD i default).slot.toNat _).getD s tzero).gen = _
  rw [hg,getD_set]
  split
  ·rename_i hc
   rw [hc.1,hfl.2.2.1]
  ·rfl
 ·rw [hg]
  have h1 := htr.1
  have e1 : (g.fl[i].tries + 1).toNat = g.fl[i].tries.toNat + 1 := by omega
  simp [Fs.step,hsv,e1]
theorem LI.taken {pre : List Outp} {g : Gt} {n : Nat} (h : LI pre g) (hm : Mid g n (-1)) {s : Nat} (hs : s < g.tb.length) (hfree : tfree (g.tb.getD s tzero) = true) (key b : Int) : LI pre (g.taken s key b) := by
 unfold tfree at hfree
 rw [Bool.and_eq_true] at hfree
 have hus : (g.tb.getD s tzero).used = false := by simpa using hfree.1
 have hok := hm.tok.2.2 _ (getD_mem (l := g.tb) tzero hs)
 have hno : ∀ x ∈ g.fl,x.slot ≠ (s : Int) := fun x hx e2 => by
  have h1 := hm.fs.at_ x hx
  have : x.slot.toNat = s := by rw [e2];simp
  rw [this] at h1
  rw [h1.2.2] at hus
  cases hus
 intro slot gen
 have hh := h slot gen
 unfold Gt.taken HOk
 simp only
 rw [← List.append_assoc,fsOf_snoc,List.length_set]
 have hgen : ∀ k,((g.tb.set s ⟨(g.tb.getD s tzero).gen,true,key,b⟩).getD k tzero).gen = (g.tb.getD k tzero).gen := fun k => by
  rw [getD_set]
  split
  ·rename_i hc;rw [hc.1]
  ·rfl
 rw [hgen]
 by_cases e : (s : Int) = slot ∧ (g.tb.getD s tzero).gen = gen
 ·obtain ⟨rfl,rfl⟩ := e
  left
  refine ⟨_,insF_mem.2 (.inl rfl),rfl,rfl,?_⟩
  rw [if_pos (by simp [ofH,isFl])]
  rcases hh with ⟨x,hx,h1,_⟩ | ⟨_,h2,_⟩ | ⟨_,_,h3⟩
  ·exact absurd h1 (hno x hx)
  ·rw [Int.toNat_natCast] at h2;omega
  ·rw [h3];simp [Fs.step,fs0]
 ·rw [ofH_other (o := ⟨1,s,(g.tb.getD s tzero).gen,b,0,0,0⟩) e]
  simp only [Bool.false_eq_true,if_false]
  have hno2 : (∀ x ∈ g.fl,¬ (x.slot = slot ∧ x.gen = gen)) → ∀ x ∈ insF g.fl ⟨s,(g.tb.getD s tzero).gen,key,b,false,0,g.now + g.c.c7⟩,¬ (x.slot = slot ∧ x.gen = gen) := fun h1 x hx => by
   rcases insF_mem.1 hx with rfl | hx
   ·exact e
   ·exact h1 x hx
  rcases hh with ⟨x,hx,h1,h2,h3⟩ | ⟨h1,h2,h3⟩ | ⟨h1,h2,h3⟩
  ·exact .inl ⟨x,insF_mem.2 (.inr hx),h1,h2,h3⟩
  ·exact .inr (.inl ⟨hno2 h1,h2,h3⟩)
  ·exact .inr (.inr ⟨hno2 h1,h2,h3⟩)
theorem LI.failed {pre : List Outp} {g : Gt} {n : Nat} (h : LI pre g) (hm : Mid g n (-1)) {i : Nat} (hi : i < g.fl.length) {why : Int} (hw : why ≠ 1) (hsv : (g.fl.getD i default).serving = false) : LI pre (g.failed i why) := by
 have hb := hm.flow (List.getElem_mem hi)
 have hg := getD_at default hi
 have hn := hm.note (g.fl.getD i default).backend (by rw [hg];omega) true
 have hln := h.note (g.fl.getD i default).backend true
 have hd : ∀ w,w ≠ 1 → LI pre ((g.note (g.fl.getD i default).backend true).drop i (resetO w)) := fun w hw => hln.drop hn hi (.inr ⟨rfl,(fun h2 => absurd (hsv.symm.trans h2) (by simp)),fun _ => hw⟩)
 unfold Gt.failed
 simp only
 split
 ·exact hd _ hw
 ·split
  ·exact hd _ (by omega)
  ·split
   ·exact (hln.moved hn hi _ _ hsv).spared _
   ·exact hln.moved hn hi _ _ hsv
theorem LI.off1 {pre : List Outp} {g : Gt} {n : Nat} (h : LI pre g) (hm : Mid g n (-1)) {f0 : Flw} (hf0 : f0 ∈ g.fl) : LI pre (g.off1 f0.slot) := by
 obtain ⟨hi,he,_,hgd⟩ := find_mem hm.fs.so hf0
 unfold Gt.off1
 simp only
 split
 ·rename_i hs
  exact h.drop hm hi (.inr ⟨rfl,fun _ => .inl rfl,fun h2 => by rw [hs] at h2;cases h2⟩)
 ·rename_i hs
  exact h.failed hm hi (by omega) (by simpa using hs)
theorem LI.offs {pre : List Outp} : ∀ (l : List Int) {g : Gt} {n : Nat},LI pre g → Mid g n (-1) → l.Nodup → (∀ s ∈ l,∃ f ∈ g.fl,f.slot = s) → LI pre (g.offs l)
 | [],g,n,h,_,_,_ => h
 | s :: l,g,n,h,hm,hnd,hs => by
  obtain ⟨f0,hf0,rfl⟩ := hs s (by simp)
  obtain ⟨h1,h2,h3,h4⟩ := off1_same hm hf0
  obtain ⟨n1,n2⟩ := List.nodup_cons.1 hnd
  exact LI.offs l (h.off1 hm hf0) h1 n2 fun s hs2 => by
   obtain ⟨f,hf,e⟩ := hs s (List.mem_cons_of_mem _ hs2)
   refine ⟨f,h4 f hf fun e2 => n1 ?_,e⟩
   rw [← e2,e];exact hs2
theorem LI.cut1 {pre : List Outp} : ∀ (l : List Hnd) {g : Gt} {n : Nat},LI pre g → Mid g n (-1) → (l.map (·.1)).Nodup → (∀ h ∈ l,∃ f ∈ g.fl,f.slot = h.1) → LI pre (g.cut1 l)
 | [],g,n,h,_,_,_ => h
 | s :: l,g,n,h,hm,hnd,hs => by
  obtain ⟨f0,hf0,e0⟩ := hs s (by simp)
  obtain ⟨hi,he,_,hgd⟩ := find_mem hm.fs.so hf0
  rw [e0] at hi
  obtain ⟨h1,h2⟩ := drop_same hm hi (resetO 2)
  have hd := hm.drop hi (resetO 2)
  rw [List.map_cons] at hnd
  obtain ⟨n1,n2⟩ := List.nodup_cons.1 hnd
  have hgs : (g.fl.getD (findF g.fl s.1).toNat default).slot = s.1 := by rw [← e0,hgd]
  exact LI.cut1 l (h.drop hm hi (.inr ⟨rfl,fun _ => .inr rfl,fun _ => by show (2 : Int) ≠ 1;omega⟩)) hd n2 fun s2 hs2 => by
   obtain ⟨f,hf,e⟩ := hs s2 (List.mem_cons_of_mem _ hs2)
   exact ⟨f,(h2 f).2 ⟨hf,fun e2 => n1 (List.mem_map.2 ⟨s2,hs2,by omega⟩)⟩,e⟩
theorem LI.cuts {pre : List Outp} : ∀ (l : List Lif) {g : Gt} {n : Nat},LI pre g → Mid g n (-1) → LI pre (g.cuts l)
 | [],g,n,h,_ => h
 | x :: l,g,n,h,hm => by
  unfold Gt.cuts
  split
  ·exact LI.cuts l h hm
  ·exact LI.cuts l (h.cut1 _ hm (ofL_nodup _ _) (ofL_flows hm _)) (cut1_mid hm _)
theorem LI.tick {pre : List Outp} {g : Gt} {n : Nat} (h : LI pre g) (hr : Rest g n) (hn : n + 1 ≤ 1000000) : LI pre g.tick := by
 obtain ⟨hnd,hoff⟩ := off_flows hr.mid
 have h0 : LI pre g.tick0 := h.keep rfl rfl rfl (.inl rfl)
 unfold Gt.tick
 exact LI.cuts _ (h0.offs (offM g) (hr.tick0 hn) hnd fun s hs => by
  obtain ⟨f,hf,_,e⟩ := (hoff s).1 hs
  exact ⟨f,hf,e⟩) (hr.offed hn).1
theorem LI.opened {pre : List Outp} {g : Gt} {n : Nat} (h : LI pre g) (hm : Mid g n (-1)) (key : Int) : LI pre (g.opened key) := by
 unfold Gt.opened
 split
 ·exact h.put (by simp [isFl])
 ·rename_i hf
  obtain ⟨h1,h2,_⟩ := free_at hf
  split
  ·exact h.put (by simp [isFl])
  ·exact h.taken hm h1 h2 _ _
theorem LI.asked {pre : List Outp} {g : Gt} (h : LI pre g) (e : Evt) : LI pre (g.ask e) := by
 unfold Gt.ask
 simp only
 have h1 : ∀ L R o ws,isFl o = false → LI pre { g with L := L,R := R,ws := ws,out := g.out ++ [o] } := fun L R o ws ho => h.keep rfl rfl rfl (.inr ⟨o,rfl,ho⟩)
 split
 ·exact h1 _ _ _ g.ws (by simp [isFl])
 ·split
  ·exact (h1 _ _ _ g.ws (by simp [isFl])).put (by simp [isFl,goneO])
  ·exact (h1 _ _ _ _ (by simp [isFl])).spared _
theorem LI.flowed {pre : List Outp} {g : Gt} {n : Nat} (h : LI pre g) (hm : Mid g n (-1)) (e : Evt) : LI pre (g.flow e) := by
 unfold Gt.flow
 split
 ·exact h.put (by simp [isFl])
 ·rename_i hg
  obtain ⟨f,hf,e1,e2⟩ := hm.fs.got (Decidable.not_not.1 hg)
  obtain ⟨hi,he,_,hgd⟩ := find_mem hm.fs.so hf
  simp only
  rw [← e1,← e2]
  have hgi := getD_at default hi
  rw [hgi] at hgd
  split
  ·exact h.drop hm hi (.inl rfl)
  ·split
   · -- data: one output of a live flow
    have hfwd : ∀ g1 : Gt,LI pre g1 → FlT g1.tb g1.fl → (∃ f' ∈ g1.fl,f'.slot = f.slot ∧ f'.gen = f.gen) → ∀ b,LI pre (g1.put ⟨3,f.slot,f.gen,b,0,0,0⟩) := fun g1 hl hs ⟨f',hf',e3,e4⟩ b => by
     obtain ⟨j,hj⟩ := zF hf'
     obtain ⟨j1,rfl⟩ := zB.1 hj
     refine hl.upd hs j1 (f := g1.fl[j]) rfl rfl ?_ rfl (fun _ => rfl) rfl (.inr ⟨_,rfl,e3.symm,e4.symm,by simp [isFl],by simp [Fs.step]⟩)
     exact (List.set_getElem_self _).symm
    split
    ·rename_i hs
     have hd := h.dueA hm hi (g.now + g.c.c6)
     have h6 := hm.c.w6
     have hmd := hm.dueA (z := g.now + g.c.c6) hi (by omega) (by rw [hs];simp)
     exact hfwd _ hd hmd.fs ⟨_,set_has hi _,by rw [hgi,hgd],by rw [hgi,hgd]⟩ _
    ·exact hfwd _ h hm.fs ⟨f,hf,rfl,rfl⟩ _
   ·split
    ·exact h.put (by simp [isFl])
    ·rename_i hs
     have hs : (g.fl.getD (findF g.fl f.slot).toNat default).serving = false := by simpa using hs
     split
     ·have hsd := served_due g _ hi (g.fl.getD (findF g.fl f.slot).toNat default).backend (g.now + g.c.c6) false
      refine h.upd hm.fs hi (f := { g.fl.getD (findF g.fl f.slot).toNat default with serving := true,due := g.now + g.c.c6 }) (by rw [hgi]) (by rw [hgi]) hsd.1 rfl (fun _ => rfl) rfl (.inr ⟨_,rfl,?_,?_,by simp [isFl],?_⟩)
      ·show f.slot = _;rw [hgi,hgd]
      ·show f.gen = _;rw [hgi,hgd]
      ·rw [hgi] at hs ⊢
       simp [Fs.step,hs]
     ·exact h.failed hm hi (by omega) hs
theorem LI.step {pre : List Outp} {g : Gt} {n : Nat} (h : LI pre g) (hr : Rest g n) (e : Evt) (hn : n + 1 ≤ 1000000) : LI pre (g.step e) := by
 unfold Gt.step
 split
 ·exact h.opened hr.mid _
 ·split
  ·exact h.asked e
  ·split
   ·exact h.tick hr hn
   ·exact h.flowed hr.mid e
theorem LI.begin (c : Cfg) : LI [] (begM c) := by
 intro slot gen
 refine .inr (.inr ⟨by simp [begM],?_,rfl⟩)
 rintro ⟨h1,h2,h3,h4⟩
 have : ((begM c).tb.getD slot.toNat tzero) = tzero := by
  show (List.replicate c.slots.toNat tzero).getD _ _ = _
  rw [zC,List.getElem?_replicate];split <;> rfl
 rw [this] at h4
 simp [tzero] at h4
 omega
theorem kN_ask {l : List Outp} (h : ∀ o ∈ l,o.kind = 8 ∨ o.kind = 9) (k : Int) (hk : k ≠ 8 ∧ k ≠ 9) : kN k l = 0 := List.countP_eq_zero.2 fun o ho => by have := h o ho;simp;omega
theorem kN_one {l : List Outp} (h : ∀ o ∈ l,o.kind ≠ 1) : kN 1 l = 0 := List.countP_eq_zero.2 fun o ho => by have := h o ho;simp;omega
theorem P_outputs {g : Gt} {n : Nat} (h : Rest g n) (h0 : g.out = []) {e : Evt} (he : EvtOk e) (hn : n + 1 ≤ 1000000) : (g.step e).fl.length + kN 6 (g.step e).out + kN 7 (g.step e).out = g.fl.length + kN 1 (g.step e).out := by
 cases step_kd h e hn with
 | full _ _ h => rw [h];simp [Gt.put,kN,h0]
 | busy _ _ _ h => rw [h];simp [Gt.put,kN,h0]
 | taken _ _ _ h => rw [h];simp [Gt.taken,kN,h0,insF_len]
 | ask _ h2 =>
  obtain ⟨a1,a2,a3,a4,a5,_,_,l,a6,a7⟩ := ask_same h.mid he
  rw [h2,a1,a6,h0,List.nil_append,kN_ask a7 6 (by omega),kN_ask a7 7 (by omega),kN_ask a7 1 (by omega)]
 | tick o _ h1 h2 =>
  have e1 : (g.step e).out = o := by rw [h2.out];show g.out ++ o = o;rw [h0];rfl
  rw [e1,kN_one h2.kd]
  exact h2.len
 | flow l _ _ h2 =>
  have e1 : (g.step e).out = l := by rw [h2.out,h0];rfl
  rw [e1,kN_one h2.kd]
  exact h2.len
theorem step_ok {g : Gt} {n : Nat} (h : Rest g n) (h0 : g.out = []) {e : Evt} (he : EvtOk e) (hn : n + 1 ≤ 1000000) : ∀ o ∈ (g.step e).out,OOk o := by
 intro o ho
 have hs := step_kd h e hn
 generalize g.step e = g' at ho hs
 have hz : ∀ k c : Int,1 ≤ k → k ≤ 10 → OOk ⟨k,0,0,0,0,c,0⟩ := fun k c k0 k1 => ⟨k0,k1,by simp,by simp,by simp,by simp,by simp,by simp,by simp,by simp⟩
 have h40 := h.mid.tok.2.1
 cases hs with
 | full _ _ h => rw [h] at ho;simp [Gt.put,h0] at ho;subst ho;exact hz 2 9 (by omega) (by omega)
 | busy _ _ _ h => rw [h] at ho;simp [Gt.put,h0] at ho;subst ho;exact hz 2 11 (by omega) (by omega)
 | taken _ hf hp h2 =>
  obtain ⟨f1,f2,f3⟩ := free_at hf
  rw [h2] at ho
  have ho : o ∈ g.out ++ [(⟨1,((freeZ g.tb).toNat : Nat),(g.tb.getD (freeZ g.tb).toNat tzero).gen,(pickG g e.key (-1)).1,0,0,0⟩ : Outp)] := ho
  rw [h0,List.nil_append] at ho
  have ho := List.mem_singleton.1 ho
  subst ho
  have hpk := h.mid.pickedB (.inl (by omega)) hp
  have hg := h.mid.tok.2.2 _ (getD_mem (l := g.tb) tzero f1)
  have hg0 := hg.1
  unfold tfree at f2
  rw [Bool.and_eq_true] at f2
  have hg1 : (g.tb.getD (freeZ g.tb).toNat tzero).gen < 1048576 := by simpa using f2.2
  exact ⟨by simp,by simp,by simp,by simp,by show (0 : Int) ≤ ((freeZ g.tb).toNat : Nat);omega,by show (((freeZ g.tb).toNat : Nat) : Int) < 40;omega,hg0,by show (g.tb.getD (freeZ g.tb).toNat tzero).gen ≤ _;omega,hpk.2.1,hpk.2.2⟩
 | ask _ h2 =>
  have hb0 := he.2.2.2.2.2.2.1
  have hb1 := he.2.2.2.2.2.2.2.1
  have h8 : ∀ r c : Int,OOk ⟨8,0,0,0,r,c,0⟩ := fun r c => ⟨by simp,by simp,by simp,by simp,by simp,by simp,by simp,by simp,by simp,by simp⟩
  have h9 : ∀ r : Int,OOk (goneO e.backend r) := fun r => ⟨by simp [goneO],by simp [goneO],by simp [goneO],by simp [goneO],by simp [goneO],by simp [goneO],by simp [goneO],by simp [goneO],hb0,hb1⟩
  rw [h2] at ho
  unfold Gt.ask at ho
  simp only [h0,List.nil_append] at ho
  split at ho
  ·rw [List.mem_singleton.1 ho];exact h8 _ _
  ·split at ho
   ·simp only [Gt.put,List.singleton_append,List.mem_cons,List.not_mem_nil,or_false] at ho
    rcases ho with rfl | rfl
    ·exact h8 _ _
    ·exact h9 _
   ·unfold Gt.spared at ho
    split at ho
    ·simp only [List.singleton_append,List.mem_cons,List.not_mem_nil,or_false] at ho
     rcases ho with rfl | rfl
     ·exact h8 _ _
     ·exact h9 _
    ·rw [List.mem_singleton.1 ho];exact h8 _ _
 | tick l h7 h1 h2 =>
  have e1 : g'.out = l := by rw [h2.out];show g.out ++ l = l;rw [h0];rfl
  rw [e1] at ho
  exact h2.ok o ho
 | flow l _ _ h2 =>
  have e1 : g'.out = l := by rw [h2.out,h0];rfl
  rw [e1] at ho
  exact h2.ok o ho
def outsP (p : Ply) : List Outp := (p.steps.map (·.out)).flatten
structure PInv (p : Ply) (k : Nat) : Prop where
 rest : Rest p.last k
 lo : p.last.out = []
 cfg : p.last.c = p.c
 li : LI (outsP p) p.last
 giv : p.given = accM (outsP p)
 sts : ∀ s ∈ p.steps,StpOk p.c s k
 cnt : p.last.fl.length + kN 6 (outsP p) + kN 7 (outsP p) = kN 1 (outsP p)
 oks : ∀ o ∈ outsP p,OOk o
theorem outsP_act (p : Ply) (e : Evt) : outsP (p.act e) = outsP p ++ (p.last.step e).out := by simp [outsP,Ply.act]
theorem accM_app (a b : List Outp) : accM (a ++ b) = accM a ++ accM b := by simp [accM]
theorem PInv.act {p : Ply} {k : Nat} (h : PInv p k) {e : Evt} (he : EvIn e) (hk : k + 1 ≤ 1000000) : PInv (p.act e) (k + 1) := by
 have hs := h.rest.step he.ok hk
 have hli : LI (outsP p ++ (p.last.step e).out) (p.last.step e).clean := by
  have := LI.step h.li h.rest e hk
  intro slot gen
  have h2 := this slot gen
  unfold HOk Gt.clean at *
  simp only [List.append_nil]
  exact h2
 refine ⟨⟨{ hs.mid with },hs.late,hs.dr⟩,rfl,?_,?_,?_,?_,?_,?_⟩
 ·show (p.last.step e).c = p.c
  rw [step_c h.rest he.ok hk,h.cfg]
 ·rw [outsP_act];exact hli
 ·show p.given ++ accM _ = _
  rw [outsP_act,accM_app,h.giv]
 ·intro s hs2
  rcases List.mem_append.1 hs2 with hs2 | hs2
  ·have := h.sts s hs2
   obtain ⟨n,hn,hr⟩ := this.ex
   exact { this with ex := ⟨n,by omega,hr⟩,kk := hk }
  ·rw [List.mem_singleton.1 hs2]
   exact ⟨he,⟨k,Nat.le_refl _,h.rest⟩,hk,h.lo,h.cfg,rfl,rfl⟩
 ·have h1 := P_outputs h.rest h.lo he.ok hk
  have h2 := h.cnt
  show (p.last.step e).fl.length + _ + _ = _
  rw [outsP_act,kN_app,kN_app,kN_app]
  omega
 ·rw [outsP_act]
  intro o ho
  rcases List.mem_append.1 ho with ho | ho
  ·exact h.oks o ho
  ·exact step_ok h.rest h.lo he.ok hk o ho
theorem play0_inv {c : Cfg} (h : c.Ok) : PInv (play0 c) 0 := ⟨beg_rest h,rfl,rfl,LI.begin c,rfl,by simp [play0],rfl,by simp [outsP,play0]⟩
theorem play4_inv {c : Cfg} (h : c.Ok) : PInv (play4 c) 4 :=
 ((((play0_inv h).act (join_in (by omega) (by omega) (by omega) (by omega) (by omega) (by omega)) (by omega)).act (join_in (by omega) (by omega) (by omega) (by omega) (by omega) (by omega)) (by omega)).act
  (join_in (by omega) (by omega) (by omega) (by omega) (by omega) (by omega)) (by omega)).act tick_in (by omega)
theorem step_ph (s : Fs) (o : Outp) : (s.step o).ph ≠ 0 := by
 unfold Fs.step Fs.bad
 repeat' split
 all_goals first | omega | (simp;omega) | simp_all
theorem fold_ph : ∀ (l : List Outp) (s : Fs),l ≠ [] → (l.foldl Fs.step s).ph ≠ 0
 | [],s,h => absurd rfl h
 | [o],s,_ => step_ph s o
 | o :: o2 :: l,s,_ => fold_ph (o2 :: l) (s.step o) (by simp)
theorem LI.range {pre : List Outp} {g : Gt} {n : Nat} (h : LI pre g) (hm : Mid g n (-1)) {slot gen : Int} (hp : (fsOf (pre ++ g.out) slot gen).ph ≠ 0) : 0 ≤ slot ∧ slot < g.tb.length ∧ 0 ≤ gen ∧ gen < 1048576 := by
 rcases h slot gen with ⟨f,hf,rfl,rfl,_⟩ | ⟨_,h2,_⟩ | ⟨_,_,h3⟩
 ·have := hm.flow hf
  exact ⟨this.1,this.2.1,this.2.2.2.1,this.2.2.2.2.1⟩
 ·have := hm.gens _ (getD_mem (l := g.tb) tzero (j := slot.toNat) (by omega))
  have hnn := hm.nn
  refine ⟨h2.1,h2.2.1,h2.2.2.1,?_⟩
  have : (g.tb.getD slot.toNat tzero).gen ≤ n := by split at this <;> omega
  omega
 ·rw [h3] at hp;exact absurd rfl hp
theorem acc_ph {log : List Outp} {o : Outp} (ho : o ∈ log) (hk : o.kind = 1) : (fsOf log o.slot o.gen).ph ≠ 0 := by
 unfold fsOf
 refine fold_ph _ _ fun h => ?_
 have : o ∈ log.filter (ofH o.slot o.gen) := List.mem_filter.2 ⟨ho,by simp [ofH,isFl,hk]⟩
 rw [h] at this;cases this
theorem PInv.given {p : Ply} {k : Nat} (h : PInv p k) {x : Int × Int} (hx : x ∈ p.given) : 0 ≤ x.1 ∧ x.1 ≤ 39 ∧ 0 ≤ x.2 ∧ x.2 ≤ 1048576 ∧ (fsOf (outsP p) x.1 x.2).ph ≠ 0 := by
 rw [h.giv] at hx
 obtain ⟨o,ho,rfl⟩ := List.mem_map.1 hx
 obtain ⟨h1,h2⟩ := List.mem_filter.1 ho
 have hp := acc_ph h1 (by simpa using h2)
 have := h.li.range h.rest.mid (slot := o.slot) (gen := o.gen) (by rw [h.lo,List.append_nil];exact hp)
 have h40 := h.rest.mid.tok.2.1
 exact ⟨this.1,by show o.slot ≤ 39;omega,this.2.2.1,by show o.gen ≤ _;omega,hp⟩
theorem PInv.hand {p : Ply} {k : Nat} (h : PInv p k) (a b c : Int) : 0 ≤ (handP p a b c).1 ∧ (handP p a b c).1 ≤ 39 ∧ 0 ≤ (handP p a b c).2 ∧ (handP p a b c).2 ≤ 1048576 := by
 unfold handP
 split
 ·rename_i hc
  have hq := pickedZ_range a (min (p.given.length : Int) 8) (by omega)
  have hm : p.given.getD (p.given.length - 1 - (pickedZ a (min (p.given.length : Int) 8)).toNat) (0,0) ∈ p.given := getD_mem _ (by omega)
  have := h.given hm
  exact ⟨this.1,this.2.1,this.2.2.1,this.2.2.2.1⟩
 ·have h1 := pickedZ_range a 8 (by omega)
  have h2 := pickedZ_range b 3 (by omega)
  exact ⟨h1.1,by show pickedZ a 8 ≤ 39;omega,h2.1,by show pickedZ b 3 ≤ _;omega⟩
theorem PInv.event {p : Ply} {k : Nat} (h : PInv p k) (x a b c : Int) : EvIn (eventP p x a b c) := by
 obtain ⟨h1,h2,h3,h4⟩ := h.hand a b c
 have q1 := pickedZ_range a 100 (by omega)
 have q2 := pickedZ_range a 30 (by omega)
 have q3 := pickedZ_range b 5 (by omega)
 have q4 := pickedZ_range c 8 (by omega)
 have z : ∀ P : Prop,P → P := fun _ h => h
 unfold eventP
 simp only
 split
 ·exact ⟨⟨by simp [evOpen],by simp [evOpen],q1.1,by show pickedZ a 100 ≤ _;omega,by simp [evOpen],by simp [evOpen],by simp [evOpen],by simp [evOpen],by simp [evOpen]⟩,by simp [evOpen],by simp [evOpen],by simp [evOpen],by simp [evOpen]⟩
 ·split
  ·exact ⟨⟨by simp [evData],by simp [evData],by simp [evData],by simp [evData],by simp [evData],by simp [evData],by simp [evData],by simp [evData],by simp [evData]⟩,h1,h2,h3,h4⟩
  ·split
   ·exact ⟨⟨by simp [evClose],by simp [evClose],by simp [evClose],by simp [evClose],by simp [evClose],by simp [evClose],by simp [evClose],by simp [evClose],by simp [evClose]⟩,h1,h2,h3,h4⟩
   ·split
    ·exact ⟨⟨by simp [evAns],by simp [evAns],by simp [evAns],by simp [evAns],by simp [evAns],by simp [evAns],by simp [evAns],by simp [evAns],by simp [evAns]⟩,h1,h2,h3,h4⟩
    ·split
     ·exact join_in q2.1 (by omega) q3.1 (by omega) (by omega) (by omega)
     ·split
      ·exact ⟨⟨by simp [evRet],by simp [evRet],by simp [evRet],by simp [evRet],q2.1,by show pickedZ a 30 ≤ _;omega,q3.1,by show pickedZ b 5 < 12;omega,by simp [evRet]⟩,by simp [evRet],by simp [evRet],by simp [evRet],by simp [evRet]⟩
      ·exact tick_in
theorem deeds_inv : ∀ (l : List (List Int)) {p : Ply} {k : Nat},PInv p k → k + l.length ≤ 1000000 → PInv (deedsM p l) (k + l.length)
 | [],p,k,h,_ => h
 | d :: l,p,k,h,hk => by
  simp only [List.length_cons] at hk
  have := deeds_inv l (h.act (h.event (d.getD 0 0) (d.getD 1 0) (d.getD 2 0) (d.getD 3 0)) (by omega)) (by omega)
  have e : k + 1 + l.length = k + (l.length + 1) := by omega
  rw [e] at this
  exact this
theorem played_inv {c : Cfg} (h : c.Ok) (l : List (List Int)) (most : Nat) (hm : most ≤ 100) : PInv (playedM c l most) (4 + (l.take most).length) :=
 deeds_inv _ (play4_inv h) (by rw [List.length_take];omega)
theorem bad_step (s : Fs) (o : Outp) (h : s.ph = 3) : (s.step o).ph = 3 := by
 unfold Fs.step Fs.bad
 rw [if_neg (by omega : ¬ s.ph = 0),if_pos (by omega : s.ph ≠ 1)]
 split <;> rfl
theorem bad_fold : ∀ (l : List Outp) (s : Fs),s.ph = 3 → (l.foldl Fs.step s).ph = 3
 | [],s,h => h
 | o :: l,s,h => bad_fold l _ (bad_step s o h)
theorem fsOf_pre {a b : List Outp} {slot gen : Int} (h : (fsOf (a ++ b) slot gen).ph ≠ 3) : (fsOf a slot gen).ph ≠ 3 := fun h3 => h (by
 unfold fsOf at h3 ⊢
 rw [List.filter_append,List.foldl_append]
 exact bad_fold _ _ h3)
theorem acc_nodup : ∀ (l pre : List Outp),(∀ s g,(fsOf (pre ++ l) s g).ph ≠ 3) → (accM pre).Nodup → (accM (pre ++ l)).Nodup
 | [],pre,_,h => by simpa using h
 | o :: l,pre,hb,h => by
  have e : pre ++ o :: l = (pre ++ [o]) ++ l := by simp
  rw [e] at hb ⊢
  refine acc_nodup l (pre ++ [o]) hb ?_
  rw [accM_app,List.nodup_append]
  refine ⟨h,?_,fun x hx y hy e2 => ?_⟩
  ·unfold accM
   by_cases hk : o.kind = 1 <;> simp [hk]
  ·subst e2
   obtain ⟨o1,ho1,e1⟩ := List.mem_map.1 hx
   obtain ⟨o2,ho2,e3⟩ := List.mem_map.1 hy
   obtain ⟨m1,m2⟩ := List.mem_filter.1 ho1
   obtain ⟨m3,m4⟩ := List.mem_filter.1 ho2
   have m3 := List.mem_singleton.1 m3
   subst m3
   have k1 : o1.kind = 1 := by simpa using m2
   have k2 : o2.kind = 1 := by simpa using m4
   have hp := acc_ph m1 k1
   rw [← e1] at e3
   simp only [Prod.mk.injEq] at e3
   rw [← e3.1,← e3.2] at hp
   refine fsOf_pre (hb o2.slot o2.gen) ?_
   rw [fsOf_snoc,if_pos (ofH_self (by simp [isFl,k2]))]
   unfold Fs.step Fs.bad
   rw [if_pos k2,if_neg hp]
theorem LI.good {pre : List Outp} {g : Gt} (h : LI pre g) (s gn : Int) : (fsOf (pre ++ g.out) s gn).ph ≠ 3 := by
 rcases h s gn with ⟨f,_,_,_,h3⟩ | ⟨_,_,h3,_⟩ | ⟨_,_,h3⟩
 ·rw [h3];simp
 ·rw [h3];simp
 ·rw [h3];simp [fs0]
theorem PInv.good {p : Ply} {k : Nat} (h : PInv p k) (s g : Int) : (fsOf (outsP p) s g).ph ≠ 3 := by
 have := h.li.good s g
 rwa [h.lo,List.append_nil] at this
theorem PInv.handles {p : Ply} {k : Nat} (h : PInv p k) : p.given.Nodup := by
 rw [h.giv]
 have := acc_nodup (outsP p) [] (by simpa using h.good) (by simp [accM])
 simpa using this
end Go.Proofs.YtibemmkfcjlmpaaGreat
namespace Go.Proofs.YtibemmkfcjlmpaaGreat
open Go.RowKit
attribute [local simp] AK_at acode_seq acode_region acode_draw acode_cond CB_u acode_block acode_loop acode_exit acode_scope acode_ret acode_skip seqQ_n seqQ_e seqQ_r blockQ_n blockQ_e blockQ_r TK_at OK_at SK_at aops_nil aops_cons asch_done asch_one asch_two asch_top astep aop_eq isLoud aloud aloud1 isWrite qv evS strip gof eget hget putO eput herase oks opnds gS afin afin0 binD arith D.cells takeD fillD keep trim envOf Fin aresl aresv resD argOk pickV isP deq deqs boundD slD lenD isT isSl ptrIds chunks mn_min mx_max splice_one splice_more Rbr_at Rfr_at frR frV frC flatC brwR brwV brwC omap leR leV leC leL leVL rnR rnV rnC rnO rho_0 hputs herases rnS LtS LtR LtV LtC LtO lget noV noC flatR flatV rho
attribute [local simp ↓] CB_t CB_f
theorem thand_code : cfun Tryz.prog [] 5 = some ⟨(.seq (qR 0 [oB 2 0,oX 4 (.mov (.k qF))]) (.seq (qR 1 [oA 10 16 2,oM 11 1,oX 12 (.call 23 [(.t 10),(.t 11),(kI 60)]),oM 9 12,oE 13 9 0,oE 14 9 1,oM 5 13,oM 6 14]) (.seq (.seq (qR 2 [oK 7 0]) (.block 0 (.loop (.seq (.seq (qR 3 [oM 15 7,oM 16 5,oN 17 16,oF 18 43 17,oL 19 1 18,oH 20 19,oX 21 (.bin .lss (.t 15) (.t 20))]) (.cond 21 .skip (.exit 0))) (.seq (.block 1 (.seq (qR 5 [oK 8 0]) (.block 2 (.loop (.seq (.seq (qR 6 [oM 24 8,oM 25 7,oX 26 (.bin .lss (.t 24) (.t 25))]) (.cond 26 .skip (.exit 2))) (.seq (.block 3 (.seq (.draw 8 (qN (oM 29 5) (qN (oN 30 29) (qN (oF 31 43 30) (qN (oL 32 1 31) (qN (oM 33 7) (qN (oI 34 2 32 33) (qN (oA 35 2 34) (qN (oM 36 5) (qN (oN 37 36) (qN (oF 38 43 37) (qN (oL 39 1 38) (qN (oM 40 8) (qN (oI 41 2 39 40) (qN (oA 42 2 41) (qN (oX 43 (.eqa false [.i,.i] (.t 35) (.t 42))) .done)))))))))))))))) (.cond 43 (.seq (qR 9 [oX 4 (.mov (.k qF))]) .ret) .skip))) (qR 7 [oM 27 8,oX 28 (.bin .add (.t 27) (kI 1)),oM 8 28]))))))) (qR 4 [oM 22 7,oX 23 (.bin .add (.t 22) (kI 1)),oM 7 23])))))) (.seq (qR 10 [oM 44 6,oM 4 44]) .ret)))),[(.t 4)],45⟩ := by kernel_rfl
theorem thand_pf (s : List Int) (l : List (List Int)) (hs : s.length = 16 ∧ ∀ z ∈ s,InR z) (hl : l.length ≤ Go.maxLen) (hr : ∀ r ∈ l,r.length = 4 ∧ ∀ z ∈ r,InR z) :
  PF Tryz.prog 5 [.agg (s.map I),.rows 4 (l.map fun r => r.map I)] (.bool true) := by
 obtain ⟨c,hc,_,hpl⟩ := played_hf s l 60 hs hl hr (by omega)
 obtain ⟨a0,a1,a2,a3,a4,a5,a6,a7,a8,a9,a10,a11,a12,a13,a14,a15,rfl⟩ := sixteen hs.1
 have hinv := played_inv hc l 60 (by omega)
 have hnd := hinv.handles
 have hgl : (playedM c l 60).given.length ≤ 1000000 := by
  have := (deeds_PR (play4_PR hc) (l.take 60) (l.take 60).length (Nat.le_refl _) (by rw [List.length_take];omega)).gl
  rw [List.take_length] at this
  rw [List.length_take] at this
  unfold playedM;omega
 generalize playedM c l 60 = p at *
 clear hinv hc
 obtain ⟨P,hP⟩ : ∃ P,P = p.P := ⟨_,rfl⟩
 have hP' := hP
 simp only [Ply.P,Ply.cells,Cfg.D,Gt.W,Gt.cells,List.cons_append,List.nil_append] at hP'
 simp only [Ply.H,Ply.cells,Cfg.D,Gt.W,Gt.cells,List.cons_append,List.nil_append] at hpl
 refine pO thand_code [0,1,2,4,5,6,7,8,21,26,43] [2] fun B hBN hB0 => ?_
 simp
 refine WCall.hf0 hpl (by simp) (by simp) (by simp) (by simp) ?_
 rintro d H' nx' ⟨rfl,rfl,rfl⟩
 simp
 refine W.freeze [1,2,3] ?_
 simp [freeze,hkeep,hdrop,fzS,fzR,fzV,fzC,fzO]
 rw [← hP']
 refine acode_sound [0,1,2,4,5,6,7,8,21,26,43] [] _ _ _ ?_
 simp
 refine W.loopS (fun y : Nat => ⟨[(7,I y),(6,.bool true),(5,.pc P)],[],0⟩)
  (fun m i => m = p.given.length - i ∧ i ≤ p.given.length) ?_ ?_
 ·exact ⟨_,0,(gr0 [] hB0 (by simp) (by simp) (.inr rfl)),rfl,by omega⟩
 rintro m i ⟨hm,hi⟩
 refine acode_sound [0,1,2,4,5,6,7,8,21,26,43] [] _ _ _ ?_
 by_cases hlt : i < p.given.length
 ·have ii : InR ((i : Int) + 1) := inW (by omega) (by omega)
  simp [hP',hlt]
  rw [← hP']
  refine W.loopS (fun y : Nat => ⟨[(8,I y),(7,I i),(6,.bool true),(5,.pc P)],[],0⟩)
   (fun m k => m = i - k ∧ k ≤ i) ?_ ?_
  ·exact ⟨_,0,(gr0 [] hB0 (by simp) (by simp) (.inr rfl)),rfl,by omega⟩
  rintro m2 k ⟨hm2,hk⟩
  refine acode_sound [0,1,2,4,5,6,7,8,21,26,43] [] _ _ _ ?_
  by_cases hlt2 : k < i
  ·have ik : InR ((k : Int) + 1) := inW (by omega) (by omega)
   have hkl : k < p.given.length := by omega
   have hne : p.given[i] ≠ p.given[k] := fun e => List.pairwise_iff_getElem.1 hnd k i hkl hlt hlt2 e.symm
   obtain ⟨u,hu⟩ : ∃ u,u = p.given[i] := ⟨_,rfl⟩
   obtain ⟨v,hv⟩ : ∃ v,v = p.given[k] := ⟨_,rfl⟩
   rw [← hu,← hv] at hne
   by_cases e1 : u.1 = v.1
   ·have e2 : ¬ u.2 = v.2 := fun e2 => hne (Prod.ext e1 e2)
    simp [hP',hlt,hlt2,hkl,← hu,← hv,hdE,e1,e2,ik]
    rw [← hP']
    exact ⟨_,k + 1,(gr0 [] hB0 (by simp) (by simp) (.inr rfl)),by omega,rfl,by omega⟩
   ·simp [hP',hlt,hlt2,hkl,← hu,← hv,hdE,e1,ik]
    rw [← hP']
    exact ⟨_,k + 1,(gr0 [] hB0 (by simp) (by simp) (.inr rfl)),by omega,rfl,by omega⟩
  ·obtain rfl : k = i := by omega
   simp [ii]
   exact ⟨_,k + 1,(gr0 [] hB0 (by simp) (by simp) (.inr rfl)),by omega,rfl,by omega⟩
 ·obtain rfl : i = p.given.length := by omega
  simp [hP']
end Go.Proofs.YtibemmkfcjlmpaaGreat
