/- What the program computes, step by step, and the rules for it. No condition of its own. -/
import Derived.Test.YtbhcfldafpndbaaDoorLaa
import Derived.OrdersHeld
import Derived.Deep.RegionHeld
import Derived.Scope
import Derived.KernelRfl
import Derived.Deep.AppendLies
import Derived.Deep.OwnShut
import Derived.Deep.Slices
import Derived.Deep.Onto
import Derived.Laws.AppendOwnNone
import Derived.Maps.Keyed
import Derived.Maps.RangeRun
import Derived.MapKept
import Derived.RangeFuncBox
import Derived.StillTailTactics
import Derived.OrdersIn
import Derived.RangeFuncNested
import Derived.RangeFuncLeaves
import Derived.RangeFuncCalls
import Derived.OwnWalkIn
import Derived.Test.YtbhcfldafpndbaaDoorProg
import Derived.Lib.Split
import Derived.Lib.AtoiAll
import Derived.Lib.ItoaNum
import Derived.Lib.ItoaLen
import Derived.Shelf.Strings.Prefix
import Derived.Shelf.Small.Strs
import Derived.Shelf.Strings.BuilderK
import Derived.Shelf.Strings.SplitShaped
import Derived.Shelf.Strconv.AtoiAll
import Derived.Shelf.Strconv.Itoa3
import Derived.WalkKit
import Derived.Lib.Hide
set_option linter.unusedSimpArgs false
set_option linter.unusedVariables false
set_option maxRecDepth 100000
set_option maxHeartbeats 8000000
namespace Go.Proofs.YtbhcfldafpndbaaDoor
open Go.RowKit
def rnC (ρ : Nat → Nat) : D → D
 | .own id => .own (ρ id)
 | .ptr id j => .ptr (ρ id) j
 | .pel id i sz j => .pel (ρ id) i sz j
 | .sl id sz off len cap => .sl (ρ id) sz off len cap
 | .clo f ids => .clo f (ids.map ρ)
 | d => d
def rnV (ρ : Nat → Nat) : D → D
 | .agg ds => .agg (ds.map (rnC ρ))
 | d => rnC ρ d
def rnR (ρ : Nat → Nat) : D → D
 | .tup ds => .tup (ds.map (rnV ρ))
 | d => rnV ρ d
def rnO (ρ : Nat → Nat) : Ob → Ob
 | .cells ds => .cells (ds.map (rnC ρ))
 | .row sz xs => .row sz xs
 | .rowd sz xs => .rowd sz (xs.map (·.map (rnC ρ)))
 | .blk sz xs => .blk sz (xs.map (·.map (rnC ρ)))
 | .mp bare es ck => .mp bare es ck
 | .it m since seen last => .it (ρ m) since seen last
section
variable {s s' : Nat → Value} {Z : Cells} {w : World} {ρ : Nat → Nat} {n m : Nat}
theorem VC.rn (hs : ∀ id,id < n → s' (ρ id) = s id) {d : D} {v : Value} (hl : LtC n d) : VC s' Z (rnC ρ d) v ↔ VC s Z d v := by
 cases d with
 | own id => simp only [rnC,VC,hs id hl]
 | ptr id j => simp only [rnC,VC,hs id hl]
 | pel id i sz j => simp only [rnC,VC,hs id hl]
 | sl id sz off len cap => simp only [rnC,VC,hs id hl]
 | clo f ids =>
  constructor
  ·rintro ⟨vs,h1,h2,h3⟩
   refine ⟨vs,h1,by simpa using h2,fun j id hj => ?_⟩
   obtain ⟨b,g1,g2⟩ := h3 j (ρ id) (by rw [List.getElem?_map,hj];rfl)
   exact ⟨b,by rw [← hs id (hl id (zD hj))];exact g1,g2⟩
  ·rintro ⟨vs,h1,h2,h3⟩
   refine ⟨vs,h1,by simpa using h2,fun j id hj => ?_⟩
   rw [List.getElem?_map] at hj
   cases hi : ids[j]? with
   | none => rw [hi] at hj;cases hj
   | some i =>
    rw [hi] at hj
    simp only [Option.map_some,zA] at hj
    subst hj
    obtain ⟨b,g1,g2⟩ := h3 j i hi
    exact ⟨b,by rw [hs i (hl i (zD hi))];exact g1,g2⟩
 | _ => exact Iff.rfl
theorem map_get {α β : Type} (f : α → β) (l : List α) (j : Nat) (y : β) : (l.map f)[j]? = some y ↔ ∃ x,l[j]? = some x ∧ f x = y := by
 rw [List.getElem?_map];cases l[j]? <;> simp
theorem VV.rn (hs : ∀ id,id < n → s' (ρ id) = s id) {d : D} {v : Value} (hl : LtV n d) : VV s' Z (rnV ρ d) v ↔ VV s Z d v := by
 cases d with
 | agg ds =>
  constructor
  ·rintro ⟨vs,rfl,h1,h2⟩
   refine ⟨vs,rfl,by simpa using h1,fun j x hx => ?_⟩
   exact (VC.rn hs (hl x (zD hx))).1 (h2 j _ ((map_get _ _ _ _).2 ⟨x,hx,rfl⟩))
  ·rintro ⟨vs,rfl,h1,h2⟩
   refine ⟨vs,rfl,by simpa using h1,fun j y hy => ?_⟩
   obtain ⟨x,hx,rfl⟩ := (map_get _ _ _ _).1 hy
   exact (VC.rn hs (hl x (zD hx))).2 (h2 j x hx)
 | own id => exact VC.rn (Z := Z) (d := .own id) hs hl
 | ptr id j => exact VC.rn (Z := Z) (d := .ptr id j) hs hl
 | pel id i sz j => exact VC.rn (Z := Z) (d := .pel id i sz j) hs hl
 | sl id sz off len cap => exact VC.rn (Z := Z) (d := .sl id sz off len cap) hs hl
 | clo f ids => exact VC.rn (Z := Z) (d := .clo f ids) hs hl
 | _ => exact Iff.rfl
theorem VR.rn (hs : ∀ id,id < n → s' (ρ id) = s id) {d : D} {v : Value} (hl : LtR n d) : VR s' Z (rnR ρ d) v ↔ VR s Z d v := by
 cases d with
 | tup ds =>
  constructor
  ·rintro ⟨vs,rfl,h1,h2⟩
   refine ⟨vs,rfl,by simpa using h1,fun j x hx => ?_⟩
   exact (VV.rn hs (hl x (zD hx))).1 (h2 j _ ((map_get _ _ _ _).2 ⟨x,hx,rfl⟩))
  ·rintro ⟨vs,rfl,h1,h2⟩
   refine ⟨vs,rfl,by simpa using h1,fun j y hy => ?_⟩
   obtain ⟨x,hx,rfl⟩ := (map_get _ _ _ _).1 hy
   exact (VV.rn hs (hl x (zD hx))).2 (h2 j x hx)
 | agg ds => exact VV.rn (Z := Z) (d := .agg ds) hs hl
 | own id => exact VC.rn (Z := Z) (d := .own id) hs hl
 | ptr id j => exact VC.rn (Z := Z) (d := .ptr id j) hs hl
 | pel id i sz j => exact VC.rn (Z := Z) (d := .pel id i sz j) hs hl
 | sl id sz off len cap => exact VC.rn (Z := Z) (d := .sl id sz off len cap) hs hl
 | clo f ids => exact VC.rn (Z := Z) (d := .clo f ids) hs hl
 | _ => exact Iff.rfl
theorem LtC.rn (hm : ∀ id,id < n → ρ id < m) {d : D} (hl : LtC n d) : LtC m (rnC ρ d) := by
 cases d with
 | clo f ids =>
  intro id hid
  obtain ⟨i,hi,rfl⟩ := List.mem_map.1 hid
  exact hm i (hl i hi)
 | _ => first | exact hm _ hl | trivial
theorem LtV.rn (hm : ∀ id,id < n → ρ id < m) {d : D} (hl : LtV n d) : LtV m (rnV ρ d) := by
 cases d with
 | agg ds => intro y hy;obtain ⟨x,hx,rfl⟩ := List.mem_map.1 hy;exact LtC.rn hm (hl x hx)
 | own id => exact hm _ hl
 | ptr id j => exact hm _ hl
 | pel id i sz j => exact hm _ hl
 | sl id sz off len cap => exact hm _ hl
 | clo f ids => exact LtC.rn (d := .clo f ids) hm hl
 | _ => trivial
theorem LtR.rn (hm : ∀ id,id < n → ρ id < m) {d : D} (hl : LtR n d) : LtR m (rnR ρ d) := by
 cases d with
 | tup ds => intro y hy;obtain ⟨x,hx,rfl⟩ := List.mem_map.1 hy;exact LtV.rn hm (hl x hx)
 | agg ds => exact LtV.rn (d := .agg ds) hm hl
 | own id => exact hm _ hl
 | ptr id j => exact hm _ hl
 | pel id i sz j => exact hm _ hl
 | sl id sz off len cap => exact hm _ hl
 | clo f ids => exact LtC.rn (d := .clo f ids) hm hl
 | _ => trivial
theorem LtO.rn (hm : ∀ id,id < n → ρ id < m) {ob : Ob} (hl : LtO n ob) : LtO m (rnO ρ ob) := by
 cases ob with
 | cells ds => intro y hy;obtain ⟨x,hx,rfl⟩ := List.mem_map.1 hy;exact LtC.rn hm (hl x hx)
 | row sz xs => trivial
 | mp bare es ck => trivial
 | it m since seen last => exact hm _ hl
 | rowd sz xs =>
  intro r hr y hy
  obtain ⟨r',hr',rfl⟩ := List.mem_map.1 hr
  obtain ⟨x,hx,rfl⟩ := List.mem_map.1 hy
  exact LtC.rn hm (hl r' hr' x hx)
 | blk sz xs =>
  intro r hr y hy
  obtain ⟨r',hr',rfl⟩ := List.mem_map.1 hr
  obtain ⟨x,hx,rfl⟩ := List.mem_map.1 hy
  exact LtC.rn hm (hl r' hr' x hx)
theorem rnC_any {ρ : Nat → Nat} {d : D} : rnC ρ d = .any ↔ d = .any := by
 cases d <;> simp [rnC]
theorem ObOk.rn (hs : ∀ id,id < n → s' (ρ id) = s id) {ob : Ob} {v : Value} (hl : LtO n ob) : ObOk s' Z w (rnO ρ ob) v ↔ ObOk s Z w ob v := by
 cases ob with
 | cells ds =>
  constructor
  ·rintro ⟨b,T,cs,rfl,h1,h2,h3⟩
   refine ⟨b,T,cs,rfl,h1,by simpa using h2,fun j x hx => ?_⟩
   exact (VC.rn hs (hl x (zD hx))).1 (h3 j _ ((map_get _ _ _ _).2 ⟨x,hx,rfl⟩))
  ·rintro ⟨b,T,cs,rfl,h1,h2,h3⟩
   refine ⟨b,T,cs,rfl,h1,by simpa using h2,fun j y hy => ?_⟩
   obtain ⟨x,hx,rfl⟩ := (map_get _ _ _ _).1 hy
   exact (VC.rn hs (hl x (zD hx))).2 (h3 j x hx)
 | row sz xs => exact Iff.rfl
 | mp bare es ck => exact Iff.rfl
 | it m since seen last => have := hs m hl;simp only [rnO,ObOk,this]
 | rowd sz xs =>
  constructor
  ·rintro ⟨h1,h2,h3⟩
   refine ⟨h1,fun row hr => by simpa using h2 _ (List.mem_map.2 ⟨row,hr,rfl⟩),?_⟩
   rcases h3 with ⟨h3,h4⟩ | ⟨g,cap,cur,e,h3,h4,h5,h6,h7,h8⟩
   ·exact .inl ⟨by simpa using h3,h4⟩
   ·refine .inr ⟨g,cap,cur,e,by simpa using h3,h4,by simpa using h5,h6,h7,fun i row j d hi hj => ?_⟩
    exact (VC.rn hs (hl row (zD hi) d (zD hj))).1 (h8 i _ j _ ((map_get _ _ _ _).2 ⟨row,hi,rfl⟩) ((map_get _ _ _ _).2 ⟨d,hj,rfl⟩))
  ·rintro ⟨h1,h2,h3⟩
   refine ⟨h1,fun row hr => ?_,?_⟩
   ·obtain ⟨r,hr',rfl⟩ := List.mem_map.1 hr
    simpa using h2 r hr'
   ·rcases h3 with ⟨h3,h4⟩ | ⟨g,cap,cur,e,h3,h4,h5,h6,h7,h8⟩
    ·exact .inl ⟨by simpa using h3,h4⟩
    ·refine .inr ⟨g,cap,cur,e,by simpa using h3,h4,by simpa using h5,h6,h7,fun i row j d hi hj => ?_⟩
     obtain ⟨r,hr',rfl⟩ := (map_get _ _ _ _).1 hi
     obtain ⟨x,hx,rfl⟩ := (map_get _ _ _ _).1 hj
     exact (VC.rn hs (hl r (zD hr') x (zD hx))).2 (h8 i r j x hr' hx)
 | blk sz xs =>
  constructor
  ·rintro ⟨h1,h2,g,n',cur,e,h3,h4,h5,h6,h7,h8⟩
   refine ⟨h1,fun row hr => by simpa using h2 _ (List.mem_map.2 ⟨row,hr,rfl⟩),g,n',cur,e,by simpa using h3,h4,by simpa using h5,by simpa using h6,by simpa using h7,fun i row j d hi hj hd => ?_⟩
   exact (VC.rn hs (hl row (zD hi) d (zD hj))).1 (h8 i _ j _ ((map_get _ _ _ _).2 ⟨row,hi,rfl⟩) ((map_get _ _ _ _).2 ⟨d,hj,rfl⟩) fun h => hd (rnC_any.1 h))
  ·rintro ⟨h1,h2,g,n',cur,e,h3,h4,h5,h6,h7,h8⟩
   refine ⟨h1,fun row hr => ?_,g,n',cur,e,by simpa using h3,h4,by simpa using h5,by simpa using h6,by simpa using h7,fun i row j d hi hj hd => ?_⟩
   ·obtain ⟨r,hr',rfl⟩ := List.mem_map.1 hr
    simpa using h2 r hr'
   ·obtain ⟨r,hr',rfl⟩ := (map_get _ _ _ _).1 hi
    obtain ⟨x,hx,rfl⟩ := (map_get _ _ _ _).1 hj
    exact (VC.rn hs (hl r (zD hr') x (zD hx))).2 (h8 i r j x hr' hx fun h => hd (by rw [h];rfl))
end
def rho (l : List Nat) (n0 nx id : Nat) : Nat := if id < n0 then l.getD id 0 else nx + (id - n0)
def hputs (ρ : Nat → Nat) : List (Nat × Ob) → List (Nat × Ob) → List (Nat × Ob)
 | [],H => H
 | (id,ob) :: L,H => eput (hputs ρ L H) (ρ id) (rnO ρ ob)
def herases : List Nat → List (Nat × Ob) → List (Nat × Ob)
 | [],H => H
 | k :: ks,H => herases ks (herase H k)
theorem hget_hputs {ρ : Nat → Nat} {H : List (Nat × Ob)} {k : Nat} {ob : Ob} : ∀ {L : List (Nat × Ob)},hget (hputs ρ L H) k = some ob → (∃ id ob',hget L id = some ob' ∧ k = ρ id ∧ ob = rnO ρ ob') ∨ hget H k = some ob
 | [],h => .inr h
 | (id,o) :: L,h => by
  simp only [hputs,hget_eput] at h
  split at h
  ·rename_i hk
   cases h
   exact .inl ⟨id,o,by simp [hget],hk,rfl⟩
  ·rename_i hk
   rcases hget_hputs h with ⟨id',o',h1,h2,h3⟩ | h
   ·refine .inl ⟨id',o',?_,h2,h3⟩
    have : id' ≠ id := by rintro rfl;exact hk h2
    simp [hget,this,h1]
   ·exact .inr h
theorem hget_herases {k : Nat} {ob : Ob} : ∀ {l : List Nat} {H : List (Nat × Ob)},hget (herases l H) k = some ob → hget H k = some ob ∧ k ∉ l
 | [],H,h => ⟨h,by simp⟩
 | j :: l,H,h => by
  obtain ⟨h1,h2⟩ := hget_herases (l := l) h
  rw [hget_herase] at h1
  split at h1
  ·cases h1
  ·rename_i hj;exact ⟨h1,by simp [hj,h2]⟩
theorem hget_mem {id : Nat} {ob : Ob} : ∀ {H : List (Nat × Ob)},hget H id = some ob → (id,ob) ∈ H
 | [],h => by cases h
 | (k,o) :: H,h => by
  simp only [hget] at h
  split at h
  ·rename_i e;cases h;subst e;simp
  ·exact List.mem_cons_of_mem _ (hget_mem h)
section
variable {P : Program} {sb : Bool} {B : Base} {st : St} {K : St → Prop}
theorem CallOk.hf {f : FuncId} {ds ds0 : List D} {dst : Option Nat} {H0 : List (Nat × Ob)} {n0 : Nat} {R : D → List (Nat × Ob) → Nat → Prop} (hf : HF P f ds0 H0 n0 R) (hsb : sb = true → H0 = []) (l : List Nat)
  (hl : l.length = n0) (hnd : l.Nodup) (hlt : ∀ k ∈ l,k < st.nx) (hds : ds = ds0.map (rnV (rho l n0 st.nx))) (hao : ds0.all argOk = true) (hdl : ∀ d ∈ ds0,LtV n0 d)
  (hH0 : ∀ p ∈ H0,p.1 < n0 ∧ LtO n0 p.2 ∧ hget st.heap (rho l n0 st.nx p.1) = some (rnO (rho l n0 st.nx) p.2))
  (hK : ∀ d H' nx',n0 ≤ nx' → R d H' nx' → K ⟨putO st.env dst (rnR (rho l n0 st.nx) d),hputs (rho l n0 st.nx) H' (herases l st.heap),st.nx + (nx' - n0)⟩) : CallOk P sb B f ds dst st K := by
 obtain ⟨hcal,hf⟩ := hf
 refine ⟨hcal,fun s Z w vs h hvl hv0 => ?_⟩
 subst hds
 have hlow : ∀ id,id < n0 → rho l n0 st.nx id = l.getD id 0 ∧ rho l n0 st.nx id ∈ l ∧ rho l n0 st.nx id < st.nx := fun id hid => by
  have h1 : rho l n0 st.nx id = l.getD id 0 := by simp [rho,hid]
  have h2 : l.getD id 0 ∈ l := by
   rw [zC,zE (by omega)]
   exact List.getElem_mem _
  exact ⟨h1,by rw [h1];exact h2,by rw [h1];exact hlt _ h2⟩
 have hinj0 : ∀ i j,i < n0 → j < n0 → rho l n0 st.nx i = rho l n0 st.nx j → i = j := fun i j hi hj e => by
  rw [(hlow i hi).1,(hlow j hj).1] at e
  rw [zC,zC,zE (by omega),zE (by omega)] at e
  exact (List.getElem_inj hnd).1 e
 generalize hρ : rho l n0 st.nx = ρ at *
 have hhigh : ∀ id,¬ id < n0 → ρ id = st.nx + (id - n0) := fun id hid => by rw [← hρ];simp [rho,hid]
 let t0 : Nat → Value := fun id => s (ρ id)
 let F0 : Nat → Prop := fun b => ∃ id ob,hget H0 id = some ob ∧ blk (s (ρ id)) = some b
 have hH : ∀ id ob,hget H0 id = some ob → id < n0 ∧ LtO n0 ob ∧ hget st.heap (ρ id) = some (rnO ρ ob) := fun id ob hh => hH0 _ (hget_mem hh)
 have rel0 : RelH ⟨0,F0,w,n0,t0,Z⟩ t0 Z H0 n0 w := by
  refine ⟨fun id ob hh => ?_,fun id ob hh => ⟨(hH id ob hh).1,(hH id ob hh).2.1⟩,fun id id' ob ob' b hh hh' hne hb => ?_,h.zok,fun id ob b o hh hb => ?_,fun id ob b hh hb => .inr ⟨id,ob,hh,hb⟩,Fr.refl _ _,Nat.le_refl _,fun _ _ => rfl,fun _ _ _ h => h,fun _ _ _ h => .inl h⟩
  ·obtain ⟨h1,h2,h3⟩ := hH id ob hh
   exact (ObOk.rn (n := n0) (s := t0) (s' := s) (fun _ _ => rfl) h2).1 (h.ob _ _ h3)
  ·obtain ⟨h1,h2,h3⟩ := hH id ob hh
   obtain ⟨g1,g2,g3⟩ := hH id' ob' hh'
   exact h.apart _ _ _ _ b h3 g3 (fun e => hne (hinj0 _ _ h1 g1 e)) hb
  ·obtain ⟨h1,h2,h3⟩ := hH id ob hh
   exact h.zap _ _ b o h3 hb
 have hargs : ∀ j x,ds0[j]? = some x → VV t0 Z x (vs.getD j undef) := fun j x hx => by
  have h1 := hv0 j _ ((map_get _ _ _ _).2 ⟨x,hx,rfl⟩)
  have hmem := zD hx
  have ha := List.all_eq_true.1 hao x hmem
  have h2 : VV s Z (rnV ρ x) (vs.getD j undef) := by
   cases x <;> first | exact h1 | cases ha
  exact (VV.rn (n := n0) (s := t0) (s' := s) (fun _ _ => rfl) (hdl x hmem)).1 h2
 refine (hf F0 t0 Z w vs rel0 (by simpa using hvl) hargs).mono ?_
 rintro e w' ⟨v,d,H',nx',s',Z',he,hr,hrl,hR,hpost⟩
 let s1 : Nat → Value := fun k => if k < st.nx then s k else s' (n0 + (k - st.nx))
 have hn0 : n0 ≤ nx' := hR.n0
 have hs1 : ∀ id,id < nx' → s1 (ρ id) = s' id := fun id hid => by
  by_cases h1 : id < n0
  ·have h2 := (hlow id h1).2.2
   show (if ρ id < st.nx then s (ρ id) else _) = _
   rw [if_pos h2]
   exact (hR.bs id h1).symm
  ·have h2 := hhigh id h1
   show (if ρ id < st.nx then _ else s' (n0 + (ρ id - st.nx))) = _
   rw [if_neg (by omega),h2]
   congr 1;omega
 have hlt1 : ∀ id,id < nx' → ρ id < st.nx + (nx' - n0) := fun id hid => by
  by_cases h1 : id < n0
  ·have := (hlow id h1).2.2;omega
  ·have := hhigh id h1;omega
 have hold : ∀ id,id < st.nx → s1 id = s id := fun id hid => if_pos hid
 have hcase : ∀ k ob,hget (hputs ρ H' (herases l st.heap)) k = some ob → (∃ id ob',hget H' id = some ob' ∧ k = ρ id ∧ ob = rnO ρ ob') ∨ (hget st.heap k = some ob ∧ k ∉ l) := fun k ob hk => by
  rcases hget_hputs hk with h1 | h1
  ·exact .inl h1
  ·exact .inr (hget_herases h1)
 have away : ∀ k ob,hget st.heap k = some ob → k ∉ l → ∀ b,blk (s k) = some b → b < w.heap.size ∧ ¬ F0 b := fun k ob hk hkl b hb => by
  refine ⟨(h.ob k ob hk).lt b hb,fun ⟨id,ob',hid,hb'⟩ => ?_⟩
  obtain ⟨h1,h2,h3⟩ := hH id ob' hid
  have h4 : k ≠ ρ id := fun e => hkl (by rw [e];exact (hlow id h1).2.1)
  exact h.apart _ _ _ _ b hk h3 h4 hb hb'
 have hbel : sb = true → Below w.heap.size w w' := fun hb => by
  have := hsb hb
  subst this
  exact ⟨hR.fr.os,hR.fr.tape,hR.fr.output,hR.fr.size,fun k hk => hR.fr.block k hk (fun ⟨id',o2,h5,_⟩ => by cases h5)⟩
 refine ⟨v,he,hbel,rnR ρ d,hputs ρ H' (herases l st.heap),st.nx + (nx' - n0),s1,Z',(VR.rn hs1 hrl).2 hr,LtR.rn hlt1 hrl,?_,by omega,hold,hR.bz,hK d H' nx' hn0 hpost⟩
 constructor
 ·intro k ob hk
  rcases hcase k ob hk with ⟨id,ob',h1,rfl,rfl⟩ | ⟨h1,h2⟩
  ·have h3 := hR.lt id ob' h1
   rw [hs1 id h3.1]
   exact (ObOk.rn hs1 h3.2).2 (hR.ob id ob' h1)
  ·have h3 := h.lt k ob h1
   rw [hold k h3.1]
   exact (h.ob k ob h1).mono hR.bz hold h3.2 fun b hb => by
    obtain ⟨g1,g2⟩ := away k ob h1 h2 b hb
    exact hR.fr.block b g1 g2
 ·intro k ob hk
  rcases hcase k ob hk with ⟨id,ob',h1,rfl,rfl⟩ | ⟨h1,h2⟩
  ·have h3 := hR.lt id ob' h1
   exact ⟨hlt1 id h3.1,LtO.rn hlt1 h3.2⟩
  ·have h3 := h.lt k ob h1
   exact ⟨by omega,h3.2.mono (by omega)⟩
 ·intro k k' ob ob' b hk hk' hne hb
  rcases hcase k ob hk with ⟨id,o1,h1,rfl,rfl⟩ | ⟨h1,h2⟩
  ·have h3 := hR.lt id o1 h1
   rw [hs1 id h3.1] at hb
   rcases hcase k' ob' hk' with ⟨id',o2,g1,rfl,rfl⟩ | ⟨g1,g2⟩
   ·have g3 := hR.lt id' o2 g1
    rw [hs1 id' g3.1]
    exact hR.apart id id' o1 o2 b h1 g1 (fun e => hne (by rw [e])) hb
   ·rw [hold k' (h.lt k' ob' g1).1]
    intro hb2
    obtain ⟨q1,q2⟩ := away k' ob' g1 g2 b hb2
    rcases hR.mine id o1 b h1 hb with h5 | h5
    ·simp only at h5;omega
    ·exact q2 h5
  ·rw [hold k (h.lt k ob h1).1] at hb
   rcases hcase k' ob' hk' with ⟨id',o2,g1,rfl,rfl⟩ | ⟨g1,g2⟩
   ·have g3 := hR.lt id' o2 g1
    rw [hs1 id' g3.1]
    intro hb2
    obtain ⟨q1,q2⟩ := away k ob h1 h2 b hb
    rcases hR.mine id' o2 b g1 hb2 with h5 | h5
    ·simp only at h5;omega
    ·exact q2 h5
   ·rw [hold k' (h.lt k' ob' g1).1]
    exact h.apart k k' ob ob' b h1 g1 hne hb
 ·exact hR.zok
 ·intro k ob b o hk hb
  rcases hcase k ob hk with ⟨id,o1,h1,rfl,rfl⟩ | ⟨h1,h2⟩
  ·rw [hs1 id (hR.lt id o1 h1).1] at hb
   exact hR.zap id o1 b o h1 hb
  ·rw [hold k (h.lt k ob h1).1] at hb
   obtain ⟨q1,q2⟩ := away k ob h1 h2 b hb
   cases hq : Z' b o with
   | none => rfl
   | some u =>
    rcases hR.bn b o u hq with h5 | h5 | h5
    ·have h6 := h.zap k ob b o h1 hb
     simp only at h5
     rw [h6] at h5;cases h5
    ·simp only at h5;omega
    ·exact absurd h5 q2
 ·intro k ob b hk hb
  rcases hcase k ob hk with ⟨id,o1,h1,rfl,rfl⟩ | ⟨h1,h2⟩
  ·rw [hs1 id (hR.lt id o1 h1).1] at hb
   rcases hR.mine id o1 b h1 hb with h5 | ⟨id',o2,h5,h6⟩
   ·exact .inl (Nat.le_trans h.fr.size h5)
   ·obtain ⟨g1,g2,g3⟩ := hH id' o2 h5
    exact h.mine _ _ b g3 h6
  ·rw [hold k (h.lt k ob h1).1] at hb
   exact h.mine k ob b h1 hb
 ·refine ⟨hR.fr.os.trans h.fr.os,hR.fr.tape.trans h.fr.tape,hR.fr.output.trans h.fr.output,Nat.le_trans h.fr.size hR.fr.size,fun k hk hf => ?_⟩
  have hnf : ¬ F0 k := fun ⟨id',o2,h5,h6⟩ => by
   obtain ⟨g1,g2,g3⟩ := hH id' o2 h5
   rcases h.mine _ _ k g3 h6 with h7 | h7
   ·omega
   ·exact hf h7
  rw [hR.fr.block k (Nat.lt_of_lt_of_le hk h.fr.size) hnf]
  exact h.fr.block k hk hf
 ·have := h.n0;omega
 ·intro id hid
  rw [hold id (Nat.lt_of_lt_of_le hid h.n0)]
  exact h.bs id hid
 ·exact fun b o v hv => hR.bz b o v (h.bz b o v hv)
 ·intro b o u hu
  rcases hR.bn b o u hu with h5 | h5 | ⟨id',o2,h5,h6⟩
  ·exact h.bn b o u h5
  ·exact .inr (.inl (Nat.le_trans h.fr.size h5))
  ·obtain ⟨g1,g2,g3⟩ := hH id' o2 h5
   exact .inr (h.mine _ _ b g3 h6)
end
section
variable {P : Program} {ops : Array Oper} {Q : Exit → Act → World → Prop} {md : Region.Mode} {late : Nat → Bool} {w0 : World}
def Kept (late : Nat → Bool) (w0 : World) (listed : Array Bool) (w : World) : Prop :=
 Below w0.heap.size w0 w ∨ ∃ t,late t = true ∧ listed.getD t false = true
def Closed (md : Region.Mode) (ops : Array Oper) (listed : Array Bool) : Prop :=
 ∀ j oj,ops[j]? = some oj → listed.getD j false = true → ∀ e ∈ oj.after,Region.binds md e = true → listed.getD e.on false = true
def AnyK (P : Program) (md : Region.Mode) (ops : Array Oper) (Q : Exit → Act → World → Prop) (late : Nat → Bool) (w0 : World) : Nat → Array Bool → Act → World → Prop
 | 0,listed,a,w => Region.ready md ops listed = [] ∧ Q .normal a w
 | fuel + 1,listed,a,w =>
  (Region.ready md ops listed = [] → Q .normal a w) ∧
  ∀ i ∈ Region.ready md ops listed,wpOp P ops Q i (fun a' w' => Kept late w0 (listed.setIfInBounds i true) w' ∧ AnyK P md ops Q late w0 fuel (listed.setIfInBounds i true) a' w') a w
theorem any_of_K : ∀ (fuel : Nat) (listed : Array Bool) (a : Act) (w : World),AnyK P md ops Q late w0 fuel listed a w → wpAny P md ops Q fuel listed a w
 | 0,_,_,_,h => h
 | fuel + 1,_,_,_,h => ⟨h.1,fun i hi => wpOp_mono (fun a' w' h' => any_of_K fuel _ a' w' h'.2) (h.2 i hi)⟩
theorem Closed.set {i : Nat} {listed : Array Bool} (h : Closed md ops listed) (hi : i ∈ Region.ready md ops listed) : Closed md ops (listed.setIfInBounds i true) := by
 obtain ⟨_,oi,hoi,hall⟩ := mem_ready.1 hi
 intro j oj hj hl e he hb
 by_cases hij : i = j
 ·subst hij
  obtain rfl : oj = oi := Option.some.inj (hj.symm.trans hoi)
  exact getD_set_true (hall e he hb)
 ·rw [getD_set_ne false hij] at hl
  exact getD_set_true (h j oj hj hl e he hb)
theorem Kept.below {i : Nat} {listed : Array Bool} {w : World} (hk : Kept late w0 listed w) (hun : listed.getD i true = false)
  (hl : ∀ t,late t = true → listed.getD t false = true → listed.getD i false = true) : Below w0.heap.size w0 w := by
 rcases hk with h | ⟨t,h1,h2⟩
 ·exact h
 ·have h3 := hl t h1 h2
  rcases Nat.lt_or_ge i listed.size with h' | h'
  ·simp [h'] at hun h3;rw [hun] at h3;cases h3
  ·simp [Array.getElem?_eq_none h'] at h3
theorem Kept.more {i : Nat} {listed : Array Bool} {w : World} (hk : Kept late w0 listed w) : Kept late w0 (listed.setIfInBounds i true) w := by
 rcases hk with h | ⟨t,h1,h2⟩
 ·exact .inl h
 ·exact .inr ⟨t,h1,getD_set_true h2⟩
theorem anyK_first {i : Nat} {oi : Oper} {v : Value} (hi : ops[i]? = some oi) (hsel : ∀ (j : Nat) (o : Oper) cs b,ops[j]? = some o → o.op ≠ .select cs b)
  (hQ : ∀ c a w,Q (.panic c) (a.put oi.dst v) w → Q (.panic c) a w)
  (S : World → Prop) (hl : ∀ listed w,Closed md ops listed → listed.getD i true = false → Kept late w0 listed w → S w) (hli : late i = false) :
  ∀ (fuel : Nat) (listed : Array Bool) (a : Act) (w : World),Closed md ops listed →
   (∀ j oj,ops[j]? = some oj → j ≠ i → listed.getD j true = false → (∀ e ∈ oj.after,Region.binds md e = true → e.on ≠ i) → oi.apart ops oj = true) →
   i ∈ Region.ready md ops listed → YieldsIf P ops S oi v a → Kept late w0 listed w →
   AnyK P md ops Q late w0 fuel (listed.setIfInBounds i true) (a.put oi.dst v) w → AnyK P md ops Q late w0 (fuel + 1) listed a w := by
 intro fuel
 induction fuel with
 | zero =>
  intro listed a w hcl _ hr hy hS H
  have hun := (mem_ready.1 hr).1
  refine ⟨fun h => (by rw [h] at hr;cases hr),fun j hj => ?_⟩
  by_cases hji : j = i
  ·subst hji
   exact hy.wpOp hi (hl _ _ hcl hun hS) ⟨hS.more,H⟩
  ·have := ready_mono hj hji
   rw [H.1] at this
   cases this
 | succ fuel ih =>
  intro listed a w hcl hfree hr hy hS H
  have hun := (mem_ready.1 hr).1
  refine ⟨fun h => (by rw [h] at hr;cases hr),fun j hj => ?_⟩
  by_cases hji : j = i
  ·subst hji;exact hy.wpOp hi (hl _ _ hcl hun hS) ⟨hS.more,H⟩
  ·have h1 := H.2 j (ready_mono hj hji)
   obtain ⟨hjun,oj,hoj,hall⟩ := mem_ready.1 hj
   have hnot : ∀ e ∈ oj.after,Region.binds md e = true → e.on ≠ i := fun e he hb' heq => by
    have h1 := hall e he hb'
    rw [heq] at h1
    rcases Nat.lt_or_ge i listed.size with h' | h'
    ·simp [h'] at hun h1;rw [hun] at h1;cases h1
    ·simp [Array.getElem?_eq_none h'] at h1
   have h2 := wpOp_putIf hoj (hfree j oj hoj hji hjun hnot) (fun cs b => hsel i oi cs b hi) (fun cs b => hsel j oj cs b hoj) hQ hy h1
   have hfree' : ∀ k ok,ops[k]? = some ok → k ≠ i → (listed.setIfInBounds j true).getD k true = false →
     (∀ e ∈ ok.after,Region.binds md e = true → e.on ≠ i) → oi.apart ops ok = true := fun k ok hk hki hun hno => by
    refine hfree k ok hk hki ?_ hno
    by_cases hjk : j = k
    ·subst hjk;exact hjun
    ·rw [getD_set_ne true hjk] at hun;exact hun
   have hcl' := hcl.set hj
   have hki : ∀ w',Kept late w0 ((listed.setIfInBounds i true).setIfInBounds j true) w' → Kept late w0 (listed.setIfInBounds j true) w' := fun w' hk => by
    rcases hk with hk | ⟨t,ht,hlt⟩
    ·exact .inl hk
    ·refine .inr ⟨t,ht,?_⟩
     have hti : i ≠ t := fun h => by rw [← h,hli] at ht;cases ht
     rw [Array.setIfInBounds_comm _ _ (Ne.symm hji),getD_set_ne false hti] at hlt
     exact hlt
   refine wpOp_mono (fun a' w' h3 => ⟨hki w' h3.2.1,ih (listed.setIfInBounds j true) a' w' hcl' hfree' (ready_mono hr (Ne.symm hji)) h3.1 (hki w' h3.2.1) ?_⟩) h2
   rw [Array.setIfInBounds_comm _ _ hji]
   exact h3.2.2
theorem anyK_base {late' : Nat → Bool} {w1 : World} (hk : ∀ listed w,Kept late' w1 listed w → Kept late w0 listed w) : ∀ {fuel : Nat} {listed : Array Bool} {a : Act} {w : World},AnyK P md ops Q late' w1 fuel listed a w → AnyK P md ops Q late w0 fuel listed a w
 | 0,_,_,_,h => h
 | _ + 1,_,_,_,h => ⟨h.1,fun i hi => wpOp_mono (fun _ _ h' => ⟨hk _ _ h'.1,anyK_base hk h'.2⟩) (h.2 i hi)⟩
theorem anyK_late {late' : Nat → Bool} {w1 : World} : ∀ {fuel : Nat} {listed : Array Bool} {a : Act} {w : World},(∃ t,late t = true ∧ listed.getD t false = true) → AnyK P md ops Q late' w1 fuel listed a w → AnyK P md ops Q late w0 fuel listed a w
 | 0,_,_,_,_,h => h
 | _ + 1,_,_,_,⟨t,ht,hl⟩,h => ⟨h.1,fun i hi => wpOp_mono (fun _ _ h' => ⟨.inr ⟨t,ht,getD_set_true hl⟩,anyK_late ⟨t,ht,getD_set_true hl⟩ h'.2⟩) (h.2 i hi)⟩
def waitsB (ops : Array Oper) (y x : Nat) : Bool :=
 match ops[y]? with
 | some o => o.after.any fun e => Region.binds .any e && e.on == x
 | none => false
def aheadL (ops : Array Oper) : Nat → List Nat → List Nat
 | 0,U => U
 | x + 1,U => aheadL ops x (if U.any fun y => waitsB ops y x then x :: U else U)
theorem aheadL_listed {ops : Array Oper} {listed : Array Bool} (hc : Closed .any ops listed) : ∀ (x : Nat) (U : List Nat),(∀ y ∈ U,listed.getD y false = true) → ∀ y ∈ aheadL ops x U,listed.getD y false = true
 | 0,_,h => h
 | x + 1,U,h => by
  refine aheadL_listed hc x _ ?_
  split
  ·rename_i hU
   intro y hy
   rcases List.mem_cons.1 hy with rfl | hy
   ·obtain ⟨z,hz,hw⟩ := List.any_eq_true.1 hU
    unfold waitsB at hw
    cases ho : ops[z]? with
    | none => rw [ho] at hw;cases hw
    | some o =>
     rw [ho] at hw
     obtain ⟨e,he,hb⟩ := Array.any_eq_true'.1 hw
     simp only [Bool.and_eq_true,beq_iff_eq] at hb
     have := hc z o ho (h z hz) e he hb.1
     rw [hb.2] at this
     exact this
   ·exact h y hy
  ·exact h
end
inductive ASch where
 | done
 | one (sb : Bool) (o : AO) (r : ASch)
 | two (l r : ASch)
 | top
def asch (P : Program) (B : Base) : ASch → St → (St → Prop) → Prop
 | .done,st,K => K st
 | .one sb o r,st,K => astep P sb B o st fun st' => asch P B r st' K
 | .two l r,st,K => asch P B l st K ∧ asch P B r st K
 | .top,_,_ => True
def lateOp (hw : List FuncId) : Op → Bool
 | .store .. => true
 | .call c => match c.callee with
  | .value (.func f) => hw.contains f
  | .value _ => true
  | .builtin .append => true
  | .builtin .copy => true
  | .builtin .clear => true
  | .builtin _ => false
  | _ => true
 | _ => false
def lates (hw : List FuncId) (ops : Array Oper) : List Nat := (List.range ops.size).filter fun i => ((ops[i]?).map fun o => lateOp hw o.op).getD false
def takeQ (P : Program) (N : Nat) (ops : Array Oper) (listed : Array Bool) (ls : List Nat) (i : Nat) : Bool :=
 match ops[i]? with
 | some o => match coper P N ops o with
  | some a => !isLoud a.op && !ls.contains i && Region.free .any ops listed i && (!isLd o.op || ls.all fun t => (aheadL ops t [t]).contains i)
  | none => false
 | none => false
def stepS (P : Program) (N : Nat) (ops : Array Oper) (sb : Bool) (i : Nat) (r : Option ASch) : Option ASch :=
 match ops[i]? with
 | some o => match coper P N ops o,r with
  | some a,some t => some (.one sb a t)
  | _,_ => none
 | none => none
def foldS : List (Option ASch) → Option ASch
 | [] => some .top
 | x :: l => match x,foldS l with
  | some t,some u => some (.two t u)
  | _,_ => none
def planS (P : Program) (N : Nat) (ops : Array Oper) : Nat → Array Bool → List Nat → Option ASch
 | 0,listed,_ => if (Region.ready .any ops listed).isEmpty then some .done else none
 | fuel + 1,listed,ls =>
  let rs := Region.ready .any ops listed
  if rs.isEmpty then some .done else
  match rs.find? (takeQ P N ops listed ls) with
  | some i => stepS P N ops true i (planS P N ops fuel (listed.setIfInBounds i true) ls)
  | none => match rs with
   | [i] => stepS P N ops (!ls.contains i) i (planS P N ops fuel (listed.setIfInBounds i true) (ls.filter (· != i)))
   | rs => foldS (rs.map fun i => stepS P N ops (!ls.contains i) i (planS P N ops fuel (listed.setIfInBounds i true) (ls.filter (· != i))))
section
variable {P : Program} {B : Base} {ops : Array Oper} {Q : Exit → Act → World → Prop} {K : St → Prop}
theorem foldS_mem : ∀ {l : List (Option ASch)} {t : ASch},foldS l = some t → ∀ x ∈ l,∃ t',x = some t' ∧ ∀ st K,asch P B t st K → asch P B t' st K
 | [],t,h,x,hx => by cases hx
 | y :: l,t,h,x,hx => by
  cases y with
  | none => simp [foldS] at h
  | some t1 =>
   cases hl : foldS l with
   | none => simp [foldS,hl] at h
   | some t2 =>
    simp only [foldS,hl,zA] at h
    subst h
    rcases List.mem_cons.1 hx with rfl | hx
    ·exact ⟨t1,rfl,fun _ _ h => h.1⟩
    ·obtain ⟨t',h1,h2⟩ := foldS_mem hl x hx
     exact ⟨t',h1,fun st K h => h2 st K h.2⟩
theorem stepS_some {N : Nat} {sb : Bool} {i : Nat} {r : Option ASch} {t : ASch} (h : stepS P N ops sb i r = some t) : ∃ o ao t',ops[i]? = some o ∧ coper P N ops o = some ao ∧ r = some t' ∧ t = .one sb ao t' := by
 unfold stepS at h
 cases ho : ops[i]? with
 | none => rw [ho] at h;cases h
 | some o =>
  rw [ho] at h
  simp only at h
  cases hao : coper P N ops o with
  | none => rw [hao] at h;simp at h
  | some ao =>
   rw [hao] at h
   cases r with
   | none => simp at h
   | some t' =>
    simp only [zA] at h
    exact ⟨o,ao,t',rfl,hao,rfl,h.symm⟩
theorem step_sound {hw : List Nat} {w : World} {fuel : Nat} {listed : Array Bool} {i : Nat} {r : Option ASch} {t : ASch} {st : St} {s : Nat → Value} {Z : Cells} {a : Act} (hsz : listed.size = ops.size)
  (h : stepS P B.N ops (!hw.contains i) i r = some t) (hR : Rel B s Z st a w) (hs : asch P B t st K)
  (next : ∀ t',r = some t' → ∀ (st' : St) (s' : Nat → Value) (Z' : Cells) (a' : Act) (w' : World),Rel B s' Z' st' a' w' → asch P B t' st' K → AnyK P .any ops Q ((hw.filter (· != i)).contains ·) w' fuel (listed.setIfInBounds i true) a' w') :
  wpOp P ops Q i (fun a' w' => Kept (hw.contains ·) w (listed.setIfInBounds i true) w' ∧ AnyK P .any ops Q (hw.contains ·) w fuel (listed.setIfInBounds i true) a' w') a w := by
 obtain ⟨o,ao,t',ho,hao,rfl,rfl⟩ := stepS_some h
 have hlt : i < listed.size := by rw [hsz];exact (Array.getElem?_eq_some_iff.1 ho).1
 have hset : (listed.setIfInBounds i true).getD i false = true := by simp [hlt]
 simp only [asch] at hs
 have hG : Goes (!hw.contains i) B w (fun st' => asch P B t' st' K) (fun a' w' => Kept (hw.contains ·) w (listed.setIfInBounds i true) w' ∧ AnyK P .any ops Q (hw.contains ·) w fuel (listed.setIfInBounds i true) a' w') := fun st' s' Z' a' w' hb hK hR' => by
  have hn := next t' rfl st' s' Z' a' w' hR' hK
  cases hl : hw.contains i with
  | true => exact ⟨.inr ⟨i,hl,hset⟩,anyK_late ⟨i,hl,hset⟩ hn⟩
  | false =>
   have hb := hb (by rw [hl];rfl)
   refine ⟨.inl hb,?_⟩
   have hf : hw.filter (· != i) = hw := List.filter_eq_self.2 fun x hx => by
    have : x ≠ i := by rintro rfl;rw [List.contains_iff_mem.2 hx] at hl;cases hl
    simpa using this
   rw [hf] at hn
   exact anyK_base (fun listed' w2 hk => hk.imp (fun h2 => hb.trans (h2.mono hb.size)) id) hn
 obtain ⟨k1,k2⟩ := astep_sound (Q := Q) hR hao hs hG
 unfold wpOp
 simp only [ho]
 cases hw' : Region.wanted o (yielded ops a.tmps) with
 | true => simp only [if_true];exact .inl (k1 hw')
 | false => simp only [Bool.false_eq_true,if_false];exact k2 hw'
theorem planS_sound (hns : Region.noSelect ops = true) (hQ : ∀ c a d v w,Q (.panic c) (Act.put a d v) w → Q (.panic c) a w) (hfin : ∀ st' s' Z' a' w',K st' → Rel B s' Z' st' a' w' → Q .normal a' w') :
  ∀ (fuel : Nat) (listed : Array Bool) (hw : List Nat) (t : ASch) (st : St) (s : Nat → Value) (Z : Cells) (a : Act) (w : World),planS P B.N ops fuel listed hw = some t → listed.size = ops.size → Closed .any ops listed → Rel B s Z st a w → asch P B t st K →
   AnyK P .any ops Q (hw.contains ·) w fuel listed a w
 | 0,listed,hw,t,st,s,Z,a,w,h,hsz,hcl,hR,hs => by
  simp only [planS] at h
  split at h
  case isFalse => cases h
  rename_i he
  simp only [zA] at h
  subst h
  exact ⟨List.isEmpty_iff.1 he,hfin _ _ _ _ _ hs hR⟩
 | fuel + 1,listed,hw,t,st,s,Z,a,w,h,hsz,hcl,hR,hs => by
  simp only [planS] at h
  split at h
  ·rename_i he
   simp only [zA] at h
   subst h
   have he := List.isEmpty_iff.1 he
   exact ⟨fun _ => hfin _ _ _ _ _ hs hR,fun i hi => by rw [he] at hi;cases hi⟩
  rename_i hne
  have hne : Region.ready .any ops listed ≠ [] := fun e => hne (by rw [e];rfl)
  have hszs : ∀ i,(listed.setIfInBounds i true).size = ops.size := fun i => by simpa using hsz
  split at h
  · -- one that may be taken first
   rename_i i hfind
   have hir := List.mem_of_find?_eq_some hfind
   have htk := List.find?_some hfind
   obtain ⟨o,ao,t',ho,hao,hr,rfl⟩ := stepS_some h
   unfold takeQ at htk
   simp only [ho,hao,Bool.and_eq_true,Bool.not_eq_true',Bool.or_eq_true] at htk
   obtain ⟨⟨⟨hq,hli⟩,hfree⟩,hld⟩ := htk
   simp only [asch] at hs
   obtain ⟨hdst,op,hop,g,hg,hcase⟩ := astep_cases hR hao hs
   have hqo : isLoud op = false := by
    unfold coper at hao
    split at hao
    case isFalse => cases hao
    rw [hop] at hao
    simp only at hao
    split at hao
    ·simp only [zA] at hao;subst hao;exact hq
    ·split at hao
     ·simp only [zA] at hao;subst hao;exact hq
     ·cases hao
   obtain ⟨e1,e2⟩ := quiet_eff hR hdst (copX_quiet hop hqo) hqo hg
   have hun := (mem_ready.1 hir).1
   have hkept : Kept (hw.contains ·) w listed w := .inl (Below.refl _ _)
   obtain ⟨v,st',hK',hR',hy⟩ : ∃ v st',asch P B t' st' K ∧ Rel B s Z st' (a.put o.dst v) w ∧ YieldsIf P ops (fun w' => Ok4 w o w') o v a := by
    rcases hcase with ⟨h1,h2⟩ | ⟨h1,h2⟩
    ·obtain ⟨u,st',k1,k2,k3⟩ := e1 h2
     exact ⟨u,st',k1,k2,.inl ⟨h1,k3⟩⟩
    ·obtain ⟨st',k1,k2⟩ := e2 h2
     exact ⟨undef,st',k1,k2,.inr ⟨h1,rfl⟩⟩
   have next := planS_sound hns hQ hfin fuel (listed.setIfInBounds i true) hw t' st' s Z (a.put o.dst v) w hr (hszs i) (hcl.set hir) hR' hK'
   refine anyK_first ho (Region.noSelect_spec hns) (fun c a w h => hQ c a _ _ w h) (fun w' => Ok4 w o w') (fun listed' w' hc hu hk => ?_) (by simpa using hli) fuel listed a w hcl (Region.free_spec ho hfree) hir hy hkept next
   rcases hld with hld | hld
   ·exact .inr hld
   ·refine .inl (More.below (hk.below hu fun t ht hlt => ?_))
    have h3 := List.all_eq_true.1 hld t (by simpa using ht)
    exact aheadL_listed hc t [t] (fun y hy => by rw [List.mem_singleton.1 hy];exact hlt) i (by simpa using h3)
  ·split at h
   · -- the only one
    rename_i i hri
    refine ⟨fun e => absurd e hne,fun j hj => ?_⟩
    have hji : j = i := by rw [hri] at hj;simpa using hj
    subst hji
    exact step_sound hsz h hR hs fun t' ht' st' s' Z' a' w' hR' hs' => planS_sound hns hQ hfin fuel _ _ t' st' s' Z' a' w' ht' (hszs j) (hcl.set hj) hR' hs'
   ·refine ⟨fun e => absurd e hne,fun j hj => ?_⟩
    obtain ⟨t',ht',himp⟩ := foldS_mem (P := P) (B := B) h _ (List.mem_map.2 ⟨j,hj,rfl⟩)
    exact step_sound hsz ht' hR (himp _ _ hs) fun t' ht' st' s' Z' a' w' hR' hs' => planS_sound hns hQ hfin fuel _ _ t' st' s' Z' a' w' ht' (hszs j) (hcl.set hj) hR' hs'
theorem draw_sound {id : Nat} {hw : List FuncId} {t : ASch} {st : St} {s : Nat → Value} {Z : Cells} {a : Act} {w : World} (hm : P.follows .mixedOrders = true) (hns : Region.noSelect ops = true) (hp : planS P B.N ops ops.size (Array.replicate ops.size false) (lates hw ops) = some t)
  (hQ : ∀ c a d v w,Q (.panic c) (Act.put a d v) w → Q (.panic c) a w) (hfin : ∀ st' s' Z' a' w',K st' → Rel B s' Z' st' a' w' → Q .normal a' w') (hR : Rel B s Z st a w) (hs : asch P B t st K) : (Code.region id ops true).wp P Q a w := by
 have hR' : Rel B s Z st a w.drew := ⟨hR.env,hR.elt,hR.size,hR.defers,hR.h.call (Below.refl _ _).drew (Zx.refl hR.h.zok (Below.refl _ _).drew)⟩
 refine wp_region_any hm ?_
 refine any_of_K _ _ _ _ (planS_sound hns hQ hfin _ _ _ t st s Z a w.drew hp (by simp) (fun j oj _ hl => ?_) hR' hs)
 exfalso
 rcases Nat.lt_or_ge j ops.size with h' | h'
 ·simp [h'] at hl
 ·simp [h'] at hl
end
inductive AC where
 | skip
 | region (id : Nat) (ops : List AO)
 | draw (id : Nat) (t : ASch)
 | seq (a b : AC)
 | cond (c : Nat) (a b : AC)
 | block (id : Nat) (a : AC)
 | loop (a : AC)
 | exit (id : Nat)
 | scope (a : AC)
 | ret
def cco (P : Program) (N : Nat) (hw : List FuncId) : Code → Option AC
 | .skip => some .skip
 | .label _ => some .skip
 | .region id ops false => (copers P N ops ops.toList).map fun r => .region id r
 | .region id ops true => if Region.noSelect ops then (planS P N ops ops.size (Array.replicate ops.size false) (lates hw ops)).map fun t => .draw id t else none
 | .seq a b => match cco P N hw a,cco P N hw b with
  | some x,some y => some (.seq x y)
  | _,_ => none
 | .cond (.tmp t) a b => match cco P N hw a,cco P N hw b with
  | some x,some y => some (.cond t x y)
  | _,_ => none
 | .block id a => (cco P N hw a).map (.block id)
 | .loop a => (cco P N hw a).map .loop
 | .exit id => some (.exit id)
 | .scope a => (cco P N hw a).map .scope
 | .ret => some .ret
 | _ => none
inductive AR where
 | t (n : Nat)
 | c (p : Nat) (ag : Bool) (n : Nat)
def cres (P : Program) : List ResultVar → Option (List AR)
 | [] => some []
 | .tmp t :: r => (cres P r).map (.t t :: ·)
 | .cell p ty :: r => match agT P ty,szT P ty,cres P r with
  | some a,some n,some l => some (.c p a n :: l)
  | _,_,_ => none
structure AF where
 code : AC
 res : List AR
 n : Nat
def cfun (P : Program) (hw : List FuncId) (f : FuncId) : Option AF :=
 match P.funcs[f]? with
 | some fn => if fn.name == "runtime.NumGoroutine" then none else match fn.body with
  | some c => match cco P fn.ntmps hw c,cres P fn.results.toList with
   | some c,some r => some ⟨c,r,fn.ntmps⟩
   | _,_ => none
  | none => none
 | none => none
inductive Ex where
 | normal
 | exit (id : Nat)
 | ret
def Lift (B : Base) (Q : Ex → St → Prop) : Exit → Act → World → Prop
 | .normal,a,w => ∃ st s Z,Q .normal st ∧ Rel B s Z st a w
 | .exit id,a,w => ∃ st s Z,Q (.exit id) st ∧ Rel B s Z st a w
 | .ret,a,w => ∃ st s Z,Q .ret st ∧ Rel B s Z st a w
 | _,_,_ => False
def W (P : Program) (B : Base) (hw : List FuncId) (c : AC) (Q : Ex → St → Prop) (st : St) : Prop :=
 P.follows .mixedOrders = true → ∀ code,cco P B.N hw code = some c → ∀ s Z a w,Rel B s Z st a w → code.wp P (Lift B Q) a w
def Gh (B : Base) (st st1 : St) : Prop := ∀ s Z a w,Rel B s Z st a w → ∃ s' Z',Rel B s' Z' st1 a w
def keep (ks : List Nat) : List (Nat × D) → List (Nat × D)
 | [] => []
 | (k,d) :: l => if ks.contains k then (k,d) :: keep ks l else keep ks l
def trim (ks : List Nat) (st : St) : St := ⟨keep ks st.env,st.heap,st.nx⟩
theorem eget_keep (ks : List Nat) (k : Nat) : ∀ (l : List (Nat × D)),eget (keep ks l) k = eget l k ∨ eget (keep ks l) k = .any
 | [] => .inr rfl
 | (j,d) :: l => by
  simp only [keep]
  split
  ·simp only [eget]
   split
   ·exact .inl rfl
   ·exact eget_keep ks k l
  ·rename_i hj
   by_cases h : k = j
   ·subst h
    right
    have : ∀ l : List (Nat × D),eget (keep ks l) k = .any := fun l => by
     induction l with
     | nil => rfl
     | cons p l ih =>
      obtain ⟨i,e⟩ := p
      simp only [keep]
      split
      ·rename_i hi
       have : k ≠ i := by rintro rfl;exact hj hi
       simp only [eget,if_neg this,ih]
      ·exact ih
    exact this l
   ·simp only [eget,if_neg h];exact eget_keep ks k l
section
variable {P : Program} {B : Base} {hw : List FuncId} {Q Q' : Ex → St → Prop} {st st1 : St} {s : Nat → Value} {Z : Cells} {a : Act} {w : World}
theorem Rel.trim (h : Rel B s Z st a w) (ks : List Nat) : Rel B s Z (Go.Proofs.YtbhcfldafpndbaaDoor.trim ks st) a w where
 env k := by
  rcases eget_keep ks k st.env with h1 | h1
  ·simp only [Go.Proofs.YtbhcfldafpndbaaDoor.trim,h1];exact h.env k
  ·simp only [Go.Proofs.YtbhcfldafpndbaaDoor.trim,h1];trivial
 elt k := by
  rcases eget_keep ks k st.env with h1 | h1
  ·simp only [Go.Proofs.YtbhcfldafpndbaaDoor.trim,h1];exact h.elt k
  ·simp only [Go.Proofs.YtbhcfldafpndbaaDoor.trim,h1];trivial
 size := h.size
 defers := h.defers
 h := h.h
theorem Gh.trim (ks : List Nat) : Gh B st (trim ks st) := fun s Z _ _ h => ⟨s,Z,h.trim ks⟩
theorem Lift.mono (hq : ∀ e st,Q e st → Q' e st) {e : Exit} {a : Act} {w : World} (h : Lift B Q e a w) : Lift B Q' e a w := by
 cases e <;> first | exact h.elim | (obtain ⟨st,s,Z,h1,h2⟩ := h;exact ⟨st,s,Z,hq _ _ h1,h2⟩)
theorem W.mono {c : AC} (h : W P B hw c Q st) (hq : ∀ e st,Q e st → Q' e st) : W P B hw c Q' st := fun hm code hc s Z a w hr => wp_mono (h hm code hc s Z a w hr) fun _ _ _ => Lift.mono hq
def seqQ (next : St → Prop) (Q : Ex → St → Prop) : Ex → St → Prop
 | .normal,st => next st
 | e,st => Q e st
def blockQ (id : Nat) (Q : Ex → St → Prop) : Ex → St → Prop
 | .exit id',st => if id' = id then Q .normal st else Q (.exit id') st
 | e,st => Q e st
theorem W.skip (h : Q .normal st) : W P B hw .skip Q st := fun _ code hc s Z a w hr => by
 cases code with
 | skip => exact wp_skip ⟨st,s,Z,h,hr⟩
 | label l => exact wp_label ⟨st,s,Z,h,hr⟩
 | region id ops d => cases d <;> simp only [cco] at hc <;> (try split at hc) <;> simp at hc
 | seq x y => simp only [cco] at hc;split at hc <;> simp at hc
 | cond c x y => cases c <;> simp only [cco] at hc <;> (try split at hc) <;> simp at hc
 | block id x => simp [cco] at hc
 | loop x => simp [cco] at hc
 | scope x => simp [cco] at hc
 | _ => simp [cco] at hc
theorem W.ret (h : Q .ret st) : W P B hw .ret Q st := fun _ code hc s Z a w hr => by
 cases code with
 | ret => exact wp_ret ⟨st,s,Z,h,hr⟩
 | region id ops d => cases d <;> simp only [cco] at hc <;> (try split at hc) <;> simp at hc
 | seq x y => simp only [cco] at hc;split at hc <;> simp at hc
 | cond c x y => cases c <;> simp only [cco] at hc <;> (try split at hc) <;> simp at hc
 | _ => simp [cco] at hc
theorem W.exit {id : Nat} (h : Q (.exit id) st) : W P B hw (.exit id) Q st := fun _ code hc s Z a w hr => by
 cases code with
 | exit i => simp only [cco,zA,AC.exit.injEq] at hc;subst hc;exact wp_exit ⟨st,s,Z,h,hr⟩
 | region id ops d => cases d <;> simp only [cco] at hc <;> (try split at hc) <;> simp at hc
 | seq x y => simp only [cco] at hc;split at hc <;> simp at hc
 | cond c x y => cases c <;> simp only [cco] at hc <;> (try split at hc) <;> simp at hc
 | _ => simp [cco] at hc
theorem W.seq {x y : AC} (h : W P B hw x (seqQ (W P B hw y Q) Q) st) : W P B hw (.seq x y) Q st := fun hm code hc s Z a w hr => by
 cases code with
 | seq c d =>
  simp only [cco] at hc
  split at hc <;> simp only [zA,reduceCtorEq,AC.seq.injEq] at hc
  rename_i hx hy
  obtain ⟨rfl,rfl⟩ := hc
  refine wp_seq (wp_mono (h hm c hx s Z a w hr) fun e a' w' hl => ?_)
  cases e with
  | normal => obtain ⟨st',s',Z',h1,h2⟩ := hl;exact h1 hm d hy s' Z' a' w' h2
  | _ => exact hl
 | region id ops d => cases d <;> simp only [cco] at hc <;> (try split at hc) <;> simp at hc
 | cond c x y => cases c <;> simp only [cco] at hc <;> (try split at hc) <;> simp at hc
 | _ => simp [cco] at hc
theorem W.cond {c : Nat} {t : Bool} {x y : AC} (ht : eget st.env c = .bool t) (h1 : t = true → W P B hw x Q st) (h2 : t = false → W P B hw y Q st) : W P B hw (.cond c x y) Q st := fun hm code hc s Z a w hr => by
 cases code with
 | cond o p q =>
  cases o with
  | tmp k =>
   simp only [cco] at hc
   split at hc <;> simp only [zA,reduceCtorEq,AC.cond.injEq] at hc
   rename_i hx hy
   obtain ⟨rfl,rfl,rfl⟩ := hc
   have hv := hr.env k
   rw [ht] at hv
   have hb : a.eval (.tmp k) = .bool t := VR.bool_inv (s := s) (Z := Z) hv
   exact wp_cond_split hb (fun e => h1 e hm p hx s Z a w hr) (fun e => h2 e hm q hy s Z a w hr)
  | _ => simp [cco] at hc
 | region id ops d => cases d <;> simp only [cco] at hc <;> (try split at hc) <;> simp at hc
 | seq x y => simp only [cco] at hc;split at hc <;> simp at hc
 | _ => simp [cco] at hc
theorem W.block {id : Nat} {x : AC} (h : W P B hw x (blockQ id Q) st) : W P B hw (.block id x) Q st := fun hm code hc s Z a w hr => by
 cases code with
 | block i c =>
  simp only [cco,Option.map_eq_some_iff,AC.block.injEq] at hc
  obtain ⟨x',hx,rfl,rfl⟩ := hc
  refine wp_block (wp_mono (h hm c hx s Z a w hr) fun e a' w' hl => ?_)
  cases e with
  | exit j =>
   obtain ⟨st',s',Z',h1,h2⟩ := hl
   simp only [blockQ] at h1
   simp only [Exit.inBlock]
   split at h1
   ·rename_i e;rw [if_pos e];exact ⟨st',s',Z',h1,h2⟩
   ·rename_i e;rw [if_neg e];exact ⟨st',s',Z',h1,h2⟩
  | _ => exact hl
 | region id ops d => cases d <;> simp only [cco] at hc <;> (try split at hc) <;> simp at hc
 | seq x y => simp only [cco] at hc;split at hc <;> simp at hc
 | cond c x y => cases c <;> simp only [cco] at hc <;> (try split at hc) <;> simp at hc
 | _ => simp [cco] at hc
theorem W.scope {x : AC} (h : W P B hw x Q st) : W P B hw (.scope x) Q st := fun hm code hc s Z a w hr => by
 cases code with
 | scope c =>
  simp only [cco,Option.map_eq_some_iff,AC.scope.injEq] at hc
  obtain ⟨x',hx,rfl⟩ := hc
  refine wp_scope_straight (wp_mono (h hm c hx s Z a w hr) fun e a' w' hl => ?_)
  cases e <;> first | exact hl | exact hl.elim
 | region id ops d => cases d <;> simp only [cco] at hc <;> (try split at hc) <;> simp at hc
 | seq x y => simp only [cco] at hc;split at hc <;> simp at hc
 | cond c x y => cases c <;> simp only [cco] at hc <;> (try split at hc) <;> simp at hc
 | _ => simp [cco] at hc
theorem W.region {id : Nat} {ops : List AO} {K : St → Prop} (h : aops P B ops st K) (hK : ∀ st',K st' → ∃ st1,Gh B st' st1 ∧ Q .normal st1) : W P B hw (.region id ops) Q st := fun hm code hc s Z a w hr => by
 have fin : ∀ st' s' Z' a' w',K st' → Rel B s' Z' st' a' w' → Lift B Q .normal a' w' := fun st' s' Z' a' w' h1 h2 => by
  obtain ⟨st1,hg,hq⟩ := hK st' h1
  obtain ⟨s1,Z1,hr1⟩ := hg s' Z' a' w' h2
  exact ⟨st1,s1,Z1,hq,hr1⟩
 cases code with
 | region i os d =>
  cases d with
  | false =>
   simp only [cco,Option.map_eq_some_iff,AC.region.injEq] at hc
   obtain ⟨r,hr',rfl,rfl⟩ := hc
   exact wp_region_list (aops_sound os.toList r st s Z a w hr' hr h fin)
  | true => simp only [cco] at hc;split at hc <;> simp at hc
 | seq x y => simp only [cco] at hc;split at hc <;> simp at hc
 | cond c x y => cases c <;> simp only [cco] at hc <;> (try split at hc) <;> simp at hc
 | _ => simp [cco] at hc
theorem W.draw {id : Nat} {t : ASch} {K : St → Prop} (h : asch P B t st K) (hK : ∀ st',K st' → ∃ st1,Gh B st' st1 ∧ Q .normal st1) : W P B hw (.draw id t) Q st := fun hm code hc s Z a w hr => by
 have fin : ∀ st' s' Z' a' w',K st' → Rel B s' Z' st' a' w' → Lift B Q .normal a' w' := fun st' s' Z' a' w' h1 h2 => by
  obtain ⟨st1,hg,hq⟩ := hK st' h1
  obtain ⟨s1,Z1,hr1⟩ := hg s' Z' a' w' h2
  exact ⟨st1,s1,Z1,hq,hr1⟩
 cases code with
 | region i os d =>
  cases d with
  | false => simp [cco] at hc
  | true =>
   simp only [cco] at hc
   split at hc
   case isFalse => cases hc
   rename_i hns
   simp only [Option.map_eq_some_iff,AC.draw.injEq] at hc
   obtain ⟨r,hr',rfl,rfl⟩ := hc
   exact draw_sound hm hns hr' (fun c a d v w h => h.elim) fin hr h
 | seq x y => simp only [cco] at hc;split at hc <;> simp at hc
 | cond c x y => cases c <;> simp only [cco] at hc <;> (try split at hc) <;> simp at hc
 | _ => simp [cco] at hc
theorem least {p : Nat → Prop} (h : ∃ n,p n) : ∃ n,p n ∧ ∀ m,p m → n ≤ m := by
 obtain ⟨n,hn⟩ := h
 induction n using Nat.strongRecOn with
 | _ n ih =>
  by_cases h : ∃ m,m < n ∧ p m
  ·obtain ⟨m,h1,h2⟩ := h;exact ih m h1 h2
  ·exact ⟨n,hn,fun m hm => Nat.le_of_not_lt fun hl => h ⟨m,hl,hm⟩⟩
theorem W.loop {x : AC} (I : Nat → St → Prop) (h0 : ∃ n st1,Gh B st st1 ∧ I n st1) (hround : ∀ n st,I n st → W P B hw x (seqQ (fun st' => ∃ m st1,Gh B st' st1 ∧ m < n ∧ I m st1) Q) st) : W P B hw (.loop x) Q st := fun hm code hc s Z a w hr => by
 cases code with
 | loop c =>
  simp only [cco,Option.map_eq_some_iff,AC.loop.injEq] at hc
  obtain ⟨x',hx,rfl⟩ := hc
  classical
  let J : Nat → Act → World → Prop := fun n a w => ∃ st s Z,I n st ∧ Rel B s Z st a w
  let mu : Act → World → Nat := fun a w => if h : ∃ n,J n a w then Classical.choose (least h) else 0
  have hmu : ∀ a w (_ : ∃ n,J n a w),J (mu a w) a w ∧ ∀ n,J n a w → mu a w ≤ n := fun a w h => by
   have e : mu a w = Classical.choose (least h) := dif_pos h
   rw [e]
   exact Classical.choose_spec (least h)
  refine wp_loop (fun a w => ∃ n,J n a w) mu ?_ ?_
  ·obtain ⟨n,st1,hg,hI⟩ := h0
   obtain ⟨s',Z',hr'⟩ := hg s Z a w hr
   exact ⟨n,st1,s',Z',hI,hr'⟩
  ·intro a w hJ
   obtain ⟨⟨st1,s1,Z1,hI,hR1⟩,_⟩ := hmu a w hJ
   refine wp_mono (hround _ st1 hI hm c hx s1 Z1 a w hR1) fun e a' w' hl => ?_
   cases e with
   | normal =>
    obtain ⟨st',s',Z',⟨m,st2,hg,hlt,hI2⟩,h2⟩ := hl
    obtain ⟨s2,Z2,hr2⟩ := hg s' Z' a' w' h2
    have hJ' : ∃ n,J n a' w' := ⟨m,st2,s2,Z2,hI2,hr2⟩
    exact ⟨hJ',Nat.lt_of_le_of_lt ((hmu a' w' hJ').2 m ⟨st2,s2,Z2,hI2,hr2⟩) hlt⟩
   | _ => exact hl
 | region id ops d => cases d <;> simp only [cco] at hc <;> (try split at hc) <;> simp at hc
 | seq x y => simp only [cco] at hc;split at hc <;> simp at hc
 | cond c x y => cases c <;> simp only [cco] at hc <;> (try split at hc) <;> simp at hc
 | _ => simp [cco] at hc
def acode (P : Program) (B : Base) (hw : List FuncId) (ks stops : List Nat) : AC → (Ex → St → Prop) → St → Prop
 | .skip,Q,st => Q .normal st
 | .region id ops,Q,st => if stops.contains id then W P B hw (.region id ops) Q st else aops P B ops st (fun st' => Q .normal (trim ks st'))
 | .draw id t,Q,st => if stops.contains id then W P B hw (.draw id t) Q st else asch P B t st (fun st' => Q .normal (trim ks st'))
 | .seq a b,Q,st => acode P B hw ks stops a (seqQ (acode P B hw ks stops b Q) Q) st
 | .cond c a b,Q,st => match eget st.env c with
  | .bool t => (t = true → acode P B hw ks stops a Q st) ∧ (t = false → acode P B hw ks stops b Q st)
  | _ => False
 | .block id a,Q,st => acode P B hw ks stops a (blockQ id Q) st
 | .loop a,Q,st => W P B hw (.loop a) Q st
 | .exit id,Q,st => Q (.exit id) st
 | .scope a,Q,st => acode P B hw ks stops a Q st
 | .ret,Q,st => Q .ret st
def TK (ks : List Nat) (Q : Ex → St → Prop) (st : St) : Prop := Q .normal (trim ks st)
theorem TK_at (ks : List Nat) (Q : Ex → St → Prop) (env : List (Nat × D)) (H : List (Nat × Ob)) (nx : Nat) : TK ks Q ⟨env,H,nx⟩ = Q .normal (trim ks ⟨env,H,nx⟩) := rfl
def OK (P : Program) (B : Base) (os : List AO) (K : St → Prop) (st : St) : Prop := aops P B os st K
theorem OK_at (os : List AO) (K : St → Prop) (env : List (Nat × D)) (H : List (Nat × Ob)) (nx : Nat) : OK P B os K ⟨env,H,nx⟩ = aops P B os ⟨env,H,nx⟩ K := rfl
theorem aops_nil (st : St) (K : St → Prop) : aops P B [] st K = K st := rfl
theorem aops_cons (o : AO) (os : List AO) (st : St) (K : St → Prop) : aops P B (o :: os) st K = astep P false B o st (OK P B os K) := rfl
def SK (P : Program) (B : Base) (r : ASch) (K : St → Prop) (st : St) : Prop := asch P B r st K
theorem SK_at (r : ASch) (K : St → Prop) (env : List (Nat × D)) (H : List (Nat × Ob)) (nx : Nat) : SK P B r K ⟨env,H,nx⟩ = asch P B r ⟨env,H,nx⟩ K := rfl
theorem asch_done (st : St) (K : St → Prop) : asch P B .done st K = K st := rfl
theorem asch_one (sb : Bool) (o : AO) (r : ASch) (st : St) (K : St → Prop) : asch P B (.one sb o r) st K = astep P sb B o st (SK P B r K) := rfl
theorem asch_two (l r : ASch) (st : St) (K : St → Prop) : asch P B (.two l r) st K = (asch P B l st K ∧ asch P B r st K) := rfl
theorem asch_top (st : St) (K : St → Prop) : asch P B .top st K = True := rfl
def AK (P : Program) (B : Base) (hw : List FuncId) (ks stops : List Nat) (c : AC) (Q : Ex → St → Prop) (st : St) : Prop := acode P B hw ks stops c Q st
theorem AK_at (c : AC) (Q : Ex → St → Prop) (ks stops : List Nat) (env : List (Nat × D)) (H : List (Nat × Ob)) (nx : Nat) : AK P B hw ks stops c Q ⟨env,H,nx⟩ = acode P B hw ks stops c Q ⟨env,H,nx⟩ := rfl
theorem acode_seq (a b : AC) (Q : Ex → St → Prop) (ks stops : List Nat) (st : St) : acode P B hw ks stops (.seq a b) Q st = acode P B hw ks stops a (seqQ (AK P B hw ks stops b Q) Q) st := rfl
theorem acode_region (id : Nat) (ops : List AO) (Q : Ex → St → Prop) (ks stops : List Nat) (st : St) : acode P B hw ks stops (.region id ops) Q st = if stops.contains id then W P B hw (.region id ops) Q st else aops P B ops st (TK ks Q) := rfl
theorem acode_draw (id : Nat) (t : ASch) (Q : Ex → St → Prop) (ks stops : List Nat) (st : St) : acode P B hw ks stops (.draw id t) Q st = if stops.contains id then W P B hw (.draw id t) Q st else asch P B t st (TK ks Q) := rfl
def CB (t : Bool) (a b : Prop) : Prop := (t = true → a) ∧ (t = false → b)
theorem CB_t (a b : Prop) : CB true a b = a := by simp [CB]
theorem CB_f (a b : Prop) : CB false a b = b := by simp [CB]
theorem CB_u (t : Bool) (a b : Prop) : CB t a b = ((t = true → a) ∧ (t = false → b)) := rfl
theorem acode_cond (c : Nat) (a b : AC) (Q : Ex → St → Prop) (ks stops : List Nat) (st : St) : acode P B hw ks stops (.cond c a b) Q st = match eget st.env c with
  | .bool t => CB t (acode P B hw ks stops a Q st) (acode P B hw ks stops b Q st)
  | _ => False := rfl
theorem aop_eq (sb : Bool) (g : Option Bool) (dst : Option Nat) (op : AOp) (st : St) (K : St → Prop) : aop P sb B g dst op st K =
 if isLoud op then
  match g with
  | none => aloud P sb B dst op st K
  | some c => CB c (aloud P sb B dst op st K) (K ⟨putO st.env dst (.opt false .any),st.heap,st.nx⟩)
 else
  match op with
  | .pick c x y => match evS st.env c with
   | .bool b => match pickV b (evS st.env x) (evS st.env y) with
    | some (p,d) => afin g dst ((gS st.env c = true ∧ (b = true → gS st.env x = true) ∧ (b = false → gS st.env y = true)) ∧ p) d st K
    | none => afin0 g dst st K
   | _ => afin0 g dst st K
  | .isnil ne x => match lenD st.heap (evS st.env x) with
   | some n => ∀ b : Bool,(0 < n → b = ne) → afin g dst (gS st.env x = true) (.bool b) st K
   | none => afin0 g dst st K
  | op => match qv (evS st.env) st.heap op with
   | some (p,d) => afin g dst (oks st.env op = true ∧ p) d st K
   | none => afin0 g dst st K := by cases g <;> cases op <;> rfl
theorem acode_block (id : Nat) (a : AC) (Q : Ex → St → Prop) (ks stops : List Nat) (st : St) : acode P B hw ks stops (.block id a) Q st = acode P B hw ks stops a (blockQ id Q) st := rfl
theorem acode_loop (a : AC) (Q : Ex → St → Prop) (ks stops : List Nat) (st : St) : acode P B hw ks stops (.loop a) Q st = W P B hw (.loop a) Q st := rfl
theorem acode_exit (id : Nat) (Q : Ex → St → Prop) (ks stops : List Nat) (st : St) : acode P B hw ks stops (.exit id) Q st = Q (.exit id) st := rfl
theorem acode_scope (a : AC) (Q : Ex → St → Prop) (ks stops : List Nat) (st : St) : acode P B hw ks stops (.scope a) Q st = acode P B hw ks stops a Q st := rfl
theorem acode_ret (Q : Ex → St → Prop) (ks stops : List Nat) (st : St) : acode P B hw ks stops .ret Q st = Q .ret st := rfl
theorem acode_skip (Q : Ex → St → Prop) (ks stops : List Nat) (st : St) : acode P B hw ks stops .skip Q st = Q .normal st := rfl
theorem seqQ_n (next : St → Prop) (Q : Ex → St → Prop) (st : St) : seqQ next Q .normal st = next st := rfl
theorem seqQ_e (next : St → Prop) (Q : Ex → St → Prop) (i : Nat) (st : St) : seqQ next Q (.exit i) st = Q (.exit i) st := rfl
theorem seqQ_r (next : St → Prop) (Q : Ex → St → Prop) (st : St) : seqQ next Q .ret st = Q .ret st := rfl
theorem blockQ_n (id : Nat) (Q : Ex → St → Prop) (st : St) : blockQ id Q .normal st = Q .normal st := rfl
theorem blockQ_e (id i : Nat) (Q : Ex → St → Prop) (st : St) : blockQ id Q (.exit i) st = if i = id then Q .normal st else Q (.exit i) st := rfl
theorem blockQ_r (id : Nat) (Q : Ex → St → Prop) (st : St) : blockQ id Q .ret st = Q .ret st := rfl
theorem acode_sound (ks stops : List Nat) : ∀ (c : AC) (Q : Ex → St → Prop) (st : St),acode P B hw ks stops c Q st → W P B hw c Q st
 | .skip,Q,st,h => W.skip h
 | .region id ops,Q,st,h => by
  simp only [acode] at h
  split at h
  ·exact h
  ·exact W.region h fun st' h => ⟨_,Gh.trim ks,h⟩
 | .draw id t,Q,st,h => by
  simp only [acode] at h
  split at h
  ·exact h
  ·exact W.draw h fun st' h => ⟨_,Gh.trim ks,h⟩
 | .seq a b,Q,st,h => W.seq ((acode_sound ks stops a _ st h).mono fun e st' h' => by
   cases e with
   | normal => exact acode_sound ks stops b Q st' h'
   | _ => exact h')
 | .cond c a b,Q,st,h => by
  simp only [acode] at h
  split at h
  ·rename_i t ht
   exact W.cond ht (fun e => acode_sound ks stops a Q st (h.1 e)) (fun e => acode_sound ks stops b Q st (h.2 e))
  ·exact h.elim
 | .block id a,Q,st,h => W.block (acode_sound ks stops a _ st h)
 | .loop a,Q,st,h => h
 | .exit id,Q,st,h => W.exit h
 | .scope a,Q,st,h => W.scope (acode_sound ks stops a Q st h)
 | .ret,Q,st,h => W.ret h
def aresv (env : List (Nat × D)) (H : List (Nat × Ob)) : AR → Option (Prop × D)
 | .t n => some (gof (eget env n) = true,strip (eget env n))
 | .c p ag n => match qv (evS env) H (.load ag n (.t p)) with
  | some (q,d) => some (gof (eget env p) = true ∧ q,d)
  | none => none
def aresl (env : List (Nat × D)) (H : List (Nat × Ob)) : List AR → Option (Prop × List D)
 | [] => some (True,[])
 | r :: rs => match aresv env H r,aresl env H rs with
  | some (p,d),some (q,ds) => some (p ∧ q,d :: ds)
  | _,_ => none
def resD : List D → D
 | [d] => d
 | ds => .tup ds
def Fin (res : List AR) (R : D → List (Nat × Ob) → Nat → Prop) : Ex → St → Prop
 | .exit _,_ => False
 | _,st => match aresl st.env st.heap res with
  | some (p,ds) => (p ∧ ds.all argOk = true) ∧ R (resD ds) st.heap st.nx
  | none => False
def envOf : Nat → List D → List (Nat × D)
 | _,[] => []
 | i,d :: ds => eput (envOf (i + 1) ds) i d
theorem eget_envOf : ∀ (ds : List D) (i k : Nat),eget (envOf i ds) k = if i ≤ k then ds.getD (k - i) .any else .any
 | [],i,k => by simp [envOf,eget]
 | d :: ds,i,k => by
  simp only [envOf,eget_eput,eget_envOf ds (i + 1) k]
  by_cases h : k = i
  ·subst h;simp
  ·rw [if_neg h]
   by_cases h1 : i + 1 ≤ k
   ·rw [if_pos h1,if_pos (by omega)]
    have : k - i = (k - (i + 1)) + 1 := by omega
    rw [this,List.getD_cons_succ]
   ·rw [if_neg h1,if_neg (by omega)]
theorem load_var {ty : TypeId} {q : Addr} {w : World} : (do loadVar ty (← asAddr (.pointer (some q))) : Sem Value).run P w = (Instr.loadAt ty (.pointer (some q))).run P w := by
 simp [Instr.loadAt,Instr.sureAddr,asAddr]
theorem res_run (h : Rel B s Z st a w) : ∀ (rs : List ResultVar) (ars : List AR) (p : Prop) (ds : List D),cres P rs = some ars → aresl st.env st.heap ars = some (p,ds) → p →
  ∃ vs : List Value,vs.length = ds.length ∧ (∀ j x,ds[j]? = some x → VR s Z x (vs.getD j undef)) ∧ (∀ d ∈ ds,LtR st.nx d) ∧
   (rs.mapM (m := Sem) fun | .tmp t => pure (a.tmps.getD t undef) | .cell q t => do loadVar t (← asAddr (a.tmps.getD q undef))).run P w = .ok vs w
 | [],ars,p,ds,hc,hr,hp => by
  simp only [cres,zA] at hc
  subst hc
  simp only [aresl,zA,Prod.mk.injEq] at hr
  obtain ⟨_,rfl⟩ := hr
  exact ⟨[],rfl,(fun j x hx => by simp at hx),(fun d hd => by simp at hd),by simp⟩
 | r :: rs,ars,p,ds,hc,hr,hp => by
  have key : ∃ ar ars',ars = ar :: ars' ∧ cres P rs = some ars' ∧ ∀ q d,aresv st.env st.heap ar = some (q,d) → q → ∃ v,VR s Z d v ∧ LtR st.nx d ∧ ((match r with | .tmp t => pure (a.tmps.getD t undef) | .cell q t => do loadVar t (← asAddr (a.tmps.getD q undef)) : Sem Value)).run P w = .ok v w := by
   cases r with
   | tmp t =>
    simp only [cres,Option.map_eq_some_iff] at hc
    obtain ⟨l,hl,rfl⟩ := hc
    refine ⟨_,_,rfl,hl,fun q d hq hqp => ?_⟩
    simp only [aresv,zA,Prod.mk.injEq] at hq
    obtain ⟨rfl,rfl⟩ := hq
    have := h.vr (x := .tmp t) (y := .t t) rfl hqp
    exact ⟨_,this,h.lr (x := .tmp t) (y := .t t) rfl hqp,by simp [Act.eval]⟩
   | cell t ty =>
    simp only [cres] at hc
    split at hc <;> simp only [zA,reduceCtorEq] at hc
    rename_i ag n l h1 h2 h3
    subst hc
    refine ⟨_,_,rfl,h3,fun q d hq hqp => ?_⟩
    simp only [aresv] at hq
    split at hq <;> simp only [zA,Prod.mk.injEq,reduceCtorEq] at hq
    rename_i q' d' hqv
    obtain ⟨rfl,rfl⟩ := hq
    have hv := h.vr (x := .tmp t) (y := .t t) rfl hqp.1
    obtain ⟨es,p',hr,ht,hp'⟩ := reads_of (ev := evS st.env) h.h.know hv rfl hqv hqp.2
    obtain ⟨u,hu,hrun⟩ := load_sound h1 h2 hr ht hp'
    obtain ⟨b,o,he,_⟩ := hr
    refine ⟨u,hu,?_,?_⟩
    ·exact qv_lt (P := P) (s := s) (Z := Z) (o := .load ty (.tmp t)) (ao := .load ag n (.t t)) h.h.know (fun id ob hh => (h.h.lt id ob hh).2) (by simp [cop,h1,h2,opdC]) (fun x hx => by simp [opnds] at hx;subst hx;exact h.lr (x := .tmp t) rfl hqp.1) (fun x hx => by simp [opnds] at hx;subst hx;exact ⟨_,hv⟩) hqv hqp.2
    ·have := hrun w (More.refl w)
     have he' : a.tmps.getD t undef = .pointer (some ⟨b,o,none⟩) := he
     simp only [he']
     rw [← this,he]
     exact load_var
  obtain ⟨ar,ars',rfl,hcr,hkey⟩ := key
  simp only [aresl] at hr
  cases h1 : aresv st.env st.heap ar with
  | none => rw [h1] at hr;simp at hr
  | some qd =>
   obtain ⟨q,d⟩ := qd
   rw [h1] at hr
   cases h2 : aresl st.env st.heap ars' with
   | none => rw [h2] at hr;simp at hr
   | some qds =>
    obtain ⟨q',ds'⟩ := qds
    rw [h2] at hr
    simp only [zA,Prod.mk.injEq] at hr
    obtain ⟨rfl,rfl⟩ := hr
    obtain ⟨v,hv,hlt,hrun⟩ := hkey q d h1 hp.1
    obtain ⟨vs,g1,g2,g3,g4⟩ := res_run h rs ars' q' ds' hcr h2 hp.2
    refine ⟨v :: vs,by simp [g1],fun j x hx => ?_,fun x hx => ?_,?_⟩
    ·cases j with
     | zero => simp at hx;subst hx;exact hv
     | succ j => simpa using g2 j x (by simpa using hx)
    ·rcases List.mem_cons.1 hx with rfl | hx
     ·exact hlt
     ·exact g3 x hx
    ·rw [List.mapM_cons]
     simp only [Sem.run_bind]
     cases r <;> simp only [hrun,Result.andThen_ok,g4,Sem.run_pure]
end
section
variable {P : Program} {hw : List FuncId} {f : FuncId} {code : AC} {res : List AR} {n : Nat} {ds : List D} {H : List (Nat × Ob)} {nx : Nat} {R : D → List (Nat × Ob) → Nat → Prop}
theorem RelH.toN {F : Nat → Prop} {w0 : World} {n0 : Nat} {sb : Nat → Value} {Zb : Cells} {n : Nat} (m : Nat) {s : Nat → Value} {Z : Cells} {w : World} (h : RelH ⟨n,F,w0,n0,sb,Zb⟩ s Z H nx w) : RelH ⟨m,F,w0,n0,sb,Zb⟩ s Z H nx w :=
 ⟨h.ob,h.lt,h.apart,h.zok,h.zap,h.mine,h.fr,h.n0,h.bs,h.bz,h.bn⟩
theorem cfun_some (hc : cfun P hw f = some ⟨code,res,n⟩) : ∃ fn c,P.funcs[f]? = some fn ∧ fn.body = some c ∧ cco P n hw c = some code ∧ cres P fn.results.toList = some res ∧ fn.ntmps = n ∧ callable P f = true := by
 unfold cfun at hc
 split at hc
 case h_2 => cases hc
 rename_i fn hf
 split at hc
 ·cases hc
 rename_i hnm
 split at hc
 case h_2 => cases hc
 rename_i c hb
 split at hc
 case h_2 => cases hc
 rename_i c' r' h1 h2
 simp only [zA,AF.mk.injEq] at hc
 obtain ⟨rfl,rfl,rfl⟩ := hc
 refine ⟨fn,c,hf,hb,h1,h2,rfl,?_⟩
 unfold callable
 rw [hf]
 simp only [hb,Option.isSome_some,Bool.true_and]
 simpa using hnm
theorem body_sound {B : Base} {s : Nat → Value} {Z : Cells} {w : World} {vs : Array Value} (hm : P.follows .mixedOrders = true) (hc : cfun P hw f = some ⟨code,res,n⟩) (hBN : B.N = n) (hlen : ds.length ≤ n) (hno : ds.all argOk = true)
  (hlt : ∀ d ∈ ds,LtV nx d) (h : W P B hw code (Fin res R) ⟨envOf 0 ds,H,nx⟩) (hR : RelH B s Z H nx w) (hl : vs.size = ds.length) (hv : ∀ j x,ds[j]? = some x → VV s Z x (vs.getD j undef)) :
  Calls P f vs w fun e w' => ∃ v d H' nx' s' Z',e = .returned v ∧ VR s' Z' d v ∧ LtR nx' d ∧ RelH B s' Z' H' nx' w' ∧ R d H' nx' := by
 obtain ⟨fn,c,hf,hb,h1,h2,h3,hcal⟩ := cfun_some hc
 refine calls_of_wp hf hb ?_
 have rel : Rel B s Z ⟨envOf 0 ds,H,nx⟩ { tmps := vs ++ Array.replicate (fn.ntmps - vs.size) undef,defers := [] } w := by
  refine ⟨fun k => ?_,fun k => ?_,?_,rfl,hR⟩
  ·simp only [eget_envOf,Nat.zero_le,if_true,Nat.sub_zero]
   by_cases hk : k < ds.length
   ·have hx : ds[k]? = some (ds.getD k .any) := by rw [zC,zE hk];rfl
    have := hv k _ hx
    rw [Array.getD_eq_getD_getElem?,Array.getElem?_append_left (by omega),← Array.getD_eq_getD_getElem?]
    exact VS.of_vr (VR.of_vv this)
   ·rw [zC,List.getElem?_eq_none (by omega)];trivial
  ·simp only [eget_envOf,Nat.zero_le,if_true,Nat.sub_zero]
   by_cases hk : k < ds.length
   ·have hx : ds[k]? = some (ds.getD k .any) := by rw [zC,zE hk];rfl
    have hmem := zD hx
    have h4 := hlt _ hmem
    have h5 := List.all_eq_true.1 hno _ hmem
    generalize ds.getD k .any = d at *
    cases d <;> first | exact h4 | cases h5
   ·rw [zC,List.getElem?_eq_none (by omega)];trivial
  ·simp only [Array.size_append,Array.size_replicate];omega
 have hbody := h hm c (by rw [hBN];exact h1) s Z _ w rel
 have key : ∀ (e : Ex) (st : St) (s' : Nat → Value) (Z' : Cells) (a : Act) (w' : World),(e = .ret ∨ e = .normal) → Fin res R e st → Rel B s' Z' st a w' → a.defers = [] ∧ ∃ v,(results fn a.tmps).run P w' = .ok v w' ∧ ∃ v' d H' nx' s' Z',(.returned v : Ending) = .returned v' ∧ VR s' Z' d v' ∧ LtR nx' d ∧ RelH B s' Z' H' nx' w' ∧ R d H' nx' := by
  intro e st s' Z' a w' he hfin hr
  have hfin : match aresl st.env st.heap res with
    | some (p,ds) => (p ∧ ds.all argOk = true) ∧ R (resD ds) st.heap st.nx
    | none => False := by rcases he with rfl | rfl <;> exact hfin
  refine ⟨hr.defers,?_⟩
  split at hfin
  case h_2 => exact hfin.elim
  rename_i p es hes
  obtain ⟨⟨hp,hall⟩,hRd⟩ := hfin
  obtain ⟨us,g1,g2,g3,g4⟩ := res_run hr _ _ p es h2 hes hp
  have hrun : (fn.results.mapM (m := Sem) fun | .tmp t => pure (a.tmps.getD t undef) | .cell q t => do loadVar t (← asAddr (a.tmps.getD q undef))).run P w' = .ok us.toArray w' := by
   rw [Array.mapM_eq_mapM_toList,Sem.run_map]
   exact congrArg (fun r => Result.andThen r _) g4
  have hres : (results fn a.tmps).run P w' = (do let vs ← (fn.results.mapM (m := Sem) fun | .tmp t => pure (a.tmps.getD t undef) | .cell q t => do loadVar t (← asAddr (a.tmps.getD q undef)));pure (if h : vs.size = 1 then vs[0] else .tuple vs) : Sem Value).run P w' := rfl
  have hV : ∀ j x,es[j]? = some x → VV s' Z' x (us.getD j undef) := fun j x hx => by
   have q1 := g2 j x hx
   have q2 := List.all_eq_true.1 hall x (zD hx)
   cases x <;> first | exact q1 | cases q2
  have hLV : ∀ d ∈ es,LtV st.nx d := fun d hd => by
   have q1 := g3 d hd
   have q2 := List.all_eq_true.1 hall d hd
   cases d <;> first | exact q1 | cases q2
  match es,us,g1,hV,hLV,hRd,hrun with
  | [d],[u],_,hV,hLV,hRd,hrun =>
   refine ⟨u,?_,u,d,st.heap,st.nx,s',Z',rfl,VR.of_vv (hV 0 d rfl),?_,hr.h,hRd⟩
   ·rw [hres,Sem.run_bind,hrun]
    simp
   ·have := hLV d (by simp)
    cases d <;> first | exact this | (have q := hV 0 _ rfl;cases q;done)
  | [],[],_,hV,hLV,hRd,hrun =>
   refine ⟨.tuple #[],?_,.tuple #[],.tup [],st.heap,st.nx,s',Z',rfl,⟨#[],rfl,rfl,fun j x hx => by simp at hx⟩,fun d hd => by simp at hd,hr.h,hRd⟩
   rw [hres,Sem.run_bind,hrun]
   simp
  | d :: d' :: es,u :: u' :: us,g1,hV,hLV,hRd,hrun =>
   refine ⟨.tuple (u :: u' :: us).toArray,?_,_,.tup (d :: d' :: es),st.heap,st.nx,s',Z',rfl,⟨_,rfl,by simpa using g1,fun j x hx => ?_⟩,hLV,hr.h,hRd⟩
   ·rw [hres,Sem.run_bind,hrun]
    simp
   ·simpa [Array.getD_eq_getD_getElem?,zC] using hV j x hx
 refine wp_mono hbody fun e a w' hl => ?_
 cases e with
 | normal => obtain ⟨st,s',Z',q1,q2⟩ := hl;exact key .normal st s' Z' a w' (.inr rfl) q1 q2
 | ret => obtain ⟨st,s',Z',q1,q2⟩ := hl;exact key .ret st s' Z' a w' (.inl rfl) q1 q2
 | exit id => obtain ⟨st,s',Z',q1,q2⟩ := hl;exact q1.elim
 | _ => exact hl.elim
theorem HF.of (hm : P.follows .mixedOrders = true) (hc : cfun P hw f = some ⟨code,res,n⟩) (hlen : ds.length ≤ n) (hno : ds.all argOk = true) (hlt : ∀ d ∈ ds,LtV nx d) (h : ∀ B : Base,B.N = n → B.n0 = nx → W P B hw code (Fin res R) ⟨envOf 0 ds,H,nx⟩) : HF P f ds H nx R := by
 obtain ⟨fn,c,hf,hb,h1,h2,h3,hcal⟩ := cfun_some hc
 refine ⟨hcal,fun F s Z w vs hR hl hv => ?_⟩
 refine (body_sound (B := ⟨n,F,w,nx,s,Z⟩) hm hc rfl hlen hno hlt (h _ rfl rfl) (hR.toN n) hl hv).mono ?_
 rintro e w' ⟨v,d,H',nx',s',Z',he,q1,q2,q3,q4⟩
 exact ⟨v,d,H',nx',s',Z',he,q1,q2,q3.toN 0,q4⟩
theorem noV_lt {d : D} (h : noV d = true) : LtV 0 d := by
 cases d with
 | agg ds => exact fun x hx => by have := List.all_eq_true.1 h x hx;cases x <;> first | trivial | cases this
 | own _ => cases h
 | ptr _ _ => cases h
 | pel _ _ _ _ => cases h
 | sl _ _ _ _ _ => cases h
 | clo _ _ => cases h
 | _ => trivial
theorem empty_rel (n : Nat) (Z : Cells) (w : World) (hz : ∀ b o v,Z b o = some v → w.cell? ⟨b,o,none⟩ = some v) : RelH ⟨n,fun _ => False,w,0,s0,Z⟩ s0 Z [] 0 w :=
 ⟨(fun _ _ h => by cases h),(fun _ _ h => by cases h),(fun _ _ _ _ _ h => by cases h),hz,(fun _ _ _ _ h => by cases h),(fun _ _ _ h => by cases h),Fr.refl _ _,Nat.le_refl _,fun _ _ => rfl,fun _ _ _ h => h,fun _ _ _ h => .inl h⟩
noncomputable def Zown (Z : Cells) (H : List (Nat × Ob)) (s : Nat → Value) (w : World) : Cells := open Classical in fun b o => if ∃ id ob,hget H id = some ob ∧ blk (s id) = some b then w.cell? ⟨b,o,none⟩ else Z b o
def Rbr (e : D) (d : D) (H : List (Nat × Ob)) (_ : Nat) : Prop := match brwR H d with | some e' => leR e' e | none => False
theorem Rbr_at (e d : D) (H : List (Nat × Ob)) (nx : Nat) : Rbr e d H nx = (match brwR H d with | some e' => leR e' e | none => False) := rfl
theorem PF.of {e : D} (hm : P.follows .mixedOrders = true) (hc : cfun P hw f = some ⟨code,res,n⟩) (hlen : ds.length ≤ n) (hno : ds.all argOk = true) (hnv : ds.all noV = true)
  (h : ∀ B : Base,B.N = n → B.n0 = 0 → W P B hw code (Fin res (Rbr e)) ⟨envOf 0 ds,[],0⟩) : PF P f ds e := by
 obtain ⟨fn,c,hf,hb,h1,h2,h3,hcal⟩ := cfun_some hc
 refine ⟨hcal,fun Z w vs hz hl hv => ?_⟩
 refine (body_sound (B := ⟨n,fun _ => False,w,0,s0,Z⟩) hm hc rfl hlen hno (fun d hd => noV_lt (List.all_eq_true.1 hnv d hd)) (h _ rfl rfl) (empty_rel n Z w hz) hl hv).mono ?_
 rintro x w' ⟨v,d,H',nx',s',Z',he,q1,q2,q3,q4⟩
 have hbel : Below w.heap.size w w' := ⟨q3.fr.os,q3.fr.tape,q3.fr.output,q3.fr.size,fun k hk => q3.fr.block k hk (fun h => h)⟩
 unfold Rbr at q4
 split at q4
 case h_2 => exact q4.elim
 rename_i e' he'
 refine ⟨v,Zown Z' H' s' w',he,leR_sound q4 (brwR_sound q3.know (fun b o u hu => ?_) (fun id ob b hid hb o u hu => ?_) he' q1),⟨fun b o u hu => ?_,fun b o u hu => ?_,fun b o u hu => ?_⟩,hbel⟩
 ·unfold Zown
  split
  ·exact q3.zok b o u hu
  ·exact hu
 ·unfold Zown
  rw [if_pos ⟨id,ob,hid,hb⟩]
  exact hu
 ·unfold Zown
  split
  ·exact q3.zok b o u (q3.bz b o u hu)
  ·exact q3.bz b o u hu
 ·unfold Zown at hu
  split at hu
  ·rename_i hx
   obtain ⟨id,ob,hid,hb⟩ := hx
   rcases q3.mine id ob b hid hb with h5 | h5
   ·exact .inr h5
   ·exact h5.elim
  ·rcases q3.bn b o u hu with h5 | h5 | h5
   ·exact .inl h5
   ·exact .inr h5
   ·exact h5.elim
 ·unfold Zown at hu
  split at hu
  ·exact hu
  ·exact q3.zok b o u hu
def frC (H : List (Nat × Ob)) : Nat → D → Prop
 | n,.own id => match n with
  | 0 => False
  | n + 1 => match hget H id with
   | some (.row _ xs) => ∀ row ∈ xs,∀ d ∈ row,flatC d = true
   | some (.rowd _ xs) => ∀ row ∈ xs,∀ d ∈ row,frC H n d
   | _ => False
 | n,.ptr id _ => match n with
  | 0 => False
  | n + 1 => match hget H id with
   | some (.cells ds) => ∀ d ∈ ds,frC H n d
   | _ => False
 | _,.nil0 => True
 | _,d => flatC d = true
def frV (H : List (Nat × Ob)) : D → Prop
 | .agg ds => ∀ d ∈ ds,frC H 4 d
 | d => frC H 4 d
def frR (H : List (Nat × Ob)) : D → Prop
 | .tup ds => ∀ d ∈ ds,frV H d
 | d => frV H d
section
variable {B : Base} {s : Nat → Value} {Z Zn : Cells} {w : World}
end
def Rfr (e : D) (d : D) (H : List (Nat × Ob)) (_ : Nat) : Prop := (match brwR H d with | some e' => leR e' e | none => False) ∧ frR H d
theorem Rfr_at (e d : D) (H : List (Nat × Ob)) (nx : Nat) : Rfr e d H nx = ((match brwR H d with | some e' => leR e' e | none => False) ∧ frR H d) := rfl
end
def rnS (ρ : Nat → Nat) : D → D
 | .opt g d => .opt g (rnR ρ d)
 | d => rnR ρ d
theorem VS.rn {s s' : Nat → Value} {Z : Cells} {ρ : Nat → Nat} {n : Nat} (hs : ∀ id,id < n → s' (ρ id) = s id) {d : D} {v : Value} (hl : LtS n d) : VS s' Z (rnS ρ d) v ↔ VS s Z d v := by
 cases d with
 | opt g d => exact ⟨fun h => ⟨fun hg => (VR.rn hs (hl hg)).1 (h.1 hg),h.2⟩,fun h => ⟨fun hg => (VR.rn hs (hl hg)).2 (h.1 hg),h.2⟩⟩
 | tup ds => exact VR.rn (Z := Z) (d := .tup ds) hs hl
 | agg ds => exact VR.rn (Z := Z) (d := .agg ds) hs hl
 | own id => exact VR.rn (Z := Z) (d := .own id) hs hl
 | ptr id j => exact VR.rn (Z := Z) (d := .ptr id j) hs hl
 | pel id i sz j => exact VR.rn (Z := Z) (d := .pel id i sz j) hs hl
 | sl id sz off len cap => exact VR.rn (Z := Z) (d := .sl id sz off len cap) hs hl
 | clo f ids => exact VR.rn (Z := Z) (d := .clo f ids) hs hl
 | _ => exact Iff.rfl
def lget (l : List Nat) (id : Nat) : Nat := l.getD id id
section
variable {P : Program} {B : Base} {hw : List FuncId} {Q Q' : Ex → St → Prop} {st st1 : St} {sb : Bool} {K : St → Prop}
theorem Gh.ren (l : List Nat) (h0 : B.n0 ≤ st1.nx) (hl : ∀ id,id < B.n0 → lget l id = id) (he : ∀ p ∈ st1.env,eget st.env p.1 = rnS (lget l) p.2 ∧ LtS st1.nx p.2)
  (hh : ∀ p ∈ st1.heap,p.1 < st1.nx ∧ LtO st1.nx p.2 ∧ hget st.heap (lget l p.1) = some (rnO (lget l) p.2)) (hnd : (st1.heap.map fun p => lget l p.1).Nodup ∨ l = []) : Gh B st st1 := by
 intro s Z a w hr
 have hE : ∀ k,eget st1.env k = .any ∨ (k,eget st1.env k) ∈ st1.env := fun k => by
  have : ∀ l : List (Nat × D),eget l k = .any ∨ (k,eget l k) ∈ l := fun l => by
   induction l with
   | nil => exact .inl rfl
   | cons p l ih =>
    obtain ⟨j,d⟩ := p
    simp only [eget]
    split
    ·rename_i e;subst e;exact .inr (List.mem_cons_self ..)
    ·exact ih.imp id (List.mem_cons_of_mem _)
  exact this _
 refine ⟨fun id => s (lget l id),Z,⟨fun k => ?_,fun k => ?_,hr.size,hr.defers,?_⟩⟩
 ·rcases hE k with h | h
  ·rw [h];trivial
  ·obtain ⟨h1,h2⟩ := he _ h
   exact (VS.rn (s' := s) (fun _ _ => rfl) h2).1 (by rw [← h1];exact hr.env k)
 ·rcases hE k with h | h
  ·rw [h];trivial
  ·exact (he _ h).2
 ·have hH : ∀ id ob,hget st1.heap id = some ob → id < st1.nx ∧ LtO st1.nx ob ∧ hget st.heap (lget l id) = some (rnO (lget l) ob) := fun id ob h => hh _ (hget_mem h)
  have inj : ∀ id id' ob ob',hget st1.heap id = some ob → hget st1.heap id' = some ob' → id ≠ id' → lget l id ≠ lget l id' := fun id id' ob ob' h1 h2 hne e => by
   rcases hnd with hnd | rfl
   ·have m1 := hget_mem h1
    have m2 := hget_mem h2
    obtain ⟨i,hi⟩ := zF m1
    obtain ⟨j,hj⟩ := zF m2
    have g1 : (st1.heap.map fun p => lget l p.1)[i]? = some (lget l id) := by rw [List.getElem?_map,hi];rfl
    have g2 : (st1.heap.map fun p => lget l p.1)[j]? = some (lget l id') := by rw [List.getElem?_map,hj];rfl
    obtain ⟨l1,e1⟩ := zB.1 g1
    obtain ⟨l2,e2⟩ := zB.1 g2
    have : i = j := (List.getElem_inj hnd).1 (by rw [e1,e2];exact e)
    subst this
    rw [hi] at hj
    cases hj
    exact hne rfl
   ·exact hne (by simpa [lget] using e)
  refine ⟨fun id ob h => ?_,fun id ob h => ?_,fun id id' ob ob' b h h' hne hb => ?_,hr.h.zok,fun id ob b o h hb => ?_,fun id ob b h hb => ?_,hr.h.fr,h0,fun id hid => ?_,hr.h.bz,hr.h.bn⟩
  ·obtain ⟨h1,h2,h3⟩ := hH id ob h
   exact (ObOk.rn (s' := s) (fun _ _ => rfl) h2).1 (hr.h.ob _ _ h3)
  ·obtain ⟨h1,h2,h3⟩ := hH id ob h
   exact ⟨h1,h2⟩
  ·exact hr.h.apart _ _ _ _ b (hH id ob h).2.2 (hH id' ob' h').2.2 (inj id id' ob ob' h h' hne) hb
  ·exact hr.h.zap _ _ b o (hH id ob h).2.2 hb
  ·exact hr.h.mine _ _ b (hH id ob h).2.2 hb
  ·rw [hl id hid];exact hr.h.bs id hid
def LK {α : Type} (B : Base) (S : α → St) (I : Nat → α → Prop) (n : Nat) (st : St) : Prop := ∃ m y',Gh B st (S y') ∧ m < n ∧ I m y'
theorem W.loopS {α : Type} {x : AC} (S : α → St) (I : Nat → α → Prop) (h0 : ∃ n y,Gh B st (S y) ∧ I n y)
  (hround : ∀ n y,I n y → W P B hw x (seqQ (LK B S I n) Q) (S y)) : W P B hw (.loop x) Q st := by
 refine W.loop (fun n st => ∃ y,st = S y ∧ I n y) ?_ ?_
 ·obtain ⟨n,y,h1,h2⟩ := h0
  exact ⟨n,S y,h1,y,rfl,h2⟩
 ·rintro n _ ⟨y,rfl,h⟩
  refine (hround n y h).mono fun e st' h' => ?_
  cases e with
  | normal => obtain ⟨m,y',h1,h2,h3⟩ := h';exact ⟨m,S y',h1,h2,y',rfl,h3⟩
  | _ => exact h'
theorem WCall.pf {f : FuncId} {as_ : List Opd} {es : List D} {d : D} {dst : Option Nat} (hpf : PF P f es d) (hok : oks st.env (.call f as_) = true) (hes : match omap (brwV st.heap) (as_.map (evS st.env)) with | some e => leVL e es | none => False) (hno : ((as_.map (evS st.env)).all noV || flatR d) = true)
  (hK : K ⟨putO st.env dst d,st.heap,st.nx⟩) : WCall P sb B (.call f as_) dst st K := WCall.of hok (CallOk.pf hpf hes hno hK)
end
section
variable {B : Base} {st : St}
end
theorem mn_min (a b : Int) : (if b < a then b else a) = min a b := by split <;> omega
theorem mx_max (a b : Int) : (if a < b then b else a) = max a b := by split <;> omega
abbrev I (z : Int) : D := .int .i64 z
theorem splice_one (l : List D) (j : Nat) (v : D) (h : j < l.length) : splice l j [v] = l.set j v := by
 unfold splice
 rw [List.set_eq_take_append_cons_drop,if_pos h]
 simp
theorem splice_more (l : List D) (j : Nat) (x y : D) (es : List D) : splice l j (x :: y :: es) = l.take j ++ (x :: y :: es) ++ l.drop (j + (es.length + 1 + 1)) := rfl
theorem gr0 {B : Base} {st st1 : St} (l : List Nat) (hB : B.n0 = 0) (he : ∀ p ∈ st1.env, eget st.env p.1 = rnS (lget l) p.2 ∧ LtS st1.nx p.2)
  (hh : ∀ p ∈ st1.heap, p.1 < st1.nx ∧ LtO st1.nx p.2 ∧ hget st.heap (lget l p.1) = some (rnO (lget l) p.2)) (hnd : (st1.heap.map fun p => lget l p.1).Nodup ∨ l = []) : Gh B st st1 :=
  Gh.ren l (by rw [hB]; exact Nat.zero_le _) (fun id h => by rw [hB] at h; exact absurd h (Nat.not_lt_zero _)) he hh hnd
theorem rho_0 (nx id : Nat) : rho [] 0 nx id = nx + id := by simp [rho]
def Sl {α : Type} (w : World) (sz : Nat) (E : α → List Value) (v : Value) (xs : List α) : Prop :=
 ∃ a cap,v = .slice a xs.length cap ∧ xs.length ≤ cap ∧ (a = none → cap = 0) ∧ (xs ≠ [] → ∃ b off,a = some ⟨b,off,none⟩ ∧ b < w.heap.size ∧
  ∀ i x j u,xs[i]? = some x → (E x)[j]? = some u → w.cell? ⟨b,off + i * sz + j,none⟩ = some u)
theorem owns_call {w w' : World} {base : Nat} {e : TypeId} {sz n : Nat} {v : Value} {xs : List Value} (h : w.ownsRow base e sz v n xs) (hb : Below w.heap.size w w') : w'.ownsRow base e sz v n xs := by
 obtain ⟨h1,h2⟩ := h
 refine ⟨h1,?_⟩
 rcases h2 with h2 | ⟨g,cap,cur,hv,hg,hh,r⟩
 ·exact Or.inl h2
 ·refine Or.inr ⟨g,cap,cur,hv,hg,?_,r⟩
  rw [hb.block g ?_]
  ·exact hh
  ·rcases Nat.lt_or_ge g w.heap.size with h1 | h1
   ·exact h1
   ·rw [Array.getElem?_eq_none h1] at hh;cases hh
abbrev Ent := List Int × List Int × Nat
section
variable {P : Program}
end
section
variable {P : Program} {ops : Array Oper} {md : Region.Mode} {w : World} {n : Nat} {Q : Exit → Act → World → Prop}
theorem wpInW_of_still {o : Oper} {a : Act} {K : Act → Prop} {K' : Act → World → Prop} (h : ∀ a,K a → K' a w) (hh : o.still P a w K) : o.wpIn Fence.wide n P a w K' Q := by
 refine ⟨fun _ _ => trivial,?_⟩
 unfold Oper.still at hh
 change o.uponIn Fence.wide n P a K' Q ((execOp a.eval o).run P w)
 generalize (execOp a.eval o).run P w = r at *
 cases r with
 | ok x w' =>
  cases x <;> simp only [Oper.stillUpon] at hh <;> simp only [Oper.uponIn]
  case enter f args =>
   obtain ⟨rfl,v,hc,hn⟩ := hh
   refine ⟨fun h => by simp [Fence.wide] at h,(callsIn_wide.2 hc).mono ?_⟩
   rintro e w'' ⟨rfl,rfl⟩
   exact h _ hn
  all_goals (obtain ⟨rfl,h2⟩ := hh;exact h _ h2)
 | halt x w' => simp only [Oper.stillUpon] at hh
theorem wpOpInW_of_stOp {i : Nat} {a : Act} {K : Act → Prop} {K' : Act → World → Prop} (h : ∀ a,K a → K' a w) (hh : stOp P ops w i K a) : wpOpIn Fence.wide n P ops Q i K' a w := by
 unfold stOp at hh
 unfold wpOpIn
 split
 ·rename_i ho;simp only [ho] at hh;exact h _ hh
 ·rename_i o ho
  simp only [ho] at hh
  split
  ·rename_i hw;simp only [hw,if_true] at hh;exact wpInW_of_still h hh
  ·rename_i hw;simp only [hw] at hh;exact ⟨fun _ _ => trivial,h _ hh⟩
theorem wpAnyInW_of_head {k g : Nat} {L : Array Bool → Act → Prop} (hL : ∀ listed a,L listed a → wpAnyIn Fence.wide n P md ops Q g listed a w) :
  ∀ (f : Nat) (listed : Array Bool) (a : Act),wpAnyL P md ops w k L f listed a → wpAnyIn Fence.wide n P md ops Q (f + g) listed a w
 | 0,listed,a,h => by rw [Nat.zero_add];exact hL _ _ h
 | f + 1,listed,a,h => by
  rw [show f + 1 + g = (f + g) + 1 by omega]
  exact ⟨fun h0 => absurd h0 h.1,fun i hi => wpOpInW_of_stOp (fun a' h' => wpAnyInW_of_head hL f _ a' h') (h.2 i hi).2⟩
theorem wpAnyIn_of_seq {F : Fence} : ∀ (l : List Oper) (k : Nat) (listed : Array Bool) (a : Act) (w : World),(∀ j,l[j]? = ops[k + j]?) →
  Region.seqB md ops l.length k listed = true → wpListIn F n P ops Q l a w → wpAnyIn F n P md ops Q l.length listed a w
 | [],_,_,_,_,_,hB,h => ⟨by simpa [Region.seqB] using hB,h⟩
 | o :: l,k,listed,a,w,hl,hB,h => by
  have h0 : ops[k]? = some o := by simpa using (hl 0).symm
  simp only [List.length_cons,Region.seqB,Bool.and_eq_true,decide_eq_true_eq] at hB
  refine ⟨fun h1 => (by rw [hB.1] at h1;cases h1),fun i hi => ?_⟩
  rw [hB.1] at hi
  have hik : i = k := by simpa using hi
  subst hik
  have hw : wpOpIn F n P ops Q i (wpListIn F n P ops Q l) a w := by unfold wpOpIn;simp only [h0];exact h
  exact wpOpIn_mono (fun a' w' h' => wpAnyIn_of_seq l (i + 1) _ a' w' (fun j => by have := hl (j + 1);simpa [Nat.add_assoc,Nat.add_comm 1 j] using this) hB.2 h') hw
theorem wpIn_region_still_tail {id : Nat} {a : Act} {l : List Oper} (k : Nat) (hm : P.follows .mixedOrders = true) (hB : Region.lexTailB .any l.toArray k = true)
  (h : wpStill P l.toArray { w with drawn := w.drawn + 1 } (fun a' => wpListIn Fence.wide n P l.toArray Q (l.drop k) a' { w with drawn := w.drawn + 1 }) (l.take k) a) : (Code.region id l.toArray true).wpIn Fence.wide n P Q a w := by
 simp only [Region.lexTailB,Bool.and_eq_true,decide_eq_true_eq] at hB
 obtain ⟨⟨⟨⟨hsel,hn⟩,hs⟩,hc⟩,hlex⟩ := hB
 have hn' : k < l.length := by simpa using hn
 have htl : (l.take k).length = k := by simp;omega
 have hdl : (l.drop k).length = l.toArray.size - k := by simp
 have inv0 : HeadInv .any l.toArray k (Array.replicate l.toArray.size false) :=
  ⟨by simp,fun j oj _ hl => (by rw [getD_replicate_false] at hl;cases hl),fun t _ ht => getD_in (by simpa using ht) (getD_replicate_false _ _)⟩
 have H := wpAnyL_lex (md := .any) (g := l.toArray.size - k) hsel hs hc hn (l.take k) 0 _ a (fun j hj => by
  have hj' : j < k := by rw [htl] at hj;exact hj
  simp [hj']) (by simpa using htl) inv0 (by rw [htl];exact hlex) h
 refine wpIn_region_any hm ?_
 have := wpAnyInW_of_head (Q := Q) (n := n) (g := l.toArray.size - k) (fun listed a' hL => by
  have := wpAnyIn_of_seq (F := Fence.wide) (n := n) (md := .any) (Q := Q) (l.drop k) k listed a' { w with drawn := w.drawn + 1 } (fun j => by simp [List.getElem?_drop]) (by rw [hdl];exact hL.1) hL.2
  rwa [hdl] at this) _ _ _ H
 rw [htl,show k + (l.toArray.size - k) = l.toArray.size by omega] at this
 exact this
end
section
variable {F : Fence} {n : Nat} {P : Program}
def AbC {β : Type} (b1 : Nat) (J : β → World → Prop) : Prop := ∀ s W v,J s W → (∃ u,W.cell? ⟨b1,0,none⟩ = some u) → J s (W.setCell ⟨b1,0,none⟩ v)
def SeqC {α : Type} (F : Fence) (n : Nat) (P : Program) (g : Nat) (lb : Array Value) (encs : α → Array Value) (Kp : World → World → Prop) (S Sp : List α → Prop) (Px : α → Prop) (N b1 : Nat) (R : World → Prop) : Prop :=
 ∀ (l : Nat) (J Jx : List α → World → Prop) (W : World),R W → AbidesFrom W.heap.size J → AbidesFrom W.heap.size Jx → AbC b1 J → AbC b1 Jx →
  (∀ pre x W1,J pre W1 → pre.length < N → Px x → YieldAt F (n - 1) P l (encs x) W1 fun e W' =>
   (e = .returned (.bool true) ∧ J (pre ++ [x]) W' ∧ Kp W1 W') ∨ (e = .returned (.bool false) ∧ Jx (pre ++ [x]) W')) →
  J [] W →
  CallsIn F n P g (#[.func (.yield l) #[] #[]] ++ lb) W fun e W' => (∃ v,e = .returned v) ∧ ((∃ xs,S xs ∧ J xs W') ∨ (∃ pre,Sp pre ∧ Jx pre W'))
theorem setCell_heap {W : World} {b k : Nat} (v : Value) (h : b ≠ k) : (W.setCell ⟨b,0,none⟩ v).heap[k]? = W.heap[k]? := Below.heap_setCell _ _ _ _ (fun e => h e.symm)
theorem rangeFunc_cell {α : Type} {g : Operand} {ps : Array Tmp} {assign body : Code} {Q : Exit → Act → World → Prop} {a : Act} {w : World}
  (hro : F.round = none) (h1 : 1 ≤ n) {gf : Nat} {lb : Array Value} (hg : a.eval g = .func (.func gf) #[] lb) (hFg : F.fn gf) (eg : ∀ args w,(callFunc gf args).run P w = .ok (.enter gf args) w)
  {encs : α → Array Value} {Kp : World → World → Prop} {S Sp : List α → Prop} {Px : α → Prop} {N b1 : Nat} {R : World → Prop} (hb1 : b1 < w.heap.size) (hseq : SeqC F (n - 1) P gf lb encs Kp S Sp Px N b1 R)
  (hRw : ∀ W,Below w.heap.size w W → R W) (hKt : ∀ {A B C : World},Kp A B → Kp B C → Kp A C) (hKb : ∀ (W : World) (l : Nat) (o o' : Obj),w.heap.size ≤ l → W.heap[l]? = some o → o.isCells = false → o.isWalk = false → Kp W (W.putObj l o')) (hps : ∀ x,(encs x).size = ps.size)
  (I : List α → World → Prop) (Ix : Code → List α → World → Prop) (hI : OwnFrom w.heap.size I) (hIx : ∀ c,OwnFrom w.heap.size (Ix c)) (cI : AbC b1 I) (cIx : ∀ c,AbC b1 (Ix c)) (h0 : I [] w) (a₁ : α → Act)
  (hassign : ∀ (l : Nat) (x : α) (W : World) (K : Act → World → Prop),K (a₁ x) W →
   assign.wpIn (F.inRound l) (n - 1 - 1) P (Exit.then K (fun _ _ _ => False)) { tmps := (ps.zip (encs x)).foldl (fun t (p,v) => t.setIfInBounds p v) a.tmps,defers := [] } W)
  (hbody : ∀ (l : Nat) (pre : List α) (x : α) (W : World),w.heap.size ≤ l → l < W.heap.size → I pre W → pre.length < N → Px x → body.wpIn (F.inRound l) (n - 1 - 1) P (ownPostG w.heap.size Kp I Ix (pre ++ [x]) W) (a₁ x) W)
  (hdone : ∀ (D : Nat) (xs : List α) (W : World),w.heap.size ≤ D → S xs → I xs W → W.heap[D]? = some (.deferred (some [])) → Q .normal { a with defers := { target := .collected D,args := #[] } :: a.defers } W)
  (hstop : ∀ (D : Nat) (c : Code) (pre : List α) (W : World),w.heap.size ≤ D → Sp pre → Ix c pre W → W.heap[D]? = some (.deferred (some [])) → c.wpIn F n P Q { a with defers := { target := .collected D,args := #[] } :: a.defers } W) :
  (Code.rangeFunc g ps assign body).wpIn F n P Q a w := by
 refine wpIn_rangeFunc fun fn hfn => ?_
 rw [hro]
 let D := w.heap.size
 let rc : LoopState → Option Code → Obj := fun st pe => .loop { state := st,pending := pe,fn,tmps := a.tmps,params := ps,assign,body,defers := w.heap.size }
 obtain ⟨V,hV⟩ : ∃ V,V = (w.alloc (.deferred (some []))).alloc (rc .ready none) := ⟨_,rfl⟩
 have hVl : V.heap[w.heap.size + 1]? = some (rc .ready none) := by
  have := World.alloc_heap_new (w.alloc (.deferred (some []))) (rc .ready none)
  rw [World.size_alloc] at this
  rw [hV];exact this
 have hVd : V.heap[w.heap.size]? = some (.deferred (some [])) := by
  rw [hV];exact (Below.heap_alloc _ _ _ (by simp)).trans (World.alloc_heap_new w _)
 have hVI : I [] V := by rw [hV];exact hI.alloc _ (hI.alloc _ h0)
 have hVB : Below w.heap.size w V := by rw [hV];exact ((Below.refl _ w).alloc (Nat.le_refl _) _).alloc (by simp) _
 have hVs : w.heap.size ≤ V.heap.size := hVB.size
 refine ⟨w.heap.size + 1,[{ target := .collected w.heap.size,args := #[] }],V,{ target := .fn (.func gf) lb,args := #[.func (.yield (w.heap.size + 1)) #[] #[]] },V,gf,
  #[.func (.yield (w.heap.size + 1)) #[] #[]] ++ lb,V,?_,?_,?_,?_,fun _ => h1,?_⟩
 ·rw [hV];exact run_enterLoop_outer _ _ _ _ _
 ·simp only [resolve,hg]
  simp [go_sem]
 ·intro f' hf'
  simp [Target.leads] at hf'
  subst hf';exact hFg
 ·simp [invoke,go_sem,eg]
 let Bk : Obj → World → Prop := fun o W => W.heap[w.heap.size + 1]? = some o ∧ W.heap[w.heap.size]? = some (.deferred (some []))
 have bkA : ∀ {o : Obj} {A B : World} {row : Option Nat},o.isWalk = false → Bk o A → A.grownBy B row → (∀ r,row = some r → V.heap.size ≤ r ∧ ∃ o : Obj,A.heap[r]? = some o ∧ o.isWalk = true) → Bk o B := fun ho h hg' hr =>
  ⟨(grownBy_keeps hg' (fun r e => (hr r e).2) h.1 ho).trans h.1,(grownBy_keeps hg' (fun r e => (hr r e).2) h.2 rfl).trans h.2⟩
 have bkC : ∀ {o : Obj} {A : World} (v : Value),Bk o A → Bk o (A.setCell ⟨b1,0,none⟩ v) := fun v h =>
  ⟨(setCell_heap v (by omega)).trans h.1,(setCell_heap v (by omega)).trans h.2⟩
 have noC : ∀ {A : World} {row : Option Nat},(∀ r,row = some r → V.heap.size ≤ r ∧ ∃ o : Obj,A.heap[r]? = some o ∧ o.isWalk = true) → ∀ r,row = some r → w.heap.size ≤ r ∧ ∃ o : Obj,A.heap[r]? = some o ∧ o.isCells = false := fun hr r e => by
  obtain ⟨h2,o,ho,hw⟩ := hr r e
  exact ⟨by omega,o,ho,Obj.not_cells_of_walk hw⟩
 refine (hseq (w.heap.size + 1) (fun pre W => I pre W ∧ Bk (rc .ready none) W) (fun pre W => ∃ c,Ix c pre W ∧ Bk (rc .done (some c)) W) V (hRw _ hVB)
  (fun s A B row h hg' hr => ⟨hI s A B row h.1 hg' (noC hr),bkA rfl h.2 hg' hr⟩)
  (fun s A B row h hg' hr => by obtain ⟨c,h2,h3⟩ := h;exact ⟨c,hIx c s A B row h2 hg' (noC hr),bkA rfl h3 hg' hr⟩)
  (fun s A v h hc => ⟨cI s A v h.1 hc,bkC v h.2⟩)
  (fun s A v h hc => by obtain ⟨c,h2,h3⟩ := h;exact ⟨c,cIx c s A v h2 hc,bkC v h3⟩)
  ?_ ⟨hVI,hVl,hVd⟩).mono ?_
 · -- a round
  rintro pre x W ⟨hi,hl,hd⟩ hlen hpx
  have hlt : w.heap.size + 1 < W.heap.size := (Array.getElem?_eq_some_iff.1 hl).1
  refine ⟨fn,_,assign,body,run_yield (P := P) (args := encs x) hl (hps x),roundIn_of_wpIn hfn (hassign _ x W _ ?_)⟩
  refine ⟨_,run_beginRound hl rfl,?_⟩
  obtain ⟨U,hU⟩ : ∃ U,U = W.putObj (w.heap.size + 1) (rc .busy none) := ⟨_,rfl⟩
  have hUl : U.heap[w.heap.size + 1]? = some (rc .busy none) := by rw [hU];exact World.putObj_heap_same hlt
  have hUd : U.heap[w.heap.size]? = some (.deferred (some [])) := by rw [hU];exact (World.putObj_heap_other (by omega)).trans hd
  have hUK : Kp W U := by rw [hU];exact hKb _ _ _ _ (by omega) hl rfl rfl
  have hUI : I pre U := by rw [hU];exact hI.putObj _ hi (by omega) hl rfl
  have hb := hbody (w.heap.size + 1) pre x U (by omega) (by rw [hU];simpa using hlt) hUI hlen hpx
  rw [hU] at hb
  refine wpIn_mono hb ?_
  rw [← hU]
  have fin : ∀ (j : Option Code) (W3 : World),KeepsFrom w.heap.size U W3 →
    (Instr.endRound (w.heap.size + 1) j).run P W3 = .ok (.bool j.isNone) (W3.putObj (w.heap.size + 1) (rc (if j.isNone then .ready else .done) j)) ∧
    W3.heap[w.heap.size + 1]? = some (rc .busy none) ∧ Bk (rc (if j.isNone then .ready else .done) j) (W3.putObj (w.heap.size + 1) (rc (if j.isNone then .ready else .done) j)) := fun j W3 hk => by
   have h3 := hk.same _ _ (by omega) hUl rfl
   exact ⟨run_endRound (P := P) j h3,h3,World.putObj_heap_same (Array.getElem?_eq_some_iff.1 h3).1,(World.putObj_heap_other (by omega)).trans (hk.same _ _ (Nat.le_refl _) hUd rfl)⟩
  have out : ∀ (c : Code) (W3 : World),KeepsFrom w.heap.size U W3 → Ix c (pre ++ [x]) W3 → _ := fun c W3 hk hi3 => by
   obtain ⟨hr,hl3,hb3⟩ := fin (some c) W3 hk
   exact (⟨_,_,hr,.inr ⟨rfl,c,(hIx c).putObj _ hi3 (by omega) hl3 rfl,hb3⟩⟩ : ∃ v W4,(Instr.endRound (w.heap.size + 1) (some c)).run P W3 = .ok v W4 ∧ ((Ending.returned v = .returned (.bool true) ∧ (I (pre ++ [x]) W4 ∧ Bk (rc .ready none) W4) ∧ Kp W W4) ∨ (Ending.returned v = .returned (.bool false) ∧ ∃ c,Ix c (pre ++ [x]) W4 ∧ Bk (rc .done (some c)) W4)))
  rintro e a3 W3 hp
  cases e with
  | normal =>
   obtain ⟨hk,hkp,hi3⟩ := hp
   obtain ⟨hr,hl3,hb3⟩ := fin none W3 hk
   exact ⟨_,_,hr,.inl ⟨rfl,⟨hI.putObj _ hi3 (by omega) hl3 rfl,hb3⟩,hKt (hKt hUK hkp) (hKb _ _ _ _ (by omega) hl3 rfl rfl)⟩⟩
  | ret => exact out .ret W3 hp.1 hp.2
  | exit id => exact out (.exit id) W3 hp.1 hp.2
  | goto t => exact out (.goto t) W3 hp.1 hp.2
  | panic ch => exact hp.elim
  | outgrown => exact hp.elim
 · -- behind the iterator
  rintro e W2 ⟨⟨v,rfl⟩,(⟨xs,hS,hi,hl,hd⟩ | ⟨pre,hSp,c,hi,hl,hd⟩)⟩
  ·exact ⟨none,_,run_endLoop (P := P) hl (by simp),hdone _ xs _ (Nat.le_refl _) hS (hI.putObj _ hi (by omega) hl rfl) ((World.putObj_heap_other (by omega)).trans hd)⟩
  ·exact ⟨some c,_,run_endLoop (P := P) hl (by simp),hstop _ c pre _ (Nat.le_refl _) hSp ((hIx c).putObj _ hi (by omega) hl rfl) ((World.putObj_heap_other (by omega)).trans hd)⟩
end
section
variable {P : Program} {ops : Array Oper} {md : Region.Mode} {w : World} {n lr : Nat} {Q : Exit → Act → World → Prop}
end
section
variable {F : Fence} {n : Nat} {P : Program} {ops : Array Oper} {rest : List Oper} {op : Oper} {a : Act} {w : World} {Q : Exit → Act → World → Prop}
theorem wpListIn_load_box (hgd : op.guard = none) (ty : TypeId) (x : Operand) (ho : op.op = .load ty x)
  (k : Nat) (hx : a.eval x = .pointer (some ⟨k,0,none⟩)) (cs : Array Value) (d : TypeDesc) (hb : Box w k cs)
  (hu : P.underlying ty = some d) (hd : d.isRow = true) (hi : (P.info? ty).map (·.size) = some cs.size)
  (h : wpListIn F n P ops Q rest (a.put op.dst (.agg cs)) w) : wpListIn F n P ops Q (op :: rest) a w := by
 refine wpListIn_plain hgd fun K hK => ?_
 unfold Oper.wpIn
 refine ⟨by simp [Oper.about,ho],?_⟩
 rw [Oper.semAt_plain F _ _ (by rw [ho];intro c hc';cases hc')]
 unfold execOp
 simp only [ho,hx,Instr.loadAt,Instr.sureAddr,Sem.run_bind,Sem.run_pure,Result.andThen_ok,run_loadVar_mid w k 0 ty cs.toList d hb.range hu hd (by simpa using hi)]
 exact hK _ _ (by simpa using h)
theorem wpListIn_store_box (hgd : op.guard = none) (ty : TypeId) (x y : Operand) (ho : op.op = .store ty x y)
  (k : Nat) (cs cs' : Array Value) (hx : a.eval x = .pointer (some ⟨k,0,none⟩)) (hy : a.eval y = .agg cs')
  (hb : Box w k cs) (hs : cs.size = cs'.size) (hi : (P.info? ty).map (·.size) = some cs'.size) (h1 : cs'.all (·.oneCell') = true)
  (h : ∀ w',Box w' k cs' → Only k w w' → wpListIn F n P ops Q rest (a.put op.dst undef) w') : wpListIn F n P ops Q (op :: rest) a w := by
 refine wpListIn_plain hgd fun K hK => ?_
 unfold Oper.wpIn
 refine ⟨by simp [Oper.about,ho],?_⟩
 rw [Oper.semAt_plain F _ _ (by rw [ho];intro c hc';cases hc')]
 unfold execOp
 simp only [ho,hx,hy,Instr.storeAt,Instr.sureAddr,Sem.run_bind,Sem.run_pure,Result.andThen_ok,run_storeVar_mid w k 0 ty cs' (hs ▸ hb.there) hi h1]
 exact hK _ _ (h _ (hb.store hs) (Only.setCells k _ 0 w))
end
def ordersL (md : Region.Mode) (ops : Array Oper) : Nat → Array Bool → List (List Nat)
 | 0,_ => [[]]
 | f + 1,listed => if Region.ready md ops listed = [] then [[]] else (Region.ready md ops listed).flatMap fun i => (ordersL md ops f (listed.setIfInBounds i true)).map (i :: ·)
theorem orders_mem (md : Region.Mode) (ops : Array Oper) : ∀ (f t : Nat) (listed : Array Bool),Region.linearise.go md ops f t listed [] ∈ ordersL md ops f listed
 | 0,t,listed => by simp [Region.linearise.go,ordersL]
 | f + 1,t,listed => by
  simp only [Region.linearise.go,ordersL]
  change (match (Region.ready md ops listed)[t % (Region.ready md ops listed).length]? with
   | some i => Region.linearise.go md ops f (t / (Region.ready md ops listed).length) (listed.setIfInBounds i true) [i]
   | none => [].reverse) ∈ _
  cases hi : (Region.ready md ops listed)[t % (Region.ready md ops listed).length]? with
  | none =>
   have hnil : Region.ready md ops listed = [] := by
    cases hr : Region.ready md ops listed with
    | nil => rfl
    | cons x xs =>
     rw [hr] at hi
     have hlt : t % (x :: xs).length < (x :: xs).length := Nat.mod_lt _ (by simp)
     simp at hi
     simp at hlt
     omega
   rw [if_pos hnil]
   simp
  | some i =>
   have hm := zD hi
   have hne : Region.ready md ops listed ≠ [] := fun e => by rw [e] at hm;cases hm
   rw [if_neg hne]
   simp only []
   rw [linearise_go_acc,List.reverse_singleton,List.singleton_append]
   exact List.mem_flatMap.2 ⟨i,hm,List.mem_map.2 ⟨_,orders_mem md ops f _ _,rfl⟩⟩
theorem wpOps_list {F : Fence} {n : Nat} {P : Program} {ops : Array Oper} {Q : Exit → Act → World → Prop} : ∀ (l : List Nat) (a : Act) (w : World),wpListIn F n P ops Q (l.filterMap (ops[·]?)) a w → wpOpsIn F n P ops Q l a w
 | [],a,w,h => h
 | i :: l,a,w,h => by
  rw [wpOpsIn_cons]
  unfold wpOpIn
  cases ho : ops[i]? with
  | none =>
   rw [List.filterMap_cons,ho] at h
   exact wpOps_list l a w h
  | some o =>
   rw [List.filterMap_cons,ho] at h
   simp only [wpListIn] at h
   dsimp only
   split
   ·rename_i hw
    rw [if_pos hw] at h
    exact Oper.wpIn_mono (fun a w => wpOps_list l a w) h
   ·rename_i hw
    rw [if_neg hw] at h
    exact ⟨h.1,wpOps_list l _ w h.2⟩
theorem wpIn_region_orders {F : Fence} {n : Nat} {P : Program} {id : Nat} {ops : Array Oper} {Q : Exit → Act → World → Prop} {a : Act} {w : World} (L : List (List Nat)) (hm : P.follows .mixedOrders = true)
  (hL : ordersL .any ops ops.size (Array.replicate ops.size false) = L) (h : ∀ l ∈ L,wpListIn F n P ops Q (l.filterMap (ops[·]?)) a { w with drawn := w.drawn + 1 }) : (Code.region id ops true).wpIn F n P Q a w :=
 wpIn_region_draw fun t => by
  simp only [Region.schedule,hm,Bool.true_or,if_true]
  exact wpOps_list _ _ _ (h _ (hL ▸ orders_mem .any ops ops.size t _))
end Go.Proofs.YtbhcfldafpndbaaDoor
namespace Go.Proofs.YtbhcfldafpndbaaDoor
open Go.RowKit
attribute [local simp] AK_at acode_seq acode_region acode_draw acode_cond CB_u acode_block acode_loop acode_exit acode_scope acode_ret acode_skip seqQ_n seqQ_e seqQ_r blockQ_n blockQ_e blockQ_r TK_at OK_at SK_at aops_nil aops_cons asch_done asch_one asch_two asch_top astep aop_eq isLoud aloud aloud1 isWrite qv evS strip gof eget hget putO eput herase oks opnds gS afin afin0 binD arith D.cells takeD fillD keep trim envOf Fin aresl aresv resD argOk pickV isP deq deqs boundD slD lenD isT isSl ptrIds chunks mn_min mx_max splice_one splice_more Rbr_at Rfr_at frR frV frC flatC brwR brwV brwC omap leR leV leC leL leVL rnR rnV rnC rnO rho_0 hputs herases rnS LtS LtR LtV LtC LtO lget noV noC flatR flatV rho
attribute [local simp ↓] CB_t CB_f
theorem follows_ok : Tryd.prog.follows .mixedOrders = true := by kernel_rfl
theorem args_nil {Z : Cells} : ∀ (j : Nat) (x : D),([] : List D)[j]? = some x → VV s0 Z x ((#[] : Array Value).getD j undef) := fun j x h => by simp at h
theorem args_cons {Z : Cells} {d : D} {ds : List D} {v : Value} {vs : List Value} (h : VV s0 Z d v) (ht : ∀ j x,ds[j]? = some x → VV s0 Z x (vs.toArray.getD j undef)) : ∀ (j : Nat) (x : D),(d :: ds)[j]? = some x → VV s0 Z x ((v :: vs).toArray.getD j undef) := fun j x hx => by
 cases j with
 | zero => simp at hx;subst hx;exact h
 | succ j => simpa using ht j x (by simpa using hx)
theorem Sl.rows {α : Type} {W : World} {sz : Nat} {E : α → List Value} {F : α → List D} {v : Value} {xs : List α} (h : Sl W sz E v xs) (hF : ∀ x ∈ xs,(E x).length = sz ∧ (F x).length = sz ∧ ∀ (j : Nat) (d : D),(F x)[j]? = some d → ∃ u,(E x)[j]? = some u ∧ ∀ Z,VT Z d u) : VT (allZ W) (.rows sz (xs.map F)) v := by
 obtain ⟨a,cap,rfl,hcap,h0,h3⟩ := h
 cases xs with
 | nil =>
  exact VT.rnil _ _ _
 | cons x0 xs =>
  obtain ⟨b,off,rfl,hb,hc⟩ := h3 (by simp)
  have key : ∀ (i : Nat) (row : List D) (j : Nat) (d : D),((x0 :: xs).map F)[i]? = some row → row[j]? = some d → ∃ x u,(x0 :: xs)[i]? = some x ∧ (E x)[j]? = some u ∧ j < sz ∧ ∀ Z,VT Z d u := fun i row j d hi hj => by
   obtain ⟨x,hx,rfl⟩ := (map_get _ _ _ _).1 hi
   obtain ⟨g1,g2,g3⟩ := hF x (zD hx)
   obtain ⟨u,hu,hv⟩ := g3 j d hj
   exact ⟨x,u,hx,hu,by rw [← g2];exact (zB.1 hj).1,hv⟩
  have hlen : (x0 :: xs).length = ((x0 :: xs).map F).length := by simp
  rw [hlen]
  refine VT.rows sz _ b off cap (fun i j => ((x0 :: xs)[i]?.bind fun x => (E x)[j]?).getD undef) (by rw [← hlen];exact hcap) (fun i row j d hi hj => ?_) (fun i row j d hi hj => ?_)
  ·obtain ⟨x,u,hx,hu,hjs,hv⟩ := key i row j d hi hj
   refine ⟨hjs,?_⟩
   simp only [hx,Option.bind_some,hu,Option.getD_some]
   exact hc i x j u hx hu
  ·obtain ⟨x,u,hx,hu,hjs,hv⟩ := key i row j d hi hj
   simp only [hx,Option.bind_some,hu,Option.getD_some]
   exact hv _
theorem hO {hw : List FuncId} {f : FuncId} {code : AC} {res : List AR} {n : Nat} {ds : List D} {H : List (Nat × Ob)} {nx : Nat} {R : D → List (Nat × Ob) → Nat → Prop} (hc : cfun Tryd.prog hw f = some ⟨code, res, n⟩) (ks ss : List Nat) (h : ∀ B : Base, B.N = n → B.n0 = nx → acode Tryd.prog B hw ks ss code (Fin res R) ⟨envOf 0 ds, H, nx⟩) (h1 : ds.length ≤ n := by simp) (h2 : ds.all argOk = true := by simp) (h3 : ∀ d ∈ ds, LtV nx d := by simp) : HF Tryd.prog f ds H nx R :=
 HF.of follows_ok hc h1 h2 h3 fun B a b => acode_sound ks ss _ _ _ (h B a b)
theorem pO {hw : List FuncId} {f : FuncId} {code : AC} {res : List AR} {n : Nat} {ds : List D} {e : D} (hc : cfun Tryd.prog hw f = some ⟨code, res, n⟩) (ks ss : List Nat) (h : ∀ B : Base, B.N = n → B.n0 = 0 → acode Tryd.prog B hw ks ss code (Fin res (Rbr e)) ⟨envOf 0 ds, [], 0⟩) (h1 : ds.length ≤ n := by simp) (h2 : ds.all argOk = true := by simp) (h3 : ds.all noV = true := by simp) : PF Tryd.prog f ds e :=
 PF.of follows_ok hc h1 h2 h3 fun B a b => acode_sound ks ss _ _ _ (h B a b)
end Go.Proofs.YtbhcfldafpndbaaDoor
namespace Go.Proofs.YtbhcfldafpndbaaDoor
open Go.RowKit
theorem inW {z : Int} (h1 : -9223372036854775808 ≤ z) (h2 : z ≤ 9223372036854775807) : InR z := ⟨h1,h2⟩
theorem WCall.hf {P : Program} {sb : Bool} {B : Base} {st : St} {K : St → Prop} {f : FuncId} {as_ : List Opd} {ds0 : List D} {dst : Option Nat} {H0 : List (Nat × Ob)} {n0 : Nat} {R : D → List (Nat × Ob) → Nat → Prop} (l : List Nat) (hf : HF P f ds0 H0 n0 R)
  (hok : oks st.env (.call f as_) = true) (hsb : sb = false) (hl : l.length = n0) (hnd : l.Nodup) (hlt : ∀ k ∈ l,k < st.nx)
  (hds : as_.map (evS st.env) = ds0.map (rnV (rho l n0 st.nx))) (hao : ds0.all argOk = true) (hdl : ∀ d ∈ ds0,LtV n0 d)
  (hH0 : ∀ p ∈ H0,p.1 < n0 ∧ LtO n0 p.2 ∧ hget st.heap (rho l n0 st.nx p.1) = some (rnO (rho l n0 st.nx) p.2))
  (hK : ∀ d H' nx',R d H' nx' → K ⟨putO st.env dst (rnR (rho l n0 st.nx) d),hputs (rho l n0 st.nx) H' (herases l st.heap),st.nx + (nx' - n0)⟩) : WCall P sb B (.call f as_) dst st K :=
 WCall.of hok (CallOk.hf hf (fun h => by rw [hsb] at h;cases h) l hl hnd hlt hds hao hdl hH0 fun d H' nx' _ hR => hK d H' nx' hR)
theorem wH {P : Program} {sb : Bool} {B : Base} {st : St} {K : St → Prop} {f : FuncId} {as_ : List Opd} {ds0 : List D} {dst : Option Nat} {H0 : List (Nat × Ob)} {n0 : Nat} {R : D → List (Nat × Ob) → Nat → Prop} (l : List Nat) (hf : HF P f ds0 H0 n0 R)
  (hK : ∀ d H' nx', R d H' nx' → K ⟨putO st.env dst (rnR (rho l n0 st.nx) d), hputs (rho l n0 st.nx) H' (herases l st.heap), st.nx + (nx' - n0)⟩)
  (hok : oks st.env (.call f as_) = true := by simp) (hsb : sb = false := by rfl) (hl : l.length = n0 := by rfl) (hnd : l.Nodup := by decide) (hlt : ∀ k ∈ l, k < st.nx := by simp)
  (hds : as_.map (evS st.env) = ds0.map (rnV (rho l n0 st.nx)) := by simp) (hao : ds0.all argOk = true := by simp) (hdl : ∀ d ∈ ds0, LtV n0 d := by simp)
  (hH0 : ∀ p ∈ H0, p.1 < n0 ∧ LtO n0 p.2 ∧ hget st.heap (rho l n0 st.nx p.1) = some (rnO (rho l n0 st.nx) p.2) := by simp) : WCall P sb B (.call f as_) dst st K :=
 WCall.hf l hf hok hsb hl hnd hlt hds hao hdl hH0 hK
end Go.Proofs.YtbhcfldafpndbaaDoor
namespace Go.Proofs.YtbhcfldafpndbaaDoor
open Go.RowKit
abbrev oM (d a : Nat) : AO := ⟨some d, .mov (.t a), none⟩
abbrev oF (d o a : Nat) : AO := ⟨some d, .fad o (.t a), none⟩
abbrev oL (d n a : Nat) : AO := ⟨some d, .load false n (.t a), none⟩
abbrev oA (d n a : Nat) : AO := ⟨some d, .load true n (.t a), none⟩
abbrev oS (n a b : Nat) : AO := ⟨none, .store n (.t a) (.t b), none⟩
abbrev oN (d a : Nat) : AO := ⟨some d, .nchk (.t a), none⟩
abbrev oE (d a i : Nat) : AO := ⟨some d, .ext (.t a) i, none⟩
abbrev oH (d a : Nat) : AO := ⟨some d, .len (.t a), none⟩
abbrev oB (d a : Nat) : AO := ⟨some d, .box (.t a), none⟩
abbrev oI (d z a b : Nat) : AO := ⟨some d, .iads z (.t a) (.t b), none⟩
abbrev oK (d : Nat) (z : Int) : AO := ⟨some d, .mov (.k (.int .i64 z)), none⟩
abbrev oX (d : Nat) (o : AOp) : AO := ⟨some d, o, none⟩
abbrev oY (o : AOp) : AO := ⟨none, o, none⟩
abbrev oG (d : Nat) (o : AOp) (g : Nat) (b : Bool) : AO := ⟨some d, o, some (g, b)⟩
abbrev kI (z : Int) : Opd := .k (.int .i64 z)
abbrev qZ : D := .int .i64 0
abbrev qF : D := .bool false
abbrev qT : D := .bool true
abbrev qN (o : AO) (r : ASch) : ASch := .one true o r
abbrev qR (n : Nat) (l : List AO) : AC := .region n l
attribute [local simp] AK_at acode_seq acode_region acode_draw acode_cond CB_u acode_block acode_loop acode_exit acode_scope acode_ret acode_skip seqQ_n seqQ_e seqQ_r blockQ_n blockQ_e blockQ_r TK_at OK_at SK_at aops_nil aops_cons asch_done asch_one asch_two asch_top astep aop_eq isLoud aloud aloud1 isWrite qv evS strip gof eget hget putO eput herase oks opnds gS afin afin0 binD arith D.cells takeD fillD keep trim envOf Fin aresl aresv resD argOk pickV isP deq deqs boundD slD lenD isT isSl ptrIds chunks mn_min mx_max splice_one splice_more Rbr_at Rfr_at frR frV frC flatC brwR brwV brwC omap leR leV leC leL leVL rnR rnV rnC rnO rho_0 hputs herases rnS LtS LtR LtV LtC LtO lget noV noC flatR flatV rho
attribute [local simp ↓] CB_t CB_f
inductive EK where
 | op | da | cl | an | jo | re | ti
def EK.n : EK → Int
 | .op => 1 | .da => 2 | .cl => 3 | .an => 4 | .jo => 5 | .re => 6 | .ti => 7
def flowR : List (List D) := [[.ptr 0 2,I 0,I 39],[.ptr 0 3,I 0,I 1048576]]
def askR : List (List D) := [[.ptr 0 5,I 0,I 1048576],[.ptr 0 6,I 0,I 11]]
def EK.rows : EK → List (List D)
 | .op => [[.ptr 0 1,I 0,I 4294967295]]
 | .da => flowR
 | .cl => flowR
 | .an => flowR ++ [[.ptr 1 0,I 0,I 1]]
 | .jo => askR ++ [[.ptr 0 7,I 1,I 8]]
 | .re => askR
 | .ti => []
def EK.fd : EK → D
 | .op => .own 4 | .da => .own 2 | .cl => .own 2 | .an => .own 5 | .jo => .own 5 | .re => .own 3 | .ti => .nil0
def EK.fn : EK → Nat
 | .op => 5 | .da => 4 | .cl => 4 | .an => 6 | .jo => 6 | .re => 4 | .ti => 4
def EK.fh : EK → List (Nat × Ob)
 | .op => [(4,.rowd 3 (EK.rows .op)),(3,.rowd 3 askR),(2,.rowd 3 flowR)]
 | .da => [(3,.rowd 3 askR),(2,.rowd 3 flowR)]
 | .cl => [(3,.rowd 3 askR),(2,.rowd 3 flowR)]
 | .an => [(5,.rowd 3 (EK.rows .an)),(4,.rowd 3 [[.ptr 1 0,I 0,I 1]]),(3,.rowd 3 askR)]
 | .jo => [(5,.rowd 3 (EK.rows .jo)),(4,.rowd 3 [[.ptr 0 7,I 1,I 8]]),(2,.rowd 3 flowR)]
 | .re => [(3,.rowd 3 askR),(2,.rowd 3 flowR)]
 | .ti => [(3,.rowd 3 askR),(2,.rowd 3 flowR)]
theorem wfields_code : cfun Tryd.prog [] 17 = some ⟨(.seq (qR 0 [oX 4 (.mov (.k .nil0)),oX 5 (.mov (.k qF))]) (.seq (.draw 1 (qN (oM 8 0) (qN (oN 9 8) (qN (oF 10 2 9) (qN (oX 11 (.build [.nilp,qZ,qZ] [(0,(1,(.t 10))),(1,(1,(kI 0))),(2,(1,(kI 39)))])) (qN (oM 12 0) (qN (oN 13 12) (qN (oF 14 3 13) (qN (oX 15 (.build [.nilp,qZ,qZ] [(0,(1,(.t 14))),(1,(1,(kI 0))),(2,(1,(kI 1048576)))])) (qN (oX 16 (.bslice 3 2 [.nilp,qZ,qZ] [(0,(.t 11)),(1,(.t 15))])) (qN (oM 6 16) .done))))))))))) (.seq (.draw 2 (qN (oM 17 0) (qN (oN 18 17) (qN (oF 19 5 18) (qN (oX 20 (.build [.nilp,qZ,qZ] [(0,(1,(.t 19))),(1,(1,(kI 0))),(2,(1,(kI 1048576)))])) (qN (oM 21 0) (qN (oN 22 21) (qN (oF 23 6 22) (qN (oX 24 (.build [.nilp,qZ,qZ] [(0,(1,(.t 23))),(1,(1,(kI 0))),(2,(1,(kI 11)))])) (qN (oX 25 (.bslice 3 2 [.nilp,qZ,qZ] [(0,(.t 20)),(1,(.t 24))])) (qN (oM 7 25) .done))))))))))) (.seq (.seq (qR 3 [oM 26 0,oN 27 26,oF 28 0 27,oL 29 1 28]) (.block 0 (.seq (qR 4 [oX 31 (.bin .eql (.t 29) (kI 1)),oM 30 31]) (.cond 30 (.seq (qR 5 [oM 32 0,oN 33 32,oF 34 1 33,oX 35 (.build [.nilp,qZ,qZ] [(0,(1,(.t 34))),(1,(1,(kI 0))),(2,(1,(kI 4294967295)))]),oX 36 (.bslice 3 1 [.nilp,qZ,qZ] [(0,(.t 35))]),oM 4 36,oX 5 (.mov (.k qT))]) .ret) (.seq (.seq (qR 6 [oX 38 (.bin .eql (.t 29) (kI 2)),oM 37 38]) (.cond 37 .skip (qR 7 [oX 39 (.bin .eql (.t 29) (kI 3)),oM 37 39]))) (.cond 37 (.seq (qR 8 [oM 40 6,oM 4 40,oX 5 (.mov (.k qT))]) .ret) (.seq (qR 9 [oX 42 (.bin .eql (.t 29) (kI 4)),oM 41 42]) (.cond 41 (.seq (qR 10 [oM 43 6,oM 44 1,oX 45 (.build [.nilp,qZ,qZ] [(0,(1,(.t 44))),(1,(1,(kI 0))),(2,(1,(kI 1)))]),oX 46 (.bslice 3 1 [.nilp,qZ,qZ] [(0,(.t 45))]),oX 47 (.app 3 24 [.nilp,qZ,qZ] (.t 43) (.t 46)),oM 4 47,oX 5 (.mov (.k qT))]) .ret) (.seq (qR 11 [oX 49 (.bin .eql (.t 29) (kI 5)),oM 48 49]) (.cond 48 (.seq (qR 12 [oM 50 7,oM 51 0,oN 52 51,oF 53 7 52,oX 54 (.build [.nilp,qZ,qZ] [(0,(1,(.t 53))),(1,(1,(kI 1))),(2,(1,(kI 8)))]),oX 55 (.bslice 3 1 [.nilp,qZ,qZ] [(0,(.t 54))]),oX 56 (.app 3 24 [.nilp,qZ,qZ] (.t 50) (.t 55)),oM 4 56,oX 5 (.mov (.k qT))]) .ret) (.seq (qR 13 [oX 58 (.bin .eql (.t 29) (kI 6)),oM 57 58]) (.cond 57 (.seq (qR 14 [oM 59 7,oM 4 59,oX 5 (.mov (.k qT))]) .ret) (.seq (qR 15 [oX 61 (.bin .eql (.t 29) (kI 7)),oM 60 61]) (.cond 60 (.seq (qR 16 [oX 4 (.mov (.k .nil0)),oX 5 (.mov (.k qT))]) .ret) .skip)))))))))))))) (.seq (qR 17 [oX 4 (.mov (.k .nil0)),oX 5 (.mov (.k qF))]) .ret))))),[(.t 4),(.t 5)],62⟩ := by kernel_rfl
theorem wfields_hf (kd : EK) (c1 c2 c3 : Int) (c4 : Bool) (c5 c6 c7 g : Int) :
  HF Tryd.prog 17 [.ptr 0 0,.ptr 1 0] [(1,.cells [I g]),(0,.cells [I kd.n,I c1,I c2,I c3,.bool c4,I c5,I c6,I c7])] 2
   (fun d H' nx' => d = .tup [kd.fd,.bool true] ∧ H' = kd.fh ++ [(1,.cells [I g]),(0,.cells [I kd.n,I c1,I c2,I c3,.bool c4,I c5,I c6,I c7])] ∧ nx' = kd.fn) := by
 refine hO wfields_code [0,1,4,5,6,7,29,30,37,41,48,57,60] [] fun B hBN hB0 => ?_
 cases kd
 all_goals
  simp [EK.n,EK.fd,EK.fh,EK.fn,EK.rows,flowR,askR]
  done
theorem wfields_none (k c1 c2 c3 : Int) (c4 : Bool) (c5 c6 c7 g : Int) (hk : k < 1 ∨ 7 < k) :
  HF Tryd.prog 17 [.ptr 0 0,.ptr 1 0] [(1,.cells [I g]),(0,.cells [I k,I c1,I c2,I c3,.bool c4,I c5,I c6,I c7])] 2
   (fun d H' nx' => d = .tup [.nil0,.bool false] ∧ H' = [(3,.rowd 3 askR),(2,.rowd 3 flowR)] ++ [(1,.cells [I g]),(0,.cells [I k,I c1,I c2,I c3,.bool c4,I c5,I c6,I c7])] ∧ nx' = 4) := by
 have k1 : ¬ k = 1 := by omega
 have k2 : ¬ k = 2 := by omega
 have k3 : ¬ k = 3 := by omega
 have k4 : ¬ k = 4 := by omega
 have k5 : ¬ k = 5 := by omega
 have k6 : ¬ k = 6 := by omega
 have k7 : ¬ k = 7 := by omega
 refine hO wfields_code [0,1,4,5,6,7,29,30,37,41,48,57,60] [] fun B hBN hB0 => ?_
 simp [flowR,askR,k1,k2,k3,k4,k5,k6,k7]
 done
def EK.cells (kd : EK) (x y z : Int) : List D :=
 match kd with
 | .op => [I 1,I x,I 0,I 0,.bool false,I 0,I 0,I 0]
 | .da => [I 2,I 0,I x,I y,.bool false,I 0,I 0,I 0]
 | .cl => [I 3,I 0,I x,I y,.bool false,I 0,I 0,I 0]
 | .an => [I 4,I 0,I x,I y,.bool (decide (z = 1)),I 0,I 0,I 0]
 | .jo => [I 5,I 0,I 0,I 0,.bool false,I x,I y,I z]
 | .re => [I 6,I 0,I 0,I 0,.bool false,I x,I y,I 0]
 | .ti => [I 7,I 0,I 0,I 0,.bool false,I 0,I 0,I 0]
def EK.Ok (kd : EK) (x y z : Int) : Prop :=
 match kd with
 | .op => 0 ≤ x ∧ x ≤ 4294967295
 | .da => (0 ≤ x ∧ x ≤ 39) ∧ 0 ≤ y ∧ y ≤ 1048576
 | .cl => (0 ≤ x ∧ x ≤ 39) ∧ 0 ≤ y ∧ y ≤ 1048576
 | .an => (0 ≤ x ∧ x ≤ 39) ∧ (0 ≤ y ∧ y ≤ 1048576) ∧ 0 ≤ z ∧ z ≤ 1
 | .jo => (0 ≤ x ∧ x ≤ 1048576) ∧ (0 ≤ y ∧ y ≤ 11) ∧ 1 ≤ z ∧ z ≤ 8
 | .re => (0 ≤ x ∧ x ≤ 1048576) ∧ 0 ≤ y ∧ y ≤ 11
 | .ti => True
def EK.len : EK → Nat
 | .op => 1 | .da => 2 | .cl => 2 | .an => 3 | .jo => 3 | .re => 2 | .ti => 0
def EK.sl (id : Nat) : EK → D
 | .ti => .nil0
 | _ => .own id
def EK.fo : EK → Nat
 | .op => 4 | .da => 2 | .cl => 2 | .an => 5 | .jo => 5 | .re => 3 | .ti => 3
def EK.rw (g : Nat) : EK → List (List D)
 | .op => [[.ptr 0 1,I 0,I 4294967295]]
 | .da => [[.ptr 0 2,I 0,I 39],[.ptr 0 3,I 0,I 1048576]]
 | .cl => [[.ptr 0 2,I 0,I 39],[.ptr 0 3,I 0,I 1048576]]
 | .an => [[.ptr 0 2,I 0,I 39],[.ptr 0 3,I 0,I 1048576],[.ptr g 0,I 0,I 1]]
 | .jo => [[.ptr 0 5,I 0,I 1048576],[.ptr 0 6,I 0,I 11],[.ptr 0 7,I 1,I 8]]
 | .re => [[.ptr 0 5,I 0,I 1048576],[.ptr 0 6,I 0,I 11]]
 | .ti => []
def EK.hp (id g : Nat) (kd : EK) (H : List (Nat × Ob)) : List (Nat × Ob) :=
 match kd with
 | .ti => H
 | kd => (id,.rowd 3 (kd.rw g)) :: H
def zeroE : List D := [I 0,I 0,I 0,I 0,.bool false,I 0,I 0,I 0]
theorem len3 (kd : EK) {i : Nat} (h : i ≤ kd.len) : i = 0 ∨ i = 1 ∨ i = 2 ∨ i = 3 := by
 have : kd.len ≤ 3 := by cases kd <;> simp [EK.len]
 omega
theorem wfields_ev (kd : EK) (x y z g : Int) :
  HF Tryd.prog 17 [.ptr 0 0,.ptr 1 0] [(1,.cells [I g]),(0,.cells (kd.cells x y z))] 2
   (fun d H' nx' => d = .tup [kd.fd,.bool true] ∧ H' = kd.fh ++ [(1,.cells [I g]),(0,.cells (kd.cells x y z))] ∧ nx' = kd.fn) := by
 cases kd
 ·exact wfields_hf .op _ _ _ _ _ _ _ _
 ·exact wfields_hf .da _ _ _ _ _ _ _ _
 ·exact wfields_hf .cl _ _ _ _ _ _ _ _
 ·exact wfields_hf .an _ _ _ _ _ _ _ _
 ·exact wfields_hf .jo _ _ _ _ _ _ _ _
 ·exact wfields_hf .re _ _ _ _ _ _ _ _
 ·exact wfields_hf .ti _ _ _ _ _ _ _ _
def zi (kd : EK) (i : Nat) (z : Int) : Int :=
 match kd with
 | .an => 0
 | _ => if 2 < i then 0 else z
theorem wrest_code : cfun Tryd.prog [] 18 = some ⟨(.seq (qR 0 [oB 1 0,oX 2 (.alloc [qZ,qZ,qZ,qZ,qF,qZ,qZ,qZ])]) (.seq (qR 1 [oX 3 (.alloc [qZ]),oY (.store 1 (.t 3) (kI 0))]) (.seq (qR 2 [oX 9 (.call 17 [(.t 1),(.t 3)]),oM 8 9,oE 10 8 0,oE 11 8 1,oM 4 10,oM 5 11]) (.seq (.seq (qR 3 [oF 12 0 1,oL 13 1 12,oX 14 (.bin .eql (.t 13) (kI 4))]) (.cond 14 (qR 4 [oF 15 4 1,oY (.store 1 (.t 15) (.k qF))]) .skip)) (.seq (.seq (qR 5 [oM 16 4,oH 17 16,oK 18 0]) (.block 0 (.loop (.seq (qR 6 [oX 19 (.bin .lss (.t 18) (.t 17))]) (.seq (.cond 19 .skip (.exit 0)) (.seq (.block 1 (.seq (qR 7 [oI 20 3 16 18,oA 21 3 20,oX 7 (.alloc [.nilp,qZ,qZ]),oS 3 7 21]) (qR 8 [oF 22 0 7,oL 23 1 22,oN 24 23,oY (.store 1 (.t 24) (kI 0))]))) (qR 9 [oX 25 (.bin .add (.t 18) (kI 1)),oM 18 25]))))))) (.seq (qR 10 [oF 26 0 1,oY (.store 1 (.t 26) (kI 0))]) (.seq (qR 11 [oA 27 8 1,oS 8 2 27]) .ret))))))),[(.c 2 true 8)],28⟩ := by kernel_rfl
theorem wrest_pf (kd : EK) (x y z : Int) : PF Tryd.prog 18 [.agg (kd.cells x y z)] (.agg zeroE) := by
 cases hkd : kd
 all_goals
  have hfl := wfields_ev kd x y z 0
  rw [hkd] at hfl
  refine pO (h3 := by simp [EK.cells]) wrest_code [0,1,2,3,4,7,14,16,17,18,19] [] fun B hBN hB0 => ?_
  simp [EK.cells]
  refine WCall.hf [0,2] hfl (by simp) rfl rfl (by decide) (by simp) (by simp) (by simp) (by simp) (by simp [EK.cells]) ?_
  rintro d H' nx' ⟨rfl,rfl,rfl⟩
  simp [EK.cells,EK.fd,EK.fh,EK.fn,EK.rows,flowR,askR]
  refine W.loopS (fun i : Nat => ⟨[(18,I i),(17,I kd.len),(16,kd.sl 3),(3,.ptr 2 0),(2,.ptr 1 0),(1,.ptr 0 0)],kd.hp 3 2 [(2,.cells [I 0]),(1,.cells zeroE),(0,.cells (kd.cells (if 0 < i then 0 else x) (if 1 < i then 0 else y) (zi kd i z)))],4⟩)
   (fun n i => n = kd.len - i ∧ i ≤ kd.len) ?_ ?_
  ·exact ⟨_,0,(gr0 [0,1,2,kd.fo + 1] hB0 (by simp [EK.fo,hkd,EK.cells,EK.len,EK.sl,EK.hp,EK.rw,zi,zeroE]) (by simp [EK.fo,hkd,EK.cells,EK.len,EK.sl,EK.hp,EK.rw,zi,zeroE]) (.inl (by simp [EK.fo,hkd,EK.cells,EK.len,EK.sl,EK.hp,EK.rw,zi,zeroE]))),rfl,by omega⟩
  rintro n i ⟨hn,hi⟩
  refine acode_sound [0,1,2,3,4,7,14,16,17,18,19] [] _ _ _ ?_
  have hi2 := hi
  have i1 : InR 1 := inW (by omega) (by omega)
  have i2 : InR 2 := inW (by omega) (by omega)
  have i3 : InR 3 := inW (by omega) (by omega)
  rw [hkd] at hi2
  rcases len3 kd hi with rfl | rfl | rfl | rfl
  ·simp [i1,i2,i3,hkd,EK.cells,EK.len,EK.sl,EK.hp,EK.rw,zi,zeroE]
   try exact ⟨_,1,(gr0 [0,1,2,3] hB0 (by simp [hkd,EK.cells,EK.len,EK.sl,EK.hp,EK.rw,zi,zeroE]) (by simp [hkd,EK.cells,EK.len,EK.sl,EK.hp,EK.rw,zi,zeroE]) (.inl (by simp [hkd,EK.cells,EK.len,EK.sl,EK.hp,EK.rw,zi,zeroE]))),(by simp [hkd,EK.len] at hn;omega),rfl,(by simp [hkd,EK.len])⟩
  ·try (exfalso;simp [EK.len] at hi2;done)
   all_goals
    simp [i1,i2,i3,hkd,EK.cells,EK.len,EK.sl,EK.hp,EK.rw,zi,zeroE]
    try exact ⟨_,2,(gr0 [0,1,2,3] hB0 (by simp [hkd,EK.cells,EK.len,EK.sl,EK.hp,EK.rw,zi,zeroE]) (by simp [hkd,EK.cells,EK.len,EK.sl,EK.hp,EK.rw,zi,zeroE]) (.inl (by simp [hkd,EK.cells,EK.len,EK.sl,EK.hp,EK.rw,zi,zeroE]))),(by simp [hkd,EK.len] at hn;omega),rfl,(by simp [hkd,EK.len])⟩
  ·try (exfalso;simp [EK.len] at hi2;done)
   all_goals
    simp [i1,i2,i3,hkd,EK.cells,EK.len,EK.sl,EK.hp,EK.rw,zi,zeroE]
    try exact ⟨_,3,(gr0 [0,1,2,3] hB0 (by simp [hkd,EK.cells,EK.len,EK.sl,EK.hp,EK.rw,zi,zeroE]) (by simp [hkd,EK.cells,EK.len,EK.sl,EK.hp,EK.rw,zi,zeroE]) (.inl (by simp [hkd,EK.cells,EK.len,EK.sl,EK.hp,EK.rw,zi,zeroE]))),(by simp [hkd,EK.len] at hn;omega),rfl,(by simp [hkd,EK.len])⟩
  ·try (exfalso;simp [EK.len] at hi2;done)
   all_goals
    simp [i1,i2,i3,hkd,EK.cells,EK.len,EK.sl,EK.hp,EK.rw,zi,zeroE]
def EK.lo : EK → Nat → Int
 | .jo,2 => 1
 | _,_ => 0
def EK.hi : EK → Nat → Int
 | .op,_ => 4294967295
 | .da,0 => 39 | .da,_ => 1048576
 | .cl,0 => 39 | .cl,_ => 1048576
 | .an,0 => 39 | .an,1 => 1048576 | .an,_ => 1
 | .jo,0 => 1048576 | .jo,1 => 11 | .jo,_ => 8
 | .re,0 => 1048576 | .re,_ => 11
 | .ti,_ => 0
theorem wcheck_code : cfun Tryd.prog [] 11 = some ⟨(.seq (qR 0 [oB 1 0,oK 2 0]) (.seq (qR 1 [oX 3 (.alloc [qZ]),oY (.store 1 (.t 3) (kI 0))]) (.seq (qR 2 [oX 9 (.call 17 [(.t 1),(.t 3)]),oM 8 9,oE 10 8 0,oE 11 8 1,oM 4 10,oM 5 11]) (.seq (.seq (qR 3 [oM 12 5,oX 13 (.not (.t 12))]) (.cond 13 (.seq (qR 4 [oK 2 5]) .ret) .skip)) (.seq (.seq (qR 5 [oM 14 4,oH 15 14,oK 16 0]) (.block 0 (.loop (.seq (qR 6 [oX 17 (.bin .lss (.t 16) (.t 15))]) (.seq (.cond 17 .skip (.exit 0)) (.seq (.block 1 (.seq (qR 7 [oI 18 3 14 16,oA 19 3 18,oX 7 (.alloc [.nilp,qZ,qZ]),oS 3 7 19]) (.seq (.draw 8 (qN (oF 20 0 7) (qN (oL 21 1 20) (qN (oN 22 21) (qN (oL 23 1 22) (qN (oF 24 1 7) (qN (oL 25 1 24) (qN (oX 26 (.bin .lss (.t 23) (.t 25))) (qN (oM 27 26) (qN (oG 28 (.fad 0 (.t 7)) 27 false) (qN (oG 29 (.load false 1 (.t 28)) 27 false) (qN (oG 30 (.nchk (.t 29)) 27 false) (qN (oG 31 (.load false 1 (.t 30)) 27 false) (qN (oG 32 (.fad 2 (.t 7)) 27 false) (qN (oG 33 (.load false 1 (.t 32)) 27 false) (qN (oG 34 (.bin .gtr (.t 31) (.t 33)) 27 false) (qN (oX 35 (.pick (.t 27) (.k qT) (.t 34))) .done))))))))))))))))) (.cond 35 (.seq (qR 9 [oK 2 2]) .ret) .skip)))) (qR 10 [oX 36 (.bin .add (.t 16) (kI 1)),oM 16 36]))))))) (.seq (.seq (qR 11 [oA 37 8 1,oX 38 (.call 18 [(.t 37)]),oX 39 (.build [qZ,qZ,qZ,qZ,qF,qZ,qZ,qZ] []),oX 40 (.eqa true [.i,.i,.i,.i,.b,.i,.i,.i] (.t 38) (.t 39))]) (.cond 40 (.seq (qR 12 [oK 2 3]) .ret) .skip)) (.seq (qR 13 [oK 2 0]) .ret))))))),[(.t 2)],41⟩ := by kernel_rfl
theorem wcheck_pf (kd : EK) (x y z : Int) (h : kd.Ok x y z) : PF Tryd.prog 11 [.agg (kd.cells x y z)] (I 0) := by
 have hr := wrest_pf kd x y z
 cases hkd : kd
 all_goals
  have hfl := wfields_ev kd x y z 0
  have h2 := h
  rw [hkd] at hfl h2 hr
  simp only [EK.Ok] at h2
  refine pO (h3 := by simp [EK.cells]) wcheck_code [0,1,2,3,4,5,7,13,14,15,16,17,35,40] [] fun B hBN hB0 => ?_
  simp [EK.cells]
  refine WCall.hf [0,1] hfl (by simp) rfl rfl (by decide) (by simp) (by simp) (by simp) (by simp) (by simp [EK.cells]) ?_
  rintro d H' nx' ⟨rfl,rfl,rfl⟩
  simp [EK.cells,EK.fd,EK.fh,EK.fn,EK.rows,flowR,askR]
  refine W.loopS (fun i : Nat => ⟨[(16,I i),(15,I kd.len),(14,kd.sl 2),(3,.ptr 1 0),(1,.ptr 0 0)],kd.hp 2 1 [(1,.cells [I 0]),(0,.cells (kd.cells x y z))],3⟩)
   (fun n i => n = kd.len - i ∧ i ≤ kd.len) ?_ ?_
  ·exact ⟨_,0,(gr0 [0,1,kd.fo] hB0 (by simp [EK.fo,hkd,EK.cells,EK.len,EK.sl,EK.hp,EK.rw]) (by simp [EK.fo,hkd,EK.cells,EK.len,EK.sl,EK.hp,EK.rw]) (.inl (by simp [EK.fo,hkd,EK.cells,EK.len,EK.sl,EK.hp,EK.rw]))),rfl,by omega⟩
  rintro n i ⟨hn,hi⟩
  refine acode_sound [0,1,2,3,4,5,7,13,14,15,16,17,35,40] [] _ _ _ ?_
  have hi2 := hi
  have i1 : InR 1 := inW (by omega) (by omega)
  have i2 : InR 2 := inW (by omega) (by omega)
  have i3 : InR 3 := inW (by omega) (by omega)
  try simp only [← Int.not_lt] at h2
  simp only [EK.cells] at hr
  rw [hkd] at hi2
  rcases len3 kd hi with rfl | rfl | rfl | rfl
  ·skip
   repeat' (first
    | simp [i1,i2,i3,h2,hkd,EK.cells,EK.len,EK.sl,EK.hp,EK.rw,zeroE]
    | refine ⟨wcS ?_,?_⟩
    | (refine WCall.pf (hr) ?_ ?_ ?_ ?_;iterate 3 (solve|simp [i1,i2,i3,h2,hkd,EK.cells,EK.len,EK.sl,EK.hp,EK.rw,zeroE]))
    | with_reducible refine aI ?_ ?_ ?_)
   try exact ⟨_,1,(gr0 [0,1,2] hB0 (by simp [hkd,EK.cells,EK.len,EK.sl,EK.hp,EK.rw]) (by simp [hkd,EK.cells,EK.len,EK.sl,EK.hp,EK.rw]) (.inl (by simp [hkd,EK.cells,EK.len,EK.sl,EK.hp,EK.rw]))),(by simp [hkd,EK.len] at hn;omega),rfl,(by simp [hkd,EK.len])⟩
  ·try (exfalso;simp [EK.len] at hi2;done)
   all_goals
    repeat' (first
     | simp [i1,i2,i3,h2,hkd,EK.cells,EK.len,EK.sl,EK.hp,EK.rw,zeroE]
     | refine ⟨wcS ?_,?_⟩
     | (refine WCall.pf (hr) ?_ ?_ ?_ ?_;iterate 3 (solve|simp [i1,i2,i3,h2,hkd,EK.cells,EK.len,EK.sl,EK.hp,EK.rw,zeroE]))
     | with_reducible refine aI ?_ ?_ ?_)
    try exact ⟨_,2,(gr0 [0,1,2] hB0 (by simp [hkd,EK.cells,EK.len,EK.sl,EK.hp,EK.rw]) (by simp [hkd,EK.cells,EK.len,EK.sl,EK.hp,EK.rw]) (.inl (by simp [hkd,EK.cells,EK.len,EK.sl,EK.hp,EK.rw]))),(by simp [hkd,EK.len] at hn;omega),rfl,(by simp [hkd,EK.len])⟩
  ·try (exfalso;simp [EK.len] at hi2;done)
   all_goals
    repeat' (first
     | simp [i1,i2,i3,h2,hkd,EK.cells,EK.len,EK.sl,EK.hp,EK.rw,zeroE]
     | refine ⟨wcS ?_,?_⟩
     | (refine WCall.pf (hr) ?_ ?_ ?_ ?_;iterate 3 (solve|simp [i1,i2,i3,h2,hkd,EK.cells,EK.len,EK.sl,EK.hp,EK.rw,zeroE]))
     | with_reducible refine aI ?_ ?_ ?_)
    try exact ⟨_,3,(gr0 [0,1,2] hB0 (by simp [hkd,EK.cells,EK.len,EK.sl,EK.hp,EK.rw]) (by simp [hkd,EK.cells,EK.len,EK.sl,EK.hp,EK.rw]) (.inl (by simp [hkd,EK.cells,EK.len,EK.sl,EK.hp,EK.rw]))),(by simp [hkd,EK.len] at hn;omega),rfl,(by simp [hkd,EK.len])⟩
  ·try (exfalso;simp [EK.len] at hi2;done)
   all_goals
    repeat' (first
     | simp [i1,i2,i3,h2,hkd,EK.cells,EK.len,EK.sl,EK.hp,EK.rw,zeroE]
     | refine ⟨wcS ?_,?_⟩
     | (refine WCall.pf (hr) ?_ ?_ ?_ ?_;iterate 3 (solve|simp [i1,i2,i3,h2,hkd,EK.cells,EK.len,EK.sl,EK.hp,EK.rw,zeroE]))
     | with_reducible refine aI ?_ ?_ ?_)
end Go.Proofs.YtbhcfldafpndbaaDoor
namespace Go.Proofs.YtbhcfldafpndbaaDoor
open Go.RowKit
theorem byte_app {a : List UInt8} {c : UInt8} (r : List UInt8) (h : c ∉ a) : Lib.indexByte (a ++ c :: r) c = a.length := by
 induction a with
 | nil => simp [Lib.indexByte]
 | cons b a ih =>
  have h1 : ¬ (b == c) = true := fun e => h (by rw [beq_iff_eq] at e;simp [e])
  have h2 := ih (fun e => h (List.mem_cons_of_mem _ e))
  rw [List.cons_append,Lib.indexByte,if_neg h1,h2,if_neg (by rw [beq_iff_eq];omega)]
  simp
theorem byte_none {a : List UInt8} {c : UInt8} (h : c ∉ a) : Lib.indexByte a c = -1 := by
 induction a with
 | nil => rfl
 | cons b a ih =>
  have h1 : ¬ (b == c) = true := fun e => h (by rw [beq_iff_eq] at e;simp [e])
  rw [Lib.indexByte,if_neg h1,ih (fun e => h (List.mem_cons_of_mem _ e))];rfl
theorem byte_cases (c : UInt8) : ∀ s : List UInt8,c ∉ s ∨ ∃ a r,s = a ++ c :: r ∧ c ∉ a
 | [] => .inl (by simp)
 | b :: s => by
  by_cases h : b = c
  ·exact .inr ⟨[],s,by simp [h],by simp⟩
  ·rcases byte_cases c s with h1 | ⟨a,r,h1,h2⟩
   ·exact .inl (by simp [h1];exact fun e => h e.symm)
   ·exact .inr ⟨b :: a,r,by simp [h1],by simp [h2];exact fun e => h e.symm⟩
def splS (s : List UInt8) : List (List UInt8) := Lib.split s [32]
abbrev Ev := EK × Int × Int × Int
def Ev.C (e : Ev) : List D := e.1.cells e.2.1 e.2.2.1 e.2.2.2
def Ev.Ok (e : Ev) : Prop := e.1.Ok e.2.1 e.2.2.1 e.2.2.2
instance okDec (kd : EK) (x y z : Int) : Decidable (kd.Ok x y z) := by cases kd <;> unfold EK.Ok <;> exact inferInstance
def EK.word : EK → List UInt8
 | .op => [111,112,101,110] | .da => [100,97,116,97] | .cl => [99,108,111,115,101] | .an => [97,110,115,119,101,114]
 | .jo => [106,111,105,110] | .re => [114,101,116,105,114,101] | .ti => [116,105,99,107]
def numS (n : Int) : List UInt8 := 32 :: Lib.itoa n
def goodS (z : Int) : List UInt8 := if z = 1 then [32,103,111,111,100] else [32,98,97,100]
def EK.args (kd : EK) (x y z : Int) : List UInt8 :=
 match kd with
 | .op => numS x
 | .da => numS x ++ numS y
 | .cl => numS x ++ numS y
 | .an => numS x ++ numS y ++ goodS z
 | .jo => numS x ++ numS y ++ numS z
 | .re => numS x ++ numS y
 | .ti => []
def lineL (e : Ev) : List UInt8 := e.1.word ++ e.1.args e.2.1 e.2.2.1 e.2.2.2 ++ [10]
def EK.ofW (w : List UInt8) : Option EK :=
 if w = [111,112,101,110] then some .op else if w = [100,97,116,97] then some .da else if w = [99,108,111,115,101] then some .cl else if w = [97,110,115,119,101,114] then some .an
 else if w = [106,111,105,110] then some .jo else if w = [114,101,116,105,114,101] then some .re else if w = [116,105,99,107] then some .ti else none
def atoiV (p : List UInt8) : Int := match Lib.atoiAll p with | .ok v => v | .range => Lib.atoiSat p | _ => 0
def avM (l : List (List UInt8)) (i : Nat) : Int := if i + 1 < l.length then atoiV (l.getD (i + 1) []) else 0
def goodM (l : List (List UInt8)) : Int := if l.getD (l.length - 1) [] = [103,111,111,100] then 1 else 0
def piecesM (s : List UInt8) : List (List UInt8) := splS (Lib.trimSuffix s [10])
def EK.z3 (kd : EK) (l : List (List UInt8)) : Int := match kd with | .an => goodM l | _ => avM l 2
def evL (l : List (List UInt8)) : Option Ev := match EK.ofW (l.getD 0 []) with
 | none => none
 | some kd => some (kd,avM l 0,avM l 1,kd.z3 l)
def okM (s : List UInt8) : Option Ev := match evL (piecesM s) with
 | none => none
 | some e => if e.1.Ok e.2.1 e.2.2.1 e.2.2.2 ∧ lineL e = s then some e else none
theorem okM_some {s : List UInt8} {e : Ev} (h : okM s = some e) : e.Ok ∧ lineL e = s := by
 unfold okM at h
 split at h
 ·cases h
 ·split at h
  ·rename_i h1;cases h;exact h1
  ·cases h
theorem ev_bd {kd : EK} {x y z : Int} (h : kd.Ok x y z) : (0 < kd.len → 0 ≤ x ∧ x ≤ 4294967295) ∧ (1 < kd.len → 0 ≤ y ∧ y ≤ 4294967295) ∧ (2 < kd.len → 0 ≤ z ∧ z ≤ 4294967295) := by
 cases kd <;> simp only [EK.Ok,EK.len] at h ⊢ <;> omega
theorem itoa_le {n : Int} (h0 : 0 ≤ n) (h1 : n ≤ 4294967295) : (numS n).length ≤ 22 := by
 have := Lib.itoa_length_le n (by omega) (by omega)
 simp [numS];omega
theorem line_le {e : Ev} (h : e.Ok) : 1 ≤ (lineL e).length ∧ (lineL e).length ≤ 80 := by
 obtain ⟨kd,x,y,z⟩ := e
 have hb := ev_bd h
 have hg : (goodS z).length ≤ 5 := by unfold goodS;split <;> simp
 have hn := @itoa_le
 unfold lineL
 cases kd <;> simp only [EK.len] at hb <;> simp only [EK.args,EK.word,List.length_append,List.length_cons,List.length_nil]
 ·have := hn (hb.1 (by omega)).1 (hb.1 (by omega)).2;omega
 ·have := hn (hb.1 (by omega)).1 (hb.1 (by omega)).2;have := hn (hb.2.1 (by omega)).1 (hb.2.1 (by omega)).2;omega
 ·have := hn (hb.1 (by omega)).1 (hb.1 (by omega)).2;have := hn (hb.2.1 (by omega)).1 (hb.2.1 (by omega)).2;omega
 ·have := hn (hb.1 (by omega)).1 (hb.1 (by omega)).2;have := hn (hb.2.1 (by omega)).1 (hb.2.1 (by omega)).2;omega
 ·have := hn (hb.1 (by omega)).1 (hb.1 (by omega)).2;have := hn (hb.2.1 (by omega)).1 (hb.2.1 (by omega)).2;have := hn (hb.2.2 (by omega)).1 (hb.2.2 (by omega)).2;omega
 ·have := hn (hb.1 (by omega)).1 (hb.1 (by omega)).2;have := hn (hb.2.1 (by omega)).1 (hb.2.1 (by omega)).2;omega
 ·omega
def linesA : List UInt8 → List UInt8 → List (List UInt8)
 | acc,[] => if acc = [] then [] else [acc]
 | acc,c :: r => if c = 10 then (acc ++ [c]) :: linesA [] r else linesA (acc ++ [c]) r
def linesL (s : List UInt8) : List (List UInt8) := linesA [] s
theorem linesA_line : ∀ (a : List UInt8) (r acc : List UInt8),(10 : UInt8) ∉ a → linesA acc (a ++ 10 :: r) = (acc ++ a ++ [10]) :: linesA [] r
 | [],r,acc,_ => by simp [linesA]
 | c :: a,r,acc,h => by
  rw [List.cons_append,linesA,if_neg (fun e => h (by simp [e])),linesA_line a r _ (fun e => h (List.mem_cons_of_mem _ e))]
  simp
theorem linesA_last : ∀ (a acc : List UInt8),(10 : UInt8) ∉ a → acc ++ a ≠ [] → linesA acc a = [acc ++ a]
 | [],acc,_,hn => by
  unfold linesA
  rw [if_neg (by simpa using hn)];simp
 | c :: a,acc,h,hn => by
  rw [linesA,if_neg (fun e => h (by simp [e])),linesA_last a _ (fun e => h (List.mem_cons_of_mem _ e)) (by simp)]
  simp
theorem lines_line {a : List UInt8} (r : List UInt8) (h : (10 : UInt8) ∉ a) : linesL (a ++ 10 :: r) = (a ++ [10]) :: linesL r := by
 unfold linesL;rw [linesA_line a r [] h];rfl
theorem lines_last {a : List UInt8} (h : (10 : UInt8) ∉ a) (hn : a ≠ []) : linesL a = [a] := by
 unfold linesL;rw [linesA_last a [] h (by simpa using hn)];rfl
def showM (l : List Ev) : List UInt8 := (l.map lineL).flatten
theorem show_le : ∀ (l : List Ev),(∀ e ∈ l,e.Ok) → (showM l).length ≤ 80 * l.length
 | [],_ => by simp [showM]
 | e :: l,h => by
  have h1 := (line_le (h e (by simp))).2
  have h2 := show_le l fun x hx => h x (by simp [hx])
  unfold showM at h2 ⊢
  rw [List.map_cons,List.flatten_cons,List.length_append,List.length_cons];omega
def readL : List Ev → List (List UInt8) → List Ev × Nat × Int
 | acc,[] => (acc,0,0)
 | acc,s :: r => if acc.length = 4000 then ([],4000,9) else match okM s with
  | some e => readL (acc ++ [e]) r
  | none => ([],acc.length,3)
def readM (t : List UInt8) : List Ev × Nat × Int := if 200000 < t.length then ([],0,1) else readL [] (linesL t)
end Go.Proofs.YtbhcfldafpndbaaDoor
namespace Go.Proofs.YtbhcfldafpndbaaDoor
open Go.RowKit Go.Shelf
def lyTrim_ren : Go.Shelf.Ren := ⟨fun | 102 => 26 | 209 => 32 | 207 => 40 | n => n,
 fun | 9 => 9 | 4 => 4 | 3 => 3 | n => n,
 fun | n => n⟩
theorem lyTrim : Lays.n102 Tryd.prog lyTrim_ren := {
 mixed := by kernel_rfl,
 f102 := Tryd.func26.trans (congrArg some (by kernel_rfl)),
 f207 := Tryd.func40.trans (congrArg some (by kernel_rfl)),
 f209 := Tryd.func32.trans (congrArg some (by kernel_rfl)),
 t3 := Tryd.underlying3,
 a3 := Tryd.isAgg3,
 z3 := Tryd.sizeOf3,
 v3 := Tryd.zeroValue3,
 t4 := Tryd.underlying4,
 a4 := Tryd.isAgg4,
 z4 := Tryd.sizeOf4,
 v4 := Tryd.zeroValue4,
 t9 := Tryd.underlying9,
 a9 := Tryd.isAgg9,
 z9 := Tryd.sizeOf9,
 v9 := Tryd.zeroValue9 }
def lyByte_ren : Go.Shelf.Ren := ⟨fun | 137 => 24 | 217 => 30 | 266 => 36 | n => n,
 fun | 9 => 9 | 5 => 5 | 3 => 3 | n => n,
 fun | n => n⟩
theorem lyByte : Lays.n137 Tryd.prog lyByte_ren := {
 mixed := by kernel_rfl,
 f137 := Tryd.func24.trans (congrArg some (by kernel_rfl)),
 f217 := Tryd.func30.trans (congrArg some (by kernel_rfl)),
 f266 := Tryd.func36.trans (congrArg some (by kernel_rfl)),
 t3 := Tryd.underlying3,
 a3 := Tryd.isAgg3,
 z3 := Tryd.sizeOf3,
 v3 := Tryd.zeroValue3,
 t5 := Tryd.underlying5,
 a5 := Tryd.isAgg5,
 z5 := Tryd.sizeOf5,
 v5 := Tryd.zeroValue5,
 t9 := Tryd.underlying9,
 a9 := Tryd.isAgg9,
 z9 := Tryd.sizeOf9,
 v9 := Tryd.zeroValue9 }
def lySplit_ren : Go.Shelf.Ren := ⟨fun | 146 => 25 | 221 => 31 | 268 => 37 | 138 => 38 | 143 => 39 | 195 => 50 | 197 => 51 | 218 => 52 | 219 => 53 | 260 => 62 | 217 => 30 | 225 => 63 | 224 => 64 | 267 => 65 | 266 => 36 | 314 => 70 | n => n,
 fun | 9 => 9 | 31 => 38 | 3 => 3 | 4 => 4 | 0 => 0 | 105 => 93 | 21 => 21 | 5 => 5 | 46 => 97 | 119 => 114 | 139 => 117 | 138 => 116 | 146 => 118 | 51 => 105 | n => n,
 fun | 1 => 1 | 3 => 5 | 4 => 6 | n => n⟩
theorem lySplit : LaysM.n146 Tryd.prog lySplit_ren := {
 mixed := by kernel_rfl,
 f138 := Tryd.func38.trans (congrArg some (by kernel_rfl)),
 f143 := Tryd.func39.trans (congrArg some (by kernel_rfl)),
 f146 := Tryd.func25.trans (congrArg some (by kernel_rfl)),
 f195 := Tryd.func50.trans (congrArg some (by kernel_rfl)),
 f197 := Tryd.func51.trans (congrArg some (by kernel_rfl)),
 f217 := Tryd.func30.trans (congrArg some (by kernel_rfl)),
 f218 := Tryd.func52.trans (congrArg some (by kernel_rfl)),
 f219 := Tryd.func53.trans (congrArg some (by kernel_rfl)),
 f221 := Tryd.func31.trans (congrArg some (by kernel_rfl)),
 f224 := Tryd.func64.trans (congrArg some (by kernel_rfl)),
 f225 := Tryd.func63.trans (congrArg some (by kernel_rfl)),
 f260 := Tryd.func62.trans (congrArg some (by kernel_rfl)),
 f266 := Tryd.func36.trans (congrArg some (by kernel_rfl)),
 f267 := Tryd.func65.trans (congrArg some (by kernel_rfl)),
 f268 := Tryd.func37.trans (congrArg some (by kernel_rfl)),
 f314 := Tryd.func70.trans (congrArg some (by kernel_rfl)),
 t0 := Tryd.underlying0,
 a0 := Tryd.isAgg0,
 z0 := Tryd.sizeOf0,
 v0 := Tryd.zeroValue0,
 t3 := Tryd.underlying3,
 a3 := Tryd.isAgg3,
 z3 := Tryd.sizeOf3,
 v3 := Tryd.zeroValue3,
 t4 := Tryd.underlying4,
 a4 := Tryd.isAgg4,
 z4 := Tryd.sizeOf4,
 v4 := Tryd.zeroValue4,
 t5 := Tryd.underlying5,
 a5 := Tryd.isAgg5,
 z5 := Tryd.sizeOf5,
 v5 := Tryd.zeroValue5,
 t9 := Tryd.underlying9,
 a9 := Tryd.isAgg9,
 z9 := Tryd.sizeOf9,
 v9 := Tryd.zeroValue9,
 t21 := Tryd.underlying21,
 a21 := Tryd.isAgg21,
 z21 := Tryd.sizeOf21,
 v21 := Tryd.zeroValue21,
 t31 := Tryd.underlying38,
 a31 := Tryd.isAgg38,
 z31 := Tryd.sizeOf38,
 v31 := Tryd.zeroValue38,
 t46 := Tryd.underlying97,
 a46 := Tryd.isAgg97,
 z46 := Tryd.sizeOf97,
 v46 := Tryd.zeroValue97,
 t51 := Tryd.underlying105,
 a51 := Tryd.isAgg105,
 z51 := Tryd.sizeOf105,
 v51 := Tryd.zeroValue105,
 t105 := Tryd.underlying93,
 a105 := Tryd.isAgg93,
 z105 := Tryd.sizeOf93,
 v105 := Tryd.zeroValue93,
 t119 := Tryd.underlying114,
 a119 := Tryd.isAgg114,
 z119 := Tryd.sizeOf114,
 t138 := Tryd.underlying116,
 a138 := Tryd.isAgg116,
 z138 := Tryd.sizeOf116,
 v138 := Tryd.zeroValue116,
 t139 := Tryd.underlying117,
 a139 := Tryd.isAgg117,
 z139 := Tryd.sizeOf117,
 v139 := Tryd.zeroValue117,
 t146 := Tryd.underlying118,
 a146 := Tryd.isAgg118,
 z146 := Tryd.sizeOf118,
 v146 := Tryd.zeroValue118,
 g1 := by kernel_rfl,
 g3 := by kernel_rfl,
 g4 := by kernel_rfl,
 i0 := by kernel_rfl,
 i3 := by kernel_rfl,
 i4 := by kernel_rfl,
 i5 := by kernel_rfl,
 i9 := by kernel_rfl,
 i21 := by kernel_rfl,
 i31 := by kernel_rfl,
 i46 := by kernel_rfl,
 i51 := by kernel_rfl,
 i105 := by kernel_rfl,
 i138 := by kernel_rfl,
 i139 := by kernel_rfl,
 i146 := by kernel_rfl,
 m1 := by kernel_rfl,
 s1_3 := fun w h => Go.Proofs.cell_of_shapedOpen_int (zero := #[.int .i64 0]) (t := 3) h (of_decide_eq_true (by kernel_rfl)) (by kernel_rfl) rfl (by kernel_rfl) (by kernel_rfl) Tryd.underlying3,
 m3 := by kernel_rfl,
 m4 := by kernel_rfl }
def lyAtoi_ren : Go.Shelf.Ren := ⟨fun | 172 => 27 | 244 => 33 | 245 => 34 | 247 => 41 | 279 => 42 | 280 => 43 | 281 => 44 | 282 => 45 | 287 => 54 | 316 => 55 | 171 => 21 | 205 => 56 | 321 => 66 | 322 => 67 | 243 => 29 | 246 => 35 | 283 => 46 | 284 => 47 | 285 => 48 | 286 => 49 | 129 => 58 | 317 => 57 | 318 => 59 | 319 => 60 | 320 => 61 | 337 => 68 | 338 => 69 | n => n,
 fun | 9 => 9 | 3 => 3 | 75 => 46 | 76 => 47 | 4 => 4 | 5 => 5 | 167 => 80 | 37 => 41 | 0 => 0 | 85 => 81 | 2 => 2 | 168 => 83 | 53 => 87 | 175 => 95 | 46 => 97 | 210 => 100 | 127 => 68 | 145 => 112 | 143 => 110 | 21 => 21 | 171 => 86 | 173 => 90 | 212 => 104 | 51 => 105 | 20 => 20 | 213 => 106 | 232 => 120 | 233 => 121 | 80 => 50 | n => n,
 fun | 15 => 2 | 16 => 3 | 17 => 4 | 18 => 7 | 19 => 8 | n => n⟩
theorem lyAtoi : LaysC.n172 Tryd.prog lyAtoi_ren := {
 mixed := by kernel_rfl,
 f129 := Tryd.func58.trans (congrArg some (by kernel_rfl)),
 f171 := Tryd.func21.trans (congrArg some (by kernel_rfl)),
 f172 := Tryd.func27.trans (congrArg some (by kernel_rfl)),
 f205 := Tryd.func56.trans (congrArg some (by kernel_rfl)),
 f243 := Tryd.func29.trans (congrArg some (by kernel_rfl)),
 f244 := Tryd.func33.trans (congrArg some (by kernel_rfl)),
 f245 := Tryd.func34.trans (congrArg some (by kernel_rfl)),
 f246 := Tryd.func35.trans (congrArg some (by kernel_rfl)),
 f247 := Tryd.func41.trans (congrArg some (by kernel_rfl)),
 f279 := Tryd.func42.trans (congrArg some (by kernel_rfl)),
 f280 := Tryd.func43.trans (congrArg some (by kernel_rfl)),
 f281 := Tryd.func44.trans (congrArg some (by kernel_rfl)),
 f282 := Tryd.func45.trans (congrArg some (by kernel_rfl)),
 f283 := Tryd.func46.trans (congrArg some (by kernel_rfl)),
 f284 := Tryd.func47.trans (congrArg some (by kernel_rfl)),
 f285 := Tryd.func48.trans (congrArg some (by kernel_rfl)),
 f286 := Tryd.func49.trans (congrArg some (by kernel_rfl)),
 f287 := Tryd.func54.trans (congrArg some (by kernel_rfl)),
 f316 := Tryd.func55.trans (congrArg some (by kernel_rfl)),
 f317 := Tryd.func57.trans (congrArg some (by kernel_rfl)),
 f318 := Tryd.func59.trans (congrArg some (by kernel_rfl)),
 f319 := Tryd.func60.trans (congrArg some (by kernel_rfl)),
 f320 := Tryd.func61.trans (congrArg some (by kernel_rfl)),
 f321 := Tryd.func66.trans (congrArg some (by kernel_rfl)),
 f322 := Tryd.func67.trans (congrArg some (by kernel_rfl)),
 f337 := Tryd.func68.trans (congrArg some (by kernel_rfl)),
 f338 := Tryd.func69.trans (congrArg some (by kernel_rfl)),
 t0 := Tryd.underlying0,
 a0 := Tryd.isAgg0,
 z0 := Tryd.sizeOf0,
 v0 := Tryd.zeroValue0,
 t2 := Tryd.underlying2,
 a2 := Tryd.isAgg2,
 z2 := Tryd.sizeOf2,
 v2 := Tryd.zeroValue2,
 t3 := Tryd.underlying3,
 a3 := Tryd.isAgg3,
 z3 := Tryd.sizeOf3,
 v3 := Tryd.zeroValue3,
 t4 := Tryd.underlying4,
 a4 := Tryd.isAgg4,
 z4 := Tryd.sizeOf4,
 v4 := Tryd.zeroValue4,
 t5 := Tryd.underlying5,
 a5 := Tryd.isAgg5,
 z5 := Tryd.sizeOf5,
 v5 := Tryd.zeroValue5,
 t9 := Tryd.underlying9,
 a9 := Tryd.isAgg9,
 z9 := Tryd.sizeOf9,
 v9 := Tryd.zeroValue9,
 t20 := Tryd.underlying20,
 a20 := Tryd.isAgg20,
 z20 := Tryd.sizeOf20,
 v20 := Tryd.zeroValue20,
 t21 := Tryd.underlying21,
 a21 := Tryd.isAgg21,
 z21 := Tryd.sizeOf21,
 v21 := Tryd.zeroValue21,
 t37 := Tryd.underlying41,
 a37 := Tryd.isAgg41,
 z37 := Tryd.sizeOf41,
 v37 := Tryd.zeroValue41,
 t46 := Tryd.underlying97,
 a46 := Tryd.isAgg97,
 z46 := Tryd.sizeOf97,
 v46 := Tryd.zeroValue97,
 t51 := Tryd.underlying105,
 a51 := Tryd.isAgg105,
 z51 := Tryd.sizeOf105,
 v51 := Tryd.zeroValue105,
 t53 := Tryd.underlying87,
 a53 := Tryd.isAgg87,
 z53 := Tryd.sizeOf87,
 v53 := Tryd.zeroValue87,
 t75 := Tryd.underlying46,
 a75 := Tryd.isAgg46,
 z75 := Tryd.sizeOf46,
 v75 := Tryd.zeroValue46,
 t76 := Tryd.underlying47,
 a76 := Tryd.isAgg47,
 z76 := Tryd.sizeOf47,
 v76 := Tryd.zeroValue47,
 t85 := Tryd.underlying81,
 a85 := Tryd.isAgg81,
 z85 := Tryd.sizeOf81,
 v85 := Tryd.zeroValue81,
 t127 := Tryd.underlying68,
 a127 := Tryd.isAgg68,
 z127 := Tryd.sizeOf68,
 v127 := Tryd.zeroValue68,
 t143 := Tryd.underlying110,
 a143 := Tryd.isAgg110,
 z143 := Tryd.sizeOf110,
 v143 := Tryd.zeroValue110,
 t145 := Tryd.underlying112,
 a145 := Tryd.isAgg112,
 z145 := Tryd.sizeOf112,
 v145 := Tryd.zeroValue112,
 t167 := Tryd.underlying80,
 a167 := Tryd.isAgg80,
 z167 := Tryd.sizeOf80,
 v167 := Tryd.zeroValue80,
 t168 := Tryd.underlying83,
 a168 := Tryd.isAgg83,
 z168 := Tryd.sizeOf83,
 v168 := Tryd.zeroValue83,
 t171 := Tryd.underlying86,
 a171 := Tryd.isAgg86,
 z171 := Tryd.sizeOf86,
 v171 := Tryd.zeroValue86,
 t173 := Tryd.underlying90,
 a173 := Tryd.isAgg90,
 z173 := Tryd.sizeOf90,
 v173 := Tryd.zeroValue90,
 t175 := Tryd.underlying95,
 a175 := Tryd.isAgg95,
 z175 := Tryd.sizeOf95,
 v175 := Tryd.zeroValue95,
 t210 := Tryd.underlying100,
 a210 := Tryd.isAgg100,
 z210 := Tryd.sizeOf100,
 v210 := Tryd.zeroValue100,
 t212 := Tryd.underlying104,
 a212 := Tryd.isAgg104,
 z212 := Tryd.sizeOf104,
 v212 := Tryd.zeroValue104,
 t213 := Tryd.underlying106,
 a213 := Tryd.isAgg106,
 z213 := Tryd.sizeOf106,
 t232 := Tryd.underlying120,
 a232 := Tryd.isAgg120,
 z232 := Tryd.sizeOf120,
 v232 := Tryd.zeroValue120,
 t233 := Tryd.underlying121,
 a233 := Tryd.isAgg121,
 z233 := Tryd.sizeOf121,
 v233 := Tryd.zeroValue121,
 g15 := by kernel_rfl,
 g16 := by kernel_rfl,
 g17 := by kernel_rfl,
 g18 := by kernel_rfl,
 g19 := by kernel_rfl,
 t80 := Tryd.underlying50,
 a80 := Tryd.isAgg50,
 z80 := Tryd.sizeOf50,
 v80 := Tryd.zeroValue50,
 i0 := by kernel_rfl,
 i2 := by kernel_rfl,
 i3 := by kernel_rfl,
 i4 := by kernel_rfl,
 i5 := by kernel_rfl,
 i9 := by kernel_rfl,
 i20 := by kernel_rfl,
 i21 := by kernel_rfl,
 i37 := by kernel_rfl,
 i46 := by kernel_rfl,
 i51 := by kernel_rfl,
 i53 := by kernel_rfl,
 i75 := by kernel_rfl,
 i76 := by kernel_rfl,
 i80 := by kernel_rfl,
 i85 := by kernel_rfl,
 i127 := by kernel_rfl,
 i143 := by kernel_rfl,
 i145 := by kernel_rfl,
 i167 := by kernel_rfl,
 i168 := by kernel_rfl,
 i171 := by kernel_rfl,
 i173 := by kernel_rfl,
 i175 := by kernel_rfl,
 i210 := by kernel_rfl,
 i212 := by kernel_rfl,
 i232 := by kernel_rfl,
 i233 := by kernel_rfl,
 m15 := by kernel_rfl,
 m16 := by kernel_rfl,
 m17 := by kernel_rfl,
 m18 := by kernel_rfl,
 m19 := by kernel_rfl,
 c0 := by kernel_rfl,
 c2 := by kernel_rfl,
 c3 := by kernel_rfl,
 c4 := by kernel_rfl,
 c5 := by kernel_rfl,
 c9 := by kernel_rfl,
 c20 := by kernel_rfl,
 c21 := by kernel_rfl,
 c37 := by kernel_rfl,
 c46 := by kernel_rfl,
 c51 := by kernel_rfl,
 c53 := by kernel_rfl,
 c75 := by kernel_rfl,
 c76 := by kernel_rfl,
 c80 := by kernel_rfl,
 c85 := by kernel_rfl,
 c127 := by kernel_rfl,
 c143 := by kernel_rfl,
 c145 := by kernel_rfl,
 c167 := by kernel_rfl,
 c168 := by kernel_rfl,
 c171 := by kernel_rfl,
 c173 := by kernel_rfl,
 c175 := by kernel_rfl,
 c210 := by kernel_rfl,
 c212 := by kernel_rfl,
 c213 := by kernel_rfl,
 c232 := by kernel_rfl,
 c233 := by kernel_rfl }
def lyItoa_ren : Go.Shelf.Ren := ⟨fun | 171 => 21 | 243 => 29 | 246 => 35 | 283 => 46 | 284 => 47 | 285 => 48 | 286 => 49 | 129 => 58 | 317 => 57 | 318 => 59 | 319 => 60 | 320 => 61 | 337 => 68 | 338 => 69 | n => n,
 fun | 3 => 3 | 9 => 9 | 2 => 2 | 4 => 4 | 171 => 86 | 0 => 0 | 53 => 87 | 37 => 41 | 5 => 5 | 173 => 90 | 212 => 104 | 51 => 105 | 20 => 20 | 213 => 106 | 46 => 97 | 232 => 120 | 233 => 121 | n => n,
 fun | 17 => 4 | 18 => 7 | 19 => 8 | n => n⟩
theorem lyItoa : LaysM.n171 Tryd.prog lyItoa_ren := {
 mixed := by kernel_rfl,
 f129 := Tryd.func58.trans (congrArg some (by kernel_rfl)),
 f171 := Tryd.func21.trans (congrArg some (by kernel_rfl)),
 f243 := Tryd.func29.trans (congrArg some (by kernel_rfl)),
 f246 := Tryd.func35.trans (congrArg some (by kernel_rfl)),
 f283 := Tryd.func46.trans (congrArg some (by kernel_rfl)),
 f284 := Tryd.func47.trans (congrArg some (by kernel_rfl)),
 f285 := Tryd.func48.trans (congrArg some (by kernel_rfl)),
 f286 := Tryd.func49.trans (congrArg some (by kernel_rfl)),
 f317 := Tryd.func57.trans (congrArg some (by kernel_rfl)),
 f318 := Tryd.func59.trans (congrArg some (by kernel_rfl)),
 f319 := Tryd.func60.trans (congrArg some (by kernel_rfl)),
 f320 := Tryd.func61.trans (congrArg some (by kernel_rfl)),
 f337 := Tryd.func68.trans (congrArg some (by kernel_rfl)),
 f338 := Tryd.func69.trans (congrArg some (by kernel_rfl)),
 t0 := Tryd.underlying0,
 a0 := Tryd.isAgg0,
 z0 := Tryd.sizeOf0,
 v0 := Tryd.zeroValue0,
 t2 := Tryd.underlying2,
 a2 := Tryd.isAgg2,
 z2 := Tryd.sizeOf2,
 v2 := Tryd.zeroValue2,
 t3 := Tryd.underlying3,
 a3 := Tryd.isAgg3,
 z3 := Tryd.sizeOf3,
 v3 := Tryd.zeroValue3,
 t4 := Tryd.underlying4,
 a4 := Tryd.isAgg4,
 z4 := Tryd.sizeOf4,
 v4 := Tryd.zeroValue4,
 t5 := Tryd.underlying5,
 a5 := Tryd.isAgg5,
 z5 := Tryd.sizeOf5,
 v5 := Tryd.zeroValue5,
 t9 := Tryd.underlying9,
 a9 := Tryd.isAgg9,
 z9 := Tryd.sizeOf9,
 v9 := Tryd.zeroValue9,
 t20 := Tryd.underlying20,
 a20 := Tryd.isAgg20,
 z20 := Tryd.sizeOf20,
 v20 := Tryd.zeroValue20,
 t37 := Tryd.underlying41,
 a37 := Tryd.isAgg41,
 z37 := Tryd.sizeOf41,
 v37 := Tryd.zeroValue41,
 t46 := Tryd.underlying97,
 a46 := Tryd.isAgg97,
 z46 := Tryd.sizeOf97,
 v46 := Tryd.zeroValue97,
 t51 := Tryd.underlying105,
 a51 := Tryd.isAgg105,
 z51 := Tryd.sizeOf105,
 v51 := Tryd.zeroValue105,
 t53 := Tryd.underlying87,
 a53 := Tryd.isAgg87,
 z53 := Tryd.sizeOf87,
 v53 := Tryd.zeroValue87,
 t171 := Tryd.underlying86,
 a171 := Tryd.isAgg86,
 z171 := Tryd.sizeOf86,
 v171 := Tryd.zeroValue86,
 t173 := Tryd.underlying90,
 a173 := Tryd.isAgg90,
 z173 := Tryd.sizeOf90,
 v173 := Tryd.zeroValue90,
 t212 := Tryd.underlying104,
 a212 := Tryd.isAgg104,
 z212 := Tryd.sizeOf104,
 v212 := Tryd.zeroValue104,
 t213 := Tryd.underlying106,
 a213 := Tryd.isAgg106,
 z213 := Tryd.sizeOf106,
 t232 := Tryd.underlying120,
 a232 := Tryd.isAgg120,
 z232 := Tryd.sizeOf120,
 v232 := Tryd.zeroValue120,
 t233 := Tryd.underlying121,
 a233 := Tryd.isAgg121,
 z233 := Tryd.sizeOf121,
 v233 := Tryd.zeroValue121,
 g17 := by kernel_rfl,
 g18 := by kernel_rfl,
 g19 := by kernel_rfl,
 i0 := by kernel_rfl,
 i2 := by kernel_rfl,
 i3 := by kernel_rfl,
 i4 := by kernel_rfl,
 i5 := by kernel_rfl,
 i9 := by kernel_rfl,
 i20 := by kernel_rfl,
 i37 := by kernel_rfl,
 i46 := by kernel_rfl,
 i51 := by kernel_rfl,
 i53 := by kernel_rfl,
 i171 := by kernel_rfl,
 i173 := by kernel_rfl,
 i212 := by kernel_rfl,
 i232 := by kernel_rfl,
 i233 := by kernel_rfl,
 m17 := by kernel_rfl,
 m18 := by kernel_rfl,
 m19 := by kernel_rfl }
def lyB_ren : Go.Shelf.Ren := ⟨fun | 166 => 12 | 167 => 22 | 240 => 19 | 276 => 28 | n => n,
 fun | 0 => 0 | 3 => 3 | 4 => 4 | 5 => 5 | 9 => 9 | 20 => 20 | 37 => 41 | 70 => 40 | 72 => 43 | 75 => 46 | 80 => 50 | 164 => 72 | n => n,fun n => n⟩
theorem lyWs : Lays.n166 Tryd.prog lyB_ren where
 mixed := by kernel_rfl
 f166 := Tryd.func12.trans (congrArg some (by kernel_rfl))
 f240 := Tryd.func19.trans (congrArg some (by kernel_rfl))
 f276 := Tryd.func28.trans (congrArg some (by kernel_rfl))
 t0 := Tryd.underlying0
 a0 := Tryd.isAgg0
 z0 := Tryd.sizeOf0
 v0 := Tryd.zeroValue0
 t3 := Tryd.underlying3
 a3 := Tryd.isAgg3
 z3 := Tryd.sizeOf3
 v3 := Tryd.zeroValue3
 t4 := Tryd.underlying4
 a4 := Tryd.isAgg4
 z4 := Tryd.sizeOf4
 v4 := Tryd.zeroValue4
 t9 := Tryd.underlying9
 a9 := Tryd.isAgg9
 z9 := Tryd.sizeOf9
 v9 := Tryd.zeroValue9
 t20 := Tryd.underlying20
 a20 := Tryd.isAgg20
 z20 := Tryd.sizeOf20
 v20 := Tryd.zeroValue20
 t37 := Tryd.underlying41
 a37 := Tryd.isAgg41
 z37 := Tryd.sizeOf41
 v37 := Tryd.zeroValue41
 t70 := Tryd.underlying40
 a70 := Tryd.isAgg40
 z70 := Tryd.sizeOf40
 v70 := Tryd.zeroValue40
 t72 := Tryd.underlying43
 a72 := Tryd.isAgg43
 z72 := Tryd.sizeOf43
 v72 := Tryd.zeroValue43
 t75 := Tryd.underlying46
 a75 := Tryd.isAgg46
 z75 := Tryd.sizeOf46
 v75 := Tryd.zeroValue46
 t164 := Tryd.underlying72
 a164 := Tryd.isAgg72
 z164 := Tryd.sizeOf72
 v164 := Tryd.zeroValue72
theorem lyWb : Lays.n167 Tryd.prog lyB_ren where
 mixed := by kernel_rfl
 f167 := Tryd.func22.trans (congrArg some (by kernel_rfl))
 f240 := Tryd.func19.trans (congrArg some (by kernel_rfl))
 f276 := Tryd.func28.trans (congrArg some (by kernel_rfl))
 t0 := Tryd.underlying0
 a0 := Tryd.isAgg0
 z0 := Tryd.sizeOf0
 v0 := Tryd.zeroValue0
 t4 := Tryd.underlying4
 a4 := Tryd.isAgg4
 z4 := Tryd.sizeOf4
 v4 := Tryd.zeroValue4
 t5 := Tryd.underlying5
 a5 := Tryd.isAgg5
 z5 := Tryd.sizeOf5
 v5 := Tryd.zeroValue5
 t9 := Tryd.underlying9
 a9 := Tryd.isAgg9
 z9 := Tryd.sizeOf9
 v9 := Tryd.zeroValue9
 t20 := Tryd.underlying20
 a20 := Tryd.isAgg20
 z20 := Tryd.sizeOf20
 v20 := Tryd.zeroValue20
 t37 := Tryd.underlying41
 a37 := Tryd.isAgg41
 z37 := Tryd.sizeOf41
 v37 := Tryd.zeroValue41
 t70 := Tryd.underlying40
 a70 := Tryd.isAgg40
 z70 := Tryd.sizeOf40
 v70 := Tryd.zeroValue40
 t72 := Tryd.underlying43
 a72 := Tryd.isAgg43
 z72 := Tryd.sizeOf43
 v72 := Tryd.zeroValue43
 t75 := Tryd.underlying46
 a75 := Tryd.isAgg46
 z75 := Tryd.sizeOf46
 v75 := Tryd.zeroValue46
 t164 := Tryd.underlying72
 a164 := Tryd.isAgg72
 z164 := Tryd.sizeOf72
 v164 := Tryd.zeroValue72
def lySt_ren : Go.Shelf.Ren := ⟨fun | 169 => 14 | n => n,
 fun | 70 => 40 | 9 => 9 | 0 => 0 | 72 => 43 | 37 => 41 | 127 => 68 | 3 => 3 | 5 => 5 | n => n,
 fun | n => n⟩
theorem lySt : Lays.n169 Tryd.prog lySt_ren := {
 mixed := by kernel_rfl,
 f169 := Tryd.func14.trans (congrArg some (by kernel_rfl)),
 t0 := Tryd.underlying0,
 a0 := Tryd.isAgg0,
 z0 := Tryd.sizeOf0,
 v0 := Tryd.zeroValue0,
 t3 := Tryd.underlying3,
 a3 := Tryd.isAgg3,
 z3 := Tryd.sizeOf3,
 v3 := Tryd.zeroValue3,
 t9 := Tryd.underlying9,
 a9 := Tryd.isAgg9,
 z9 := Tryd.sizeOf9,
 v9 := Tryd.zeroValue9,
 t37 := Tryd.underlying41,
 a37 := Tryd.isAgg41,
 z37 := Tryd.sizeOf41,
 v37 := Tryd.zeroValue41,
 t70 := Tryd.underlying40,
 a70 := Tryd.isAgg40,
 z70 := Tryd.sizeOf40,
 v70 := Tryd.zeroValue40,
 t72 := Tryd.underlying43,
 a72 := Tryd.isAgg43,
 z72 := Tryd.sizeOf43,
 v72 := Tryd.zeroValue43,
 t127 := Tryd.underlying68,
 a127 := Tryd.isAgg68,
 z127 := Tryd.sizeOf68,
 v127 := Tryd.zeroValue68 }
theorem exWs : Builder.Extra Tryd.prog lyB_ren where
 sizeBuilder := by kernel_rfl
 liesBuilder := by kernel_rfl
 t5 := Tryd.underlying5
 a5 := Tryd.isAgg5
 z5 := Tryd.sizeOf5
 v5 := Tryd.zeroValue5
 infoByte := by kernel_rfl
 cellsByte := by kernel_rfl
 sizeByte := by kernel_rfl
 neB5 := by decide
theorem exSt : Builder.Extra Tryd.prog lySt_ren where
 sizeBuilder := by kernel_rfl
 liesBuilder := by kernel_rfl
 t5 := Tryd.underlying5
 a5 := Tryd.isAgg5
 z5 := Tryd.sizeOf5
 v5 := Tryd.zeroValue5
 infoByte := by kernel_rfl
 cellsByte := by kernel_rfl
 sizeByte := by kernel_rfl
 neB5 := by decide
abbrev bS (l : List UInt8) : ByteArray := ⟨l.toArray⟩
theorem bS_size (l : List UInt8) : (bS l).size = l.length := rfl
theorem bS_of (s : ByteArray) : bS s.data.toList = s := by cases s;rfl
def wordsL : List (List UInt8) := [[],EK.word .op,EK.word .da,EK.word .cl,EK.word .an,EK.word .jo,EK.word .re,EK.word .ti]
structure LnG (w : World) : Prop where
 pow : Lib.TabIs Tryd.prog w "internal/strconv.uint64pow10" .u64 Lib.pow10Tab
 es : ∃ tp p,w.cell? ⟨2,0,none⟩ = some (.iface tp p)
 er : ∃ tp p,w.cell? ⟨3,0,none⟩ = some (.iface tp p)
 ml : ∃ m : Int,w.cell? ⟨1,0,none⟩ = some (.int .i64 m)
 wd : ∀ i x,wordsL[i]? = some x → w.cell? ⟨0,i,none⟩ = some (.string (bS x))
theorem cell_below {w w' : World} (hb : Below w.heap.size w w') {a : Addr} {v : Value} (h : w.cell? a = some v) : w'.cell? a = some v := by
 rw [hb.cell (World.block_lt_of_cell? w a h)];exact h
theorem var_below {w w' : World} (hb : Below w.heap.size w w') {n : String} {cs : Array Value} (h : w.var? Tryd.prog n = some cs) : w'.var? Tryd.prog n = some cs := by
 unfold World.var? at h ⊢
 cases hg : Tryd.prog.globalNamed n with
 | none => rw [hg] at h;cases h
 | some g =>
  rw [hg] at h
  simp only [Option.bind_some] at h ⊢
  cases ho : w.heap[g]? with
  | none => rw [ho] at h;cases h
  | some o => rw [ho] at h;rw [hb.block g (Array.getElem?_eq_some_iff.1 ho).1,ho];exact h
theorem LnG.below {w w' : World} (h : LnG w) (hb : Below w.heap.size w w') : LnG w' :=
 ⟨var_below hb h.pow,by obtain ⟨a,b,h1⟩ := h.es;exact ⟨a,b,cell_below hb h1⟩,by obtain ⟨a,b,h1⟩ := h.er;exact ⟨a,b,cell_below hb h1⟩,
  by obtain ⟨m,h1⟩ := h.ml;exact ⟨m,cell_below hb h1⟩,fun i x hx => cell_below hb (h.wd i x hx)⟩
theorem lnTrim (s p : List UInt8) (w : World) (hs : s.length ≤ 1000000) :
  Calls Tryd.prog 26 #[.string (bS s),.string (bS p)] w fun e w' => e = .returned (.string (bS (Lib.trimSuffix s p))) ∧ w' = w :=
 Any.strings_TrimSuffix lyTrim (bS s) (bS p) w (by rw [bS_size];omega)
theorem lnByte (s : List UInt8) (c : Int) (w : World) :
  Calls Tryd.prog 24 #[.string (bS s),.int .u8 c] w fun e w' => e = .returned (.int .i64 (Lib.indexByte s c.toNat.toUInt8)) ∧ w' = w :=
 Any.strings_IndexByte lyByte (bS s) c w
theorem lnSplit (s : List UInt8) (w : World) (hg : LnG w) (hs : s.length ≤ 1000000) :
  Calls Tryd.prog 25 #[.string (bS s),.string (bS [32])] w fun e w' =>
   e = .returned (.slice (some ⟨w.heap.size,0,none⟩) (splS s).length (splS s).length) ∧ w' = w.alloc (.cells ((splS s).map fun x => Value.string (bS x)).toArray 9) := by
 obtain ⟨m,hm⟩ := hg.ml
 have h := Any.strings_Split { lySplit with } lySplit.i9 (bS s) (bS [32]) m w (by rw [bS_size];omega) hm (by decide)
 have e1 : (Lib.splitB (bS [32]) 0 (Lib.countB (bS s) (bS [32])) (bS s)).map (·.data.toList) = splS s := Lib.splitB_data (bS [32]) 0 _ (bS s)
 have e2 : (Lib.splitB (bS [32]) 0 (Lib.countB (bS s) (bS [32])) (bS s)).map Value.string = (splS s).map fun x => Value.string (bS x) := by
  rw [← e1,List.map_map]
  exact List.map_congr_left fun x _ => by simp [bS_of]
 have e3 : (splS s).length = Lib.countB (bS s) (bS [32]) + 1 := by
  rw [← e1,List.length_map]
  exact Lib.splitB_all (bS [32]) (by decide) 0 _ (bS s) rfl
 rw [e2] at h
 rw [e3]
 exact h
theorem lnItoa (n : Int) (h0 : 0 ≤ n) (h1 : n ≤ 4294967295) (w : World) (hg : LnG w) :
  Calls Tryd.prog 21 #[.int .i64 n] w fun e w' => e = .returned (.string (bS (Lib.itoa n))) ∧ Below w.heap.size w w' := by
 refine (Any.strconv_Itoa lyItoa n (by omega) (by omega) w hg.pow).mono ?_
 rintro e w' ⟨rfl,k,os,rfl⟩
 refine ⟨rfl,?_⟩
 exact ⟨rfl,rfl,rfl,by simp [Sort.grow,World.drewN],fun j hj => by simp [Sort.grow,World.drewN,Array.getElem?_append,hj]⟩
theorem lnAtoi (s : List UInt8) (hs : s.length ≤ 1000000) (w : World) (hg : LnG w) :
  Calls Tryd.prog 27 #[.string (bS s)] w fun e w' => ∃ er,e = .returned (.tuple #[.int .i64 (atoiV s),er]) ∧ Below w.heap.size w w' := by
 rcases h : Lib.atoiAll s with v | _ | _
 ·refine (Any.strconv_Atoi_ok lyAtoi (bS s) (by rw [bS_size];omega) v h w).mono ?_
  rintro e w' ⟨rfl,hw⟩
  refine ⟨_,by simp only [atoiV,h];rfl,?_⟩
  rcases hw with rfl | ⟨t,rfl⟩
  ·exact Below.refl _ _
  ·exact Lib.bytesWorld_below _ _ _
 ·obtain ⟨tp,p,hv⟩ := hg.es
  refine (Any.strconv_Atoi_syntax lyAtoi (bS s) (by rw [bS_size];omega) h _ w hv (.inr ⟨tp,p,rfl⟩)).mono ?_
  rintro e w' ⟨N,rfl,-,-,hb⟩
  exact ⟨_,by simp only [atoiV,h];rfl,hb⟩
 ·obtain ⟨tp,p,hv⟩ := hg.er
  refine (Any.strconv_Atoi_range lyAtoi (bS s) (by rw [bS_size];omega) h _ w hv (.inr ⟨tp,p,rfl⟩)).mono ?_
  rintro e w' ⟨N,rfl,-,-,hb⟩
  exact ⟨_,by simp only [atoiV,h];rfl,hb⟩
abbrev tB : TypeId := 43
abbrev tU : TypeId := 5
def Bld (B b : Nat) (l : List UInt8) (w : World) : Prop := Lib.IsBuilderF tB tU B b (Lib.byteCells l) w
theorem Bld.fresh (w : World) : Bld w.heap.size w.heap.size [] (w.alloc (.cells #[.pointer none,.slice none 0 0] tB)) := Lib.IsBuilderF.of (Lib.fresh_isBuilder _ _ w)
theorem heap_below {w w' : World} (hb : Below w.heap.size w w') {k : Nat} {o : Obj} (h : w.heap[k]? = some o) : w'.heap[k]? = some o := by
 rw [hb.block k (Array.getElem?_eq_some_iff.1 h).1];exact h
theorem Bld.below {B b : Nat} {l : List UInt8} {w w' : World} (h : Bld B b l w) (hb : Below w.heap.size w w') : Bld B b l w' := by
 have key : ∀ p,Lib.BuilderAtF tB tU B b p (Lib.byteCells l) w → Lib.BuilderAtF tB tU B b p (Lib.byteCells l) w' := fun p h => by
  obtain ⟨h1,v,h2,h3,h4⟩ := h
  refine ⟨h1,v,heap_below hb h2,⟨h3.1,?_⟩,h4⟩
  rcases h3.2 with h5 | ⟨g,cap,cur,fz,h5,h6,h7,h8⟩
  ·exact .inl h5
  ·exact .inr ⟨g,cap,cur,fz,h5,h6,heap_below hb h7,h8⟩
 exact h.imp (key _) (key _)
theorem bldWs (B b : Nat) (l s : List UInt8) (w : World) (h : Bld B b l w) (hl : l.length + s.length ≤ 100000000) (hB : B ≤ w.heap.size) :
  Calls Tryd.prog 12 #[.pointer (some ⟨b,0,none⟩),.string (bS s)] w fun e w' => e = .returned (.tuple #[.int .i64 s.length,.nilIface]) ∧ Bld B b (l ++ s) w' ∧ Below B w w' ∧ Lib.OthersKept tU (some b) w w' := by
 refine (Any.Builder_WriteString_k lyWs exWs B b (Lib.byteCells l) (bS s) w h (by rw [Lib.byteCells_length,bS_size];omega) hB).mono ?_
 rintro e w' ⟨rfl,h1,h2,h3⟩
 refine ⟨rfl,.inr ?_,h2,h3⟩
 rw [Lib.byteCells_append]
 exact h1
theorem bldWb (B b : Nat) (l : List UInt8) (w : World) (h : Bld B b l w) (hl : l.length ≤ 100000000) (hB : B ≤ w.heap.size) :
  Calls Tryd.prog 22 #[.pointer (some ⟨b,0,none⟩),.int .u8 10] w fun e w' => e = .returned .nilIface ∧ Bld B b (l ++ [10]) w' ∧ Below B w w' ∧ Lib.OthersKept tU (some b) w w' := by
 refine (Any.Builder_WriteByte_k lyWb exWs B b (Lib.byteCells l) 10 w h (by rw [Lib.byteCells_length];omega) hB).mono ?_
 rintro e w' ⟨rfl,h1,h2,h3⟩
 refine ⟨rfl,.inr ?_,h2,h3⟩
 rw [Lib.byteCells_append]
 exact h1
theorem bldSt (B b : Nat) (l : List UInt8) (w : World) (h : Bld B b l w) (hB : B ≤ w.heap.size) :
  Calls Tryd.prog 14 #[.pointer (some ⟨b,0,none⟩)] w fun e w' => e = .returned (.string (bS l)) ∧ Below B w w' := by
 refine (Any.Builder_String_any_k lySt exSt B b l w h hB).mono ?_
 rintro e w' ⟨rfl,h1,h2,h3⟩
 exact ⟨rfl,h2⟩
def EK.offs : EK → List Nat
 | .op => [1] | .da => [2,3] | .cl => [2,3] | .an => [2,3] | .jo => [5,6,7] | .re => [5,6] | .ti => []
def nsV (offs : List Nat) (g : Nat) : Value := if offs = [] then .slice none 0 0 else .slice (some ⟨g,0,none⟩) offs.length offs.length
def nsW (offs : List Nat) (b : Nat) (w : World) : World := if offs = [] then w else w.alloc (.cells (offs.map fun o => Value.pointer (some ⟨b,o,none⟩)).toArray 59)
theorem numbers_calls (kd : EK) (b : Nat) (w : World) (h : w.cell? ⟨b,0,none⟩ = some (.int .i64 kd.n)) :
  Calls Tryd.prog 20 #[.pointer (some ⟨b,0,none⟩)] w fun e w' => ∃ q,e = .returned (nsV kd.offs w.heap.size) ∧ w' = nsW kd.offs b (w.drewN q) := by
 have H := Lib.hid h
 clear h
 cases kd
 ·have h : w.cell? ⟨b,0,none⟩ = some (.int .i64 1) := H.out
  go_enter Tryd.func20,Tryd.ntmps20
  go_wp2
  go_ret
  exact ⟨0,rfl,rfl⟩
 ·have h : w.cell? ⟨b,0,none⟩ = some (.int .i64 2) := H.out
  go_enter Tryd.func20,Tryd.ntmps20
  go_wp2
  refine wp_region_still_tail 6 (by kernel_rfl) (by kernel_rfl) ?_
  simp only [List.take_succ_cons,List.take_zero,List.drop_succ_cons,List.drop_zero]
  repeat still_step
  refine wpStill_nil ?_
  go_wp2
  go_ret
  exact ⟨1,rfl,rfl⟩
 ·have h : w.cell? ⟨b,0,none⟩ = some (.int .i64 3) := H.out
  go_enter Tryd.func20,Tryd.ntmps20
  go_wp2
  refine wp_region_still_tail 6 (by kernel_rfl) (by kernel_rfl) ?_
  simp only [List.take_succ_cons,List.take_zero,List.drop_succ_cons,List.drop_zero]
  repeat still_step
  refine wpStill_nil ?_
  go_wp2
  go_ret
  exact ⟨1,rfl,rfl⟩
 ·have h : w.cell? ⟨b,0,none⟩ = some (.int .i64 4) := H.out
  go_enter Tryd.func20,Tryd.ntmps20
  go_wp2
  refine wp_region_still_tail 6 (by kernel_rfl) (by kernel_rfl) ?_
  simp only [List.take_succ_cons,List.take_zero,List.drop_succ_cons,List.drop_zero]
  repeat still_step
  refine wpStill_nil ?_
  go_wp2
  go_ret
  exact ⟨1,rfl,rfl⟩
 ·have h : w.cell? ⟨b,0,none⟩ = some (.int .i64 5) := H.out
  go_enter Tryd.func20,Tryd.ntmps20
  go_wp2
  refine wp_region_still_tail 9 (by kernel_rfl) (by kernel_rfl) ?_
  simp only [List.take_succ_cons,List.take_zero,List.drop_succ_cons,List.drop_zero]
  repeat still_step
  refine wpStill_nil ?_
  go_wp2
  go_ret
  exact ⟨1,rfl,rfl⟩
 ·have h : w.cell? ⟨b,0,none⟩ = some (.int .i64 6) := H.out
  go_enter Tryd.func20,Tryd.ntmps20
  go_wp2
  refine wp_region_still_tail 6 (by kernel_rfl) (by kernel_rfl) ?_
  simp only [List.take_succ_cons,List.take_zero,List.drop_succ_cons,List.drop_zero]
  repeat still_step
  refine wpStill_nil ?_
  go_wp2
  go_ret
  exact ⟨1,rfl,rfl⟩
 ·have h : w.cell? ⟨b,0,none⟩ = some (.int .i64 7) := H.out
  go_enter Tryd.func20,Tryd.ntmps20
  go_wp2
  go_ret
  exact ⟨0,rfl,rfl⟩
def nsP (kd : EK) (b : Nat) : Array Value := (kd.offs.map fun o => Value.pointer (some ⟨b,o,none⟩)).toArray
def EK.nsl (kd : EK) (g : Nat) : Value :=
 match kd with
 | .op => .slice (some ⟨g,0,none⟩) 1 1 | .jo => .slice (some ⟨g,0,none⟩) 3 3 | .ti => .slice none 0 0 | _ => .slice (some ⟨g,0,none⟩) 2 2
theorem numbers_at (kd : EK) (b : Nat) (w : World) (h : w.cell? ⟨b,0,none⟩ = some (.int .i64 kd.n)) :
  Calls Tryd.prog 20 #[.pointer (some ⟨b,0,none⟩)] w fun e w' => ∃ g,e = .returned (kd.nsl g) ∧ w.heap.size ≤ g ∧ Below w.heap.size w w' ∧ (kd.offs ≠ [] → w'.heap[g]? = some (.cells (nsP kd b) 59 (0,0))) := by
 refine (numbers_calls kd b w h).mono ?_
 rintro e w' ⟨q,rfl,rfl⟩
 have hq : Below w.heap.size w (w.drewN q) := ⟨rfl,rfl,rfl,Nat.le_refl _,fun _ _ => rfl⟩
 refine ⟨w.heap.size,by cases kd <;> rfl,Nat.le_refl _,?_,fun hne => ?_⟩
 ·unfold nsW
  split
  ·exact hq
  ·exact hq.alloc (Nat.le_refl _) _
 ·unfold nsW
  rw [if_neg hne]
  exact World.alloc_heap_new (w.drewN q) _
def EK.vals (kd : EK) (x y z : Int) : Array Value :=
 match kd with
 | .op => #[.int .i64 1,.int .i64 x,.int .i64 0,.int .i64 0,.bool false,.int .i64 0,.int .i64 0,.int .i64 0]
 | .da => #[.int .i64 2,.int .i64 0,.int .i64 x,.int .i64 y,.bool false,.int .i64 0,.int .i64 0,.int .i64 0]
 | .cl => #[.int .i64 3,.int .i64 0,.int .i64 x,.int .i64 y,.bool false,.int .i64 0,.int .i64 0,.int .i64 0]
 | .an => #[.int .i64 4,.int .i64 0,.int .i64 x,.int .i64 y,.bool (decide (z = 1)),.int .i64 0,.int .i64 0,.int .i64 0]
 | .jo => #[.int .i64 5,.int .i64 0,.int .i64 0,.int .i64 0,.bool false,.int .i64 x,.int .i64 y,.int .i64 z]
 | .re => #[.int .i64 6,.int .i64 0,.int .i64 0,.int .i64 0,.bool false,.int .i64 x,.int .i64 y,.int .i64 0]
 | .ti => #[.int .i64 7,.int .i64 0,.int .i64 0,.int .i64 0,.bool false,.int .i64 0,.int .i64 0,.int .i64 0]
theorem own_first (w : World) (vs : Array Value) (t : TypeId) (o : Obj) (j : Nat) (v : Value) (h : vs[j]? = some v) : ((w.alloc (.cells vs t)).alloc o).cell? ⟨w.heap.size,j,none⟩ = some v :=
 cell_below ((Below.refl _ _).alloc (Nat.le_refl _) _) (by unfold World.cell?;simp only [World.alloc_heap_new];exact h)
theorem rfl_cat (a b : List UInt8) : (⟨a.toArray⟩ : ByteArray) ++ bS b = bS (a ++ b) := by
 apply ByteArray.ext
 simp [bS]
def argN (ns : List Int) (k : Nat) : List UInt8 := ((ns.take k).map numS).flatten
theorem argN_succ (ns : List Int) (k : Nat) (v : Int) (h : ns[k]? = some v) : argN ns (k + 1) = argN ns k ++ numS v := by
 unfold argN;rw [List.take_add_one,h];simp
theorem argN_len (ns : List Int) (k : Nat) (h : ∀ v ∈ ns,0 ≤ v ∧ v ≤ 4294967295) : (argN ns k).length ≤ 22 * k := by
 induction k with
 | zero => simp [argN]
 | succ k ih =>
  cases hk : ns[k]? with
  | none =>
   have : argN ns (k + 1) = argN ns k := by unfold argN;rw [List.take_add_one,hk];simp
   rw [this];omega
  | some v =>
   rw [argN_succ ns k v hk,List.length_append]
   have hv := h v (zD hk)
   have := itoa_le hv.1 hv.2
   omega
theorem line_op (x y z : Int) (he : EK.op.Ok x y z) (w : World) (hg : LnG w) :
  Calls Tryd.prog 13 #[.agg (EK.op.vals x y z)] w fun r w' => r = .returned (.string (bS (lineL (.op,x,y,z)))) ∧ Below w.heap.size w w' := by
 have hbd := ev_bd he
 simp only [EK.len] at hbd
 obtain ⟨ns,hns⟩ : ∃ ns : List Int,ns = [x] := ⟨_,rfl⟩
 have hnb : ∀ v ∈ ns,0 ≤ v ∧ v ≤ 4294967295 := by
  rw [hns];intro v hv
  simp only [List.mem_cons,List.not_mem_nil,or_false] at hv
  subst hv;exact hbd.1 (by omega)
 have hlw := hnb
 simp only [EK.vals]
 obtain ⟨W0,hW0⟩ : ∃ W0,W0 = (w.alloc (.cells #[.int .i64 1,.int .i64 x,.int .i64 0,.int .i64 0,.bool false,.int .i64 0,.int .i64 0,.int .i64 0] 25)).alloc (.cells #[.pointer none,.slice none 0 0] tB) := ⟨_,rfl⟩
 have hb0 : Below w.heap.size w W0 := by rw [hW0];exact ((Below.refl _ _).alloc (Nat.le_refl _) _).alloc (by simp) _
 have hs0 : W0.heap.size = w.heap.size + 2 := by rw [hW0];simp
 have hc0 : W0.cell? ⟨w.heap.size,0,none⟩ = some (.int .i64 1) := by rw [hW0];exact own_first _ _ _ _ _ _ rfl
 have hc1 : W0.cell? ⟨w.heap.size,1,none⟩ = some (.int .i64 x) := by rw [hW0];exact own_first _ _ _ _ _ _ rfl
 have hB0 : Bld (w.heap.size + 1) (w.heap.size + 1) [] W0 := by
  have := Bld.fresh (w.alloc (.cells #[.int .i64 1,.int .i64 x,.int .i64 0,.int .i64 0,.bool false,.int .i64 0,.int .i64 0,.int .i64 0] 25))
  rw [← hW0] at this
  simpa using this
 have hg0 := hg.below hb0
 have hw0 := hg0.wd 1 _ rfl
 have keep : ∀ {W : World} {j : Nat} {v : Value},Below (w.heap.size + 1) W0 W → W0.cell? ⟨w.heap.size,j,none⟩ = some v → W.cell? ⟨w.heap.size,j,none⟩ = some v := fun hb h => (hb.cell (p := ⟨w.heap.size,_,none⟩) (by simp)).trans h
 have hnum := fun W h => numbers_at .op w.heap.size W h
 simp only [EK.nsl] at hnum
 go_enter Tryd.func13,Tryd.ntmps13
 go_upto_region 2 with (fail)
 rw [← hW0]
 clear hW0
 go_wp2_with (go_at_call 12;refine (bldWs (w.heap.size + 1) (w.heap.size + 1) [] _ _ hB0 (by simp [EK.word]) (by omega)).mono ?_;rintro e W1 ⟨rfl,hB1,hb1,hk1⟩)
 rw [List.nil_append] at hB1
 go_wp2_with (go_at_call 20;refine (hnum _ (keep hb1 hc0)).mono ?_;rintro e W2 ⟨g,rfl,hgs,hb12,hp2⟩)
 have hs1 : W0.heap.size ≤ W1.heap.size := hb1.size
 have hb2 : Below (w.heap.size + 1) W0 W2 := hb1.trans (hb12.mono (by omega))
 have hB2 : Bld (w.heap.size + 1) (w.heap.size + 1) (EK.word .op ++ argN ns 0) W2 := by
  have := hB1.below hb12
  simpa [argN] using this
 replace hp2 : W2.heap[g]? = some (.cells #[.pointer (some ⟨w.heap.size,1,none⟩)] 59 (0,0)) := hp2 (by simp [EK.offs])
 have hgb : w.heap.size + 2 ≤ g := by omega
 have hsz2 : w.heap.size + 2 ≤ W2.heap.size := by have := hb2.size;omega
 clear hb12 hgs hs1 hB1 hb1 hk1
 go_wp2
 go_loopw [14] (fun i wr => ∃ k : Nat,i = .int .i64 k ∧ k ≤ 1 ∧ Bld (w.heap.size + 1) (w.heap.size + 1) (EK.word .op ++ argN ns k) wr ∧ Below (w.heap.size + 1) W0 wr ∧ wr.heap[g]? = some (.cells #[.pointer (some ⟨w.heap.size,1,none⟩)] 59 (0,0))) (fun i _ => match i with | .int _ z => 1 - z.toNat | _ => 0)
 case atStart => exact ⟨0,rfl,by omega,hB2,hb2,hp2⟩
 case round =>
  obtain ⟨k,rfl,hk,hBk,hbk,hpk⟩ := hrel
  have hszk : w.heap.size + 2 ≤ wr.heap.size := by have := hbk.size;omega
  clear hB2 hb2 hp2
  by_cases h0 : k = 0
  ·subst h0
   have hcell : wr.cell? ⟨g,0,none⟩ = some (.pointer (some ⟨w.heap.size,1,none⟩)) := by unfold World.cell?;rw [hpk];rfl
   have hval := keep hbk hc1
   have hlen := argN_len ns 0 hnb
   have hnb1 := hnb x (by rw [hns];simp)
   have hil := Lib.itoa_length_le x (by omega) (by omega)
   have hgk : LnG wr := hg.below (hb0.trans (hbk.mono (by omega)))
   go_wp2_with (go_at_call 21;refine (lnItoa x hnb1.1 hnb1.2 _ hgk).mono ?_;rintro e W3 ⟨rfl,hb3⟩)
   have hcat : ({ data := #[32] } : ByteArray) ++ bS (Lib.itoa x) = bS (numS x) := rfl_cat _ _
   rw [hcat]
   refine (bldWs (w.heap.size + 1) (w.heap.size + 1) (EK.word .op ++ argN ns 0) (numS x) _ (hBk.below hb3) (by simp only [List.length_append,EK.word,List.length_cons,List.length_nil,numS];omega) (by have := hb3.size;omega)).mono ?_
   rintro e W4 ⟨rfl,hB4,hb4,hk4⟩
   go_wp2
   go_roundw
   case rel =>
    refine ⟨1,by simp,by omega,?_,hbk.trans ((hb3.mono (by omega)).trans hb4),hk4 g _ (heap_below hb3 hpk) (fun e => by injection e with e;omega) (fun c fz e => by injection e with _ e _;exact absurd e (by decide))⟩
    rw [argN_succ ns 0 x (by rw [hns];rfl),← List.append_assoc];exact hB4
   case measure => simp
  obtain rfl : k = 1 := by omega
  have hlen := argN_len ns 1 hnb
  have hval := keep hbk hc0
  go_wp2_with (go_at_call 22;refine (bldWb (w.heap.size + 1) (w.heap.size + 1) (EK.word .op ++ argN ns 1) _ hBk (by simp only [List.length_append,EK.word,List.length_cons,List.length_nil];omega) (by omega)).mono ?_;rintro e W5 ⟨rfl,hB5,hb5,hk5⟩)
  go_wp2_with (go_at_call 14;refine (bldSt (w.heap.size + 1) (w.heap.size + 1) _ _ hB5 (by have := hb5.size;omega)).mono ?_;rintro e W6 ⟨rfl,hb6⟩)
  go_ret
  refine ⟨?_,hb0.trans ((hbk.trans (hb5.trans hb6)).mono (by omega))⟩
  simp [lineL,EK.args,argN,hns]
theorem line_da (x y z : Int) (he : EK.da.Ok x y z) (w : World) (hg : LnG w) :
  Calls Tryd.prog 13 #[.agg (EK.da.vals x y z)] w fun r w' => r = .returned (.string (bS (lineL (.da,x,y,z)))) ∧ Below w.heap.size w w' := by
 have hbd := ev_bd he
 simp only [EK.len] at hbd
 obtain ⟨ns,hns⟩ : ∃ ns : List Int,ns = [x,y] := ⟨_,rfl⟩
 have hnb : ∀ v ∈ ns,0 ≤ v ∧ v ≤ 4294967295 := by
  rw [hns];intro v hv
  simp only [List.mem_cons,List.not_mem_nil,or_false] at hv
  rcases hv with rfl | rfl
  ·exact hbd.1 (by omega)
  ·exact hbd.2.1 (by omega)
 have hlw := hnb
 simp only [EK.vals]
 obtain ⟨W0,hW0⟩ : ∃ W0,W0 = (w.alloc (.cells #[.int .i64 2,.int .i64 0,.int .i64 x,.int .i64 y,.bool false,.int .i64 0,.int .i64 0,.int .i64 0] 25)).alloc (.cells #[.pointer none,.slice none 0 0] tB) := ⟨_,rfl⟩
 have hb0 : Below w.heap.size w W0 := by rw [hW0];exact ((Below.refl _ _).alloc (Nat.le_refl _) _).alloc (by simp) _
 have hs0 : W0.heap.size = w.heap.size + 2 := by rw [hW0];simp
 have hc0 : W0.cell? ⟨w.heap.size,0,none⟩ = some (.int .i64 2) := by rw [hW0];exact own_first _ _ _ _ _ _ rfl
 have hc2 : W0.cell? ⟨w.heap.size,2,none⟩ = some (.int .i64 x) := by rw [hW0];exact own_first _ _ _ _ _ _ rfl
 have hc3 : W0.cell? ⟨w.heap.size,3,none⟩ = some (.int .i64 y) := by rw [hW0];exact own_first _ _ _ _ _ _ rfl
 have hB0 : Bld (w.heap.size + 1) (w.heap.size + 1) [] W0 := by
  have := Bld.fresh (w.alloc (.cells #[.int .i64 2,.int .i64 0,.int .i64 x,.int .i64 y,.bool false,.int .i64 0,.int .i64 0,.int .i64 0] 25))
  rw [← hW0] at this
  simpa using this
 have hg0 := hg.below hb0
 have hw0 := hg0.wd 2 _ rfl
 have keep : ∀ {W : World} {j : Nat} {v : Value},Below (w.heap.size + 1) W0 W → W0.cell? ⟨w.heap.size,j,none⟩ = some v → W.cell? ⟨w.heap.size,j,none⟩ = some v := fun hb h => (hb.cell (p := ⟨w.heap.size,_,none⟩) (by simp)).trans h
 have hnum := fun W h => numbers_at .da w.heap.size W h
 simp only [EK.nsl] at hnum
 go_enter Tryd.func13,Tryd.ntmps13
 go_upto_region 2 with (fail)
 rw [← hW0]
 clear hW0
 go_wp2_with (go_at_call 12;refine (bldWs (w.heap.size + 1) (w.heap.size + 1) [] _ _ hB0 (by simp [EK.word]) (by omega)).mono ?_;rintro e W1 ⟨rfl,hB1,hb1,hk1⟩)
 rw [List.nil_append] at hB1
 go_wp2_with (go_at_call 20;refine (hnum _ (keep hb1 hc0)).mono ?_;rintro e W2 ⟨g,rfl,hgs,hb12,hp2⟩)
 have hs1 : W0.heap.size ≤ W1.heap.size := hb1.size
 have hb2 : Below (w.heap.size + 1) W0 W2 := hb1.trans (hb12.mono (by omega))
 have hB2 : Bld (w.heap.size + 1) (w.heap.size + 1) (EK.word .da ++ argN ns 0) W2 := by
  have := hB1.below hb12
  simpa [argN] using this
 replace hp2 : W2.heap[g]? = some (.cells #[.pointer (some ⟨w.heap.size,2,none⟩),.pointer (some ⟨w.heap.size,3,none⟩)] 59 (0,0)) := hp2 (by simp [EK.offs])
 have hgb : w.heap.size + 2 ≤ g := by omega
 have hsz2 : w.heap.size + 2 ≤ W2.heap.size := by have := hb2.size;omega
 clear hb12 hgs hs1 hB1 hb1 hk1
 go_wp2
 go_loopw [14] (fun i wr => ∃ k : Nat,i = .int .i64 k ∧ k ≤ 2 ∧ Bld (w.heap.size + 1) (w.heap.size + 1) (EK.word .da ++ argN ns k) wr ∧ Below (w.heap.size + 1) W0 wr ∧ wr.heap[g]? = some (.cells #[.pointer (some ⟨w.heap.size,2,none⟩),.pointer (some ⟨w.heap.size,3,none⟩)] 59 (0,0))) (fun i _ => match i with | .int _ z => 2 - z.toNat | _ => 0)
 case atStart => exact ⟨0,rfl,by omega,hB2,hb2,hp2⟩
 case round =>
  obtain ⟨k,rfl,hk,hBk,hbk,hpk⟩ := hrel
  have hszk : w.heap.size + 2 ≤ wr.heap.size := by have := hbk.size;omega
  clear hB2 hb2 hp2
  by_cases h0 : k = 0
  ·subst h0
   have hcell : wr.cell? ⟨g,0,none⟩ = some (.pointer (some ⟨w.heap.size,2,none⟩)) := by unfold World.cell?;rw [hpk];rfl
   have hval := keep hbk hc2
   have hlen := argN_len ns 0 hnb
   have hnb1 := hnb x (by rw [hns];simp)
   have hil := Lib.itoa_length_le x (by omega) (by omega)
   have hgk : LnG wr := hg.below (hb0.trans (hbk.mono (by omega)))
   go_wp2_with (go_at_call 21;refine (lnItoa x hnb1.1 hnb1.2 _ hgk).mono ?_;rintro e W3 ⟨rfl,hb3⟩)
   have hcat : ({ data := #[32] } : ByteArray) ++ bS (Lib.itoa x) = bS (numS x) := rfl_cat _ _
   rw [hcat]
   refine (bldWs (w.heap.size + 1) (w.heap.size + 1) (EK.word .da ++ argN ns 0) (numS x) _ (hBk.below hb3) (by simp only [List.length_append,EK.word,List.length_cons,List.length_nil,numS];omega) (by have := hb3.size;omega)).mono ?_
   rintro e W4 ⟨rfl,hB4,hb4,hk4⟩
   go_wp2
   go_roundw
   case rel =>
    refine ⟨1,by simp,by omega,?_,hbk.trans ((hb3.mono (by omega)).trans hb4),hk4 g _ (heap_below hb3 hpk) (fun e => by injection e with e;omega) (fun c fz e => by injection e with _ e _;exact absurd e (by decide))⟩
    rw [argN_succ ns 0 x (by rw [hns];rfl),← List.append_assoc];exact hB4
   case measure => simp
  by_cases h1 : k = 1
  ·subst h1
   have hcell : wr.cell? ⟨g,1,none⟩ = some (.pointer (some ⟨w.heap.size,3,none⟩)) := by unfold World.cell?;rw [hpk];rfl
   have hval := keep hbk hc3
   have hlen := argN_len ns 1 hnb
   have hnb1 := hnb y (by rw [hns];simp)
   have hil := Lib.itoa_length_le y (by omega) (by omega)
   have hgk : LnG wr := hg.below (hb0.trans (hbk.mono (by omega)))
   go_wp2_with (go_at_call 21;refine (lnItoa y hnb1.1 hnb1.2 _ hgk).mono ?_;rintro e W3 ⟨rfl,hb3⟩)
   have hcat : ({ data := #[32] } : ByteArray) ++ bS (Lib.itoa y) = bS (numS y) := rfl_cat _ _
   rw [hcat]
   refine (bldWs (w.heap.size + 1) (w.heap.size + 1) (EK.word .da ++ argN ns 1) (numS y) _ (hBk.below hb3) (by simp only [List.length_append,EK.word,List.length_cons,List.length_nil,numS];omega) (by have := hb3.size;omega)).mono ?_
   rintro e W4 ⟨rfl,hB4,hb4,hk4⟩
   go_wp2
   go_roundw
   case rel =>
    refine ⟨2,by simp,by omega,?_,hbk.trans ((hb3.mono (by omega)).trans hb4),hk4 g _ (heap_below hb3 hpk) (fun e => by injection e with e;omega) (fun c fz e => by injection e with _ e _;exact absurd e (by decide))⟩
    rw [argN_succ ns 1 y (by rw [hns];rfl),← List.append_assoc];exact hB4
   case measure => simp
  obtain rfl : k = 2 := by omega
  have hlen := argN_len ns 2 hnb
  have hval := keep hbk hc0
  go_wp2_with (go_at_call 22;refine (bldWb (w.heap.size + 1) (w.heap.size + 1) (EK.word .da ++ argN ns 2) _ hBk (by simp only [List.length_append,EK.word,List.length_cons,List.length_nil];omega) (by omega)).mono ?_;rintro e W5 ⟨rfl,hB5,hb5,hk5⟩)
  go_wp2_with (go_at_call 14;refine (bldSt (w.heap.size + 1) (w.heap.size + 1) _ _ hB5 (by have := hb5.size;omega)).mono ?_;rintro e W6 ⟨rfl,hb6⟩)
  go_ret
  refine ⟨?_,hb0.trans ((hbk.trans (hb5.trans hb6)).mono (by omega))⟩
  simp [lineL,EK.args,argN,hns]
theorem line_cl (x y z : Int) (he : EK.cl.Ok x y z) (w : World) (hg : LnG w) :
  Calls Tryd.prog 13 #[.agg (EK.cl.vals x y z)] w fun r w' => r = .returned (.string (bS (lineL (.cl,x,y,z)))) ∧ Below w.heap.size w w' := by
 have hbd := ev_bd he
 simp only [EK.len] at hbd
 obtain ⟨ns,hns⟩ : ∃ ns : List Int,ns = [x,y] := ⟨_,rfl⟩
 have hnb : ∀ v ∈ ns,0 ≤ v ∧ v ≤ 4294967295 := by
  rw [hns];intro v hv
  simp only [List.mem_cons,List.not_mem_nil,or_false] at hv
  rcases hv with rfl | rfl
  ·exact hbd.1 (by omega)
  ·exact hbd.2.1 (by omega)
 have hlw := hnb
 simp only [EK.vals]
 obtain ⟨W0,hW0⟩ : ∃ W0,W0 = (w.alloc (.cells #[.int .i64 3,.int .i64 0,.int .i64 x,.int .i64 y,.bool false,.int .i64 0,.int .i64 0,.int .i64 0] 25)).alloc (.cells #[.pointer none,.slice none 0 0] tB) := ⟨_,rfl⟩
 have hb0 : Below w.heap.size w W0 := by rw [hW0];exact ((Below.refl _ _).alloc (Nat.le_refl _) _).alloc (by simp) _
 have hs0 : W0.heap.size = w.heap.size + 2 := by rw [hW0];simp
 have hc0 : W0.cell? ⟨w.heap.size,0,none⟩ = some (.int .i64 3) := by rw [hW0];exact own_first _ _ _ _ _ _ rfl
 have hc2 : W0.cell? ⟨w.heap.size,2,none⟩ = some (.int .i64 x) := by rw [hW0];exact own_first _ _ _ _ _ _ rfl
 have hc3 : W0.cell? ⟨w.heap.size,3,none⟩ = some (.int .i64 y) := by rw [hW0];exact own_first _ _ _ _ _ _ rfl
 have hB0 : Bld (w.heap.size + 1) (w.heap.size + 1) [] W0 := by
  have := Bld.fresh (w.alloc (.cells #[.int .i64 3,.int .i64 0,.int .i64 x,.int .i64 y,.bool false,.int .i64 0,.int .i64 0,.int .i64 0] 25))
  rw [← hW0] at this
  simpa using this
 have hg0 := hg.below hb0
 have hw0 := hg0.wd 3 _ rfl
 have keep : ∀ {W : World} {j : Nat} {v : Value},Below (w.heap.size + 1) W0 W → W0.cell? ⟨w.heap.size,j,none⟩ = some v → W.cell? ⟨w.heap.size,j,none⟩ = some v := fun hb h => (hb.cell (p := ⟨w.heap.size,_,none⟩) (by simp)).trans h
 have hnum := fun W h => numbers_at .cl w.heap.size W h
 simp only [EK.nsl] at hnum
 go_enter Tryd.func13,Tryd.ntmps13
 go_upto_region 2 with (fail)
 rw [← hW0]
 clear hW0
 go_wp2_with (go_at_call 12;refine (bldWs (w.heap.size + 1) (w.heap.size + 1) [] _ _ hB0 (by simp [EK.word]) (by omega)).mono ?_;rintro e W1 ⟨rfl,hB1,hb1,hk1⟩)
 rw [List.nil_append] at hB1
 go_wp2_with (go_at_call 20;refine (hnum _ (keep hb1 hc0)).mono ?_;rintro e W2 ⟨g,rfl,hgs,hb12,hp2⟩)
 have hs1 : W0.heap.size ≤ W1.heap.size := hb1.size
 have hb2 : Below (w.heap.size + 1) W0 W2 := hb1.trans (hb12.mono (by omega))
 have hB2 : Bld (w.heap.size + 1) (w.heap.size + 1) (EK.word .cl ++ argN ns 0) W2 := by
  have := hB1.below hb12
  simpa [argN] using this
 replace hp2 : W2.heap[g]? = some (.cells #[.pointer (some ⟨w.heap.size,2,none⟩),.pointer (some ⟨w.heap.size,3,none⟩)] 59 (0,0)) := hp2 (by simp [EK.offs])
 have hgb : w.heap.size + 2 ≤ g := by omega
 have hsz2 : w.heap.size + 2 ≤ W2.heap.size := by have := hb2.size;omega
 clear hb12 hgs hs1 hB1 hb1 hk1
 go_wp2
 go_loopw [14] (fun i wr => ∃ k : Nat,i = .int .i64 k ∧ k ≤ 2 ∧ Bld (w.heap.size + 1) (w.heap.size + 1) (EK.word .cl ++ argN ns k) wr ∧ Below (w.heap.size + 1) W0 wr ∧ wr.heap[g]? = some (.cells #[.pointer (some ⟨w.heap.size,2,none⟩),.pointer (some ⟨w.heap.size,3,none⟩)] 59 (0,0))) (fun i _ => match i with | .int _ z => 2 - z.toNat | _ => 0)
 case atStart => exact ⟨0,rfl,by omega,hB2,hb2,hp2⟩
 case round =>
  obtain ⟨k,rfl,hk,hBk,hbk,hpk⟩ := hrel
  have hszk : w.heap.size + 2 ≤ wr.heap.size := by have := hbk.size;omega
  clear hB2 hb2 hp2
  by_cases h0 : k = 0
  ·subst h0
   have hcell : wr.cell? ⟨g,0,none⟩ = some (.pointer (some ⟨w.heap.size,2,none⟩)) := by unfold World.cell?;rw [hpk];rfl
   have hval := keep hbk hc2
   have hlen := argN_len ns 0 hnb
   have hnb1 := hnb x (by rw [hns];simp)
   have hil := Lib.itoa_length_le x (by omega) (by omega)
   have hgk : LnG wr := hg.below (hb0.trans (hbk.mono (by omega)))
   go_wp2_with (go_at_call 21;refine (lnItoa x hnb1.1 hnb1.2 _ hgk).mono ?_;rintro e W3 ⟨rfl,hb3⟩)
   have hcat : ({ data := #[32] } : ByteArray) ++ bS (Lib.itoa x) = bS (numS x) := rfl_cat _ _
   rw [hcat]
   refine (bldWs (w.heap.size + 1) (w.heap.size + 1) (EK.word .cl ++ argN ns 0) (numS x) _ (hBk.below hb3) (by simp only [List.length_append,EK.word,List.length_cons,List.length_nil,numS];omega) (by have := hb3.size;omega)).mono ?_
   rintro e W4 ⟨rfl,hB4,hb4,hk4⟩
   go_wp2
   go_roundw
   case rel =>
    refine ⟨1,by simp,by omega,?_,hbk.trans ((hb3.mono (by omega)).trans hb4),hk4 g _ (heap_below hb3 hpk) (fun e => by injection e with e;omega) (fun c fz e => by injection e with _ e _;exact absurd e (by decide))⟩
    rw [argN_succ ns 0 x (by rw [hns];rfl),← List.append_assoc];exact hB4
   case measure => simp
  by_cases h1 : k = 1
  ·subst h1
   have hcell : wr.cell? ⟨g,1,none⟩ = some (.pointer (some ⟨w.heap.size,3,none⟩)) := by unfold World.cell?;rw [hpk];rfl
   have hval := keep hbk hc3
   have hlen := argN_len ns 1 hnb
   have hnb1 := hnb y (by rw [hns];simp)
   have hil := Lib.itoa_length_le y (by omega) (by omega)
   have hgk : LnG wr := hg.below (hb0.trans (hbk.mono (by omega)))
   go_wp2_with (go_at_call 21;refine (lnItoa y hnb1.1 hnb1.2 _ hgk).mono ?_;rintro e W3 ⟨rfl,hb3⟩)
   have hcat : ({ data := #[32] } : ByteArray) ++ bS (Lib.itoa y) = bS (numS y) := rfl_cat _ _
   rw [hcat]
   refine (bldWs (w.heap.size + 1) (w.heap.size + 1) (EK.word .cl ++ argN ns 1) (numS y) _ (hBk.below hb3) (by simp only [List.length_append,EK.word,List.length_cons,List.length_nil,numS];omega) (by have := hb3.size;omega)).mono ?_
   rintro e W4 ⟨rfl,hB4,hb4,hk4⟩
   go_wp2
   go_roundw
   case rel =>
    refine ⟨2,by simp,by omega,?_,hbk.trans ((hb3.mono (by omega)).trans hb4),hk4 g _ (heap_below hb3 hpk) (fun e => by injection e with e;omega) (fun c fz e => by injection e with _ e _;exact absurd e (by decide))⟩
    rw [argN_succ ns 1 y (by rw [hns];rfl),← List.append_assoc];exact hB4
   case measure => simp
  obtain rfl : k = 2 := by omega
  have hlen := argN_len ns 2 hnb
  have hval := keep hbk hc0
  go_wp2_with (go_at_call 22;refine (bldWb (w.heap.size + 1) (w.heap.size + 1) (EK.word .cl ++ argN ns 2) _ hBk (by simp only [List.length_append,EK.word,List.length_cons,List.length_nil];omega) (by omega)).mono ?_;rintro e W5 ⟨rfl,hB5,hb5,hk5⟩)
  go_wp2_with (go_at_call 14;refine (bldSt (w.heap.size + 1) (w.heap.size + 1) _ _ hB5 (by have := hb5.size;omega)).mono ?_;rintro e W6 ⟨rfl,hb6⟩)
  go_ret
  refine ⟨?_,hb0.trans ((hbk.trans (hb5.trans hb6)).mono (by omega))⟩
  simp [lineL,EK.args,argN,hns]
theorem line_an (x y z : Int) (he : EK.an.Ok x y z) (w : World) (hg : LnG w) :
  Calls Tryd.prog 13 #[.agg (EK.an.vals x y z)] w fun r w' => r = .returned (.string (bS (lineL (.an,x,y,z)))) ∧ Below w.heap.size w w' := by
 have hbd := ev_bd he
 simp only [EK.len] at hbd
 obtain ⟨ns,hns⟩ : ∃ ns : List Int,ns = [x,y] := ⟨_,rfl⟩
 have hnb : ∀ v ∈ ns,0 ≤ v ∧ v ≤ 4294967295 := by
  rw [hns];intro v hv
  simp only [List.mem_cons,List.not_mem_nil,or_false] at hv
  rcases hv with rfl | rfl
  ·exact hbd.1 (by omega)
  ·exact hbd.2.1 (by omega)
 have hlw := hnb
 simp only [EK.vals]
 obtain ⟨W0,hW0⟩ : ∃ W0,W0 = (w.alloc (.cells #[.int .i64 4,.int .i64 0,.int .i64 x,.int .i64 y,.bool (decide (z = 1)),.int .i64 0,.int .i64 0,.int .i64 0] 25)).alloc (.cells #[.pointer none,.slice none 0 0] tB) := ⟨_,rfl⟩
 have hb0 : Below w.heap.size w W0 := by rw [hW0];exact ((Below.refl _ _).alloc (Nat.le_refl _) _).alloc (by simp) _
 have hs0 : W0.heap.size = w.heap.size + 2 := by rw [hW0];simp
 have hc0 : W0.cell? ⟨w.heap.size,0,none⟩ = some (.int .i64 4) := by rw [hW0];exact own_first _ _ _ _ _ _ rfl
 have hc2 : W0.cell? ⟨w.heap.size,2,none⟩ = some (.int .i64 x) := by rw [hW0];exact own_first _ _ _ _ _ _ rfl
 have hc3 : W0.cell? ⟨w.heap.size,3,none⟩ = some (.int .i64 y) := by rw [hW0];exact own_first _ _ _ _ _ _ rfl
 have hc4 : W0.cell? ⟨w.heap.size,4,none⟩ = some (.bool (decide (z = 1))) := by rw [hW0];exact own_first _ _ _ _ _ _ rfl
 have hB0 : Bld (w.heap.size + 1) (w.heap.size + 1) [] W0 := by
  have := Bld.fresh (w.alloc (.cells #[.int .i64 4,.int .i64 0,.int .i64 x,.int .i64 y,.bool (decide (z = 1)),.int .i64 0,.int .i64 0,.int .i64 0] 25))
  rw [← hW0] at this
  simpa using this
 have hg0 := hg.below hb0
 have hw0 := hg0.wd 4 _ rfl
 have keep : ∀ {W : World} {j : Nat} {v : Value},Below (w.heap.size + 1) W0 W → W0.cell? ⟨w.heap.size,j,none⟩ = some v → W.cell? ⟨w.heap.size,j,none⟩ = some v := fun hb h => (hb.cell (p := ⟨w.heap.size,_,none⟩) (by simp)).trans h
 have hnum := fun W h => numbers_at .an w.heap.size W h
 simp only [EK.nsl] at hnum
 go_enter Tryd.func13,Tryd.ntmps13
 go_upto_region 2 with (fail)
 rw [← hW0]
 clear hW0
 go_wp2_with (go_at_call 12;refine (bldWs (w.heap.size + 1) (w.heap.size + 1) [] _ _ hB0 (by simp [EK.word]) (by omega)).mono ?_;rintro e W1 ⟨rfl,hB1,hb1,hk1⟩)
 rw [List.nil_append] at hB1
 go_wp2_with (go_at_call 20;refine (hnum _ (keep hb1 hc0)).mono ?_;rintro e W2 ⟨g,rfl,hgs,hb12,hp2⟩)
 have hs1 : W0.heap.size ≤ W1.heap.size := hb1.size
 have hb2 : Below (w.heap.size + 1) W0 W2 := hb1.trans (hb12.mono (by omega))
 have hB2 : Bld (w.heap.size + 1) (w.heap.size + 1) (EK.word .an ++ argN ns 0) W2 := by
  have := hB1.below hb12
  simpa [argN] using this
 replace hp2 : W2.heap[g]? = some (.cells #[.pointer (some ⟨w.heap.size,2,none⟩),.pointer (some ⟨w.heap.size,3,none⟩)] 59 (0,0)) := hp2 (by simp [EK.offs])
 have hgb : w.heap.size + 2 ≤ g := by omega
 have hsz2 : w.heap.size + 2 ≤ W2.heap.size := by have := hb2.size;omega
 clear hb12 hgs hs1 hB1 hb1 hk1
 go_wp2
 go_loopw [14] (fun i wr => ∃ k : Nat,i = .int .i64 k ∧ k ≤ 2 ∧ Bld (w.heap.size + 1) (w.heap.size + 1) (EK.word .an ++ argN ns k) wr ∧ Below (w.heap.size + 1) W0 wr ∧ wr.heap[g]? = some (.cells #[.pointer (some ⟨w.heap.size,2,none⟩),.pointer (some ⟨w.heap.size,3,none⟩)] 59 (0,0))) (fun i _ => match i with | .int _ z => 2 - z.toNat | _ => 0)
 case atStart => exact ⟨0,rfl,by omega,hB2,hb2,hp2⟩
 case round =>
  obtain ⟨k,rfl,hk,hBk,hbk,hpk⟩ := hrel
  have hszk : w.heap.size + 2 ≤ wr.heap.size := by have := hbk.size;omega
  clear hB2 hb2 hp2
  by_cases h0 : k = 0
  ·subst h0
   have hcell : wr.cell? ⟨g,0,none⟩ = some (.pointer (some ⟨w.heap.size,2,none⟩)) := by unfold World.cell?;rw [hpk];rfl
   have hval := keep hbk hc2
   have hlen := argN_len ns 0 hnb
   have hnb1 := hnb x (by rw [hns];simp)
   have hil := Lib.itoa_length_le x (by omega) (by omega)
   have hgk : LnG wr := hg.below (hb0.trans (hbk.mono (by omega)))
   go_wp2_with (go_at_call 21;refine (lnItoa x hnb1.1 hnb1.2 _ hgk).mono ?_;rintro e W3 ⟨rfl,hb3⟩)
   have hcat : ({ data := #[32] } : ByteArray) ++ bS (Lib.itoa x) = bS (numS x) := rfl_cat _ _
   rw [hcat]
   refine (bldWs (w.heap.size + 1) (w.heap.size + 1) (EK.word .an ++ argN ns 0) (numS x) _ (hBk.below hb3) (by simp only [List.length_append,EK.word,List.length_cons,List.length_nil,numS];omega) (by have := hb3.size;omega)).mono ?_
   rintro e W4 ⟨rfl,hB4,hb4,hk4⟩
   go_wp2
   go_roundw
   case rel =>
    refine ⟨1,by simp,by omega,?_,hbk.trans ((hb3.mono (by omega)).trans hb4),hk4 g _ (heap_below hb3 hpk) (fun e => by injection e with e;omega) (fun c fz e => by injection e with _ e _;exact absurd e (by decide))⟩
    rw [argN_succ ns 0 x (by rw [hns];rfl),← List.append_assoc];exact hB4
   case measure => simp
  by_cases h1 : k = 1
  ·subst h1
   have hcell : wr.cell? ⟨g,1,none⟩ = some (.pointer (some ⟨w.heap.size,3,none⟩)) := by unfold World.cell?;rw [hpk];rfl
   have hval := keep hbk hc3
   have hlen := argN_len ns 1 hnb
   have hnb1 := hnb y (by rw [hns];simp)
   have hil := Lib.itoa_length_le y (by omega) (by omega)
   have hgk : LnG wr := hg.below (hb0.trans (hbk.mono (by omega)))
   go_wp2_with (go_at_call 21;refine (lnItoa y hnb1.1 hnb1.2 _ hgk).mono ?_;rintro e W3 ⟨rfl,hb3⟩)
   have hcat : ({ data := #[32] } : ByteArray) ++ bS (Lib.itoa y) = bS (numS y) := rfl_cat _ _
   rw [hcat]
   refine (bldWs (w.heap.size + 1) (w.heap.size + 1) (EK.word .an ++ argN ns 1) (numS y) _ (hBk.below hb3) (by simp only [List.length_append,EK.word,List.length_cons,List.length_nil,numS];omega) (by have := hb3.size;omega)).mono ?_
   rintro e W4 ⟨rfl,hB4,hb4,hk4⟩
   go_wp2
   go_roundw
   case rel =>
    refine ⟨2,by simp,by omega,?_,hbk.trans ((hb3.mono (by omega)).trans hb4),hk4 g _ (heap_below hb3 hpk) (fun e => by injection e with e;omega) (fun c fz e => by injection e with _ e _;exact absurd e (by decide))⟩
    rw [argN_succ ns 1 y (by rw [hns];rfl),← List.append_assoc];exact hB4
   case measure => simp
  obtain rfl : k = 2 := by omega
  have hlen := argN_len ns 2 hnb
  have hval := keep hbk hc0
  by_cases hz : z = 1
  ·have hgd : wr.cell? ⟨w.heap.size,4,none⟩ = some (.bool true) := by rw [keep hbk hc4,hz];rfl
   go_wp2_with (go_at_call 12;refine (bldWs (w.heap.size + 1) (w.heap.size + 1) (EK.word .an ++ argN ns 2) [32,103,111,111,100] _ hBk (by simp only [List.length_append,EK.word,List.length_cons,List.length_nil];omega) (by omega)).mono ?_;rintro e W4 ⟨rfl,hB4,hb4,hk4⟩)
   go_wp2_with (go_at_call 22;refine (bldWb (w.heap.size + 1) (w.heap.size + 1) _ _ hB4 (by simp only [List.length_append,EK.word,List.length_cons,List.length_nil];omega) (by have := hb4.size;omega)).mono ?_;rintro e W5 ⟨rfl,hB5,hb5,hk5⟩)
   go_wp2_with (go_at_call 14;refine (bldSt (w.heap.size + 1) (w.heap.size + 1) _ _ hB5 (by have := hb4.size;have := hb5.size;omega)).mono ?_;rintro e W6 ⟨rfl,hb6⟩)
   go_ret
   refine ⟨?_,hb0.trans ((hbk.trans (hb4.trans (hb5.trans hb6))).mono (by omega))⟩
   simp [lineL,EK.args,argN,hns,goodS,hz]
  ·have hgd : wr.cell? ⟨w.heap.size,4,none⟩ = some (.bool false) := by rw [keep hbk hc4,decide_eq_false hz]
   go_wp2_with (go_at_call 12;refine (bldWs (w.heap.size + 1) (w.heap.size + 1) (EK.word .an ++ argN ns 2) [32,98,97,100] _ hBk (by simp only [List.length_append,EK.word,List.length_cons,List.length_nil];omega) (by omega)).mono ?_;rintro e W4 ⟨rfl,hB4,hb4,hk4⟩)
   go_wp2_with (go_at_call 22;refine (bldWb (w.heap.size + 1) (w.heap.size + 1) _ _ hB4 (by simp only [List.length_append,EK.word,List.length_cons,List.length_nil];omega) (by have := hb4.size;omega)).mono ?_;rintro e W5 ⟨rfl,hB5,hb5,hk5⟩)
   go_wp2_with (go_at_call 14;refine (bldSt (w.heap.size + 1) (w.heap.size + 1) _ _ hB5 (by have := hb4.size;have := hb5.size;omega)).mono ?_;rintro e W6 ⟨rfl,hb6⟩)
   go_ret
   refine ⟨?_,hb0.trans ((hbk.trans (hb4.trans (hb5.trans hb6))).mono (by omega))⟩
   simp [lineL,EK.args,argN,hns,goodS,hz]
theorem line_jo (x y z : Int) (he : EK.jo.Ok x y z) (w : World) (hg : LnG w) :
  Calls Tryd.prog 13 #[.agg (EK.jo.vals x y z)] w fun r w' => r = .returned (.string (bS (lineL (.jo,x,y,z)))) ∧ Below w.heap.size w w' := by
 have hbd := ev_bd he
 simp only [EK.len] at hbd
 obtain ⟨ns,hns⟩ : ∃ ns : List Int,ns = [x,y,z] := ⟨_,rfl⟩
 have hnb : ∀ v ∈ ns,0 ≤ v ∧ v ≤ 4294967295 := by
  rw [hns];intro v hv
  simp only [List.mem_cons,List.not_mem_nil,or_false] at hv
  rcases hv with rfl | rfl | rfl
  ·exact hbd.1 (by omega)
  ·exact hbd.2.1 (by omega)
  ·exact hbd.2.2 (by omega)
 have hlw := hnb
 simp only [EK.vals]
 obtain ⟨W0,hW0⟩ : ∃ W0,W0 = (w.alloc (.cells #[.int .i64 5,.int .i64 0,.int .i64 0,.int .i64 0,.bool false,.int .i64 x,.int .i64 y,.int .i64 z] 25)).alloc (.cells #[.pointer none,.slice none 0 0] tB) := ⟨_,rfl⟩
 have hb0 : Below w.heap.size w W0 := by rw [hW0];exact ((Below.refl _ _).alloc (Nat.le_refl _) _).alloc (by simp) _
 have hs0 : W0.heap.size = w.heap.size + 2 := by rw [hW0];simp
 have hc0 : W0.cell? ⟨w.heap.size,0,none⟩ = some (.int .i64 5) := by rw [hW0];exact own_first _ _ _ _ _ _ rfl
 have hc5 : W0.cell? ⟨w.heap.size,5,none⟩ = some (.int .i64 x) := by rw [hW0];exact own_first _ _ _ _ _ _ rfl
 have hc6 : W0.cell? ⟨w.heap.size,6,none⟩ = some (.int .i64 y) := by rw [hW0];exact own_first _ _ _ _ _ _ rfl
 have hc7 : W0.cell? ⟨w.heap.size,7,none⟩ = some (.int .i64 z) := by rw [hW0];exact own_first _ _ _ _ _ _ rfl
 have hB0 : Bld (w.heap.size + 1) (w.heap.size + 1) [] W0 := by
  have := Bld.fresh (w.alloc (.cells #[.int .i64 5,.int .i64 0,.int .i64 0,.int .i64 0,.bool false,.int .i64 x,.int .i64 y,.int .i64 z] 25))
  rw [← hW0] at this
  simpa using this
 have hg0 := hg.below hb0
 have hw0 := hg0.wd 5 _ rfl
 have keep : ∀ {W : World} {j : Nat} {v : Value},Below (w.heap.size + 1) W0 W → W0.cell? ⟨w.heap.size,j,none⟩ = some v → W.cell? ⟨w.heap.size,j,none⟩ = some v := fun hb h => (hb.cell (p := ⟨w.heap.size,_,none⟩) (by simp)).trans h
 have hnum := fun W h => numbers_at .jo w.heap.size W h
 simp only [EK.nsl] at hnum
 go_enter Tryd.func13,Tryd.ntmps13
 go_upto_region 2 with (fail)
 rw [← hW0]
 clear hW0
 go_wp2_with (go_at_call 12;refine (bldWs (w.heap.size + 1) (w.heap.size + 1) [] _ _ hB0 (by simp [EK.word]) (by omega)).mono ?_;rintro e W1 ⟨rfl,hB1,hb1,hk1⟩)
 rw [List.nil_append] at hB1
 go_wp2_with (go_at_call 20;refine (hnum _ (keep hb1 hc0)).mono ?_;rintro e W2 ⟨g,rfl,hgs,hb12,hp2⟩)
 have hs1 : W0.heap.size ≤ W1.heap.size := hb1.size
 have hb2 : Below (w.heap.size + 1) W0 W2 := hb1.trans (hb12.mono (by omega))
 have hB2 : Bld (w.heap.size + 1) (w.heap.size + 1) (EK.word .jo ++ argN ns 0) W2 := by
  have := hB1.below hb12
  simpa [argN] using this
 replace hp2 : W2.heap[g]? = some (.cells #[.pointer (some ⟨w.heap.size,5,none⟩),.pointer (some ⟨w.heap.size,6,none⟩),.pointer (some ⟨w.heap.size,7,none⟩)] 59 (0,0)) := hp2 (by simp [EK.offs])
 have hgb : w.heap.size + 2 ≤ g := by omega
 have hsz2 : w.heap.size + 2 ≤ W2.heap.size := by have := hb2.size;omega
 clear hb12 hgs hs1 hB1 hb1 hk1
 go_wp2
 go_loopw [14] (fun i wr => ∃ k : Nat,i = .int .i64 k ∧ k ≤ 3 ∧ Bld (w.heap.size + 1) (w.heap.size + 1) (EK.word .jo ++ argN ns k) wr ∧ Below (w.heap.size + 1) W0 wr ∧ wr.heap[g]? = some (.cells #[.pointer (some ⟨w.heap.size,5,none⟩),.pointer (some ⟨w.heap.size,6,none⟩),.pointer (some ⟨w.heap.size,7,none⟩)] 59 (0,0))) (fun i _ => match i with | .int _ z => 3 - z.toNat | _ => 0)
 case atStart => exact ⟨0,rfl,by omega,hB2,hb2,hp2⟩
 case round =>
  obtain ⟨k,rfl,hk,hBk,hbk,hpk⟩ := hrel
  have hszk : w.heap.size + 2 ≤ wr.heap.size := by have := hbk.size;omega
  clear hB2 hb2 hp2
  by_cases h0 : k = 0
  ·subst h0
   have hcell : wr.cell? ⟨g,0,none⟩ = some (.pointer (some ⟨w.heap.size,5,none⟩)) := by unfold World.cell?;rw [hpk];rfl
   have hval := keep hbk hc5
   have hlen := argN_len ns 0 hnb
   have hnb1 := hnb x (by rw [hns];simp)
   have hil := Lib.itoa_length_le x (by omega) (by omega)
   have hgk : LnG wr := hg.below (hb0.trans (hbk.mono (by omega)))
   go_wp2_with (go_at_call 21;refine (lnItoa x hnb1.1 hnb1.2 _ hgk).mono ?_;rintro e W3 ⟨rfl,hb3⟩)
   have hcat : ({ data := #[32] } : ByteArray) ++ bS (Lib.itoa x) = bS (numS x) := rfl_cat _ _
   rw [hcat]
   refine (bldWs (w.heap.size + 1) (w.heap.size + 1) (EK.word .jo ++ argN ns 0) (numS x) _ (hBk.below hb3) (by simp only [List.length_append,EK.word,List.length_cons,List.length_nil,numS];omega) (by have := hb3.size;omega)).mono ?_
   rintro e W4 ⟨rfl,hB4,hb4,hk4⟩
   go_wp2
   go_roundw
   case rel =>
    refine ⟨1,by simp,by omega,?_,hbk.trans ((hb3.mono (by omega)).trans hb4),hk4 g _ (heap_below hb3 hpk) (fun e => by injection e with e;omega) (fun c fz e => by injection e with _ e _;exact absurd e (by decide))⟩
    rw [argN_succ ns 0 x (by rw [hns];rfl),← List.append_assoc];exact hB4
   case measure => simp
  by_cases h1 : k = 1
  ·subst h1
   have hcell : wr.cell? ⟨g,1,none⟩ = some (.pointer (some ⟨w.heap.size,6,none⟩)) := by unfold World.cell?;rw [hpk];rfl
   have hval := keep hbk hc6
   have hlen := argN_len ns 1 hnb
   have hnb1 := hnb y (by rw [hns];simp)
   have hil := Lib.itoa_length_le y (by omega) (by omega)
   have hgk : LnG wr := hg.below (hb0.trans (hbk.mono (by omega)))
   go_wp2_with (go_at_call 21;refine (lnItoa y hnb1.1 hnb1.2 _ hgk).mono ?_;rintro e W3 ⟨rfl,hb3⟩)
   have hcat : ({ data := #[32] } : ByteArray) ++ bS (Lib.itoa y) = bS (numS y) := rfl_cat _ _
   rw [hcat]
   refine (bldWs (w.heap.size + 1) (w.heap.size + 1) (EK.word .jo ++ argN ns 1) (numS y) _ (hBk.below hb3) (by simp only [List.length_append,EK.word,List.length_cons,List.length_nil,numS];omega) (by have := hb3.size;omega)).mono ?_
   rintro e W4 ⟨rfl,hB4,hb4,hk4⟩
   go_wp2
   go_roundw
   case rel =>
    refine ⟨2,by simp,by omega,?_,hbk.trans ((hb3.mono (by omega)).trans hb4),hk4 g _ (heap_below hb3 hpk) (fun e => by injection e with e;omega) (fun c fz e => by injection e with _ e _;exact absurd e (by decide))⟩
    rw [argN_succ ns 1 y (by rw [hns];rfl),← List.append_assoc];exact hB4
   case measure => simp
  by_cases h2 : k = 2
  ·subst h2
   have hcell : wr.cell? ⟨g,2,none⟩ = some (.pointer (some ⟨w.heap.size,7,none⟩)) := by unfold World.cell?;rw [hpk];rfl
   have hval := keep hbk hc7
   have hlen := argN_len ns 2 hnb
   have hnb1 := hnb z (by rw [hns];simp)
   have hil := Lib.itoa_length_le z (by omega) (by omega)
   have hgk : LnG wr := hg.below (hb0.trans (hbk.mono (by omega)))
   go_wp2_with (go_at_call 21;refine (lnItoa z hnb1.1 hnb1.2 _ hgk).mono ?_;rintro e W3 ⟨rfl,hb3⟩)
   have hcat : ({ data := #[32] } : ByteArray) ++ bS (Lib.itoa z) = bS (numS z) := rfl_cat _ _
   rw [hcat]
   refine (bldWs (w.heap.size + 1) (w.heap.size + 1) (EK.word .jo ++ argN ns 2) (numS z) _ (hBk.below hb3) (by simp only [List.length_append,EK.word,List.length_cons,List.length_nil,numS];omega) (by have := hb3.size;omega)).mono ?_
   rintro e W4 ⟨rfl,hB4,hb4,hk4⟩
   go_wp2
   go_roundw
   case rel =>
    refine ⟨3,by simp,by omega,?_,hbk.trans ((hb3.mono (by omega)).trans hb4),hk4 g _ (heap_below hb3 hpk) (fun e => by injection e with e;omega) (fun c fz e => by injection e with _ e _;exact absurd e (by decide))⟩
    rw [argN_succ ns 2 z (by rw [hns];rfl),← List.append_assoc];exact hB4
   case measure => simp
  obtain rfl : k = 3 := by omega
  have hlen := argN_len ns 3 hnb
  have hval := keep hbk hc0
  go_wp2_with (go_at_call 22;refine (bldWb (w.heap.size + 1) (w.heap.size + 1) (EK.word .jo ++ argN ns 3) _ hBk (by simp only [List.length_append,EK.word,List.length_cons,List.length_nil];omega) (by omega)).mono ?_;rintro e W5 ⟨rfl,hB5,hb5,hk5⟩)
  go_wp2_with (go_at_call 14;refine (bldSt (w.heap.size + 1) (w.heap.size + 1) _ _ hB5 (by have := hb5.size;omega)).mono ?_;rintro e W6 ⟨rfl,hb6⟩)
  go_ret
  refine ⟨?_,hb0.trans ((hbk.trans (hb5.trans hb6)).mono (by omega))⟩
  simp [lineL,EK.args,argN,hns]
theorem line_re (x y z : Int) (he : EK.re.Ok x y z) (w : World) (hg : LnG w) :
  Calls Tryd.prog 13 #[.agg (EK.re.vals x y z)] w fun r w' => r = .returned (.string (bS (lineL (.re,x,y,z)))) ∧ Below w.heap.size w w' := by
 have hbd := ev_bd he
 simp only [EK.len] at hbd
 obtain ⟨ns,hns⟩ : ∃ ns : List Int,ns = [x,y] := ⟨_,rfl⟩
 have hnb : ∀ v ∈ ns,0 ≤ v ∧ v ≤ 4294967295 := by
  rw [hns];intro v hv
  simp only [List.mem_cons,List.not_mem_nil,or_false] at hv
  rcases hv with rfl | rfl
  ·exact hbd.1 (by omega)
  ·exact hbd.2.1 (by omega)
 have hlw := hnb
 simp only [EK.vals]
 obtain ⟨W0,hW0⟩ : ∃ W0,W0 = (w.alloc (.cells #[.int .i64 6,.int .i64 0,.int .i64 0,.int .i64 0,.bool false,.int .i64 x,.int .i64 y,.int .i64 0] 25)).alloc (.cells #[.pointer none,.slice none 0 0] tB) := ⟨_,rfl⟩
 have hb0 : Below w.heap.size w W0 := by rw [hW0];exact ((Below.refl _ _).alloc (Nat.le_refl _) _).alloc (by simp) _
 have hs0 : W0.heap.size = w.heap.size + 2 := by rw [hW0];simp
 have hc0 : W0.cell? ⟨w.heap.size,0,none⟩ = some (.int .i64 6) := by rw [hW0];exact own_first _ _ _ _ _ _ rfl
 have hc5 : W0.cell? ⟨w.heap.size,5,none⟩ = some (.int .i64 x) := by rw [hW0];exact own_first _ _ _ _ _ _ rfl
 have hc6 : W0.cell? ⟨w.heap.size,6,none⟩ = some (.int .i64 y) := by rw [hW0];exact own_first _ _ _ _ _ _ rfl
 have hB0 : Bld (w.heap.size + 1) (w.heap.size + 1) [] W0 := by
  have := Bld.fresh (w.alloc (.cells #[.int .i64 6,.int .i64 0,.int .i64 0,.int .i64 0,.bool false,.int .i64 x,.int .i64 y,.int .i64 0] 25))
  rw [← hW0] at this
  simpa using this
 have hg0 := hg.below hb0
 have hw0 := hg0.wd 6 _ rfl
 have keep : ∀ {W : World} {j : Nat} {v : Value},Below (w.heap.size + 1) W0 W → W0.cell? ⟨w.heap.size,j,none⟩ = some v → W.cell? ⟨w.heap.size,j,none⟩ = some v := fun hb h => (hb.cell (p := ⟨w.heap.size,_,none⟩) (by simp)).trans h
 have hnum := fun W h => numbers_at .re w.heap.size W h
 simp only [EK.nsl] at hnum
 go_enter Tryd.func13,Tryd.ntmps13
 go_upto_region 2 with (fail)
 rw [← hW0]
 clear hW0
 go_wp2_with (go_at_call 12;refine (bldWs (w.heap.size + 1) (w.heap.size + 1) [] _ _ hB0 (by simp [EK.word]) (by omega)).mono ?_;rintro e W1 ⟨rfl,hB1,hb1,hk1⟩)
 rw [List.nil_append] at hB1
 go_wp2_with (go_at_call 20;refine (hnum _ (keep hb1 hc0)).mono ?_;rintro e W2 ⟨g,rfl,hgs,hb12,hp2⟩)
 have hs1 : W0.heap.size ≤ W1.heap.size := hb1.size
 have hb2 : Below (w.heap.size + 1) W0 W2 := hb1.trans (hb12.mono (by omega))
 have hB2 : Bld (w.heap.size + 1) (w.heap.size + 1) (EK.word .re ++ argN ns 0) W2 := by
  have := hB1.below hb12
  simpa [argN] using this
 replace hp2 : W2.heap[g]? = some (.cells #[.pointer (some ⟨w.heap.size,5,none⟩),.pointer (some ⟨w.heap.size,6,none⟩)] 59 (0,0)) := hp2 (by simp [EK.offs])
 have hgb : w.heap.size + 2 ≤ g := by omega
 have hsz2 : w.heap.size + 2 ≤ W2.heap.size := by have := hb2.size;omega
 clear hb12 hgs hs1 hB1 hb1 hk1
 go_wp2
 go_loopw [14] (fun i wr => ∃ k : Nat,i = .int .i64 k ∧ k ≤ 2 ∧ Bld (w.heap.size + 1) (w.heap.size + 1) (EK.word .re ++ argN ns k) wr ∧ Below (w.heap.size + 1) W0 wr ∧ wr.heap[g]? = some (.cells #[.pointer (some ⟨w.heap.size,5,none⟩),.pointer (some ⟨w.heap.size,6,none⟩)] 59 (0,0))) (fun i _ => match i with | .int _ z => 2 - z.toNat | _ => 0)
 case atStart => exact ⟨0,rfl,by omega,hB2,hb2,hp2⟩
 case round =>
  obtain ⟨k,rfl,hk,hBk,hbk,hpk⟩ := hrel
  have hszk : w.heap.size + 2 ≤ wr.heap.size := by have := hbk.size;omega
  clear hB2 hb2 hp2
  by_cases h0 : k = 0
  ·subst h0
   have hcell : wr.cell? ⟨g,0,none⟩ = some (.pointer (some ⟨w.heap.size,5,none⟩)) := by unfold World.cell?;rw [hpk];rfl
   have hval := keep hbk hc5
   have hlen := argN_len ns 0 hnb
   have hnb1 := hnb x (by rw [hns];simp)
   have hil := Lib.itoa_length_le x (by omega) (by omega)
   have hgk : LnG wr := hg.below (hb0.trans (hbk.mono (by omega)))
   go_wp2_with (go_at_call 21;refine (lnItoa x hnb1.1 hnb1.2 _ hgk).mono ?_;rintro e W3 ⟨rfl,hb3⟩)
   have hcat : ({ data := #[32] } : ByteArray) ++ bS (Lib.itoa x) = bS (numS x) := rfl_cat _ _
   rw [hcat]
   refine (bldWs (w.heap.size + 1) (w.heap.size + 1) (EK.word .re ++ argN ns 0) (numS x) _ (hBk.below hb3) (by simp only [List.length_append,EK.word,List.length_cons,List.length_nil,numS];omega) (by have := hb3.size;omega)).mono ?_
   rintro e W4 ⟨rfl,hB4,hb4,hk4⟩
   go_wp2
   go_roundw
   case rel =>
    refine ⟨1,by simp,by omega,?_,hbk.trans ((hb3.mono (by omega)).trans hb4),hk4 g _ (heap_below hb3 hpk) (fun e => by injection e with e;omega) (fun c fz e => by injection e with _ e _;exact absurd e (by decide))⟩
    rw [argN_succ ns 0 x (by rw [hns];rfl),← List.append_assoc];exact hB4
   case measure => simp
  by_cases h1 : k = 1
  ·subst h1
   have hcell : wr.cell? ⟨g,1,none⟩ = some (.pointer (some ⟨w.heap.size,6,none⟩)) := by unfold World.cell?;rw [hpk];rfl
   have hval := keep hbk hc6
   have hlen := argN_len ns 1 hnb
   have hnb1 := hnb y (by rw [hns];simp)
   have hil := Lib.itoa_length_le y (by omega) (by omega)
   have hgk : LnG wr := hg.below (hb0.trans (hbk.mono (by omega)))
   go_wp2_with (go_at_call 21;refine (lnItoa y hnb1.1 hnb1.2 _ hgk).mono ?_;rintro e W3 ⟨rfl,hb3⟩)
   have hcat : ({ data := #[32] } : ByteArray) ++ bS (Lib.itoa y) = bS (numS y) := rfl_cat _ _
   rw [hcat]
   refine (bldWs (w.heap.size + 1) (w.heap.size + 1) (EK.word .re ++ argN ns 1) (numS y) _ (hBk.below hb3) (by simp only [List.length_append,EK.word,List.length_cons,List.length_nil,numS];omega) (by have := hb3.size;omega)).mono ?_
   rintro e W4 ⟨rfl,hB4,hb4,hk4⟩
   go_wp2
   go_roundw
   case rel =>
    refine ⟨2,by simp,by omega,?_,hbk.trans ((hb3.mono (by omega)).trans hb4),hk4 g _ (heap_below hb3 hpk) (fun e => by injection e with e;omega) (fun c fz e => by injection e with _ e _;exact absurd e (by decide))⟩
    rw [argN_succ ns 1 y (by rw [hns];rfl),← List.append_assoc];exact hB4
   case measure => simp
  obtain rfl : k = 2 := by omega
  have hlen := argN_len ns 2 hnb
  have hval := keep hbk hc0
  go_wp2_with (go_at_call 22;refine (bldWb (w.heap.size + 1) (w.heap.size + 1) (EK.word .re ++ argN ns 2) _ hBk (by simp only [List.length_append,EK.word,List.length_cons,List.length_nil];omega) (by omega)).mono ?_;rintro e W5 ⟨rfl,hB5,hb5,hk5⟩)
  go_wp2_with (go_at_call 14;refine (bldSt (w.heap.size + 1) (w.heap.size + 1) _ _ hB5 (by have := hb5.size;omega)).mono ?_;rintro e W6 ⟨rfl,hb6⟩)
  go_ret
  refine ⟨?_,hb0.trans ((hbk.trans (hb5.trans hb6)).mono (by omega))⟩
  simp [lineL,EK.args,argN,hns]
theorem line_ti (x y z : Int) (he : EK.ti.Ok x y z) (w : World) (hg : LnG w) :
  Calls Tryd.prog 13 #[.agg (EK.ti.vals x y z)] w fun r w' => r = .returned (.string (bS (lineL (.ti,x,y,z)))) ∧ Below w.heap.size w w' := by
 have hbd := ev_bd he
 simp only [EK.len] at hbd
 obtain ⟨ns,hns⟩ : ∃ ns : List Int,ns = [] := ⟨_,rfl⟩
 have hnb : ∀ v ∈ ns,0 ≤ v ∧ v ≤ 4294967295 := by
  rw [hns];intro v hv
  cases hv
 have hlw := hnb
 simp only [EK.vals]
 obtain ⟨W0,hW0⟩ : ∃ W0,W0 = (w.alloc (.cells #[.int .i64 7,.int .i64 0,.int .i64 0,.int .i64 0,.bool false,.int .i64 0,.int .i64 0,.int .i64 0] 25)).alloc (.cells #[.pointer none,.slice none 0 0] tB) := ⟨_,rfl⟩
 have hb0 : Below w.heap.size w W0 := by rw [hW0];exact ((Below.refl _ _).alloc (Nat.le_refl _) _).alloc (by simp) _
 have hs0 : W0.heap.size = w.heap.size + 2 := by rw [hW0];simp
 have hc0 : W0.cell? ⟨w.heap.size,0,none⟩ = some (.int .i64 7) := by rw [hW0];exact own_first _ _ _ _ _ _ rfl
 have hB0 : Bld (w.heap.size + 1) (w.heap.size + 1) [] W0 := by
  have := Bld.fresh (w.alloc (.cells #[.int .i64 7,.int .i64 0,.int .i64 0,.int .i64 0,.bool false,.int .i64 0,.int .i64 0,.int .i64 0] 25))
  rw [← hW0] at this
  simpa using this
 have hg0 := hg.below hb0
 have hw0 := hg0.wd 7 _ rfl
 have keep : ∀ {W : World} {j : Nat} {v : Value},Below (w.heap.size + 1) W0 W → W0.cell? ⟨w.heap.size,j,none⟩ = some v → W.cell? ⟨w.heap.size,j,none⟩ = some v := fun hb h => (hb.cell (p := ⟨w.heap.size,_,none⟩) (by simp)).trans h
 have hnum := fun W h => numbers_at .ti w.heap.size W h
 simp only [EK.nsl] at hnum
 go_enter Tryd.func13,Tryd.ntmps13
 go_upto_region 2 with (fail)
 rw [← hW0]
 clear hW0
 go_wp2_with (go_at_call 12;refine (bldWs (w.heap.size + 1) (w.heap.size + 1) [] _ _ hB0 (by simp [EK.word]) (by omega)).mono ?_;rintro e W1 ⟨rfl,hB1,hb1,hk1⟩)
 rw [List.nil_append] at hB1
 go_wp2_with (go_at_call 20;refine (hnum _ (keep hb1 hc0)).mono ?_;rintro e W2 ⟨g,rfl,hgs,hb12,hp2⟩)
 have hs1 : W0.heap.size ≤ W1.heap.size := hb1.size
 have hb2 : Below (w.heap.size + 1) W0 W2 := hb1.trans (hb12.mono (by omega))
 have hB2 : Bld (w.heap.size + 1) (w.heap.size + 1) (EK.word .ti ++ argN ns 0) W2 := by
  have := hB1.below hb12
  simpa [argN] using this
 have hsz2 : w.heap.size + 2 ≤ W2.heap.size := by have := hb2.size;omega
 clear hb12 hs1 hB1 hb1 hk1 hp2 hgs
 go_wp2
 go_loopw [14] (fun i wr => ∃ k : Nat,i = .int .i64 k ∧ k ≤ 0 ∧ Bld (w.heap.size + 1) (w.heap.size + 1) (EK.word .ti ++ argN ns k) wr ∧ Below (w.heap.size + 1) W0 wr) (fun i _ => match i with | .int _ z => 0 - z.toNat | _ => 0)
 case atStart => exact ⟨0,rfl,by omega,hB2,hb2⟩
 case round =>
  obtain ⟨k,rfl,hk,hBk,hbk⟩ := hrel
  have hszk : w.heap.size + 2 ≤ wr.heap.size := by have := hbk.size;omega
  clear hB2 hb2
  obtain rfl : k = 0 := by omega
  have hlen := argN_len ns 0 hnb
  have hval := keep hbk hc0
  go_wp2_with (go_at_call 22;refine (bldWb (w.heap.size + 1) (w.heap.size + 1) (EK.word .ti ++ argN ns 0) _ hBk (by simp only [List.length_append,EK.word,List.length_cons,List.length_nil];omega) (by omega)).mono ?_;rintro e W5 ⟨rfl,hB5,hb5,hk5⟩)
  go_wp2_with (go_at_call 14;refine (bldSt (w.heap.size + 1) (w.heap.size + 1) _ _ hB5 (by have := hb5.size;omega)).mono ?_;rintro e W6 ⟨rfl,hb6⟩)
  go_ret
  refine ⟨?_,hb0.trans ((hbk.trans (hb5.trans hb6)).mono (by omega))⟩
  simp [lineL,EK.args,argN,hns]
theorem line_calls (kd : EK) (x y z : Int) (he : kd.Ok x y z) (w : World) (hg : LnG w) :
  Calls Tryd.prog 13 #[.agg (kd.vals x y z)] w fun r w' => r = .returned (.string (bS (lineL (kd,x,y,z)))) ∧ Below w.heap.size w w' := by
 cases kd
 ·exact line_op x y z he w hg
 ·exact line_da x y z he w hg
 ·exact line_cl x y z he w hg
 ·exact line_an x y z he w hg
 ·exact line_jo x y z he w hg
 ·exact line_re x y z he w hg
 ·exact line_ti x y z he w hg
end Go.Proofs.YtbhcfldafpndbaaDoor
