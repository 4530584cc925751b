/- What the program computes, step by step, and the rules for it. No condition of its own. -/
import Derived.Test.YtmdhegbdffbfoaaRaa
import Derived.OrdersHeld
import Derived.Deep.RegionHeld
import Derived.Scope
import Derived.KernelRfl
import Derived.Maps.Keyed
import Derived.Maps.RangeRun
import Derived.MapKept
import Derived.Deep.AppendLies
import Derived.Deep.OwnShut
import Derived.Deep.Slices
import Derived.Deep.Onto
import Derived.Laws.AppendOwnNone
import Derived.Shelf.SlSortCmp.NoneTotal
import Derived.Shelf.SlicesG.Cmp
import Derived.Lib.Walk
import Derived.StillTailTactics
import Derived.Test.YtmdhegbdffbfoaaProg
set_option linter.unusedSimpArgs false
set_option linter.unusedVariables false
set_option maxRecDepth 100000
set_option maxHeartbeats 8000000
namespace Go.Proofs.Ytmdhegbdffbfoaa
open Go.RowKit
def rnC (ρ : Nat → Nat) : D → D
 | .own id => .own (ρ id)
 | .ptr id j => .ptr (ρ id) j
 | .pel id i sz j => .pel (ρ id) i sz j
 | .sl id sz off len cap => .sl (ρ id) sz off len cap
 | .clo f ids => .clo f (ids.map ρ)
 | d => d
def rnV (ρ : Nat → Nat) : D → D
 | .agg ds => .agg (ds.map (rnC ρ))
 | d => rnC ρ d
def rnR (ρ : Nat → Nat) : D → D
 | .tup ds => .tup (ds.map (rnV ρ))
 | d => rnV ρ d
def rnO (ρ : Nat → Nat) : Ob → Ob
 | .cells ds => .cells (ds.map (rnC ρ))
 | .row sz xs => .row sz xs
 | .rowd sz xs => .rowd sz (xs.map (·.map (rnC ρ)))
 | .blk sz xs => .blk sz (xs.map (·.map (rnC ρ)))
 | .mp bare es ck => .mp bare es ck
 | .it m since seen last => .it (ρ m) since seen last
section
variable {s s' : Nat → Value} {Z : Cells} {w : World} {ρ : Nat → Nat} {n m : Nat}
theorem VC.rn (hs : ∀ id,id < n → s' (ρ id) = s id) {d : D} {v : Value} (hl : LtC n d) : VC s' Z (rnC ρ d) v ↔ VC s Z d v := by
 cases d with
 | own id => simp only [rnC,VC,hs id hl]
 | ptr id j => simp only [rnC,VC,hs id hl]
 | pel id i sz j => simp only [rnC,VC,hs id hl]
 | sl id sz off len cap => simp only [rnC,VC,hs id hl]
 | clo f ids =>
  constructor
  ·rintro ⟨vs,h1,h2,h3⟩
   refine ⟨vs,h1,by simpa using h2,fun j id hj => ?_⟩
   obtain ⟨b,g1,g2⟩ := h3 j (ρ id) (by rw [List.getElem?_map,hj];rfl)
   exact ⟨b,by rw [← hs id (hl id (zD hj))];exact g1,g2⟩
  ·rintro ⟨vs,h1,h2,h3⟩
   refine ⟨vs,h1,by simpa using h2,fun j id hj => ?_⟩
   rw [List.getElem?_map] at hj
   cases hi : ids[j]? with
   | none => rw [hi] at hj;cases hj
   | some i =>
    rw [hi] at hj
    simp only [Option.map_some,zA] at hj
    subst hj
    obtain ⟨b,g1,g2⟩ := h3 j i hi
    exact ⟨b,by rw [hs i (hl i (zD hi))];exact g1,g2⟩
 | _ => exact Iff.rfl
theorem map_get {α β : Type} (f : α → β) (l : List α) (j : Nat) (y : β) : (l.map f)[j]? = some y ↔ ∃ x,l[j]? = some x ∧ f x = y := by
 rw [List.getElem?_map];cases l[j]? <;> simp
theorem VV.rn (hs : ∀ id,id < n → s' (ρ id) = s id) {d : D} {v : Value} (hl : LtV n d) : VV s' Z (rnV ρ d) v ↔ VV s Z d v := by
 cases d with
 | agg ds =>
  constructor
  ·rintro ⟨vs,rfl,h1,h2⟩
   refine ⟨vs,rfl,by simpa using h1,fun j x hx => ?_⟩
   exact (VC.rn hs (hl x (zD hx))).1 (h2 j _ ((map_get _ _ _ _).2 ⟨x,hx,rfl⟩))
  ·rintro ⟨vs,rfl,h1,h2⟩
   refine ⟨vs,rfl,by simpa using h1,fun j y hy => ?_⟩
   obtain ⟨x,hx,rfl⟩ := (map_get _ _ _ _).1 hy
   exact (VC.rn hs (hl x (zD hx))).2 (h2 j x hx)
 | own id => exact VC.rn (Z := Z) (d := .own id) hs hl
 | ptr id j => exact VC.rn (Z := Z) (d := .ptr id j) hs hl
 | pel id i sz j => exact VC.rn (Z := Z) (d := .pel id i sz j) hs hl
 | sl id sz off len cap => exact VC.rn (Z := Z) (d := .sl id sz off len cap) hs hl
 | clo f ids => exact VC.rn (Z := Z) (d := .clo f ids) hs hl
 | _ => exact Iff.rfl
theorem VR.rn (hs : ∀ id,id < n → s' (ρ id) = s id) {d : D} {v : Value} (hl : LtR n d) : VR s' Z (rnR ρ d) v ↔ VR s Z d v := by
 cases d with
 | tup ds =>
  constructor
  ·rintro ⟨vs,rfl,h1,h2⟩
   refine ⟨vs,rfl,by simpa using h1,fun j x hx => ?_⟩
   exact (VV.rn hs (hl x (zD hx))).1 (h2 j _ ((map_get _ _ _ _).2 ⟨x,hx,rfl⟩))
  ·rintro ⟨vs,rfl,h1,h2⟩
   refine ⟨vs,rfl,by simpa using h1,fun j y hy => ?_⟩
   obtain ⟨x,hx,rfl⟩ := (map_get _ _ _ _).1 hy
   exact (VV.rn hs (hl x (zD hx))).2 (h2 j x hx)
 | agg ds => exact VV.rn (Z := Z) (d := .agg ds) hs hl
 | own id => exact VC.rn (Z := Z) (d := .own id) hs hl
 | ptr id j => exact VC.rn (Z := Z) (d := .ptr id j) hs hl
 | pel id i sz j => exact VC.rn (Z := Z) (d := .pel id i sz j) hs hl
 | sl id sz off len cap => exact VC.rn (Z := Z) (d := .sl id sz off len cap) hs hl
 | clo f ids => exact VC.rn (Z := Z) (d := .clo f ids) hs hl
 | _ => exact Iff.rfl
theorem LtC.rn (hm : ∀ id,id < n → ρ id < m) {d : D} (hl : LtC n d) : LtC m (rnC ρ d) := by
 cases d with
 | clo f ids =>
  intro id hid
  obtain ⟨i,hi,rfl⟩ := List.mem_map.1 hid
  exact hm i (hl i hi)
 | _ => first | exact hm _ hl | trivial
theorem LtV.rn (hm : ∀ id,id < n → ρ id < m) {d : D} (hl : LtV n d) : LtV m (rnV ρ d) := by
 cases d with
 | agg ds => intro y hy;obtain ⟨x,hx,rfl⟩ := List.mem_map.1 hy;exact LtC.rn hm (hl x hx)
 | own id => exact hm _ hl
 | ptr id j => exact hm _ hl
 | pel id i sz j => exact hm _ hl
 | sl id sz off len cap => exact hm _ hl
 | clo f ids => exact LtC.rn (d := .clo f ids) hm hl
 | _ => trivial
theorem LtR.rn (hm : ∀ id,id < n → ρ id < m) {d : D} (hl : LtR n d) : LtR m (rnR ρ d) := by
 cases d with
 | tup ds => intro y hy;obtain ⟨x,hx,rfl⟩ := List.mem_map.1 hy;exact LtV.rn hm (hl x hx)
 | agg ds => exact LtV.rn (d := .agg ds) hm hl
 | own id => exact hm _ hl
 | ptr id j => exact hm _ hl
 | pel id i sz j => exact hm _ hl
 | sl id sz off len cap => exact hm _ hl
 | clo f ids => exact LtC.rn (d := .clo f ids) hm hl
 | _ => trivial
theorem LtO.rn (hm : ∀ id,id < n → ρ id < m) {ob : Ob} (hl : LtO n ob) : LtO m (rnO ρ ob) := by
 cases ob with
 | cells ds => intro y hy;obtain ⟨x,hx,rfl⟩ := List.mem_map.1 hy;exact LtC.rn hm (hl x hx)
 | row sz xs => trivial
 | mp bare es ck => trivial
 | it m since seen last => exact hm _ hl
 | rowd sz xs =>
  intro r hr y hy
  obtain ⟨r',hr',rfl⟩ := List.mem_map.1 hr
  obtain ⟨x,hx,rfl⟩ := List.mem_map.1 hy
  exact LtC.rn hm (hl r' hr' x hx)
 | blk sz xs =>
  intro r hr y hy
  obtain ⟨r',hr',rfl⟩ := List.mem_map.1 hr
  obtain ⟨x,hx,rfl⟩ := List.mem_map.1 hy
  exact LtC.rn hm (hl r' hr' x hx)
theorem rnC_any {ρ : Nat → Nat} {d : D} : rnC ρ d = .any ↔ d = .any := by
 cases d <;> simp [rnC]
theorem ObOk.rn (hs : ∀ id,id < n → s' (ρ id) = s id) {ob : Ob} {v : Value} (hl : LtO n ob) : ObOk s' Z w (rnO ρ ob) v ↔ ObOk s Z w ob v := by
 cases ob with
 | cells ds =>
  constructor
  ·rintro ⟨b,T,cs,rfl,h1,h2,h3⟩
   refine ⟨b,T,cs,rfl,h1,by simpa using h2,fun j x hx => ?_⟩
   exact (VC.rn hs (hl x (zD hx))).1 (h3 j _ ((map_get _ _ _ _).2 ⟨x,hx,rfl⟩))
  ·rintro ⟨b,T,cs,rfl,h1,h2,h3⟩
   refine ⟨b,T,cs,rfl,h1,by simpa using h2,fun j y hy => ?_⟩
   obtain ⟨x,hx,rfl⟩ := (map_get _ _ _ _).1 hy
   exact (VC.rn hs (hl x (zD hx))).2 (h3 j x hx)
 | row sz xs => exact Iff.rfl
 | mp bare es ck => exact Iff.rfl
 | it m since seen last => have := hs m hl;simp only [rnO,ObOk,this]
 | rowd sz xs =>
  constructor
  ·rintro ⟨h1,h2,h3⟩
   refine ⟨h1,fun row hr => by simpa using h2 _ (List.mem_map.2 ⟨row,hr,rfl⟩),?_⟩
   rcases h3 with ⟨h3,h4⟩ | ⟨g,cap,cur,e,h3,h4,h5,h6,h7,h8⟩
   ·exact .inl ⟨by simpa using h3,h4⟩
   ·refine .inr ⟨g,cap,cur,e,by simpa using h3,h4,by simpa using h5,h6,h7,fun i row j d hi hj => ?_⟩
    exact (VC.rn hs (hl row (zD hi) d (zD hj))).1 (h8 i _ j _ ((map_get _ _ _ _).2 ⟨row,hi,rfl⟩) ((map_get _ _ _ _).2 ⟨d,hj,rfl⟩))
  ·rintro ⟨h1,h2,h3⟩
   refine ⟨h1,fun row hr => ?_,?_⟩
   ·obtain ⟨r,hr',rfl⟩ := List.mem_map.1 hr
    simpa using h2 r hr'
   ·rcases h3 with ⟨h3,h4⟩ | ⟨g,cap,cur,e,h3,h4,h5,h6,h7,h8⟩
    ·exact .inl ⟨by simpa using h3,h4⟩
    ·refine .inr ⟨g,cap,cur,e,by simpa using h3,h4,by simpa using h5,h6,h7,fun i row j d hi hj => ?_⟩
     obtain ⟨r,hr',rfl⟩ := (map_get _ _ _ _).1 hi
     obtain ⟨x,hx,rfl⟩ := (map_get _ _ _ _).1 hj
     exact (VC.rn hs (hl r (zD hr') x (zD hx))).2 (h8 i r j x hr' hx)
 | blk sz xs =>
  constructor
  ·rintro ⟨h1,h2,g,n',cur,e,h3,h4,h5,h6,h7,h8⟩
   refine ⟨h1,fun row hr => by simpa using h2 _ (List.mem_map.2 ⟨row,hr,rfl⟩),g,n',cur,e,by simpa using h3,h4,by simpa using h5,by simpa using h6,by simpa using h7,fun i row j d hi hj hd => ?_⟩
   exact (VC.rn hs (hl row (zD hi) d (zD hj))).1 (h8 i _ j _ ((map_get _ _ _ _).2 ⟨row,hi,rfl⟩) ((map_get _ _ _ _).2 ⟨d,hj,rfl⟩) fun h => hd (rnC_any.1 h))
  ·rintro ⟨h1,h2,g,n',cur,e,h3,h4,h5,h6,h7,h8⟩
   refine ⟨h1,fun row hr => ?_,g,n',cur,e,by simpa using h3,h4,by simpa using h5,by simpa using h6,by simpa using h7,fun i row j d hi hj hd => ?_⟩
   ·obtain ⟨r,hr',rfl⟩ := List.mem_map.1 hr
    simpa using h2 r hr'
   ·obtain ⟨r,hr',rfl⟩ := (map_get _ _ _ _).1 hi
    obtain ⟨x,hx,rfl⟩ := (map_get _ _ _ _).1 hj
    exact (VC.rn hs (hl r (zD hr') x (zD hx))).2 (h8 i r j x hr' hx fun h => hd (by rw [h];rfl))
end
def rho (l : List Nat) (n0 nx id : Nat) : Nat := if id < n0 then l.getD id 0 else nx + (id - n0)
def hputs (ρ : Nat → Nat) : List (Nat × Ob) → List (Nat × Ob) → List (Nat × Ob)
 | [],H => H
 | (id,ob) :: L,H => eput (hputs ρ L H) (ρ id) (rnO ρ ob)
def herases : List Nat → List (Nat × Ob) → List (Nat × Ob)
 | [],H => H
 | k :: ks,H => herases ks (herase H k)
theorem hget_hputs {ρ : Nat → Nat} {H : List (Nat × Ob)} {k : Nat} {ob : Ob} : ∀ {L : List (Nat × Ob)},hget (hputs ρ L H) k = some ob → (∃ id ob',hget L id = some ob' ∧ k = ρ id ∧ ob = rnO ρ ob') ∨ hget H k = some ob
 | [],h => .inr h
 | (id,o) :: L,h => by
  simp only [hputs,hget_eput] at h
  split at h
  ·rename_i hk
   cases h
   exact .inl ⟨id,o,by simp [hget],hk,rfl⟩
  ·rename_i hk
   rcases hget_hputs h with ⟨id',o',h1,h2,h3⟩ | h
   ·refine .inl ⟨id',o',?_,h2,h3⟩
    have : id' ≠ id := by rintro rfl;exact hk h2
    simp [hget,this,h1]
   ·exact .inr h
theorem hget_herases {k : Nat} {ob : Ob} : ∀ {l : List Nat} {H : List (Nat × Ob)},hget (herases l H) k = some ob → hget H k = some ob ∧ k ∉ l
 | [],H,h => ⟨h,by simp⟩
 | j :: l,H,h => by
  obtain ⟨h1,h2⟩ := hget_herases (l := l) h
  rw [hget_herase] at h1
  split at h1
  ·cases h1
  ·rename_i hj;exact ⟨h1,by simp [hj,h2]⟩
theorem hget_mem {id : Nat} {ob : Ob} : ∀ {H : List (Nat × Ob)},hget H id = some ob → (id,ob) ∈ H
 | [],h => by cases h
 | (k,o) :: H,h => by
  simp only [hget] at h
  split at h
  ·rename_i e;cases h;subst e;simp
  ·exact List.mem_cons_of_mem _ (hget_mem h)
section
variable {P : Program} {sb : Bool} {B : Base} {st : St} {K : St → Prop}
theorem CallOk.hf {f : FuncId} {ds ds0 : List D} {dst : Option Nat} {H0 : List (Nat × Ob)} {n0 : Nat} {R : D → List (Nat × Ob) → Nat → Prop} (hf : HF P f ds0 H0 n0 R) (hsb : sb = true → H0 = []) (l : List Nat)
  (hl : l.length = n0) (hnd : l.Nodup) (hlt : ∀ k ∈ l,k < st.nx) (hds : ds = ds0.map (rnV (rho l n0 st.nx))) (hao : ds0.all argOk = true) (hdl : ∀ d ∈ ds0,LtV n0 d)
  (hH0 : ∀ p ∈ H0,p.1 < n0 ∧ LtO n0 p.2 ∧ hget st.heap (rho l n0 st.nx p.1) = some (rnO (rho l n0 st.nx) p.2))
  (hK : ∀ d H' nx',n0 ≤ nx' → R d H' nx' → K ⟨putO st.env dst (rnR (rho l n0 st.nx) d),hputs (rho l n0 st.nx) H' (herases l st.heap),st.nx + (nx' - n0)⟩) : CallOk P sb B f ds dst st K := by
 obtain ⟨hcal,hf⟩ := hf
 refine ⟨hcal,fun s Z w vs h hvl hv0 => ?_⟩
 subst hds
 have hlow : ∀ id,id < n0 → rho l n0 st.nx id = l.getD id 0 ∧ rho l n0 st.nx id ∈ l ∧ rho l n0 st.nx id < st.nx := fun id hid => by
  have h1 : rho l n0 st.nx id = l.getD id 0 := by simp [rho,hid]
  have h2 : l.getD id 0 ∈ l := by
   rw [zC,zE (by omega)]
   exact List.getElem_mem _
  exact ⟨h1,by rw [h1];exact h2,by rw [h1];exact hlt _ h2⟩
 have hinj0 : ∀ i j,i < n0 → j < n0 → rho l n0 st.nx i = rho l n0 st.nx j → i = j := fun i j hi hj e => by
  rw [(hlow i hi).1,(hlow j hj).1] at e
  rw [zC,zC,zE (by omega),zE (by omega)] at e
  exact (List.getElem_inj hnd).1 e
 generalize hρ : rho l n0 st.nx = ρ at *
 have hhigh : ∀ id,¬ id < n0 → ρ id = st.nx + (id - n0) := fun id hid => by rw [← hρ];simp [rho,hid]
 let t0 : Nat → Value := fun id => s (ρ id)
 let F0 : Nat → Prop := fun b => ∃ id ob,hget H0 id = some ob ∧ blk (s (ρ id)) = some b
 have hH : ∀ id ob,hget H0 id = some ob → id < n0 ∧ LtO n0 ob ∧ hget st.heap (ρ id) = some (rnO ρ ob) := fun id ob hh => hH0 _ (hget_mem hh)
 have rel0 : RelH ⟨0,F0,w,n0,t0,Z⟩ t0 Z H0 n0 w := by
  refine ⟨fun id ob hh => ?_,fun id ob hh => ⟨(hH id ob hh).1,(hH id ob hh).2.1⟩,fun id id' ob ob' b hh hh' hne hb => ?_,h.zok,fun id ob b o hh hb => ?_,fun id ob b hh hb => .inr ⟨id,ob,hh,hb⟩,Fr.refl _ _,Nat.le_refl _,fun _ _ => rfl,fun _ _ _ h => h,fun _ _ _ h => .inl h⟩
  ·obtain ⟨h1,h2,h3⟩ := hH id ob hh
   exact (ObOk.rn (n := n0) (s := t0) (s' := s) (fun _ _ => rfl) h2).1 (h.ob _ _ h3)
  ·obtain ⟨h1,h2,h3⟩ := hH id ob hh
   obtain ⟨g1,g2,g3⟩ := hH id' ob' hh'
   exact h.apart _ _ _ _ b h3 g3 (fun e => hne (hinj0 _ _ h1 g1 e)) hb
  ·obtain ⟨h1,h2,h3⟩ := hH id ob hh
   exact h.zap _ _ b o h3 hb
 have hargs : ∀ j x,ds0[j]? = some x → VV t0 Z x (vs.getD j undef) := fun j x hx => by
  have h1 := hv0 j _ ((map_get _ _ _ _).2 ⟨x,hx,rfl⟩)
  have hmem := zD hx
  have ha := List.all_eq_true.1 hao x hmem
  have h2 : VV s Z (rnV ρ x) (vs.getD j undef) := by
   cases x <;> first | exact h1 | cases ha
  exact (VV.rn (n := n0) (s := t0) (s' := s) (fun _ _ => rfl) (hdl x hmem)).1 h2
 refine (hf F0 t0 Z w vs rel0 (by simpa using hvl) hargs).mono ?_
 rintro e w' ⟨v,d,H',nx',s',Z',he,hr,hrl,hR,hpost⟩
 let s1 : Nat → Value := fun k => if k < st.nx then s k else s' (n0 + (k - st.nx))
 have hn0 : n0 ≤ nx' := hR.n0
 have hs1 : ∀ id,id < nx' → s1 (ρ id) = s' id := fun id hid => by
  by_cases h1 : id < n0
  ·have h2 := (hlow id h1).2.2
   show (if ρ id < st.nx then s (ρ id) else _) = _
   rw [if_pos h2]
   exact (hR.bs id h1).symm
  ·have h2 := hhigh id h1
   show (if ρ id < st.nx then _ else s' (n0 + (ρ id - st.nx))) = _
   rw [if_neg (by omega),h2]
   congr 1;omega
 have hlt1 : ∀ id,id < nx' → ρ id < st.nx + (nx' - n0) := fun id hid => by
  by_cases h1 : id < n0
  ·have := (hlow id h1).2.2;omega
  ·have := hhigh id h1;omega
 have hold : ∀ id,id < st.nx → s1 id = s id := fun id hid => if_pos hid
 have hcase : ∀ k ob,hget (hputs ρ H' (herases l st.heap)) k = some ob → (∃ id ob',hget H' id = some ob' ∧ k = ρ id ∧ ob = rnO ρ ob') ∨ (hget st.heap k = some ob ∧ k ∉ l) := fun k ob hk => by
  rcases hget_hputs hk with h1 | h1
  ·exact .inl h1
  ·exact .inr (hget_herases h1)
 have away : ∀ k ob,hget st.heap k = some ob → k ∉ l → ∀ b,blk (s k) = some b → b < w.heap.size ∧ ¬ F0 b := fun k ob hk hkl b hb => by
  refine ⟨(h.ob k ob hk).lt b hb,fun ⟨id,ob',hid,hb'⟩ => ?_⟩
  obtain ⟨h1,h2,h3⟩ := hH id ob' hid
  have h4 : k ≠ ρ id := fun e => hkl (by rw [e];exact (hlow id h1).2.1)
  exact h.apart _ _ _ _ b hk h3 h4 hb hb'
 have hbel : sb = true → Below w.heap.size w w' := fun hb => by
  have := hsb hb
  subst this
  exact ⟨hR.fr.os,hR.fr.tape,hR.fr.output,hR.fr.size,fun k hk => hR.fr.block k hk (fun ⟨id',o2,h5,_⟩ => by cases h5)⟩
 refine ⟨v,he,hbel,rnR ρ d,hputs ρ H' (herases l st.heap),st.nx + (nx' - n0),s1,Z',(VR.rn hs1 hrl).2 hr,LtR.rn hlt1 hrl,?_,by omega,hold,hR.bz,hK d H' nx' hn0 hpost⟩
 constructor
 ·intro k ob hk
  rcases hcase k ob hk with ⟨id,ob',h1,rfl,rfl⟩ | ⟨h1,h2⟩
  ·have h3 := hR.lt id ob' h1
   rw [hs1 id h3.1]
   exact (ObOk.rn hs1 h3.2).2 (hR.ob id ob' h1)
  ·have h3 := h.lt k ob h1
   rw [hold k h3.1]
   exact (h.ob k ob h1).mono hR.bz hold h3.2 fun b hb => by
    obtain ⟨g1,g2⟩ := away k ob h1 h2 b hb
    exact hR.fr.block b g1 g2
 ·intro k ob hk
  rcases hcase k ob hk with ⟨id,ob',h1,rfl,rfl⟩ | ⟨h1,h2⟩
  ·have h3 := hR.lt id ob' h1
   exact ⟨hlt1 id h3.1,LtO.rn hlt1 h3.2⟩
  ·have h3 := h.lt k ob h1
   exact ⟨by omega,h3.2.mono (by omega)⟩
 ·intro k k' ob ob' b hk hk' hne hb
  rcases hcase k ob hk with ⟨id,o1,h1,rfl,rfl⟩ | ⟨h1,h2⟩
  ·have h3 := hR.lt id o1 h1
   rw [hs1 id h3.1] at hb
   rcases hcase k' ob' hk' with ⟨id',o2,g1,rfl,rfl⟩ | ⟨g1,g2⟩
   ·have g3 := hR.lt id' o2 g1
    rw [hs1 id' g3.1]
    exact hR.apart id id' o1 o2 b h1 g1 (fun e => hne (by rw [e])) hb
   ·rw [hold k' (h.lt k' ob' g1).1]
    intro hb2
    obtain ⟨q1,q2⟩ := away k' ob' g1 g2 b hb2
    rcases hR.mine id o1 b h1 hb with h5 | h5
    ·simp only at h5;omega
    ·exact q2 h5
  ·rw [hold k (h.lt k ob h1).1] at hb
   rcases hcase k' ob' hk' with ⟨id',o2,g1,rfl,rfl⟩ | ⟨g1,g2⟩
   ·have g3 := hR.lt id' o2 g1
    rw [hs1 id' g3.1]
    intro hb2
    obtain ⟨q1,q2⟩ := away k ob h1 h2 b hb
    rcases hR.mine id' o2 b g1 hb2 with h5 | h5
    ·simp only at h5;omega
    ·exact q2 h5
   ·rw [hold k' (h.lt k' ob' g1).1]
    exact h.apart k k' ob ob' b h1 g1 hne hb
 ·exact hR.zok
 ·intro k ob b o hk hb
  rcases hcase k ob hk with ⟨id,o1,h1,rfl,rfl⟩ | ⟨h1,h2⟩
  ·rw [hs1 id (hR.lt id o1 h1).1] at hb
   exact hR.zap id o1 b o h1 hb
  ·rw [hold k (h.lt k ob h1).1] at hb
   obtain ⟨q1,q2⟩ := away k ob h1 h2 b hb
   cases hq : Z' b o with
   | none => rfl
   | some u =>
    rcases hR.bn b o u hq with h5 | h5 | h5
    ·have h6 := h.zap k ob b o h1 hb
     simp only at h5
     rw [h6] at h5;cases h5
    ·simp only at h5;omega
    ·exact absurd h5 q2
 ·intro k ob b hk hb
  rcases hcase k ob hk with ⟨id,o1,h1,rfl,rfl⟩ | ⟨h1,h2⟩
  ·rw [hs1 id (hR.lt id o1 h1).1] at hb
   rcases hR.mine id o1 b h1 hb with h5 | ⟨id',o2,h5,h6⟩
   ·exact .inl (Nat.le_trans h.fr.size h5)
   ·obtain ⟨g1,g2,g3⟩ := hH id' o2 h5
    exact h.mine _ _ b g3 h6
  ·rw [hold k (h.lt k ob h1).1] at hb
   exact h.mine k ob b h1 hb
 ·refine ⟨hR.fr.os.trans h.fr.os,hR.fr.tape.trans h.fr.tape,hR.fr.output.trans h.fr.output,Nat.le_trans h.fr.size hR.fr.size,fun k hk hf => ?_⟩
  have hnf : ¬ F0 k := fun ⟨id',o2,h5,h6⟩ => by
   obtain ⟨g1,g2,g3⟩ := hH id' o2 h5
   rcases h.mine _ _ k g3 h6 with h7 | h7
   ·omega
   ·exact hf h7
  rw [hR.fr.block k (Nat.lt_of_lt_of_le hk h.fr.size) hnf]
  exact h.fr.block k hk hf
 ·have := h.n0;omega
 ·intro id hid
  rw [hold id (Nat.lt_of_lt_of_le hid h.n0)]
  exact h.bs id hid
 ·exact fun b o v hv => hR.bz b o v (h.bz b o v hv)
 ·intro b o u hu
  rcases hR.bn b o u hu with h5 | h5 | ⟨id',o2,h5,h6⟩
  ·exact h.bn b o u h5
  ·exact .inr (.inl (Nat.le_trans h.fr.size h5))
  ·obtain ⟨g1,g2,g3⟩ := hH id' o2 h5
   exact .inr (h.mine _ _ b g3 h6)
end
section
variable {P : Program} {ops : Array Oper} {Q : Exit → Act → World → Prop} {md : Region.Mode} {late : Nat → Bool} {w0 : World}
def Kept (late : Nat → Bool) (w0 : World) (listed : Array Bool) (w : World) : Prop :=
 Below w0.heap.size w0 w ∨ ∃ t,late t = true ∧ listed.getD t false = true
def Closed (md : Region.Mode) (ops : Array Oper) (listed : Array Bool) : Prop :=
 ∀ j oj,ops[j]? = some oj → listed.getD j false = true → ∀ e ∈ oj.after,Region.binds md e = true → listed.getD e.on false = true
def AnyK (P : Program) (md : Region.Mode) (ops : Array Oper) (Q : Exit → Act → World → Prop) (late : Nat → Bool) (w0 : World) : Nat → Array Bool → Act → World → Prop
 | 0,listed,a,w => Region.ready md ops listed = [] ∧ Q .normal a w
 | fuel + 1,listed,a,w =>
  (Region.ready md ops listed = [] → Q .normal a w) ∧
  ∀ i ∈ Region.ready md ops listed,wpOp P ops Q i (fun a' w' => Kept late w0 (listed.setIfInBounds i true) w' ∧ AnyK P md ops Q late w0 fuel (listed.setIfInBounds i true) a' w') a w
theorem any_of_K : ∀ (fuel : Nat) (listed : Array Bool) (a : Act) (w : World),AnyK P md ops Q late w0 fuel listed a w → wpAny P md ops Q fuel listed a w
 | 0,_,_,_,h => h
 | fuel + 1,_,_,_,h => ⟨h.1,fun i hi => wpOp_mono (fun a' w' h' => any_of_K fuel _ a' w' h'.2) (h.2 i hi)⟩
theorem Closed.set {i : Nat} {listed : Array Bool} (h : Closed md ops listed) (hi : i ∈ Region.ready md ops listed) : Closed md ops (listed.setIfInBounds i true) := by
 obtain ⟨_,oi,hoi,hall⟩ := mem_ready.1 hi
 intro j oj hj hl e he hb
 by_cases hij : i = j
 ·subst hij
  obtain rfl : oj = oi := Option.some.inj (hj.symm.trans hoi)
  exact getD_set_true (hall e he hb)
 ·rw [getD_set_ne false hij] at hl
  exact getD_set_true (h j oj hj hl e he hb)
theorem Kept.below {i : Nat} {listed : Array Bool} {w : World} (hk : Kept late w0 listed w) (hun : listed.getD i true = false)
  (hl : ∀ t,late t = true → listed.getD t false = true → listed.getD i false = true) : Below w0.heap.size w0 w := by
 rcases hk with h | ⟨t,h1,h2⟩
 ·exact h
 ·have h3 := hl t h1 h2
  rcases Nat.lt_or_ge i listed.size with h' | h'
  ·simp [h'] at hun h3;rw [hun] at h3;cases h3
  ·simp [Array.getElem?_eq_none h'] at h3
theorem Kept.more {i : Nat} {listed : Array Bool} {w : World} (hk : Kept late w0 listed w) : Kept late w0 (listed.setIfInBounds i true) w := by
 rcases hk with h | ⟨t,h1,h2⟩
 ·exact .inl h
 ·exact .inr ⟨t,h1,getD_set_true h2⟩
theorem anyK_first {i : Nat} {oi : Oper} {v : Value} (hi : ops[i]? = some oi) (hsel : ∀ (j : Nat) (o : Oper) cs b,ops[j]? = some o → o.op ≠ .select cs b)
  (hQ : ∀ c a w,Q (.panic c) (a.put oi.dst v) w → Q (.panic c) a w)
  (S : World → Prop) (hl : ∀ listed w,Closed md ops listed → listed.getD i true = false → Kept late w0 listed w → S w) (hli : late i = false) :
  ∀ (fuel : Nat) (listed : Array Bool) (a : Act) (w : World),Closed md ops listed →
   (∀ j oj,ops[j]? = some oj → j ≠ i → listed.getD j true = false → (∀ e ∈ oj.after,Region.binds md e = true → e.on ≠ i) → oi.apart ops oj = true) →
   i ∈ Region.ready md ops listed → YieldsIf P ops S oi v a → Kept late w0 listed w →
   AnyK P md ops Q late w0 fuel (listed.setIfInBounds i true) (a.put oi.dst v) w → AnyK P md ops Q late w0 (fuel + 1) listed a w := by
 intro fuel
 induction fuel with
 | zero =>
  intro listed a w hcl _ hr hy hS H
  have hun := (mem_ready.1 hr).1
  refine ⟨fun h => (by rw [h] at hr;cases hr),fun j hj => ?_⟩
  by_cases hji : j = i
  ·subst hji
   exact hy.wpOp hi (hl _ _ hcl hun hS) ⟨hS.more,H⟩
  ·have := ready_mono hj hji
   rw [H.1] at this
   cases this
 | succ fuel ih =>
  intro listed a w hcl hfree hr hy hS H
  have hun := (mem_ready.1 hr).1
  refine ⟨fun h => (by rw [h] at hr;cases hr),fun j hj => ?_⟩
  by_cases hji : j = i
  ·subst hji;exact hy.wpOp hi (hl _ _ hcl hun hS) ⟨hS.more,H⟩
  ·have h1 := H.2 j (ready_mono hj hji)
   obtain ⟨hjun,oj,hoj,hall⟩ := mem_ready.1 hj
   have hnot : ∀ e ∈ oj.after,Region.binds md e = true → e.on ≠ i := fun e he hb' heq => by
    have h1 := hall e he hb'
    rw [heq] at h1
    rcases Nat.lt_or_ge i listed.size with h' | h'
    ·simp [h'] at hun h1;rw [hun] at h1;cases h1
    ·simp [Array.getElem?_eq_none h'] at h1
   have h2 := wpOp_putIf hoj (hfree j oj hoj hji hjun hnot) (fun cs b => hsel i oi cs b hi) (fun cs b => hsel j oj cs b hoj) hQ hy h1
   have hfree' : ∀ k ok,ops[k]? = some ok → k ≠ i → (listed.setIfInBounds j true).getD k true = false →
     (∀ e ∈ ok.after,Region.binds md e = true → e.on ≠ i) → oi.apart ops ok = true := fun k ok hk hki hun hno => by
    refine hfree k ok hk hki ?_ hno
    by_cases hjk : j = k
    ·subst hjk;exact hjun
    ·rw [getD_set_ne true hjk] at hun;exact hun
   have hcl' := hcl.set hj
   have hki : ∀ w',Kept late w0 ((listed.setIfInBounds i true).setIfInBounds j true) w' → Kept late w0 (listed.setIfInBounds j true) w' := fun w' hk => by
    rcases hk with hk | ⟨t,ht,hlt⟩
    ·exact .inl hk
    ·refine .inr ⟨t,ht,?_⟩
     have hti : i ≠ t := fun h => by rw [← h,hli] at ht;cases ht
     rw [Array.setIfInBounds_comm _ _ (Ne.symm hji),getD_set_ne false hti] at hlt
     exact hlt
   refine wpOp_mono (fun a' w' h3 => ⟨hki w' h3.2.1,ih (listed.setIfInBounds j true) a' w' hcl' hfree' (ready_mono hr (Ne.symm hji)) h3.1 (hki w' h3.2.1) ?_⟩) h2
   rw [Array.setIfInBounds_comm _ _ hji]
   exact h3.2.2
theorem anyK_base {late' : Nat → Bool} {w1 : World} (hk : ∀ listed w,Kept late' w1 listed w → Kept late w0 listed w) : ∀ {fuel : Nat} {listed : Array Bool} {a : Act} {w : World},AnyK P md ops Q late' w1 fuel listed a w → AnyK P md ops Q late w0 fuel listed a w
 | 0,_,_,_,h => h
 | _ + 1,_,_,_,h => ⟨h.1,fun i hi => wpOp_mono (fun _ _ h' => ⟨hk _ _ h'.1,anyK_base hk h'.2⟩) (h.2 i hi)⟩
theorem anyK_late {late' : Nat → Bool} {w1 : World} : ∀ {fuel : Nat} {listed : Array Bool} {a : Act} {w : World},(∃ t,late t = true ∧ listed.getD t false = true) → AnyK P md ops Q late' w1 fuel listed a w → AnyK P md ops Q late w0 fuel listed a w
 | 0,_,_,_,_,h => h
 | _ + 1,_,_,_,⟨t,ht,hl⟩,h => ⟨h.1,fun i hi => wpOp_mono (fun _ _ h' => ⟨.inr ⟨t,ht,getD_set_true hl⟩,anyK_late ⟨t,ht,getD_set_true hl⟩ h'.2⟩) (h.2 i hi)⟩
def waitsB (ops : Array Oper) (y x : Nat) : Bool :=
 match ops[y]? with
 | some o => o.after.any fun e => Region.binds .any e && e.on == x
 | none => false
def aheadL (ops : Array Oper) : Nat → List Nat → List Nat
 | 0,U => U
 | x + 1,U => aheadL ops x (if U.any fun y => waitsB ops y x then x :: U else U)
theorem aheadL_listed {ops : Array Oper} {listed : Array Bool} (hc : Closed .any ops listed) : ∀ (x : Nat) (U : List Nat),(∀ y ∈ U,listed.getD y false = true) → ∀ y ∈ aheadL ops x U,listed.getD y false = true
 | 0,_,h => h
 | x + 1,U,h => by
  refine aheadL_listed hc x _ ?_
  split
  ·rename_i hU
   intro y hy
   rcases List.mem_cons.1 hy with rfl | hy
   ·obtain ⟨z,hz,hw⟩ := List.any_eq_true.1 hU
    unfold waitsB at hw
    cases ho : ops[z]? with
    | none => rw [ho] at hw;cases hw
    | some o =>
     rw [ho] at hw
     obtain ⟨e,he,hb⟩ := Array.any_eq_true'.1 hw
     simp only [Bool.and_eq_true,beq_iff_eq] at hb
     have := hc z o ho (h z hz) e he hb.1
     rw [hb.2] at this
     exact this
   ·exact h y hy
  ·exact h
end
inductive ASch where
 | done
 | one (sb : Bool) (o : AO) (r : ASch)
 | two (l r : ASch)
 | top
def asch (P : Program) (B : Base) : ASch → St → (St → Prop) → Prop
 | .done,st,K => K st
 | .one sb o r,st,K => astep P sb B o st fun st' => asch P B r st' K
 | .two l r,st,K => asch P B l st K ∧ asch P B r st K
 | .top,_,_ => True
def lateOp (hw : List FuncId) : Op → Bool
 | .store .. => true
 | .call c => match c.callee with
  | .value (.func f) => hw.contains f
  | .value _ => true
  | .builtin .append => true
  | .builtin .copy => true
  | .builtin .clear => true
  | .builtin _ => false
  | _ => true
 | _ => false
def lates (hw : List FuncId) (ops : Array Oper) : List Nat := (List.range ops.size).filter fun i => ((ops[i]?).map fun o => lateOp hw o.op).getD false
def takeQ (P : Program) (N : Nat) (ops : Array Oper) (listed : Array Bool) (ls : List Nat) (i : Nat) : Bool :=
 match ops[i]? with
 | some o => match coper P N ops o with
  | some a => !isLoud a.op && !ls.contains i && Region.free .any ops listed i && (!isLd o.op || ls.all fun t => (aheadL ops t [t]).contains i)
  | none => false
 | none => false
def stepS (P : Program) (N : Nat) (ops : Array Oper) (sb : Bool) (i : Nat) (r : Option ASch) : Option ASch :=
 match ops[i]? with
 | some o => match coper P N ops o,r with
  | some a,some t => some (.one sb a t)
  | _,_ => none
 | none => none
def foldS : List (Option ASch) → Option ASch
 | [] => some .top
 | x :: l => match x,foldS l with
  | some t,some u => some (.two t u)
  | _,_ => none
def planS (P : Program) (N : Nat) (ops : Array Oper) : Nat → Array Bool → List Nat → Option ASch
 | 0,listed,_ => if (Region.ready .any ops listed).isEmpty then some .done else none
 | fuel + 1,listed,ls =>
  let rs := Region.ready .any ops listed
  if rs.isEmpty then some .done else
  match rs.find? (takeQ P N ops listed ls) with
  | some i => stepS P N ops true i (planS P N ops fuel (listed.setIfInBounds i true) ls)
  | none => match rs with
   | [i] => stepS P N ops (!ls.contains i) i (planS P N ops fuel (listed.setIfInBounds i true) (ls.filter (· != i)))
   | rs => foldS (rs.map fun i => stepS P N ops (!ls.contains i) i (planS P N ops fuel (listed.setIfInBounds i true) (ls.filter (· != i))))
section
variable {P : Program} {B : Base} {ops : Array Oper} {Q : Exit → Act → World → Prop} {K : St → Prop}
theorem foldS_mem : ∀ {l : List (Option ASch)} {t : ASch},foldS l = some t → ∀ x ∈ l,∃ t',x = some t' ∧ ∀ st K,asch P B t st K → asch P B t' st K
 | [],t,h,x,hx => by cases hx
 | y :: l,t,h,x,hx => by
  cases y with
  | none => simp [foldS] at h
  | some t1 =>
   cases hl : foldS l with
   | none => simp [foldS,hl] at h
   | some t2 =>
    simp only [foldS,hl,zA] at h
    subst h
    rcases List.mem_cons.1 hx with rfl | hx
    ·exact ⟨t1,rfl,fun _ _ h => h.1⟩
    ·obtain ⟨t',h1,h2⟩ := foldS_mem hl x hx
     exact ⟨t',h1,fun st K h => h2 st K h.2⟩
theorem stepS_some {N : Nat} {sb : Bool} {i : Nat} {r : Option ASch} {t : ASch} (h : stepS P N ops sb i r = some t) : ∃ o ao t',ops[i]? = some o ∧ coper P N ops o = some ao ∧ r = some t' ∧ t = .one sb ao t' := by
 unfold stepS at h
 cases ho : ops[i]? with
 | none => rw [ho] at h;cases h
 | some o =>
  rw [ho] at h
  simp only at h
  cases hao : coper P N ops o with
  | none => rw [hao] at h;simp at h
  | some ao =>
   rw [hao] at h
   cases r with
   | none => simp at h
   | some t' =>
    simp only [zA] at h
    exact ⟨o,ao,t',rfl,hao,rfl,h.symm⟩
theorem step_sound {hw : List Nat} {w : World} {fuel : Nat} {listed : Array Bool} {i : Nat} {r : Option ASch} {t : ASch} {st : St} {s : Nat → Value} {Z : Cells} {a : Act} (hsz : listed.size = ops.size)
  (h : stepS P B.N ops (!hw.contains i) i r = some t) (hR : Rel B s Z st a w) (hs : asch P B t st K)
  (next : ∀ t',r = some t' → ∀ (st' : St) (s' : Nat → Value) (Z' : Cells) (a' : Act) (w' : World),Rel B s' Z' st' a' w' → asch P B t' st' K → AnyK P .any ops Q ((hw.filter (· != i)).contains ·) w' fuel (listed.setIfInBounds i true) a' w') :
  wpOp P ops Q i (fun a' w' => Kept (hw.contains ·) w (listed.setIfInBounds i true) w' ∧ AnyK P .any ops Q (hw.contains ·) w fuel (listed.setIfInBounds i true) a' w') a w := by
 obtain ⟨o,ao,t',ho,hao,rfl,rfl⟩ := stepS_some h
 have hlt : i < listed.size := by rw [hsz];exact (Array.getElem?_eq_some_iff.1 ho).1
 have hset : (listed.setIfInBounds i true).getD i false = true := by simp [hlt]
 simp only [asch] at hs
 have hG : Goes (!hw.contains i) B w (fun st' => asch P B t' st' K) (fun a' w' => Kept (hw.contains ·) w (listed.setIfInBounds i true) w' ∧ AnyK P .any ops Q (hw.contains ·) w fuel (listed.setIfInBounds i true) a' w') := fun st' s' Z' a' w' hb hK hR' => by
  have hn := next t' rfl st' s' Z' a' w' hR' hK
  cases hl : hw.contains i with
  | true => exact ⟨.inr ⟨i,hl,hset⟩,anyK_late ⟨i,hl,hset⟩ hn⟩
  | false =>
   have hb := hb (by rw [hl];rfl)
   refine ⟨.inl hb,?_⟩
   have hf : hw.filter (· != i) = hw := List.filter_eq_self.2 fun x hx => by
    have : x ≠ i := by rintro rfl;rw [List.contains_iff_mem.2 hx] at hl;cases hl
    simpa using this
   rw [hf] at hn
   exact anyK_base (fun listed' w2 hk => hk.imp (fun h2 => hb.trans (h2.mono hb.size)) id) hn
 obtain ⟨k1,k2⟩ := astep_sound (Q := Q) hR hao hs hG
 unfold wpOp
 simp only [ho]
 cases hw' : Region.wanted o (yielded ops a.tmps) with
 | true => simp only [if_true];exact .inl (k1 hw')
 | false => simp only [Bool.false_eq_true,if_false];exact k2 hw'
theorem planS_sound (hns : Region.noSelect ops = true) (hQ : ∀ c a d v w,Q (.panic c) (Act.put a d v) w → Q (.panic c) a w) (hfin : ∀ st' s' Z' a' w',K st' → Rel B s' Z' st' a' w' → Q .normal a' w') :
  ∀ (fuel : Nat) (listed : Array Bool) (hw : List Nat) (t : ASch) (st : St) (s : Nat → Value) (Z : Cells) (a : Act) (w : World),planS P B.N ops fuel listed hw = some t → listed.size = ops.size → Closed .any ops listed → Rel B s Z st a w → asch P B t st K →
   AnyK P .any ops Q (hw.contains ·) w fuel listed a w
 | 0,listed,hw,t,st,s,Z,a,w,h,hsz,hcl,hR,hs => by
  simp only [planS] at h
  split at h
  case isFalse => cases h
  rename_i he
  simp only [zA] at h
  subst h
  exact ⟨List.isEmpty_iff.1 he,hfin _ _ _ _ _ hs hR⟩
 | fuel + 1,listed,hw,t,st,s,Z,a,w,h,hsz,hcl,hR,hs => by
  simp only [planS] at h
  split at h
  ·rename_i he
   simp only [zA] at h
   subst h
   have he := List.isEmpty_iff.1 he
   exact ⟨fun _ => hfin _ _ _ _ _ hs hR,fun i hi => by rw [he] at hi;cases hi⟩
  rename_i hne
  have hne : Region.ready .any ops listed ≠ [] := fun e => hne (by rw [e];rfl)
  have hszs : ∀ i,(listed.setIfInBounds i true).size = ops.size := fun i => by simpa using hsz
  split at h
  · -- one that may be taken first
   rename_i i hfind
   have hir := List.mem_of_find?_eq_some hfind
   have htk := List.find?_some hfind
   obtain ⟨o,ao,t',ho,hao,hr,rfl⟩ := stepS_some h
   unfold takeQ at htk
   simp only [ho,hao,Bool.and_eq_true,Bool.not_eq_true',Bool.or_eq_true] at htk
   obtain ⟨⟨⟨hq,hli⟩,hfree⟩,hld⟩ := htk
   simp only [asch] at hs
   obtain ⟨hdst,op,hop,g,hg,hcase⟩ := astep_cases hR hao hs
   have hqo : isLoud op = false := by
    unfold coper at hao
    split at hao
    case isFalse => cases hao
    rw [hop] at hao
    simp only at hao
    split at hao
    ·simp only [zA] at hao;subst hao;exact hq
    ·split at hao
     ·simp only [zA] at hao;subst hao;exact hq
     ·cases hao
   obtain ⟨e1,e2⟩ := quiet_eff hR hdst (copX_quiet hop hqo) hqo hg
   have hun := (mem_ready.1 hir).1
   have hkept : Kept (hw.contains ·) w listed w := .inl (Below.refl _ _)
   obtain ⟨v,st',hK',hR',hy⟩ : ∃ v st',asch P B t' st' K ∧ Rel B s Z st' (a.put o.dst v) w ∧ YieldsIf P ops (fun w' => Ok4 w o w') o v a := by
    rcases hcase with ⟨h1,h2⟩ | ⟨h1,h2⟩
    ·obtain ⟨u,st',k1,k2,k3⟩ := e1 h2
     exact ⟨u,st',k1,k2,.inl ⟨h1,k3⟩⟩
    ·obtain ⟨st',k1,k2⟩ := e2 h2
     exact ⟨undef,st',k1,k2,.inr ⟨h1,rfl⟩⟩
   have next := planS_sound hns hQ hfin fuel (listed.setIfInBounds i true) hw t' st' s Z (a.put o.dst v) w hr (hszs i) (hcl.set hir) hR' hK'
   refine anyK_first ho (Region.noSelect_spec hns) (fun c a w h => hQ c a _ _ w h) (fun w' => Ok4 w o w') (fun listed' w' hc hu hk => ?_) (by simpa using hli) fuel listed a w hcl (Region.free_spec ho hfree) hir hy hkept next
   rcases hld with hld | hld
   ·exact .inr hld
   ·refine .inl (More.below (hk.below hu fun t ht hlt => ?_))
    have h3 := List.all_eq_true.1 hld t (by simpa using ht)
    exact aheadL_listed hc t [t] (fun y hy => by rw [List.mem_singleton.1 hy];exact hlt) i (by simpa using h3)
  ·split at h
   · -- the only one
    rename_i i hri
    refine ⟨fun e => absurd e hne,fun j hj => ?_⟩
    have hji : j = i := by rw [hri] at hj;simpa using hj
    subst hji
    exact step_sound hsz h hR hs fun t' ht' st' s' Z' a' w' hR' hs' => planS_sound hns hQ hfin fuel _ _ t' st' s' Z' a' w' ht' (hszs j) (hcl.set hj) hR' hs'
   ·refine ⟨fun e => absurd e hne,fun j hj => ?_⟩
    obtain ⟨t',ht',himp⟩ := foldS_mem (P := P) (B := B) h _ (List.mem_map.2 ⟨j,hj,rfl⟩)
    exact step_sound hsz ht' hR (himp _ _ hs) fun t' ht' st' s' Z' a' w' hR' hs' => planS_sound hns hQ hfin fuel _ _ t' st' s' Z' a' w' ht' (hszs j) (hcl.set hj) hR' hs'
theorem draw_sound {id : Nat} {hw : List FuncId} {t : ASch} {st : St} {s : Nat → Value} {Z : Cells} {a : Act} {w : World} (hm : P.follows .mixedOrders = true) (hns : Region.noSelect ops = true) (hp : planS P B.N ops ops.size (Array.replicate ops.size false) (lates hw ops) = some t)
  (hQ : ∀ c a d v w,Q (.panic c) (Act.put a d v) w → Q (.panic c) a w) (hfin : ∀ st' s' Z' a' w',K st' → Rel B s' Z' st' a' w' → Q .normal a' w') (hR : Rel B s Z st a w) (hs : asch P B t st K) : (Code.region id ops true).wp P Q a w := by
 have hR' : Rel B s Z st a w.drew := ⟨hR.env,hR.elt,hR.size,hR.defers,hR.h.call (Below.refl _ _).drew (Zx.refl hR.h.zok (Below.refl _ _).drew)⟩
 refine wp_region_any hm ?_
 refine any_of_K _ _ _ _ (planS_sound hns hQ hfin _ _ _ t st s Z a w.drew hp (by simp) (fun j oj _ hl => ?_) hR' hs)
 exfalso
 rcases Nat.lt_or_ge j ops.size with h' | h'
 ·simp [h'] at hl
 ·simp [h'] at hl
end
inductive AC where
 | skip
 | region (id : Nat) (ops : List AO)
 | draw (id : Nat) (t : ASch)
 | seq (a b : AC)
 | cond (c : Nat) (a b : AC)
 | block (id : Nat) (a : AC)
 | loop (a : AC)
 | exit (id : Nat)
 | scope (a : AC)
 | ret
def cco (P : Program) (N : Nat) (hw : List FuncId) : Code → Option AC
 | .skip => some .skip
 | .label _ => some .skip
 | .region id ops false => (copers P N ops ops.toList).map fun r => .region id r
 | .region id ops true => if Region.noSelect ops then (planS P N ops ops.size (Array.replicate ops.size false) (lates hw ops)).map fun t => .draw id t else none
 | .seq a b => match cco P N hw a,cco P N hw b with
  | some x,some y => some (.seq x y)
  | _,_ => none
 | .cond (.tmp t) a b => match cco P N hw a,cco P N hw b with
  | some x,some y => some (.cond t x y)
  | _,_ => none
 | .block id a => (cco P N hw a).map (.block id)
 | .loop a => (cco P N hw a).map .loop
 | .exit id => some (.exit id)
 | .scope a => (cco P N hw a).map .scope
 | .ret => some .ret
 | _ => none
inductive AR where
 | t (n : Nat)
 | c (p : Nat) (ag : Bool) (n : Nat)
def cres (P : Program) : List ResultVar → Option (List AR)
 | [] => some []
 | .tmp t :: r => (cres P r).map (.t t :: ·)
 | .cell p ty :: r => match agT P ty,szT P ty,cres P r with
  | some a,some n,some l => some (.c p a n :: l)
  | _,_,_ => none
structure AF where
 code : AC
 res : List AR
 n : Nat
def cfun (P : Program) (hw : List FuncId) (f : FuncId) : Option AF :=
 match P.funcs[f]? with
 | some fn => if fn.name == "runtime.NumGoroutine" then none else match fn.body with
  | some c => match cco P fn.ntmps hw c,cres P fn.results.toList with
   | some c,some r => some ⟨c,r,fn.ntmps⟩
   | _,_ => none
  | none => none
 | none => none
inductive Ex where
 | normal
 | exit (id : Nat)
 | ret
def Lift (B : Base) (Q : Ex → St → Prop) : Exit → Act → World → Prop
 | .normal,a,w => ∃ st s Z,Q .normal st ∧ Rel B s Z st a w
 | .exit id,a,w => ∃ st s Z,Q (.exit id) st ∧ Rel B s Z st a w
 | .ret,a,w => ∃ st s Z,Q .ret st ∧ Rel B s Z st a w
 | _,_,_ => False
def W (P : Program) (B : Base) (hw : List FuncId) (c : AC) (Q : Ex → St → Prop) (st : St) : Prop :=
 P.follows .mixedOrders = true → ∀ code,cco P B.N hw code = some c → ∀ s Z a w,Rel B s Z st a w → code.wp P (Lift B Q) a w
def Gh (B : Base) (st st1 : St) : Prop := ∀ s Z a w,Rel B s Z st a w → ∃ s' Z',Rel B s' Z' st1 a w
def keep (ks : List Nat) : List (Nat × D) → List (Nat × D)
 | [] => []
 | (k,d) :: l => if ks.contains k then (k,d) :: keep ks l else keep ks l
def trim (ks : List Nat) (st : St) : St := ⟨keep ks st.env,st.heap,st.nx⟩
theorem eget_keep (ks : List Nat) (k : Nat) : ∀ (l : List (Nat × D)),eget (keep ks l) k = eget l k ∨ eget (keep ks l) k = .any
 | [] => .inr rfl
 | (j,d) :: l => by
  simp only [keep]
  split
  ·simp only [eget]
   split
   ·exact .inl rfl
   ·exact eget_keep ks k l
  ·rename_i hj
   by_cases h : k = j
   ·subst h
    right
    have : ∀ l : List (Nat × D),eget (keep ks l) k = .any := fun l => by
     induction l with
     | nil => rfl
     | cons p l ih =>
      obtain ⟨i,e⟩ := p
      simp only [keep]
      split
      ·rename_i hi
       have : k ≠ i := by rintro rfl;exact hj hi
       simp only [eget,if_neg this,ih]
      ·exact ih
    exact this l
   ·simp only [eget,if_neg h];exact eget_keep ks k l
section
variable {P : Program} {B : Base} {hw : List FuncId} {Q Q' : Ex → St → Prop} {st st1 : St} {s : Nat → Value} {Z : Cells} {a : Act} {w : World}
theorem Rel.trim (h : Rel B s Z st a w) (ks : List Nat) : Rel B s Z (Go.Proofs.Ytmdhegbdffbfoaa.trim ks st) a w where
 env k := by
  rcases eget_keep ks k st.env with h1 | h1
  ·simp only [Go.Proofs.Ytmdhegbdffbfoaa.trim,h1];exact h.env k
  ·simp only [Go.Proofs.Ytmdhegbdffbfoaa.trim,h1];trivial
 elt k := by
  rcases eget_keep ks k st.env with h1 | h1
  ·simp only [Go.Proofs.Ytmdhegbdffbfoaa.trim,h1];exact h.elt k
  ·simp only [Go.Proofs.Ytmdhegbdffbfoaa.trim,h1];trivial
 size := h.size
 defers := h.defers
 h := h.h
theorem Gh.trans {st2 : St} (h : Gh B st st1) (g : Gh B st1 st2) : Gh B st st2 := fun s Z a w hr => by
 obtain ⟨s',Z',h'⟩ := h s Z a w hr
 exact g s' Z' a w h'
theorem Gh.trim (ks : List Nat) : Gh B st (trim ks st) := fun s Z _ _ h => ⟨s,Z,h.trim ks⟩
theorem Lift.mono (hq : ∀ e st,Q e st → Q' e st) {e : Exit} {a : Act} {w : World} (h : Lift B Q e a w) : Lift B Q' e a w := by
 cases e <;> first | exact h.elim | (obtain ⟨st,s,Z,h1,h2⟩ := h;exact ⟨st,s,Z,hq _ _ h1,h2⟩)
theorem W.mono {c : AC} (h : W P B hw c Q st) (hq : ∀ e st,Q e st → Q' e st) : W P B hw c Q' st := fun hm code hc s Z a w hr => wp_mono (h hm code hc s Z a w hr) fun _ _ _ => Lift.mono hq
def seqQ (next : St → Prop) (Q : Ex → St → Prop) : Ex → St → Prop
 | .normal,st => next st
 | e,st => Q e st
def blockQ (id : Nat) (Q : Ex → St → Prop) : Ex → St → Prop
 | .exit id',st => if id' = id then Q .normal st else Q (.exit id') st
 | e,st => Q e st
theorem W.skip (h : Q .normal st) : W P B hw .skip Q st := fun _ code hc s Z a w hr => by
 cases code with
 | skip => exact wp_skip ⟨st,s,Z,h,hr⟩
 | label l => exact wp_label ⟨st,s,Z,h,hr⟩
 | region id ops d => cases d <;> simp only [cco] at hc <;> (try split at hc) <;> simp at hc
 | seq x y => simp only [cco] at hc;split at hc <;> simp at hc
 | cond c x y => cases c <;> simp only [cco] at hc <;> (try split at hc) <;> simp at hc
 | block id x => simp [cco] at hc
 | loop x => simp [cco] at hc
 | scope x => simp [cco] at hc
 | _ => simp [cco] at hc
theorem W.ret (h : Q .ret st) : W P B hw .ret Q st := fun _ code hc s Z a w hr => by
 cases code with
 | ret => exact wp_ret ⟨st,s,Z,h,hr⟩
 | region id ops d => cases d <;> simp only [cco] at hc <;> (try split at hc) <;> simp at hc
 | seq x y => simp only [cco] at hc;split at hc <;> simp at hc
 | cond c x y => cases c <;> simp only [cco] at hc <;> (try split at hc) <;> simp at hc
 | _ => simp [cco] at hc
theorem W.exit {id : Nat} (h : Q (.exit id) st) : W P B hw (.exit id) Q st := fun _ code hc s Z a w hr => by
 cases code with
 | exit i => simp only [cco,zA,AC.exit.injEq] at hc;subst hc;exact wp_exit ⟨st,s,Z,h,hr⟩
 | region id ops d => cases d <;> simp only [cco] at hc <;> (try split at hc) <;> simp at hc
 | seq x y => simp only [cco] at hc;split at hc <;> simp at hc
 | cond c x y => cases c <;> simp only [cco] at hc <;> (try split at hc) <;> simp at hc
 | _ => simp [cco] at hc
theorem W.seq {x y : AC} (h : W P B hw x (seqQ (W P B hw y Q) Q) st) : W P B hw (.seq x y) Q st := fun hm code hc s Z a w hr => by
 cases code with
 | seq c d =>
  simp only [cco] at hc
  split at hc <;> simp only [zA,reduceCtorEq,AC.seq.injEq] at hc
  rename_i hx hy
  obtain ⟨rfl,rfl⟩ := hc
  refine wp_seq (wp_mono (h hm c hx s Z a w hr) fun e a' w' hl => ?_)
  cases e with
  | normal => obtain ⟨st',s',Z',h1,h2⟩ := hl;exact h1 hm d hy s' Z' a' w' h2
  | _ => exact hl
 | region id ops d => cases d <;> simp only [cco] at hc <;> (try split at hc) <;> simp at hc
 | cond c x y => cases c <;> simp only [cco] at hc <;> (try split at hc) <;> simp at hc
 | _ => simp [cco] at hc
theorem W.cond {c : Nat} {t : Bool} {x y : AC} (ht : eget st.env c = .bool t) (h1 : t = true → W P B hw x Q st) (h2 : t = false → W P B hw y Q st) : W P B hw (.cond c x y) Q st := fun hm code hc s Z a w hr => by
 cases code with
 | cond o p q =>
  cases o with
  | tmp k =>
   simp only [cco] at hc
   split at hc <;> simp only [zA,reduceCtorEq,AC.cond.injEq] at hc
   rename_i hx hy
   obtain ⟨rfl,rfl,rfl⟩ := hc
   have hv := hr.env k
   rw [ht] at hv
   have hb : a.eval (.tmp k) = .bool t := VR.bool_inv (s := s) (Z := Z) hv
   exact wp_cond_split hb (fun e => h1 e hm p hx s Z a w hr) (fun e => h2 e hm q hy s Z a w hr)
  | _ => simp [cco] at hc
 | region id ops d => cases d <;> simp only [cco] at hc <;> (try split at hc) <;> simp at hc
 | seq x y => simp only [cco] at hc;split at hc <;> simp at hc
 | _ => simp [cco] at hc
theorem W.block {id : Nat} {x : AC} (h : W P B hw x (blockQ id Q) st) : W P B hw (.block id x) Q st := fun hm code hc s Z a w hr => by
 cases code with
 | block i c =>
  simp only [cco,Option.map_eq_some_iff,AC.block.injEq] at hc
  obtain ⟨x',hx,rfl,rfl⟩ := hc
  refine wp_block (wp_mono (h hm c hx s Z a w hr) fun e a' w' hl => ?_)
  cases e with
  | exit j =>
   obtain ⟨st',s',Z',h1,h2⟩ := hl
   simp only [blockQ] at h1
   simp only [Exit.inBlock]
   split at h1
   ·rename_i e;rw [if_pos e];exact ⟨st',s',Z',h1,h2⟩
   ·rename_i e;rw [if_neg e];exact ⟨st',s',Z',h1,h2⟩
  | _ => exact hl
 | region id ops d => cases d <;> simp only [cco] at hc <;> (try split at hc) <;> simp at hc
 | seq x y => simp only [cco] at hc;split at hc <;> simp at hc
 | cond c x y => cases c <;> simp only [cco] at hc <;> (try split at hc) <;> simp at hc
 | _ => simp [cco] at hc
theorem W.scope {x : AC} (h : W P B hw x Q st) : W P B hw (.scope x) Q st := fun hm code hc s Z a w hr => by
 cases code with
 | scope c =>
  simp only [cco,Option.map_eq_some_iff,AC.scope.injEq] at hc
  obtain ⟨x',hx,rfl⟩ := hc
  refine wp_scope_straight (wp_mono (h hm c hx s Z a w hr) fun e a' w' hl => ?_)
  cases e <;> first | exact hl | exact hl.elim
 | region id ops d => cases d <;> simp only [cco] at hc <;> (try split at hc) <;> simp at hc
 | seq x y => simp only [cco] at hc;split at hc <;> simp at hc
 | cond c x y => cases c <;> simp only [cco] at hc <;> (try split at hc) <;> simp at hc
 | _ => simp [cco] at hc
theorem W.region {id : Nat} {ops : List AO} {K : St → Prop} (h : aops P B ops st K) (hK : ∀ st',K st' → ∃ st1,Gh B st' st1 ∧ Q .normal st1) : W P B hw (.region id ops) Q st := fun hm code hc s Z a w hr => by
 have fin : ∀ st' s' Z' a' w',K st' → Rel B s' Z' st' a' w' → Lift B Q .normal a' w' := fun st' s' Z' a' w' h1 h2 => by
  obtain ⟨st1,hg,hq⟩ := hK st' h1
  obtain ⟨s1,Z1,hr1⟩ := hg s' Z' a' w' h2
  exact ⟨st1,s1,Z1,hq,hr1⟩
 cases code with
 | region i os d =>
  cases d with
  | false =>
   simp only [cco,Option.map_eq_some_iff,AC.region.injEq] at hc
   obtain ⟨r,hr',rfl,rfl⟩ := hc
   exact wp_region_list (aops_sound os.toList r st s Z a w hr' hr h fin)
  | true => simp only [cco] at hc;split at hc <;> simp at hc
 | seq x y => simp only [cco] at hc;split at hc <;> simp at hc
 | cond c x y => cases c <;> simp only [cco] at hc <;> (try split at hc) <;> simp at hc
 | _ => simp [cco] at hc
theorem W.draw {id : Nat} {t : ASch} {K : St → Prop} (h : asch P B t st K) (hK : ∀ st',K st' → ∃ st1,Gh B st' st1 ∧ Q .normal st1) : W P B hw (.draw id t) Q st := fun hm code hc s Z a w hr => by
 have fin : ∀ st' s' Z' a' w',K st' → Rel B s' Z' st' a' w' → Lift B Q .normal a' w' := fun st' s' Z' a' w' h1 h2 => by
  obtain ⟨st1,hg,hq⟩ := hK st' h1
  obtain ⟨s1,Z1,hr1⟩ := hg s' Z' a' w' h2
  exact ⟨st1,s1,Z1,hq,hr1⟩
 cases code with
 | region i os d =>
  cases d with
  | false => simp [cco] at hc
  | true =>
   simp only [cco] at hc
   split at hc
   case isFalse => cases hc
   rename_i hns
   simp only [Option.map_eq_some_iff,AC.draw.injEq] at hc
   obtain ⟨r,hr',rfl,rfl⟩ := hc
   exact draw_sound hm hns hr' (fun c a d v w h => h.elim) fin hr h
 | seq x y => simp only [cco] at hc;split at hc <;> simp at hc
 | cond c x y => cases c <;> simp only [cco] at hc <;> (try split at hc) <;> simp at hc
 | _ => simp [cco] at hc
theorem least {p : Nat → Prop} (h : ∃ n,p n) : ∃ n,p n ∧ ∀ m,p m → n ≤ m := by
 obtain ⟨n,hn⟩ := h
 induction n using Nat.strongRecOn with
 | _ n ih =>
  by_cases h : ∃ m,m < n ∧ p m
  ·obtain ⟨m,h1,h2⟩ := h;exact ih m h1 h2
  ·exact ⟨n,hn,fun m hm => Nat.le_of_not_lt fun hl => h ⟨m,hl,hm⟩⟩
theorem W.loop {x : AC} (I : Nat → St → Prop) (h0 : ∃ n st1,Gh B st st1 ∧ I n st1) (hround : ∀ n st,I n st → W P B hw x (seqQ (fun st' => ∃ m st1,Gh B st' st1 ∧ m < n ∧ I m st1) Q) st) : W P B hw (.loop x) Q st := fun hm code hc s Z a w hr => by
 cases code with
 | loop c =>
  simp only [cco,Option.map_eq_some_iff,AC.loop.injEq] at hc
  obtain ⟨x',hx,rfl⟩ := hc
  classical
  let J : Nat → Act → World → Prop := fun n a w => ∃ st s Z,I n st ∧ Rel B s Z st a w
  let mu : Act → World → Nat := fun a w => if h : ∃ n,J n a w then Classical.choose (least h) else 0
  have hmu : ∀ a w (_ : ∃ n,J n a w),J (mu a w) a w ∧ ∀ n,J n a w → mu a w ≤ n := fun a w h => by
   have e : mu a w = Classical.choose (least h) := dif_pos h
   rw [e]
   exact Classical.choose_spec (least h)
  refine wp_loop (fun a w => ∃ n,J n a w) mu ?_ ?_
  ·obtain ⟨n,st1,hg,hI⟩ := h0
   obtain ⟨s',Z',hr'⟩ := hg s Z a w hr
   exact ⟨n,st1,s',Z',hI,hr'⟩
  ·intro a w hJ
   obtain ⟨⟨st1,s1,Z1,hI,hR1⟩,_⟩ := hmu a w hJ
   refine wp_mono (hround _ st1 hI hm c hx s1 Z1 a w hR1) fun e a' w' hl => ?_
   cases e with
   | normal =>
    obtain ⟨st',s',Z',⟨m,st2,hg,hlt,hI2⟩,h2⟩ := hl
    obtain ⟨s2,Z2,hr2⟩ := hg s' Z' a' w' h2
    have hJ' : ∃ n,J n a' w' := ⟨m,st2,s2,Z2,hI2,hr2⟩
    exact ⟨hJ',Nat.lt_of_le_of_lt ((hmu a' w' hJ').2 m ⟨st2,s2,Z2,hI2,hr2⟩) hlt⟩
   | _ => exact hl
 | region id ops d => cases d <;> simp only [cco] at hc <;> (try split at hc) <;> simp at hc
 | seq x y => simp only [cco] at hc;split at hc <;> simp at hc
 | cond c x y => cases c <;> simp only [cco] at hc <;> (try split at hc) <;> simp at hc
 | _ => simp [cco] at hc
def acode (P : Program) (B : Base) (hw : List FuncId) (ks stops : List Nat) : AC → (Ex → St → Prop) → St → Prop
 | .skip,Q,st => Q .normal st
 | .region id ops,Q,st => if stops.contains id then W P B hw (.region id ops) Q st else aops P B ops st (fun st' => Q .normal (trim ks st'))
 | .draw id t,Q,st => if stops.contains id then W P B hw (.draw id t) Q st else asch P B t st (fun st' => Q .normal (trim ks st'))
 | .seq a b,Q,st => acode P B hw ks stops a (seqQ (acode P B hw ks stops b Q) Q) st
 | .cond c a b,Q,st => match eget st.env c with
  | .bool t => (t = true → acode P B hw ks stops a Q st) ∧ (t = false → acode P B hw ks stops b Q st)
  | _ => False
 | .block id a,Q,st => acode P B hw ks stops a (blockQ id Q) st
 | .loop a,Q,st => W P B hw (.loop a) Q st
 | .exit id,Q,st => Q (.exit id) st
 | .scope a,Q,st => acode P B hw ks stops a Q st
 | .ret,Q,st => Q .ret st
def TK (ks : List Nat) (Q : Ex → St → Prop) (st : St) : Prop := Q .normal (trim ks st)
theorem TK_at (ks : List Nat) (Q : Ex → St → Prop) (env : List (Nat × D)) (H : List (Nat × Ob)) (nx : Nat) : TK ks Q ⟨env,H,nx⟩ = Q .normal (trim ks ⟨env,H,nx⟩) := rfl
def OK (P : Program) (B : Base) (os : List AO) (K : St → Prop) (st : St) : Prop := aops P B os st K
theorem OK_at (os : List AO) (K : St → Prop) (env : List (Nat × D)) (H : List (Nat × Ob)) (nx : Nat) : OK P B os K ⟨env,H,nx⟩ = aops P B os ⟨env,H,nx⟩ K := rfl
theorem aops_nil (st : St) (K : St → Prop) : aops P B [] st K = K st := rfl
theorem aops_cons (o : AO) (os : List AO) (st : St) (K : St → Prop) : aops P B (o :: os) st K = astep P false B o st (OK P B os K) := rfl
def SK (P : Program) (B : Base) (r : ASch) (K : St → Prop) (st : St) : Prop := asch P B r st K
theorem SK_at (r : ASch) (K : St → Prop) (env : List (Nat × D)) (H : List (Nat × Ob)) (nx : Nat) : SK P B r K ⟨env,H,nx⟩ = asch P B r ⟨env,H,nx⟩ K := rfl
theorem asch_done (st : St) (K : St → Prop) : asch P B .done st K = K st := rfl
theorem asch_one (sb : Bool) (o : AO) (r : ASch) (st : St) (K : St → Prop) : asch P B (.one sb o r) st K = astep P sb B o st (SK P B r K) := rfl
theorem asch_two (l r : ASch) (st : St) (K : St → Prop) : asch P B (.two l r) st K = (asch P B l st K ∧ asch P B r st K) := rfl
theorem asch_top (st : St) (K : St → Prop) : asch P B .top st K = True := rfl
def AK (P : Program) (B : Base) (hw : List FuncId) (ks stops : List Nat) (c : AC) (Q : Ex → St → Prop) (st : St) : Prop := acode P B hw ks stops c Q st
theorem AK_at (c : AC) (Q : Ex → St → Prop) (ks stops : List Nat) (env : List (Nat × D)) (H : List (Nat × Ob)) (nx : Nat) : AK P B hw ks stops c Q ⟨env,H,nx⟩ = acode P B hw ks stops c Q ⟨env,H,nx⟩ := rfl
theorem acode_seq (a b : AC) (Q : Ex → St → Prop) (ks stops : List Nat) (st : St) : acode P B hw ks stops (.seq a b) Q st = acode P B hw ks stops a (seqQ (AK P B hw ks stops b Q) Q) st := rfl
theorem acode_region (id : Nat) (ops : List AO) (Q : Ex → St → Prop) (ks stops : List Nat) (st : St) : acode P B hw ks stops (.region id ops) Q st = if stops.contains id then W P B hw (.region id ops) Q st else aops P B ops st (TK ks Q) := rfl
theorem acode_draw (id : Nat) (t : ASch) (Q : Ex → St → Prop) (ks stops : List Nat) (st : St) : acode P B hw ks stops (.draw id t) Q st = if stops.contains id then W P B hw (.draw id t) Q st else asch P B t st (TK ks Q) := rfl
def CB (t : Bool) (a b : Prop) : Prop := (t = true → a) ∧ (t = false → b)
theorem CB_t (a b : Prop) : CB true a b = a := by simp [CB]
theorem CB_f (a b : Prop) : CB false a b = b := by simp [CB]
theorem CB_u (t : Bool) (a b : Prop) : CB t a b = ((t = true → a) ∧ (t = false → b)) := rfl
theorem acode_cond (c : Nat) (a b : AC) (Q : Ex → St → Prop) (ks stops : List Nat) (st : St) : acode P B hw ks stops (.cond c a b) Q st = match eget st.env c with
  | .bool t => CB t (acode P B hw ks stops a Q st) (acode P B hw ks stops b Q st)
  | _ => False := rfl
theorem aop_eq (sb : Bool) (g : Option Bool) (dst : Option Nat) (op : AOp) (st : St) (K : St → Prop) : aop P sb B g dst op st K =
 if isLoud op then
  match g with
  | none => aloud P sb B dst op st K
  | some c => CB c (aloud P sb B dst op st K) (K ⟨putO st.env dst (.opt false .any),st.heap,st.nx⟩)
 else
  match op with
  | .pick c x y => match evS st.env c with
   | .bool b => match pickV b (evS st.env x) (evS st.env y) with
    | some (p,d) => afin g dst ((gS st.env c = true ∧ (b = true → gS st.env x = true) ∧ (b = false → gS st.env y = true)) ∧ p) d st K
    | none => afin0 g dst st K
   | _ => afin0 g dst st K
  | .isnil ne x => match lenD st.heap (evS st.env x) with
   | some n => ∀ b : Bool,(0 < n → b = ne) → afin g dst (gS st.env x = true) (.bool b) st K
   | none => afin0 g dst st K
  | op => match qv (evS st.env) st.heap op with
   | some (p,d) => afin g dst (oks st.env op = true ∧ p) d st K
   | none => afin0 g dst st K := by cases g <;> cases op <;> rfl
theorem acode_block (id : Nat) (a : AC) (Q : Ex → St → Prop) (ks stops : List Nat) (st : St) : acode P B hw ks stops (.block id a) Q st = acode P B hw ks stops a (blockQ id Q) st := rfl
theorem acode_loop (a : AC) (Q : Ex → St → Prop) (ks stops : List Nat) (st : St) : acode P B hw ks stops (.loop a) Q st = W P B hw (.loop a) Q st := rfl
theorem acode_exit (id : Nat) (Q : Ex → St → Prop) (ks stops : List Nat) (st : St) : acode P B hw ks stops (.exit id) Q st = Q (.exit id) st := rfl
theorem acode_scope (a : AC) (Q : Ex → St → Prop) (ks stops : List Nat) (st : St) : acode P B hw ks stops (.scope a) Q st = acode P B hw ks stops a Q st := rfl
theorem acode_ret (Q : Ex → St → Prop) (ks stops : List Nat) (st : St) : acode P B hw ks stops .ret Q st = Q .ret st := rfl
theorem acode_skip (Q : Ex → St → Prop) (ks stops : List Nat) (st : St) : acode P B hw ks stops .skip Q st = Q .normal st := rfl
theorem seqQ_n (next : St → Prop) (Q : Ex → St → Prop) (st : St) : seqQ next Q .normal st = next st := rfl
theorem seqQ_e (next : St → Prop) (Q : Ex → St → Prop) (i : Nat) (st : St) : seqQ next Q (.exit i) st = Q (.exit i) st := rfl
theorem seqQ_r (next : St → Prop) (Q : Ex → St → Prop) (st : St) : seqQ next Q .ret st = Q .ret st := rfl
theorem blockQ_n (id : Nat) (Q : Ex → St → Prop) (st : St) : blockQ id Q .normal st = Q .normal st := rfl
theorem blockQ_e (id i : Nat) (Q : Ex → St → Prop) (st : St) : blockQ id Q (.exit i) st = if i = id then Q .normal st else Q (.exit i) st := rfl
theorem blockQ_r (id : Nat) (Q : Ex → St → Prop) (st : St) : blockQ id Q .ret st = Q .ret st := rfl
theorem acode_sound (ks stops : List Nat) : ∀ (c : AC) (Q : Ex → St → Prop) (st : St),acode P B hw ks stops c Q st → W P B hw c Q st
 | .skip,Q,st,h => W.skip h
 | .region id ops,Q,st,h => by
  simp only [acode] at h
  split at h
  ·exact h
  ·exact W.region h fun st' h => ⟨_,Gh.trim ks,h⟩
 | .draw id t,Q,st,h => by
  simp only [acode] at h
  split at h
  ·exact h
  ·exact W.draw h fun st' h => ⟨_,Gh.trim ks,h⟩
 | .seq a b,Q,st,h => W.seq ((acode_sound ks stops a _ st h).mono fun e st' h' => by
   cases e with
   | normal => exact acode_sound ks stops b Q st' h'
   | _ => exact h')
 | .cond c a b,Q,st,h => by
  simp only [acode] at h
  split at h
  ·rename_i t ht
   exact W.cond ht (fun e => acode_sound ks stops a Q st (h.1 e)) (fun e => acode_sound ks stops b Q st (h.2 e))
  ·exact h.elim
 | .block id a,Q,st,h => W.block (acode_sound ks stops a _ st h)
 | .loop a,Q,st,h => h
 | .exit id,Q,st,h => W.exit h
 | .scope a,Q,st,h => W.scope (acode_sound ks stops a Q st h)
 | .ret,Q,st,h => W.ret h
def aresv (env : List (Nat × D)) (H : List (Nat × Ob)) : AR → Option (Prop × D)
 | .t n => some (gof (eget env n) = true,strip (eget env n))
 | .c p ag n => match qv (evS env) H (.load ag n (.t p)) with
  | some (q,d) => some (gof (eget env p) = true ∧ q,d)
  | none => none
def aresl (env : List (Nat × D)) (H : List (Nat × Ob)) : List AR → Option (Prop × List D)
 | [] => some (True,[])
 | r :: rs => match aresv env H r,aresl env H rs with
  | some (p,d),some (q,ds) => some (p ∧ q,d :: ds)
  | _,_ => none
def resD : List D → D
 | [d] => d
 | ds => .tup ds
def Fin (res : List AR) (R : D → List (Nat × Ob) → Nat → Prop) : Ex → St → Prop
 | .exit _,_ => False
 | _,st => match aresl st.env st.heap res with
  | some (p,ds) => (p ∧ ds.all argOk = true) ∧ R (resD ds) st.heap st.nx
  | none => False
def envOf : Nat → List D → List (Nat × D)
 | _,[] => []
 | i,d :: ds => eput (envOf (i + 1) ds) i d
theorem eget_envOf : ∀ (ds : List D) (i k : Nat),eget (envOf i ds) k = if i ≤ k then ds.getD (k - i) .any else .any
 | [],i,k => by simp [envOf,eget]
 | d :: ds,i,k => by
  simp only [envOf,eget_eput,eget_envOf ds (i + 1) k]
  by_cases h : k = i
  ·subst h;simp
  ·rw [if_neg h]
   by_cases h1 : i + 1 ≤ k
   ·rw [if_pos h1,if_pos (by omega)]
    have : k - i = (k - (i + 1)) + 1 := by omega
    rw [this,List.getD_cons_succ]
   ·rw [if_neg h1,if_neg (by omega)]
theorem load_var {ty : TypeId} {q : Addr} {w : World} : (do loadVar ty (← asAddr (.pointer (some q))) : Sem Value).run P w = (Instr.loadAt ty (.pointer (some q))).run P w := by
 simp [Instr.loadAt,Instr.sureAddr,asAddr]
theorem res_run (h : Rel B s Z st a w) : ∀ (rs : List ResultVar) (ars : List AR) (p : Prop) (ds : List D),cres P rs = some ars → aresl st.env st.heap ars = some (p,ds) → p →
  ∃ vs : List Value,vs.length = ds.length ∧ (∀ j x,ds[j]? = some x → VR s Z x (vs.getD j undef)) ∧ (∀ d ∈ ds,LtR st.nx d) ∧
   (rs.mapM (m := Sem) fun | .tmp t => pure (a.tmps.getD t undef) | .cell q t => do loadVar t (← asAddr (a.tmps.getD q undef))).run P w = .ok vs w
 | [],ars,p,ds,hc,hr,hp => by
  simp only [cres,zA] at hc
  subst hc
  simp only [aresl,zA,Prod.mk.injEq] at hr
  obtain ⟨_,rfl⟩ := hr
  exact ⟨[],rfl,(fun j x hx => by simp at hx),(fun d hd => by simp at hd),by simp⟩
 | r :: rs,ars,p,ds,hc,hr,hp => by
  have key : ∃ ar ars',ars = ar :: ars' ∧ cres P rs = some ars' ∧ ∀ q d,aresv st.env st.heap ar = some (q,d) → q → ∃ v,VR s Z d v ∧ LtR st.nx d ∧ ((match r with | .tmp t => pure (a.tmps.getD t undef) | .cell q t => do loadVar t (← asAddr (a.tmps.getD q undef)) : Sem Value)).run P w = .ok v w := by
   cases r with
   | tmp t =>
    simp only [cres,Option.map_eq_some_iff] at hc
    obtain ⟨l,hl,rfl⟩ := hc
    refine ⟨_,_,rfl,hl,fun q d hq hqp => ?_⟩
    simp only [aresv,zA,Prod.mk.injEq] at hq
    obtain ⟨rfl,rfl⟩ := hq
    have := h.vr (x := .tmp t) (y := .t t) rfl hqp
    exact ⟨_,this,h.lr (x := .tmp t) (y := .t t) rfl hqp,by simp [Act.eval]⟩
   | cell t ty =>
    simp only [cres] at hc
    split at hc <;> simp only [zA,reduceCtorEq] at hc
    rename_i ag n l h1 h2 h3
    subst hc
    refine ⟨_,_,rfl,h3,fun q d hq hqp => ?_⟩
    simp only [aresv] at hq
    split at hq <;> simp only [zA,Prod.mk.injEq,reduceCtorEq] at hq
    rename_i q' d' hqv
    obtain ⟨rfl,rfl⟩ := hq
    have hv := h.vr (x := .tmp t) (y := .t t) rfl hqp.1
    obtain ⟨es,p',hr,ht,hp'⟩ := reads_of (ev := evS st.env) h.h.know hv rfl hqv hqp.2
    obtain ⟨u,hu,hrun⟩ := load_sound h1 h2 hr ht hp'
    obtain ⟨b,o,he,_⟩ := hr
    refine ⟨u,hu,?_,?_⟩
    ·exact qv_lt (P := P) (s := s) (Z := Z) (o := .load ty (.tmp t)) (ao := .load ag n (.t t)) h.h.know (fun id ob hh => (h.h.lt id ob hh).2) (by simp [cop,h1,h2,opdC]) (fun x hx => by simp [opnds] at hx;subst hx;exact h.lr (x := .tmp t) rfl hqp.1) (fun x hx => by simp [opnds] at hx;subst hx;exact ⟨_,hv⟩) hqv hqp.2
    ·have := hrun w (More.refl w)
     have he' : a.tmps.getD t undef = .pointer (some ⟨b,o,none⟩) := he
     simp only [he']
     rw [← this,he]
     exact load_var
  obtain ⟨ar,ars',rfl,hcr,hkey⟩ := key
  simp only [aresl] at hr
  cases h1 : aresv st.env st.heap ar with
  | none => rw [h1] at hr;simp at hr
  | some qd =>
   obtain ⟨q,d⟩ := qd
   rw [h1] at hr
   cases h2 : aresl st.env st.heap ars' with
   | none => rw [h2] at hr;simp at hr
   | some qds =>
    obtain ⟨q',ds'⟩ := qds
    rw [h2] at hr
    simp only [zA,Prod.mk.injEq] at hr
    obtain ⟨rfl,rfl⟩ := hr
    obtain ⟨v,hv,hlt,hrun⟩ := hkey q d h1 hp.1
    obtain ⟨vs,g1,g2,g3,g4⟩ := res_run h rs ars' q' ds' hcr h2 hp.2
    refine ⟨v :: vs,by simp [g1],fun j x hx => ?_,fun x hx => ?_,?_⟩
    ·cases j with
     | zero => simp at hx;subst hx;exact hv
     | succ j => simpa using g2 j x (by simpa using hx)
    ·rcases List.mem_cons.1 hx with rfl | hx
     ·exact hlt
     ·exact g3 x hx
    ·rw [List.mapM_cons]
     simp only [Sem.run_bind]
     cases r <;> simp only [hrun,Result.andThen_ok,g4,Sem.run_pure]
end
section
variable {P : Program} {hw : List FuncId} {f : FuncId} {code : AC} {res : List AR} {n : Nat} {ds : List D} {H : List (Nat × Ob)} {nx : Nat} {R : D → List (Nat × Ob) → Nat → Prop}
theorem RelH.toN {F : Nat → Prop} {w0 : World} {n0 : Nat} {sb : Nat → Value} {Zb : Cells} {n : Nat} (m : Nat) {s : Nat → Value} {Z : Cells} {w : World} (h : RelH ⟨n,F,w0,n0,sb,Zb⟩ s Z H nx w) : RelH ⟨m,F,w0,n0,sb,Zb⟩ s Z H nx w :=
 ⟨h.ob,h.lt,h.apart,h.zok,h.zap,h.mine,h.fr,h.n0,h.bs,h.bz,h.bn⟩
theorem cfun_some (hc : cfun P hw f = some ⟨code,res,n⟩) : ∃ fn c,P.funcs[f]? = some fn ∧ fn.body = some c ∧ cco P n hw c = some code ∧ cres P fn.results.toList = some res ∧ fn.ntmps = n ∧ callable P f = true := by
 unfold cfun at hc
 split at hc
 case h_2 => cases hc
 rename_i fn hf
 split at hc
 ·cases hc
 rename_i hnm
 split at hc
 case h_2 => cases hc
 rename_i c hb
 split at hc
 case h_2 => cases hc
 rename_i c' r' h1 h2
 simp only [zA,AF.mk.injEq] at hc
 obtain ⟨rfl,rfl,rfl⟩ := hc
 refine ⟨fn,c,hf,hb,h1,h2,rfl,?_⟩
 unfold callable
 rw [hf]
 simp only [hb,Option.isSome_some,Bool.true_and]
 simpa using hnm
theorem body_sound {B : Base} {s : Nat → Value} {Z : Cells} {w : World} {vs : Array Value} (hm : P.follows .mixedOrders = true) (hc : cfun P hw f = some ⟨code,res,n⟩) (hBN : B.N = n) (hlen : ds.length ≤ n) (hno : ds.all argOk = true)
  (hlt : ∀ d ∈ ds,LtV nx d) (h : W P B hw code (Fin res R) ⟨envOf 0 ds,H,nx⟩) (hR : RelH B s Z H nx w) (hl : vs.size = ds.length) (hv : ∀ j x,ds[j]? = some x → VV s Z x (vs.getD j undef)) :
  Calls P f vs w fun e w' => ∃ v d H' nx' s' Z',e = .returned v ∧ VR s' Z' d v ∧ LtR nx' d ∧ RelH B s' Z' H' nx' w' ∧ R d H' nx' := by
 obtain ⟨fn,c,hf,hb,h1,h2,h3,hcal⟩ := cfun_some hc
 refine calls_of_wp hf hb ?_
 have rel : Rel B s Z ⟨envOf 0 ds,H,nx⟩ { tmps := vs ++ Array.replicate (fn.ntmps - vs.size) undef,defers := [] } w := by
  refine ⟨fun k => ?_,fun k => ?_,?_,rfl,hR⟩
  ·simp only [eget_envOf,Nat.zero_le,if_true,Nat.sub_zero]
   by_cases hk : k < ds.length
   ·have hx : ds[k]? = some (ds.getD k .any) := by rw [zC,zE hk];rfl
    have := hv k _ hx
    rw [Array.getD_eq_getD_getElem?,Array.getElem?_append_left (by omega),← Array.getD_eq_getD_getElem?]
    exact VS.of_vr (VR.of_vv this)
   ·rw [zC,List.getElem?_eq_none (by omega)];trivial
  ·simp only [eget_envOf,Nat.zero_le,if_true,Nat.sub_zero]
   by_cases hk : k < ds.length
   ·have hx : ds[k]? = some (ds.getD k .any) := by rw [zC,zE hk];rfl
    have hmem := zD hx
    have h4 := hlt _ hmem
    have h5 := List.all_eq_true.1 hno _ hmem
    generalize ds.getD k .any = d at *
    cases d <;> first | exact h4 | cases h5
   ·rw [zC,List.getElem?_eq_none (by omega)];trivial
  ·simp only [Array.size_append,Array.size_replicate];omega
 have hbody := h hm c (by rw [hBN];exact h1) s Z _ w rel
 have key : ∀ (e : Ex) (st : St) (s' : Nat → Value) (Z' : Cells) (a : Act) (w' : World),(e = .ret ∨ e = .normal) → Fin res R e st → Rel B s' Z' st a w' → a.defers = [] ∧ ∃ v,(results fn a.tmps).run P w' = .ok v w' ∧ ∃ v' d H' nx' s' Z',(.returned v : Ending) = .returned v' ∧ VR s' Z' d v' ∧ LtR nx' d ∧ RelH B s' Z' H' nx' w' ∧ R d H' nx' := by
  intro e st s' Z' a w' he hfin hr
  have hfin : match aresl st.env st.heap res with
    | some (p,ds) => (p ∧ ds.all argOk = true) ∧ R (resD ds) st.heap st.nx
    | none => False := by rcases he with rfl | rfl <;> exact hfin
  refine ⟨hr.defers,?_⟩
  split at hfin
  case h_2 => exact hfin.elim
  rename_i p es hes
  obtain ⟨⟨hp,hall⟩,hRd⟩ := hfin
  obtain ⟨us,g1,g2,g3,g4⟩ := res_run hr _ _ p es h2 hes hp
  have hrun : (fn.results.mapM (m := Sem) fun | .tmp t => pure (a.tmps.getD t undef) | .cell q t => do loadVar t (← asAddr (a.tmps.getD q undef))).run P w' = .ok us.toArray w' := by
   rw [Array.mapM_eq_mapM_toList,Sem.run_map]
   exact congrArg (fun r => Result.andThen r _) g4
  have hres : (results fn a.tmps).run P w' = (do let vs ← (fn.results.mapM (m := Sem) fun | .tmp t => pure (a.tmps.getD t undef) | .cell q t => do loadVar t (← asAddr (a.tmps.getD q undef)));pure (if h : vs.size = 1 then vs[0] else .tuple vs) : Sem Value).run P w' := rfl
  have hV : ∀ j x,es[j]? = some x → VV s' Z' x (us.getD j undef) := fun j x hx => by
   have q1 := g2 j x hx
   have q2 := List.all_eq_true.1 hall x (zD hx)
   cases x <;> first | exact q1 | cases q2
  have hLV : ∀ d ∈ es,LtV st.nx d := fun d hd => by
   have q1 := g3 d hd
   have q2 := List.all_eq_true.1 hall d hd
   cases d <;> first | exact q1 | cases q2
  match es,us,g1,hV,hLV,hRd,hrun with
  | [d],[u],_,hV,hLV,hRd,hrun =>
   refine ⟨u,?_,u,d,st.heap,st.nx,s',Z',rfl,VR.of_vv (hV 0 d rfl),?_,hr.h,hRd⟩
   ·rw [hres,Sem.run_bind,hrun]
    simp
   ·have := hLV d (by simp)
    cases d <;> first | exact this | (have q := hV 0 _ rfl;cases q;done)
  | [],[],_,hV,hLV,hRd,hrun =>
   refine ⟨.tuple #[],?_,.tuple #[],.tup [],st.heap,st.nx,s',Z',rfl,⟨#[],rfl,rfl,fun j x hx => by simp at hx⟩,fun d hd => by simp at hd,hr.h,hRd⟩
   rw [hres,Sem.run_bind,hrun]
   simp
  | d :: d' :: es,u :: u' :: us,g1,hV,hLV,hRd,hrun =>
   refine ⟨.tuple (u :: u' :: us).toArray,?_,_,.tup (d :: d' :: es),st.heap,st.nx,s',Z',rfl,⟨_,rfl,by simpa using g1,fun j x hx => ?_⟩,hLV,hr.h,hRd⟩
   ·rw [hres,Sem.run_bind,hrun]
    simp
   ·simpa [Array.getD_eq_getD_getElem?,zC] using hV j x hx
 refine wp_mono hbody fun e a w' hl => ?_
 cases e with
 | normal => obtain ⟨st,s',Z',q1,q2⟩ := hl;exact key .normal st s' Z' a w' (.inr rfl) q1 q2
 | ret => obtain ⟨st,s',Z',q1,q2⟩ := hl;exact key .ret st s' Z' a w' (.inl rfl) q1 q2
 | exit id => obtain ⟨st,s',Z',q1,q2⟩ := hl;exact q1.elim
 | _ => exact hl.elim
theorem HF.of (hm : P.follows .mixedOrders = true) (hc : cfun P hw f = some ⟨code,res,n⟩) (hlen : ds.length ≤ n) (hno : ds.all argOk = true) (hlt : ∀ d ∈ ds,LtV nx d) (h : ∀ B : Base,B.N = n → B.n0 = nx → W P B hw code (Fin res R) ⟨envOf 0 ds,H,nx⟩) : HF P f ds H nx R := by
 obtain ⟨fn,c,hf,hb,h1,h2,h3,hcal⟩ := cfun_some hc
 refine ⟨hcal,fun F s Z w vs hR hl hv => ?_⟩
 refine (body_sound (B := ⟨n,F,w,nx,s,Z⟩) hm hc rfl hlen hno hlt (h _ rfl rfl) (hR.toN n) hl hv).mono ?_
 rintro e w' ⟨v,d,H',nx',s',Z',he,q1,q2,q3,q4⟩
 exact ⟨v,d,H',nx',s',Z',he,q1,q2,q3.toN 0,q4⟩
theorem noV_lt {d : D} (h : noV d = true) : LtV 0 d := by
 cases d with
 | agg ds => exact fun x hx => by have := List.all_eq_true.1 h x hx;cases x <;> first | trivial | cases this
 | own _ => cases h
 | ptr _ _ => cases h
 | pel _ _ _ _ => cases h
 | sl _ _ _ _ _ => cases h
 | clo _ _ => cases h
 | _ => trivial
theorem empty_rel (n : Nat) (Z : Cells) (w : World) (hz : ∀ b o v,Z b o = some v → w.cell? ⟨b,o,none⟩ = some v) : RelH ⟨n,fun _ => False,w,0,s0,Z⟩ s0 Z [] 0 w :=
 ⟨(fun _ _ h => by cases h),(fun _ _ h => by cases h),(fun _ _ _ _ _ h => by cases h),hz,(fun _ _ _ _ h => by cases h),(fun _ _ _ h => by cases h),Fr.refl _ _,Nat.le_refl _,fun _ _ => rfl,fun _ _ _ h => h,fun _ _ _ h => .inl h⟩
noncomputable def Zown (Z : Cells) (H : List (Nat × Ob)) (s : Nat → Value) (w : World) : Cells := open Classical in fun b o => if ∃ id ob,hget H id = some ob ∧ blk (s id) = some b then w.cell? ⟨b,o,none⟩ else Z b o
def Rbr (e : D) (d : D) (H : List (Nat × Ob)) (_ : Nat) : Prop := match brwR H d with | some e' => leR e' e | none => False
theorem Rbr_at (e d : D) (H : List (Nat × Ob)) (nx : Nat) : Rbr e d H nx = (match brwR H d with | some e' => leR e' e | none => False) := rfl
theorem PF.of {e : D} (hm : P.follows .mixedOrders = true) (hc : cfun P hw f = some ⟨code,res,n⟩) (hlen : ds.length ≤ n) (hno : ds.all argOk = true) (hnv : ds.all noV = true)
  (h : ∀ B : Base,B.N = n → B.n0 = 0 → W P B hw code (Fin res (Rbr e)) ⟨envOf 0 ds,[],0⟩) : PF P f ds e := by
 obtain ⟨fn,c,hf,hb,h1,h2,h3,hcal⟩ := cfun_some hc
 refine ⟨hcal,fun Z w vs hz hl hv => ?_⟩
 refine (body_sound (B := ⟨n,fun _ => False,w,0,s0,Z⟩) hm hc rfl hlen hno (fun d hd => noV_lt (List.all_eq_true.1 hnv d hd)) (h _ rfl rfl) (empty_rel n Z w hz) hl hv).mono ?_
 rintro x w' ⟨v,d,H',nx',s',Z',he,q1,q2,q3,q4⟩
 have hbel : Below w.heap.size w w' := ⟨q3.fr.os,q3.fr.tape,q3.fr.output,q3.fr.size,fun k hk => q3.fr.block k hk (fun h => h)⟩
 unfold Rbr at q4
 split at q4
 case h_2 => exact q4.elim
 rename_i e' he'
 refine ⟨v,Zown Z' H' s' w',he,leR_sound q4 (brwR_sound q3.know (fun b o u hu => ?_) (fun id ob b hid hb o u hu => ?_) he' q1),⟨fun b o u hu => ?_,fun b o u hu => ?_,fun b o u hu => ?_⟩,hbel⟩
 ·unfold Zown
  split
  ·exact q3.zok b o u hu
  ·exact hu
 ·unfold Zown
  rw [if_pos ⟨id,ob,hid,hb⟩]
  exact hu
 ·unfold Zown
  split
  ·exact q3.zok b o u (q3.bz b o u hu)
  ·exact q3.bz b o u hu
 ·unfold Zown at hu
  split at hu
  ·rename_i hx
   obtain ⟨id,ob,hid,hb⟩ := hx
   rcases q3.mine id ob b hid hb with h5 | h5
   ·exact .inr h5
   ·exact h5.elim
  ·rcases q3.bn b o u hu with h5 | h5 | h5
   ·exact .inl h5
   ·exact .inr h5
   ·exact h5.elim
 ·unfold Zown at hu
  split at hu
  ·exact hu
  ·exact q3.zok b o u hu
def frC (H : List (Nat × Ob)) : Nat → D → Prop
 | n,.own id => match n with
  | 0 => False
  | n + 1 => match hget H id with
   | some (.row _ xs) => ∀ row ∈ xs,∀ d ∈ row,flatC d = true
   | some (.rowd _ xs) => ∀ row ∈ xs,∀ d ∈ row,frC H n d
   | _ => False
 | n,.ptr id _ => match n with
  | 0 => False
  | n + 1 => match hget H id with
   | some (.cells ds) => ∀ d ∈ ds,frC H n d
   | _ => False
 | _,.nil0 => True
 | _,d => flatC d = true
def frV (H : List (Nat × Ob)) : D → Prop
 | .agg ds => ∀ d ∈ ds,frC H 4 d
 | d => frC H 4 d
def frR (H : List (Nat × Ob)) : D → Prop
 | .tup ds => ∀ d ∈ ds,frV H d
 | d => frV H d
section
variable {B : Base} {s : Nat → Value} {Z Zn : Cells} {w : World}
end
def Rfr (e : D) (d : D) (H : List (Nat × Ob)) (_ : Nat) : Prop := (match brwR H d with | some e' => leR e' e | none => False) ∧ frR H d
theorem Rfr_at (e d : D) (H : List (Nat × Ob)) (nx : Nat) : Rfr e d H nx = ((match brwR H d with | some e' => leR e' e | none => False) ∧ frR H d) := rfl
end
def rnS (ρ : Nat → Nat) : D → D
 | .opt g d => .opt g (rnR ρ d)
 | d => rnR ρ d
theorem VS.rn {s s' : Nat → Value} {Z : Cells} {ρ : Nat → Nat} {n : Nat} (hs : ∀ id,id < n → s' (ρ id) = s id) {d : D} {v : Value} (hl : LtS n d) : VS s' Z (rnS ρ d) v ↔ VS s Z d v := by
 cases d with
 | opt g d => exact ⟨fun h => ⟨fun hg => (VR.rn hs (hl hg)).1 (h.1 hg),h.2⟩,fun h => ⟨fun hg => (VR.rn hs (hl hg)).2 (h.1 hg),h.2⟩⟩
 | tup ds => exact VR.rn (Z := Z) (d := .tup ds) hs hl
 | agg ds => exact VR.rn (Z := Z) (d := .agg ds) hs hl
 | own id => exact VR.rn (Z := Z) (d := .own id) hs hl
 | ptr id j => exact VR.rn (Z := Z) (d := .ptr id j) hs hl
 | pel id i sz j => exact VR.rn (Z := Z) (d := .pel id i sz j) hs hl
 | sl id sz off len cap => exact VR.rn (Z := Z) (d := .sl id sz off len cap) hs hl
 | clo f ids => exact VR.rn (Z := Z) (d := .clo f ids) hs hl
 | _ => exact Iff.rfl
def lget (l : List Nat) (id : Nat) : Nat := l.getD id id
section
variable {P : Program} {B : Base} {hw : List FuncId} {Q Q' : Ex → St → Prop} {st st1 : St} {sb : Bool} {K : St → Prop}
theorem Gh.ren (l : List Nat) (h0 : B.n0 ≤ st1.nx) (hl : ∀ id,id < B.n0 → lget l id = id) (he : ∀ p ∈ st1.env,eget st.env p.1 = rnS (lget l) p.2 ∧ LtS st1.nx p.2)
  (hh : ∀ p ∈ st1.heap,p.1 < st1.nx ∧ LtO st1.nx p.2 ∧ hget st.heap (lget l p.1) = some (rnO (lget l) p.2)) (hnd : (st1.heap.map fun p => lget l p.1).Nodup ∨ l = []) : Gh B st st1 := by
 intro s Z a w hr
 have hE : ∀ k,eget st1.env k = .any ∨ (k,eget st1.env k) ∈ st1.env := fun k => by
  have : ∀ l : List (Nat × D),eget l k = .any ∨ (k,eget l k) ∈ l := fun l => by
   induction l with
   | nil => exact .inl rfl
   | cons p l ih =>
    obtain ⟨j,d⟩ := p
    simp only [eget]
    split
    ·rename_i e;subst e;exact .inr (List.mem_cons_self ..)
    ·exact ih.imp id (List.mem_cons_of_mem _)
  exact this _
 refine ⟨fun id => s (lget l id),Z,⟨fun k => ?_,fun k => ?_,hr.size,hr.defers,?_⟩⟩
 ·rcases hE k with h | h
  ·rw [h];trivial
  ·obtain ⟨h1,h2⟩ := he _ h
   exact (VS.rn (s' := s) (fun _ _ => rfl) h2).1 (by rw [← h1];exact hr.env k)
 ·rcases hE k with h | h
  ·rw [h];trivial
  ·exact (he _ h).2
 ·have hH : ∀ id ob,hget st1.heap id = some ob → id < st1.nx ∧ LtO st1.nx ob ∧ hget st.heap (lget l id) = some (rnO (lget l) ob) := fun id ob h => hh _ (hget_mem h)
  have inj : ∀ id id' ob ob',hget st1.heap id = some ob → hget st1.heap id' = some ob' → id ≠ id' → lget l id ≠ lget l id' := fun id id' ob ob' h1 h2 hne e => by
   rcases hnd with hnd | rfl
   ·have m1 := hget_mem h1
    have m2 := hget_mem h2
    obtain ⟨i,hi⟩ := zF m1
    obtain ⟨j,hj⟩ := zF m2
    have g1 : (st1.heap.map fun p => lget l p.1)[i]? = some (lget l id) := by rw [List.getElem?_map,hi];rfl
    have g2 : (st1.heap.map fun p => lget l p.1)[j]? = some (lget l id') := by rw [List.getElem?_map,hj];rfl
    obtain ⟨l1,e1⟩ := zB.1 g1
    obtain ⟨l2,e2⟩ := zB.1 g2
    have : i = j := (List.getElem_inj hnd).1 (by rw [e1,e2];exact e)
    subst this
    rw [hi] at hj
    cases hj
    exact hne rfl
   ·exact hne (by simpa [lget] using e)
  refine ⟨fun id ob h => ?_,fun id ob h => ?_,fun id id' ob ob' b h h' hne hb => ?_,hr.h.zok,fun id ob b o h hb => ?_,fun id ob b h hb => ?_,hr.h.fr,h0,fun id hid => ?_,hr.h.bz,hr.h.bn⟩
  ·obtain ⟨h1,h2,h3⟩ := hH id ob h
   exact (ObOk.rn (s' := s) (fun _ _ => rfl) h2).1 (hr.h.ob _ _ h3)
  ·obtain ⟨h1,h2,h3⟩ := hH id ob h
   exact ⟨h1,h2⟩
  ·exact hr.h.apart _ _ _ _ b (hH id ob h).2.2 (hH id' ob' h').2.2 (inj id id' ob ob' h h' hne) hb
  ·exact hr.h.zap _ _ b o (hH id ob h).2.2 hb
  ·exact hr.h.mine _ _ b (hH id ob h).2.2 hb
  ·rw [hl id hid];exact hr.h.bs id hid
def LK {α : Type} (B : Base) (S : α → St) (I : Nat → α → Prop) (n : Nat) (st : St) : Prop := ∃ m y',Gh B st (S y') ∧ m < n ∧ I m y'
theorem W.loopS {α : Type} {x : AC} (S : α → St) (I : Nat → α → Prop) (h0 : ∃ n y,Gh B st (S y) ∧ I n y)
  (hround : ∀ n y,I n y → W P B hw x (seqQ (LK B S I n) Q) (S y)) : W P B hw (.loop x) Q st := by
 refine W.loop (fun n st => ∃ y,st = S y ∧ I n y) ?_ ?_
 ·obtain ⟨n,y,h1,h2⟩ := h0
  exact ⟨n,S y,h1,y,rfl,h2⟩
 ·rintro n _ ⟨y,rfl,h⟩
  refine (hround n y h).mono fun e st' h' => ?_
  cases e with
  | normal => obtain ⟨m,y',h1,h2,h3⟩ := h';exact ⟨m,S y',h1,h2,y',rfl,h3⟩
  | _ => exact h'
theorem WCall.pf {f : FuncId} {as_ : List Opd} {es : List D} {d : D} {dst : Option Nat} (hpf : PF P f es d) (hok : oks st.env (.call f as_) = true) (hes : match omap (brwV st.heap) (as_.map (evS st.env)) with | some e => leVL e es | none => False) (hno : ((as_.map (evS st.env)).all noV || flatR d) = true)
  (hK : K ⟨putO st.env dst d,st.heap,st.nx⟩) : WCall P sb B (.call f as_) dst st K := WCall.of hok (CallOk.pf hpf hes hno hK)
end
section
variable {B : Base} {st : St}
theorem Gh.adopt (k sz : Nat) (h0 : 0 < sz) (hk : eget st.env k = .nil0) : Gh B st ⟨eput st.env k (.own st.nx),eput st.heap st.nx (.row sz []),st.nx + 1⟩ := by
 intro s Z a w hr
 have hv := hr.env k
 rw [hk] at hv
 have hv : VT Z .nil0 (a.tmps.getD k undef) := hv
 generalize hav : a.tmps.getD k undef = v at hv
 cases hv with
 | nil0 q =>
 have hH := hr.h.new (w' := w) (v := .slice q 0 0) (ob := .row sz []) (Below.refl _ _) ⟨h0,(fun _ h => by cases h),.inl ⟨rfl,q,rfl⟩⟩ trivial (fun k hk => by cases q <;> simp [blk] at hk)
 refine ⟨_,Z,fun j => ?_,fun j => ?_,hr.size,hr.defers,hH⟩
 ·rw [eget_eput]
  split
  ·rename_i e;subst e;rw [hav];exact ⟨(upd_same _ _ _).symm,.inl ⟨q,0,0,rfl⟩⟩
  ·exact (hr.env j).mono (fun _ _ _ h => h) (upd_lt s st.nx _) (hr.elt j)
 ·rw [eget_eput]
  split
  ·exact Nat.lt_succ_self _
  ·exact (hr.elt j).mono (Nat.le_succ _)
end
theorem mn_min (a b : Int) : (if b < a then b else a) = min a b := by split <;> omega
theorem mx_max (a b : Int) : (if a < b then b else a) = max a b := by split <;> omega
abbrev I (z : Int) : D := .int .i64 z
theorem splice_one (l : List D) (j : Nat) (v : D) (h : j < l.length) : splice l j [v] = l.set j v := by
 unfold splice
 rw [List.set_eq_take_append_cons_drop,if_pos h]
 simp
theorem splice_more (l : List D) (j : Nat) (x y : D) (es : List D) : splice l j (x :: y :: es) = l.take j ++ (x :: y :: es) ++ l.drop (j + (es.length + 1 + 1)) := rfl
theorem gr0 {B : Base} {st st1 : St} (l : List Nat) (hB : B.n0 = 0) (he : ∀ p ∈ st1.env, eget st.env p.1 = rnS (lget l) p.2 ∧ LtS st1.nx p.2)
  (hh : ∀ p ∈ st1.heap, p.1 < st1.nx ∧ LtO st1.nx p.2 ∧ hget st.heap (lget l p.1) = some (rnO (lget l) p.2)) (hnd : (st1.heap.map fun p => lget l p.1).Nodup ∨ l = []) : Gh B st st1 :=
  Gh.ren l (by rw [hB]; exact Nat.zero_le _) (fun id h => by rw [hB] at h; exact absurd h (Nat.not_lt_zero _)) he hh hnd
theorem rho_0 (nx id : Nat) : rho [] 0 nx id = nx + id := by simp [rho]
theorem WCall.hf0 {P : Program} {sb : Bool} {B : Base} {st : St} {K : St → Prop} {f : FuncId} {as_ : List Opd} {ds0 : List D} {dst : Option Nat} {R : D → List (Nat × Ob) → Nat → Prop} (hf : HF P f ds0 [] 0 R) (hok : oks st.env (.call f as_) = true)
  (hds : as_.map (evS st.env) = ds0) (hao : ds0.all argOk = true) (hno : ds0.all noV = true)
  (hK : ∀ d H' nx',R d H' nx' → K ⟨putO st.env dst (rnR (rho [] 0 st.nx) d),hputs (rho [] 0 st.nx) H' st.heap,st.nx + nx'⟩) : WCall P sb B (.call f as_) dst st K := by
 have hlt : ∀ d ∈ ds0,LtV 0 d := fun d hd => noV_lt (List.all_eq_true.1 hno d hd)
 have hid : ∀ d ∈ ds0,rnV (rho [] 0 st.nx) d = d := fun d hd => by
  have h := List.all_eq_true.1 hno d hd
  have hc : ∀ x,noC x = true → rnC (rho [] 0 st.nx) x = x := fun x hx => by cases x <;> first | rfl | cases hx
  cases d with
  | agg ds =>
   simp only [rnV]
   congr 1
   refine (List.map_congr_left fun x hx => ?_).trans (List.map_id ds)
   exact hc x (List.all_eq_true.1 h x hx)
  | _ => first | rfl | cases h
 refine WCall.of hok (CallOk.hf hf (fun _ => rfl) [] rfl List.nodup_nil (fun k hk => by cases hk) ?_ hao hlt (fun p hp => by cases hp) fun d H' nx' _ hR => hK d H' nx' hR)
 rw [hds]
 conv => lhs;rw [← List.map_id ds0]
 exact List.map_congr_left fun d hd => (hid d hd).symm
theorem Gh.nilC {B : Base} {st : St} (id j sz : Nat) (ds : List D) (hh : hget st.heap id = some (.cells ds)) (hk : ds[j]? = some .nil0) : Gh B st ⟨st.env,eput st.heap id (.cells (ds.set j (.rows sz []))),st.nx⟩ := by
 intro s Z a w hr
 obtain ⟨b,T,cs,hb,hg,hsz,hc⟩ := hr.h.ob _ _ hh
 have hv : VT Z .nil0 (cs.getD j undef) := hc j _ hk
 refine ⟨s,Z,hr.env,hr.elt,hr.size,hr.defers,?_⟩
 refine hr.h.write (k := b) hh (by rw [hb];rfl) ⟨rfl,rfl,rfl,rfl,fun _ _ => rfl⟩ ?_ ?_
 ·refine ⟨b,T,cs,hb,hg,by simpa using hsz,fun i x hx => ?_⟩
  rw [List.getElem?_set] at hx
  split at hx
  ·rename_i e
   subst e
   split at hx
   ·simp only [zA] at hx
    subst hx
    generalize cs.getD j undef = v at hv
    cases hv
    exact VT.rnil _ _ _
   ·cases hx
  ·exact hc i x hx
 ·intro x hx
  rcases List.mem_or_eq_of_mem_set hx with hx | rfl
  ·exact (hr.h.lt _ _ hh).2 x hx
  ·trivial
abbrev Ent := List Int × List Int × Nat
section
variable {P : Program}
end
def Sl {α : Type} (w : World) (sz : Nat) (E : α → List Value) (v : Value) (xs : List α) : Prop :=
 ∃ a cap,v = .slice a xs.length cap ∧ xs.length ≤ cap ∧ (a = none → cap = 0) ∧ (xs ≠ [] → ∃ b off,a = some ⟨b,off,none⟩ ∧ b < w.heap.size ∧
  ∀ i x j u,xs[i]? = some x → (E x)[j]? = some u → w.cell? ⟨b,off + i * sz + j,none⟩ = some u)
theorem Sl.nil {α : Type} (w : World) (sz : Nat) (E : α → List Value) : Sl w sz E (.slice none 0 0) [] := ⟨none,0,rfl,Nat.le_refl _,fun _ => rfl,fun h => absurd rfl h⟩
end Go.Proofs.Ytmdhegbdffbfoaa
namespace Go.Proofs.Ytmdhegbdffbfoaa
open Go.RowKit Go.Shelf Go.Lib Go.Sort
def sortSp_ren : Go.Shelf.Ren := ⟨fun | 6 => 22 | 15 => 32 | 14 => 31 | 28 => 47 | 29 => 48 | 20 => 39 | 21 => 40 | 22 => 41 | 23 => 42 | 24 => 43 | 25 => 44 | 26 => 45 | 27 => 46 | 46 => 50 | 47 => 51 | 48 => 52 | 49 => 53 | 50 => 54 | 57 => 55 | n => n,
 fun | 22 => 23 | 24 => 35 | 25 => 55 | 3 => 3 | 39 => 63 | 0 => 0 | 53 => 74 | 55 => 84 | 4 => 4 | 46 => 77 | 45 => 76 | 50 => 70 | 5 => 5 | 9 => 9 | 66 => 86 | 70 => 90 | 76 => 92 | 77 => 93 | n => n,
 fun | n => n⟩
theorem sortSp : SlLaysF0.n6 Try.prog sortSp_ren := {
 mixed := by kernel_rfl,
 f6 := ⟨Try.f22.name,by decide,Try.func22.trans (congrArg some (by kernel_rfl))⟩,
 f14 := ⟨Try.f31.name,by decide,Try.func31.trans (congrArg some (by kernel_rfl))⟩,
 f15 := Try.func32.trans (congrArg some (by kernel_rfl)),
 f20 := ⟨Try.f39.name,by decide,Try.func39.trans (congrArg some (by kernel_rfl))⟩,
 f21 := ⟨Try.f40.name,by decide,Try.func40.trans (congrArg some (by kernel_rfl))⟩,
 f22 := ⟨Try.f41.name,by decide,Try.func41.trans (congrArg some (by kernel_rfl))⟩,
 f23 := ⟨Try.f42.name,by decide,Try.func42.trans (congrArg some (by kernel_rfl))⟩,
 f24 := ⟨Try.f43.name,by decide,Try.func43.trans (congrArg some (by kernel_rfl))⟩,
 f25 := ⟨Try.f44.name,by decide,Try.func44.trans (congrArg some (by kernel_rfl))⟩,
 f26 := ⟨Try.f45.name,by decide,Try.func45.trans (congrArg some (by kernel_rfl))⟩,
 f27 := ⟨Try.f46.name,by decide,Try.func46.trans (congrArg some (by kernel_rfl))⟩,
 f28 := Try.func47.trans (congrArg some (by kernel_rfl)),
 f29 := Try.func48.trans (congrArg some (by kernel_rfl)),
 f46 := ⟨Try.f50.name,by decide,Try.func50.trans (congrArg some (by kernel_rfl))⟩,
 f47 := Try.func51.trans (congrArg some (by kernel_rfl)),
 f48 := Try.func52.trans (congrArg some (by kernel_rfl)),
 f49 := ⟨Try.f53.name,by decide,Try.func53.trans (congrArg some (by kernel_rfl))⟩,
 f50 := ⟨Try.f54.name,by decide,Try.func54.trans (congrArg some (by kernel_rfl))⟩,
 f57 := ⟨Try.f55.name,by decide,Try.func55.trans (congrArg some (by kernel_rfl))⟩,
 t0 := Try.underlying0,
 a0 := Try.isAgg0,
 z0 := Try.sizeOf0,
 v0 := Try.zeroValue0,
 t3 := Try.underlying3,
 a3 := Try.isAgg3,
 z3 := Try.sizeOf3,
 v3 := Try.zeroValue3,
 t4 := Try.underlying4,
 a4 := Try.isAgg4,
 z4 := Try.sizeOf4,
 v4 := Try.zeroValue4,
 t5 := Try.underlying5,
 a5 := Try.isAgg5,
 z5 := Try.sizeOf5,
 v5 := Try.zeroValue5,
 t9 := Try.underlying9,
 a9 := Try.isAgg9,
 z9 := Try.sizeOf9,
 v9 := Try.zeroValue9,
 t22 := Try.underlying23,
 a22 := Try.isAgg23,
 z22 := Try.sizeOf23,
 v22 := Try.zeroValue23,
 t25 := Try.underlying55,
 a25 := Try.isAgg55,
 z25 := Try.sizeOf55,
 v25 := Try.zeroValue55,
 t39 := Try.underlying63,
 a39 := Try.isAgg63,
 z39 := Try.sizeOf63,
 v39 := Try.zeroValue63,
 t45 := Try.underlying76,
 a45 := Try.isAgg76,
 z45 := Try.sizeOf76,
 v45 := Try.zeroValue76,
 t46 := Try.underlying77,
 a46 := Try.isAgg77,
 z46 := Try.sizeOf77,
 v46 := Try.zeroValue77,
 t50 := Try.underlying70,
 a50 := Try.isAgg70,
 z50 := Try.sizeOf70,
 v50 := Try.zeroValue70,
 t53 := Try.underlying74,
 a53 := Try.isAgg74,
 z53 := Try.sizeOf74,
 v53 := Try.zeroValue74,
 t55 := Try.underlying84,
 a55 := Try.isAgg84,
 z55 := Try.sizeOf84,
 v55 := Try.zeroValue84,
 t66 := Try.underlying86,
 a66 := Try.isAgg86,
 z66 := Try.sizeOf86,
 v66 := Try.zeroValue86,
 t70 := Try.underlying90,
 a70 := Try.isAgg90,
 z70 := Try.sizeOf90,
 v70 := Try.zeroValue90,
 t76 := Try.underlying92,
 a76 := Try.isAgg92,
 z76 := Try.sizeOf92,
 v76 := Try.zeroValue92,
 t77 := Try.underlying93,
 a77 := Try.isAgg93,
 z77 := Try.sizeOf93,
 v77 := Try.zeroValue93 }
def cmpIn_ren : Go.Shelf.Ren := ⟨fun | 5 => 34 | 7 => 49 | n => n,
 fun | 22 => 3 | 3 => 3 | 4 => 4 | n => n,
 fun | n => n⟩
theorem cmpIn : SlLaysC2.n5 Try.prog cmpIn_ren := {
 mixed := by kernel_rfl,
 f5 := ⟨Try.f34.name,by decide,Try.func34.trans (congrArg some (by kernel_rfl))⟩,
 f7 := ⟨Try.f49.name,by decide,Try.func49.trans (congrArg some (by kernel_rfl))⟩,
 t3 := Try.underlying3,
 a3 := Try.isAgg3,
 z3 := Try.sizeOf3,
 v3 := Try.zeroValue3,
 t4 := Try.underlying4,
 a4 := Try.isAgg4,
 z4 := Try.sizeOf4,
 v4 := Try.zeroValue4,
 t22 := Try.underlying3,
 a22 := Try.isAgg3,
 z22 := Try.sizeOf3,
 v22 := Try.zeroValue3 }
def orZ (x y : Int) : Int := if x ≠ 0 then x else y
theorem or_calls (b off c : Nat) (x y : Int) (W : World) (hx : W.cell? ⟨b,off,none⟩ = some (.int .i64 x)) (hy : W.cell? ⟨b,off + 1,none⟩ = some (.int .i64 y)) :
  Calls Try.prog 33 #[.slice (some ⟨b,off,none⟩) 2 c] W fun e w' => e = .returned (.int .i64 (orZ x y)) ∧ w' = W := by
 go_enter Try.func33,Try.ntmps33
 go_wp2
 go_loop [5,8] (fun _ i => ∃ k : Nat,k ≤ 2 ∧ i = .int .i64 k ∧ (0 < k → x = 0) ∧ (1 < k → y = 0)) (fun _ i => match i with | .int _ m => 2 - m.toNat | _ => 0)
 case atStart => exact ⟨0,Nat.zero_le _,rfl,by simp,by simp⟩
 case round =>
  obtain ⟨k,hk,rfl,h1,h2⟩ := hrel
  rcases (show k = 0 ∨ k = 1 ∨ k = 2 by omega) with rfl | rfl | rfl
  ·go_wp2
   ·go_ret
    refine ⟨?_,rfl⟩
    unfold orZ
    simp_all
   ·refine ⟨⟨1,by omega,rfl,fun _ => by simp_all,fun h => by omega⟩,by simp⟩
  ·obtain rfl := h1 (by omega)
   go_wp2
   ·go_ret
    refine ⟨?_,rfl⟩
    unfold orZ
    simp_all
   ·refine ⟨⟨2,by omega,rfl,fun _ => by simp_all,fun _ => by simp_all⟩,by simp⟩
  ·obtain rfl := h1 (by omega)
   obtain rfl := h2 (by omega)
   go_wp2
   go_ret
   exact ⟨rfl,rfl⟩
def cfSp (a b : Int × Int) : Int := orZ (Lib.compareInt a.1 b.1) (Lib.compareInt a.2 b.2)
theorem order_calls (a b : Int × Int) (W : World) : Calls Try.prog 23 #[.agg #[.int .i64 a.1,.int .i64 a.2],.agg #[.int .i64 b.1,.int .i64 b.2]] W fun e w' => e = .returned (.int .i64 (cfSp a b)) ∧ ∃ q os',w' = grow (W.drewN q) os' := by
 have hcon := fun x y W' => AnyG.cmp_Compare_int cmpIn x y W'
 change ∀ x y W',Calls Try.prog 34 _ _ _ at hcon
 have hor := or_calls
 obtain ⟨a1,a2⟩ := a
 obtain ⟨b1,b2⟩ := b
 unfold cfSp
 simp only
 go_enter Try.func23,Try.ntmps23
 go_wp2
 obtain ⟨w1,hw1⟩ : ∃ w1,w1 = ((W.alloc (.cells #[.int .i64 a1,.int .i64 a2] 35)).alloc (.cells #[.int .i64 b1,.int .i64 b2] 35)) := ⟨_,rfl⟩
 have hg1 : w1 = grow W #[.cells #[.int .i64 a1,.int .i64 a2] 35,.cells #[.int .i64 b1,.int .i64 b2] 35] := by rw [hw1,alloc_eq_grow,alloc_eq_grow,grow_grow];rfl
 have c1 : w1.cell? ⟨W.heap.size,0,none⟩ = some (.int .i64 a1) := by rw [hg1];simp [World.cell?,grow]
 have c2 : w1.cell? ⟨W.heap.size,1,none⟩ = some (.int .i64 a2) := by rw [hg1];simp [World.cell?,grow]
 have c3 : w1.cell? ⟨W.heap.size + 1,0,none⟩ = some (.int .i64 b1) := by rw [hg1];simp [World.cell?,grow]
 have c4 : w1.cell? ⟨W.heap.size + 1,1,none⟩ = some (.int .i64 b2) := by rw [hg1];simp [World.cell?,grow]
 rw [← hw1]
 clear hw1
 refine wp_region_still_tail 10 (by kernel_rfl) (by kernel_rfl) ?_
 obtain ⟨w2,hw2⟩ : ∃ w2,w2 = ({ w1 with drawn := w1.drawn + 1 } : World) := ⟨_,rfl⟩
 have hg2 : ∃ os',w2 = grow (W.drewN 1) os' := ⟨_,by rw [hw2,hg1];rfl⟩
 replace c1 : w2.cell? ⟨W.heap.size,0,none⟩ = some (.int .i64 a1) := by rw [hw2];exact c1
 replace c2 : w2.cell? ⟨W.heap.size,1,none⟩ = some (.int .i64 a2) := by rw [hw2];exact c2
 replace c3 : w2.cell? ⟨W.heap.size + 1,0,none⟩ = some (.int .i64 b1) := by rw [hw2];exact c3
 replace c4 : w2.cell? ⟨W.heap.size + 1,1,none⟩ = some (.int .i64 b2) := by rw [hw2];exact c4
 rw [← hw2]
 clear hw2 hg1
 simp only [List.take_succ_cons,List.take_zero,List.drop_succ_cons,List.drop_zero]
 repeat still_step
 still_call (hcon _ _ _)
 repeat still_step
 still_call (hcon _ _ _)
 refine wpStill_nil ?_
 have d1 : ∀ l1 l2 : Value,(w2.alloc (.cells #[l1,l2] 3)).cell? ⟨w2.heap.size,0,none⟩ = some l1 := fun l1 l2 => by rw [alloc_eq_grow];unfold World.cell? grow;simp only [Array.getElem?_append_right (Nat.le_refl _),Nat.sub_self];rfl
 have d2 : ∀ l1 l2 : Value,(w2.alloc (.cells #[l1,l2] 3)).cell? ⟨w2.heap.size,0 + 1,none⟩ = some l2 := fun l1 l2 => by rw [alloc_eq_grow];unfold World.cell? grow;simp only [Array.getElem?_append_right (Nat.le_refl _),Nat.sub_self];rfl
 go_wp2_with (go_at_call 33;refine (hor w2.heap.size 0 2 (Lib.compareInt a1 b1) (Lib.compareInt a2 b2) _ (d1 _ _) (d2 _ _)).mono ?_;rintro e w' ⟨rfl,rfl⟩)
 go_ret
 obtain ⟨os',rfl⟩ := hg2
 rw [alloc_eq_grow,grow_grow]
 exact ⟨rfl,1,_,rfl⟩
def spE (a : Int × Int) : List D := [I a.1,I a.2]
def encSp (a : Int × Int) : List Value := [.int .i64 a.1,.int .i64 a.2]
theorem ltSp (a b : Int × Int) : ltOf cfSp a b = decide (a.1 < b.1 ∨ (a.1 = b.1 ∧ a.2 < b.2)) := by
 unfold ltOf cfSp orZ Lib.compareInt
 obtain ⟨a1,a2⟩ := a
 obtain ⟨b1,b2⟩ := b
 simp only
 by_cases h1 : a1 < b1 <;> by_cases h2 : b1 < a1 <;> by_cases h3 : a2 < b2 <;> by_cases h4 : b2 < a2 <;> simp [h1,h2,h3,h4] <;> omega
theorem swoSp : SWO (ltOf cfSp) where
 irrefl x := by rw [ltSp];simp
 trans x y z h1 h2 := by rw [ltSp] at *;simp at *;omega
 ntrans x y z h1 h2 := by rw [ltSp] at *;simp at *;omega
theorem totSp (x y : Int × Int) (h1 : ltOf cfSp x y = false) (h2 : ltOf cfSp y x = false) : x = y := by
 rw [ltSp] at *
 simp at *
 exact Prod.ext (by omega) (by omega)
def sortM (l : List (Int × Int)) : List (Int × Int) := l.mergeSort fun x y => !(ltOf cfSp) y x
theorem sortM_len (l : List (Int × Int)) : (sortM l).length = l.length := List.length_mergeSort l
theorem vtInt {Z : Cells} {z : Int} {v : Value} (h : VT Z (I z) v) : v = .int .i64 z := by cases h;rfl
theorem spsort_hf (xs : List (Int × Int)) (h0 : xs ≠ []) (hl : xs.length < 1000000) :
  HF Try.prog 22 [.own 0,.fn 23 []] [(0,.row 2 (xs.map spE))] 1 (fun d H' nx' => d = .tup [] ∧ H' = [(0,.row 2 ((sortM xs).map spE))] ∧ nx' = 1) := by
 refine ⟨by kernel_rfl,fun F s Z w vs hR hlen hv => ?_⟩
 obtain ⟨v0,v1,rfl⟩ : ∃ v0 v1,vs = #[v0,v1] := by
  match vs,hlen with
  | ⟨[v0,v1]⟩,_ => exact ⟨_,_,rfl⟩
 have e0 : v0 = s 0 := (hv 0 _ rfl).1
 have e1 := hv 1 _ rfl
 have hob : RowOk (VT Z) w 2 (xs.map spE) (s 0) := hR.ob 0 _ rfl
 obtain ⟨k1,k2,⟨h,_⟩ | ⟨g,cap,cur,e,k3,k4,k5,k6,k7,k8⟩⟩ := hob
 ·exact absurd (List.map_eq_nil_iff.1 h) h0
 rw [List.length_map] at k3 k5
 have hx0 : 0 < xs.length := List.length_pos_iff.2 h0
 have hgl : g < w.heap.size := Array.getElem?_eq_some_iff.1 k4 |>.1
 have hsz : cur.size = cap * 2 := k7
 have hcl : xs.length * 2 ≤ cur.size := by omega
 have hcell : ∀ i (hi : i < xs.length),cur.getD (i * 2 + 0) undef = .int .i64 xs[i].1 ∧ cur.getD (i * 2 + 1) undef = .int .i64 xs[i].2 := fun i hi =>
  ⟨vtInt <| k8 i (spE xs[i]) 0 (I xs[i].1) (by rw [List.getElem?_map,zE hi];rfl) rfl,vtInt <| k8 i (spE xs[i]) 1 (I xs[i].2) (by rw [List.getElem?_map,zE hi];rfl) rfl⟩
 have hH : HoldsK encSp 2 w g 0 xs.toArray := fun t ht => by
  rw [size_flatK,List.size_toArray] at ht
  have hi : t / 2 < xs.length := by omega
  obtain ⟨c1,c2⟩ := hcell (t / 2) hi
  have hcu : w.cell? ⟨g,0 + t,none⟩ = some (cur.getD t undef) := by
   unfold World.cell?
   simp only [k4,Nat.zero_add]
   rw [Array.getD_eq_getD_getElem?,Array.getElem?_eq_getElem (by omega)]
   rfl
  have hfz : w.frozen? ⟨g,0 + t,none⟩ = false := by
   unfold World.frozen?
   simp only [k4]
   rfl
  refine ⟨?_,hfz⟩
  rw [hcu,get_flatK _ _ _ _ (by rw [List.size_toArray];exact ht)]
  have hx : xs.toArray[t / 2]! = xs[t / 2] := by simp [hi]
  rw [hx]
  rcases (show t % 2 = 0 ∨ t % 2 = 1 by omega) with hm | hm
  ·rw [hm,show cur.getD t undef = cur.getD (t / 2 * 2 + 0) undef by rw [show t / 2 * 2 + 0 = t by omega],c1]
   simp [encSp]
  ·rw [hm,show cur.getD t undef = cur.getD (t / 2 * 2 + 1) undef by rw [show t / 2 * 2 + 1 = t by omega],c2]
   simp [encSp]
 have eg : ∀ args w,(callFunc 23 args).run Try.prog w = .ok (.enter 23 args) w := enters_of Try.func23 (by kernel_rfl) rfl
 have hcmp : CmpLays Try.prog 23 #[] encSp 2 cfSp g 0 xs.toArray.size w := fun m os dk _ x y => order_calls x y _
 have hcon := AnyQ.slices_SortFunc_total sortSp 2 Try.isAgg35 Try.sizeOf35 encSp (fun _ => rfl) (fun x v hv => by simp [encSp] at hv;rcases hv with rfl | rfl <;> rfl) cfSp swoSp 23 #[] g 0 cap xs.toArray w eg hcmp hH hgl (by simp;omega) totSp
 change Calls Try.prog 22 _ _ _ at hcon
 have e2 : v1 = .func (.func 23) #[] #[] := by
  cases e1 with
  | fn _ _ us h1 _ => obtain rfl : us = #[] := Array.eq_empty_of_size_eq_zero h1;rfl
 rw [e0,e2,k3]
 refine Calls.mono (by simpa using hcon) ?_
 rintro e' w' ⟨rfl,n,os,rfl⟩
 obtain ⟨ys,hys⟩ : ∃ ys,ys = sortM xs := ⟨_,rfl⟩
 have hyl : ys.length = xs.length := by rw [hys];exact sortM_len xs
 rw [show (xs.mergeSort fun x y => !(ltOf cfSp) y x) = ys from hys.symm,← hys]
 obtain ⟨w1,hw1⟩ : ∃ w1,w1 = putRowK encSp 2 (Sort.ahead w n) g 0 ys.toArray := ⟨_,rfl⟩
 have hwg : w1.heap[g]? = some (.cells (putCells id 0 (flatK encSp 2 ys.toArray) cur) e (0,0)) := by
  rw [hw1]
  simp [putRowK,putRow,mapBlock,Sort.ahead,Array.getElem?_modify,k4,onCells]
 have hon : Only g w w1 := by
  rw [hw1]
  refine ⟨rfl,rfl,rfl,by simp [putRowK,putRow,mapBlock,Sort.ahead],fun j hj => ?_⟩
  simp [putRowK,putRow,mapBlock,Sort.ahead,Array.getElem?_modify,Ne.symm hj]
 have hH1 : HoldsK encSp 2 w1 g 0 ys.toArray := by
  rw [hw1]
  exact holdsK_putRowK _ _ _ _ _ xs.toArray _ hH (by simp [hyl])
 have hzs : (putCells id 0 (flatK encSp 2 ys.toArray) cur).size = cap * 2 := by simp [putCells,hsz]
 have hyc : ∀ i (hi : i < ys.length) c,c < 2 → (putCells id 0 (flatK encSp 2 ys.toArray) cur).getD (i * 2 + c) undef = (encSp ys[i])[c]! := fun i hi c hc => by
  have h1 := (HoldsK.cell hH1 (i := i) (c := c) (by simpa using hi) hc).1
  unfold World.cell? at h1
  simp only [hwg,Nat.zero_add] at h1
  have h2 : ys.toArray[i]! = ys[i] := by simp [hi]
  rw [h2] at h1
  have h3 : (putCells id 0 (flatK encSp 2 ys.toArray) cur)[i * 2 + c]? = some (encSp ys[i])[c]! := h1
  rw [Array.getD_eq_getD_getElem?,h3]
  rfl
 have hlast : (eput [(0,Ob.row 2 (xs.map spE))] 0 (Ob.row 2 (ys.map spE))) = [(0,Ob.row 2 (ys.map spE))] := by simp [eput]
 have hrel : RelH ⟨0,F,w,1,s,Z⟩ s Z [(0,.row 2 (ys.map spE))] 1 w1 := by
  rw [← hlast]
  refine hR.write (id := 0) rfl (k := g) (by rw [k3];simp [blk];omega) hon ?_ ?_
  ·refine ⟨by omega,fun row hr => ?_,.inr ⟨g,cap,_,e,by rw [k3,List.length_map,hyl],hwg,by rw [List.length_map,hyl];exact k5,k6,hzs,fun i row j d hi hj => ?_⟩⟩
   ·obtain ⟨y,_,rfl⟩ := List.mem_map.1 hr;rfl
   ·rw [List.getElem?_map] at hi
    cases hy : ys[i]? with
    | none => rw [hy] at hi;cases hi
    | some y =>
     obtain ⟨hil,rfl⟩ := zB.1 hy
     rw [hy] at hi
     obtain rfl : spE ys[i] = row := Option.some.inj hi
     match j,hj with
     | 0,hj => obtain rfl : I ys[i].1 = d := Option.some.inj hj;rw [hyc i hil 0 (by omega)];exact .int _ _
     | 1,hj => obtain rfl : I ys[i].2 = d := Option.some.inj hj;rw [hyc i hil 1 (by omega)];exact .int _ _
     | j + 2,hj => simp [spE] at hj
  ·simp [LtO]
 refine ⟨.tuple #[],.tup [],_,1,s,Z,rfl,⟨#[],rfl,rfl,fun j x h => by simp at h⟩,by simp [LtR],?_,rfl,rfl,rfl⟩
 have hb : Below w1.heap.size w1 (sortWorldK encSp 2 w g 0 n ys.toArray os) := by
  have : sortWorldK encSp 2 w g 0 n ys.toArray os = grow w1 os := by rw [hw1];rfl
  rw [this]
  refine ⟨rfl,rfl,rfl,by simp [grow],fun k hk => by simp [grow,Array.getElem?_append,hk]⟩
 exact hrel.call hb (Zx.refl hrel.zok hb)
theorem spsort0_hf : HF Try.prog 22 [.own 0,.fn 23 []] [(0,.row 2 [])] 1 (fun d H' nx' => d = .tup [] ∧ H' = [(0,.row 2 [])] ∧ nx' = 1) := by
 refine ⟨by kernel_rfl,fun F s Z w vs hR hlen hv => ?_⟩
 obtain ⟨v0,v1,rfl⟩ : ∃ v0 v1,vs = #[v0,v1] := by
  match vs,hlen with
  | ⟨[v0,v1]⟩,_ => exact ⟨_,_,rfl⟩
 have e0 : v0 = s 0 := (hv 0 _ rfl).1
 have hob : RowOk (VT Z) w 2 [] (s 0) := hR.ob 0 _ rfl
 obtain ⟨p,cap,hs⟩ : ∃ p cap,s 0 = .slice p 0 cap := by
  obtain ⟨_,_,⟨_,a,h⟩ | ⟨g,cap,_,_,h,_⟩⟩ := hob
  ·exact ⟨a,0,h⟩
  ·exact ⟨_,cap,h⟩
 have hcon := AnyF.slices_SortFunc_none sortSp p cap v1 w
 change Calls Try.prog 22 _ _ _ at hcon
 rw [e0,hs]
 refine Calls.mono hcon ?_
 rintro e' w' ⟨rfl,hw⟩
 subst hw
 exact ⟨.tuple #[],.tup [],_,1,s,Z,rfl,⟨#[],rfl,rfl,fun j x h => by simp at h⟩,by simp [LtR],hR,rfl,rfl,rfl⟩
theorem spsortA_hf (xs : List (Int × Int)) (hl : xs.length < 1000000) :
  HF Try.prog 22 [.own 0,.fn 23 []] [(0,.row 2 (xs.map spE))] 1 (fun d H' nx' => d = .tup [] ∧ H' = [(0,.row 2 ((sortM xs).map spE))] ∧ nx' = 1) := by
 by_cases h : xs = []
 ·subst h
  have : sortM [] = [] := by unfold sortM;exact List.mergeSort_nil
  rw [this]
  exact spsort0_hf
 ·exact spsort_hf xs h hl
end Go.Proofs.Ytmdhegbdffbfoaa
namespace Go.Proofs.Ytmdhegbdffbfoaa
open Go.RowKit
abbrev oM (d a : Nat) : AO := ⟨some d, .mov (.t a), none⟩
abbrev oF (d o a : Nat) : AO := ⟨some d, .fad o (.t a), none⟩
abbrev oL (d n a : Nat) : AO := ⟨some d, .load false n (.t a), none⟩
abbrev oA (d n a : Nat) : AO := ⟨some d, .load true n (.t a), none⟩
abbrev oS (n a b : Nat) : AO := ⟨none, .store n (.t a) (.t b), none⟩
abbrev oN (d a : Nat) : AO := ⟨some d, .nchk (.t a), none⟩
abbrev oE (d a i : Nat) : AO := ⟨some d, .ext (.t a) i, none⟩
abbrev oH (d a : Nat) : AO := ⟨some d, .len (.t a), none⟩
abbrev oB (d a : Nat) : AO := ⟨some d, .box (.t a), none⟩
abbrev oI (d z a b : Nat) : AO := ⟨some d, .iads z (.t a) (.t b), none⟩
abbrev oK (d : Nat) (z : Int) : AO := ⟨some d, .mov (.k (.int .i64 z)), none⟩
abbrev oX (d : Nat) (o : AOp) : AO := ⟨some d, o, none⟩
abbrev oY (o : AOp) : AO := ⟨none, o, none⟩
abbrev oG (d : Nat) (o : AOp) (g : Nat) (b : Bool) : AO := ⟨some d, o, some (g, b)⟩
abbrev kI (z : Int) : Opd := .k (.int .i64 z)
abbrev qZ : D := .int .i64 0
abbrev qF : D := .bool false
abbrev qT : D := .bool true
abbrev qN (o : AO) (r : ASch) : ASch := .one true o r
abbrev qR (n : Nat) (l : List AO) : AC := .region n l
attribute [local simp] AK_at acode_seq acode_region acode_draw acode_cond CB_u acode_block acode_loop acode_exit acode_scope acode_ret acode_skip seqQ_n seqQ_e seqQ_r blockQ_n blockQ_e blockQ_r TK_at OK_at SK_at aops_nil aops_cons asch_done asch_one asch_two asch_top astep aop_eq isLoud aloud aloud1 isWrite qv evS strip gof eget hget putO eput herase oks opnds gS afin afin0 binD arith D.cells takeD fillD keep trim envOf Fin aresl aresv resD argOk pickV isP deq deqs boundD slD lenD isT isSl ptrIds chunks mn_min mx_max splice_one splice_more Rbr_at Rfr_at frR frV frC flatC brwR brwV brwC omap leR leV leC leL leVL rnR rnV rnC rnO rho_0 hputs herases rnS LtS LtR LtV LtC LtO lget noV noC flatR flatV rho
attribute [local simp ↓] CB_t CB_f
theorem follows_ok : Try.prog.follows .mixedOrders = true := by kernel_rfl
theorem picked_code : cfun Try.prog [] 13 = some ⟨(.seq (qR 0 [oK 4 0]) (.seq (.seq (qR 1 [oM 5 0,oX 6 (.bin .lss (.t 5) (kI 0))]) (.cond 6 (qR 2 [oM 7 0,oX 8 (.bin .add (.t 7) (kI 1)),oX 9 (.neg (.t 8)),oM 0 9]) .skip)) (.seq (qR 3 [oM 10 0,oM 11 1,oX 12 (.bin .rem (.t 10) (.t 11)),oM 4 12]) .ret))),[(.t 4)],13⟩ := by kernel_rfl
theorem picked_pf (n m : Int) (hn : InR n) (hm : 1 ≤ m) : PF Try.prog 13 [.int .i64 n,.int .i64 m] (.int .i64 (pickedZ n m)) := by
 refine PF.of follows_ok picked_code (by simp) (by simp) (by simp) fun B _ _ => acode_sound [0,1,4,6] [] _ _ _ ?_
 simp
 refine ⟨fun h => ⟨?_,?_,by omega,?_⟩,fun h => ⟨by omega,?_⟩⟩
 ·unfold InR at *;omega
 ·unfold InR at *;omega
 ·have h2 : ¬ 0 < n + 1 := by omega
  simp [pickedZ,h,h2]
 ·have : ¬ n < 0 := by omega
  simp [pickedZ,this]
theorem law_of_pf {f : FuncId} {ds : List D} (h : PF Try.prog f ds (.bool true)) (W : World) (vs : Array Value) (hl : vs.size = ds.length) (hv : ∀ j x,ds[j]? = some x → VV s0 (allZ W) x (vs.getD j undef)) :
  Calls Try.prog f vs W fun e W' => e = .returned (.bool true) ∧ Below W.heap.size W W' :=
 (h.2 (allZ W) W vs (fun b o v h => h) hl hv).mono fun e w' ⟨v,Z',he,hr,_,hb⟩ => ⟨by rw [he,hr.bool_inv],hb⟩
theorem args_nil {Z : Cells} : ∀ (j : Nat) (x : D),([] : List D)[j]? = some x → VV s0 Z x ((#[] : Array Value).getD j undef) := fun j x h => by simp at h
theorem args_cons {Z : Cells} {d : D} {ds : List D} {v : Value} {vs : List Value} (h : VV s0 Z d v) (ht : ∀ j x,ds[j]? = some x → VV s0 Z x (vs.toArray.getD j undef)) : ∀ (j : Nat) (x : D),(d :: ds)[j]? = some x → VV s0 Z x ((v :: vs).toArray.getD j undef) := fun j x hx => by
 cases j with
 | zero => simp at hx;subst hx;exact h
 | succ j => simpa using ht j x (by simpa using hx)
theorem Sl.rows {α : Type} {W : World} {sz : Nat} {E : α → List Value} {F : α → List D} {v : Value} {xs : List α} (h : Sl W sz E v xs) (hF : ∀ x ∈ xs,(E x).length = sz ∧ (F x).length = sz ∧ ∀ (j : Nat) (d : D),(F x)[j]? = some d → ∃ u,(E x)[j]? = some u ∧ ∀ Z,VT Z d u) : VT (allZ W) (.rows sz (xs.map F)) v := by
 obtain ⟨a,cap,rfl,hcap,h0,h3⟩ := h
 cases xs with
 | nil =>
  exact VT.rnil _ _ _
 | cons x0 xs =>
  obtain ⟨b,off,rfl,hb,hc⟩ := h3 (by simp)
  have key : ∀ (i : Nat) (row : List D) (j : Nat) (d : D),((x0 :: xs).map F)[i]? = some row → row[j]? = some d → ∃ x u,(x0 :: xs)[i]? = some x ∧ (E x)[j]? = some u ∧ j < sz ∧ ∀ Z,VT Z d u := fun i row j d hi hj => by
   obtain ⟨x,hx,rfl⟩ := (map_get _ _ _ _).1 hi
   obtain ⟨g1,g2,g3⟩ := hF x (zD hx)
   obtain ⟨u,hu,hv⟩ := g3 j d hj
   exact ⟨x,u,hx,hu,by rw [← g2];exact (zB.1 hj).1,hv⟩
  have hlen : (x0 :: xs).length = ((x0 :: xs).map F).length := by simp
  rw [hlen]
  refine VT.rows sz _ b off cap (fun i j => ((x0 :: xs)[i]?.bind fun x => (E x)[j]?).getD undef) (by rw [← hlen];exact hcap) (fun i row j d hi hj => ?_) (fun i row j d hi hj => ?_)
  ·obtain ⟨x,u,hx,hu,hjs,hv⟩ := key i row j d hi hj
   refine ⟨hjs,?_⟩
   simp only [hx,Option.bind_some,hu,Option.getD_some]
   exact hc i x j u hx hu
  ·obtain ⟨x,u,hx,hu,hjs,hv⟩ := key i row j d hi hj
   simp only [hx,Option.bind_some,hu,Option.getD_some]
   exact hv _
theorem hO {hw : List FuncId} {f : FuncId} {code : AC} {res : List AR} {n : Nat} {ds : List D} {H : List (Nat × Ob)} {nx : Nat} {R : D → List (Nat × Ob) → Nat → Prop} (hc : cfun Try.prog hw f = some ⟨code, res, n⟩) (ks ss : List Nat) (h : ∀ B : Base, B.N = n → B.n0 = nx → acode Try.prog B hw ks ss code (Fin res R) ⟨envOf 0 ds, H, nx⟩) (h1 : ds.length ≤ n := by simp) (h2 : ds.all argOk = true := by simp) (h3 : ∀ d ∈ ds, LtV nx d := by simp) : HF Try.prog f ds H nx R :=
 HF.of follows_ok hc h1 h2 h3 fun B a b => acode_sound ks ss _ _ _ (h B a b)
theorem pO {hw : List FuncId} {f : FuncId} {code : AC} {res : List AR} {n : Nat} {ds : List D} {e : D} (hc : cfun Try.prog hw f = some ⟨code, res, n⟩) (ks ss : List Nat) (h : ∀ B : Base, B.N = n → B.n0 = 0 → acode Try.prog B hw ks ss code (Fin res (Rbr e)) ⟨envOf 0 ds, [], 0⟩) (h1 : ds.length ≤ n := by simp) (h2 : ds.all argOk = true := by simp) (h3 : ds.all noV = true := by simp) : PF Try.prog f ds e :=
 PF.of follows_ok hc h1 h2 h3 fun B a b => acode_sound ks ss _ _ _ (h B a b)
end Go.Proofs.Ytmdhegbdffbfoaa
namespace Go.Proofs.Ytmdhegbdffbfoaa
open Go.RowKit
theorem inW {z : Int} (h1 : -9223372036854775808 ≤ z) (h2 : z ≤ 9223372036854775807) : InR z := ⟨h1,h2⟩
theorem WCall.hf {P : Program} {sb : Bool} {B : Base} {st : St} {K : St → Prop} {f : FuncId} {as_ : List Opd} {ds0 : List D} {dst : Option Nat} {H0 : List (Nat × Ob)} {n0 : Nat} {R : D → List (Nat × Ob) → Nat → Prop} (l : List Nat) (hf : HF P f ds0 H0 n0 R)
  (hok : oks st.env (.call f as_) = true) (hsb : sb = false) (hl : l.length = n0) (hnd : l.Nodup) (hlt : ∀ k ∈ l,k < st.nx)
  (hds : as_.map (evS st.env) = ds0.map (rnV (rho l n0 st.nx))) (hao : ds0.all argOk = true) (hdl : ∀ d ∈ ds0,LtV n0 d)
  (hH0 : ∀ p ∈ H0,p.1 < n0 ∧ LtO n0 p.2 ∧ hget st.heap (rho l n0 st.nx p.1) = some (rnO (rho l n0 st.nx) p.2))
  (hK : ∀ d H' nx',R d H' nx' → K ⟨putO st.env dst (rnR (rho l n0 st.nx) d),hputs (rho l n0 st.nx) H' (herases l st.heap),st.nx + (nx' - n0)⟩) : WCall P sb B (.call f as_) dst st K :=
 WCall.of hok (CallOk.hf hf (fun h => by rw [hsb] at h;cases h) l hl hnd hlt hds hao hdl hH0 fun d H' nx' _ hR => hK d H' nx' hR)
theorem wH {P : Program} {sb : Bool} {B : Base} {st : St} {K : St → Prop} {f : FuncId} {as_ : List Opd} {ds0 : List D} {dst : Option Nat} {H0 : List (Nat × Ob)} {n0 : Nat} {R : D → List (Nat × Ob) → Nat → Prop} (l : List Nat) (hf : HF P f ds0 H0 n0 R)
  (hK : ∀ d H' nx', R d H' nx' → K ⟨putO st.env dst (rnR (rho l n0 st.nx) d), hputs (rho l n0 st.nx) H' (herases l st.heap), st.nx + (nx' - n0)⟩)
  (hok : oks st.env (.call f as_) = true := by simp) (hsb : sb = false := by rfl) (hl : l.length = n0 := by rfl) (hnd : l.Nodup := by decide) (hlt : ∀ k ∈ l, k < st.nx := by simp)
  (hds : as_.map (evS st.env) = ds0.map (rnV (rho l n0 st.nx)) := by simp) (hao : ds0.all argOk = true := by simp) (hdl : ∀ d ∈ ds0, LtV n0 d := by simp)
  (hH0 : ∀ p ∈ H0, p.1 < n0 ∧ LtO n0 p.2 ∧ hget st.heap (rho l n0 st.nx p.1) = some (rnO (rho l n0 st.nx) p.2) := by simp) : WCall P sb B (.call f as_) dst st K :=
 WCall.hf l hf hok hsb hl hnd hlt hds hao hdl hH0 hK
end Go.Proofs.Ytmdhegbdffbfoaa
namespace Go.Proofs.Ytmdhegbdffbfoaa
open Go.RowKit
attribute [local simp] AK_at acode_seq acode_region acode_draw acode_cond CB_u acode_block acode_loop acode_exit acode_scope acode_ret acode_skip seqQ_n seqQ_e seqQ_r blockQ_n blockQ_e blockQ_r TK_at OK_at SK_at aops_nil aops_cons asch_done asch_one asch_two asch_top astep aop_eq isLoud aloud aloud1 isWrite qv evS strip gof eget hget putO eput herase oks opnds gS afin afin0 binD arith D.cells takeD fillD keep trim envOf Fin aresl aresv resD argOk pickV isP deq deqs boundD slD lenD isT isSl ptrIds chunks mn_min mx_max splice_one splice_more Rbr_at Rfr_at frR frV frC flatC brwR brwV brwC omap leR leV leC leL leVL rnR rnV rnC rnO rho_0 hputs herases rnS LtS LtR LtV LtC LtO lget noV noC flatR flatV rho
attribute [local simp ↓] CB_t CB_f
def Els {α : Type} (n : Nat) (E : α → List D) (l : List α) : Prop := ∀ x ∈ l,(E x).length = n ∧ ∀ d ∈ E x,isT d = true
theorem Els.len {α : Type} {n : Nat} {E : α → List D} {l : List α} (h : Els n E l) {x : α} (hx : x ∈ l) : (E x).length = n := (h x hx).1
theorem Els.rows {α : Type} {n : Nat} {E : α → List D} {l : List α} (h : Els n E l) : ∀ r ∈ l.map E,r.length = n := fun r hr => by
 obtain ⟨x,hx,rfl⟩ := List.mem_map.1 hr
 exact (h x hx).1
theorem spcln_code : cfun Try.prog [] 20 = some ⟨(.seq (qR 0 [oX 2 (.mov (.k .nil0))]) (.seq (.seq (qR 1 [oM 3 0,oX 4 (.isnil false (.t 3))]) (.cond 4 (.seq (qR 2 [oX 2 (.mov (.k .nil0))]) .ret) .skip)) (.seq (qR 3 [oX 5 (.bslice 2 0 [qZ,qZ] []),oM 6 0,oX 7 (.app 2 16 [qZ,qZ] (.t 5) (.t 6)),oM 2 7]) .ret))),[(.t 2)],8⟩ := by kernel_rfl
theorem spcln_hf {α : Type} (E : α → List D) (l : List α) (hl : l.length < 1000000) (hE : Els 2 E l) : HF Try.prog 20 [.rows 2 (l.map E)] [] 0 (fun d H' nx' => (d = .nil0 ∧ l = [] ∧ H' = [] ∧ nx' = 0) ∨ (d = .own 1 ∧ H' = [(1,.row 2 (l.map E))] ∧ nx' = 2)) := by
 have h2 : l.length * 16 ≤ 140737488355328 := by omega
 have h3 := hE.rows
 refine hO spcln_code [0,2,4] [] fun B hBN hB0 => ?_
 simp [h2]
 exact fun a ha => hE.len ha
theorem speq_code : cfun Try.prog [] 29 = some ⟨(.seq (qR 0 [oX 4 (.mov (.k qF))]) (.seq (.seq (qR 1 [oM 6 0,oH 7 6,oM 8 1,oH 9 8,oX 10 (.bin .neq (.t 7) (.t 9))]) (.cond 10 (.seq (qR 2 [oX 4 (.mov (.k qF))]) .ret) .skip)) (.seq (.seq (qR 3 [oM 11 0,oH 12 11,oK 13 0]) (.block 0 (.loop (.seq (qR 4 [oX 14 (.bin .lss (.t 13) (.t 12))]) (.seq (.cond 14 .skip (.exit 0)) (.seq (.block 1 (.seq (qR 5 [oM 15 13,oM 5 15]) (.seq (.draw 6 (qN (oM 16 0) (qN (oM 17 5) (qN (oI 18 2 16 17) (qN (oA 19 2 18) (qN (oM 20 1) (qN (oM 21 5) (qN (oI 22 2 20 21) (qN (oA 23 2 22) (qN (oX 24 (.eqa true [.i,.i] (.t 19) (.t 23))) .done)))))))))) (.cond 24 (.seq (qR 7 [oX 4 (.mov (.k qF))]) .ret) .skip)))) (qR 8 [oX 25 (.bin .add (.t 13) (kI 1)),oM 13 25]))))))) (.seq (qR 9 [oX 4 (.mov (.k qT))]) .ret)))),[(.t 4)],26⟩ := by kernel_rfl
theorem speq_pf (l : List (Int × Int)) (hl : l.length ≤ 1000000) : PF Try.prog 29 [.rows 2 (l.map fun s => [I s.1,I s.2]),.rows 2 (l.map fun s => [I s.1,I s.2])] (.bool true) := by
 refine pO speq_code [0,1,4,5,10,12,13,14,24] [] fun B hBN hB0 => ?_
 simp
 refine W.loopS (fun i : Nat => ⟨[(13,I i),(12,I l.length),(4,.bool false),(1,D.rows 2 (l.map fun s => [I s.1,I s.2])),(0,D.rows 2 (l.map fun s => [I s.1,I s.2]))],[],0⟩)
  (fun n i => n = l.length - i ∧ i ≤ l.length) ?_ ?_
 ·exact ⟨_,0,(gr0 [] hB0 (by simp) (by simp) (.inr rfl)),rfl,by omega⟩
 rintro n i ⟨hn,hi⟩
 refine acode_sound [0,1,4,5,10,12,13,14,24] [] _ _ _ ?_
 by_cases hlt : i < l.length
 ·have ii : InR ((i : Int) + 1) := inW (by omega) (by omega)
  simp [hlt,ii]
  exact ⟨_,i + 1,(gr0 [] hB0 (by simp) (by simp) (.inr rfl)),by omega,rfl,by omega⟩
 ·obtain rfl : i = l.length := by omega
  simp
theorem inG {z : Int} (h1 : -9223372036854775808 ≤ z) (h2 : z ≤ 9223372036854775807) : InR z := ⟨h1,h2⟩
theorem hspot_pf (b i : Int) (hb : 0 ≤ b) (hb' : b < 12) (hi : 0 ≤ i) (hi' : i < 32) : PF Try.prog 30 [I b,I i] (.tup [I (spotN b.toNat i.toNat : Nat),I 0]) := by
 refine ⟨by kernel_rfl,fun Z w vs hz hl hv => ?_⟩
 obtain ⟨v0,v1,rfl⟩ : ∃ v0 v1,vs = #[v0,v1] := by
  match vs,hl with
  | ⟨[v0,v1]⟩,_ => exact ⟨_,_,rfl⟩
 have e0 : v0 = .int .i64 b := vtInt (hv 0 _ rfl)
 have e1 : v1 = .int .i64 i := vtInt (hv 1 _ rfl)
 subst e0 e1
 refine (hashSpot_any b i w hb hb' hi hi').mono fun e w' ⟨he,hB⟩ => ⟨_,Z,he,⟨_,rfl,rfl,fun j x h => ?_⟩,Zx.refl hz hB,hB⟩
 match j,h with
 | 0,h => obtain rfl := Option.some.inj h;exact VT.int _ _
 | 1,h => obtain rfl := Option.some.inj h;exact VT.int _ _
 | j + 2,h => simp at h
def spotAt (b i : Nat) : Int × Int := ((spotN b i : Nat),b)
def spotsM (b n : Nat) : List (Int × Int) := (List.range n).map (spotAt b)
theorem spotsM_succ (b n : Nat) : spotsM b (n + 1) = spotsM b n ++ [spotAt b n] := by unfold spotsM;rw [List.range_succ,List.map_append];rfl
theorem spotsM_len (b n : Nat) : (spotsM b n).length = n := by simp [spotsM]
theorem rspots_code : cfun Try.prog [] 21 = some ⟨(.seq (qR 0 [oX 4 (.mov (.k .nil0))]) (.seq (qR 1 [oX 5 (.mov (.k .nil0))]) (.seq (.seq (qR 2 [oM 9 1,oX 10 (.bin .mul (.t 9) (kI 4)),oK 11 0]) (.block 0 (.loop (.seq (qR 3 [oX 12 (.bin .lss (.t 11) (.t 10))]) (.seq (.cond 12 .skip (.exit 0)) (.seq (.block 1 (.seq (qR 4 [oM 13 11,oM 6 13]) (.seq (qR 5 [oM 15 0,oM 16 6,oX 17 (.call 30 [(.t 15),(.t 16)]),oM 14 17,oE 18 14 0,oE 19 14 1,oM 7 18,oM 8 19]) (qR 6 [oM 20 5,oM 21 7,oM 22 0,oX 23 (.build [qZ,qZ] [(0,(1,(.t 21))),(1,(1,(.t 22)))]),oX 24 (.bslice 2 1 [qZ,qZ] [(0,(.t 23))]),oX 25 (.app 2 16 [qZ,qZ] (.t 20) (.t 24)),oM 5 25])))) (qR 7 [oX 26 (.bin .add (.t 11) (kI 1)),oM 11 26]))))))) (.seq (qR 8 [oM 27 5,oM 4 27]) .ret)))),[(.t 4)],28⟩ := by kernel_rfl
theorem rspots_pf (b w : Nat) (hb : b < 12) (hw : w ≤ 8) : PF Try.prog 21 [I b,I w] (.rows 2 ((spotsM b (4 * w)).map spE)) := by
 have i1 : InR ((w : Int) * 4) := inG (by omega) (by omega)
 refine pO rspots_code [0,1,4,5,6,7,10,11,12] [] fun B hBN hB0 => ?_
 simp [i1]
 refine W.loopS (fun i : Nat => ⟨[(11,I i),(10,I ((w : Int) * 4)),(5,.own 0),(4,.nil0),(1,I w),(0,I b)],[(0,.row 2 ((spotsM b i).map spE))],1⟩)
  (fun n i => n = 4 * w - i ∧ i ≤ 4 * w) ?_ ?_
 ·refine ⟨_,0,(Gh.adopt 5 2 (by omega) (by simp)).trans ?_,rfl,by omega⟩
  simp
  exact (gr0 [0] hB0 (by simp [spotsM]) (by simp [spotsM]) (.inl (by simp [spotsM])))
 rintro n i ⟨hn,hi⟩
 refine acode_sound [0,1,4,5,6,7,10,11,12] [] _ _ _ ?_
 by_cases hlt : i < 4 * w
 ·have hz : (i : Int) < w * 4 := by omega
  have hs := hspot_pf b i (by omega) (by omega) (by omega) (by omega)
  rw [Int.toNat_natCast,Int.toNat_natCast] at hs
  have hsl := spotsM_len b i
  have hcap : (i + 1) * 16 ≤ 140737488355328 := by omega
  have ii : InR ((i : Int) + 1) := inG (by omega) (by omega)
  have hss := spotsM_succ b i
  repeat' (first
   | simp [hz,hsl,hcap,ii]
   | refine ⟨wcS ?_,?_⟩
   | (refine WCall.pf (hs) ?_ ?_ ?_ ?_;iterate 3 (solve|simp [hz,hsl,hcap,ii]))
   | with_reducible refine aI ?_ ?_ ?_)
  all_goals exact ⟨_,i + 1,(gr0 [2] hB0 (by simp [hss,spE,spotAt]) (by simp [hss,spE,spotAt]) (.inl (by simp [hss,spE,spotAt]))),by omega,rfl,by omega⟩
 ·obtain rfl : i = 4 * w := by omega
  have hz : ¬ (4 * (w : Int)) < w * 4 := by omega
  simp [hz]
structure WOk (ws : List Nat) : Prop where
 len : ws.length = 12
 le : ∀ w ∈ ws,w ≤ 8
def wantM (ws : List Nat) (k : Nat) : List (Int × Int) := (List.range k).flatMap fun b => spotsM b (4 * ws.getD b 0)
def ringM (ws : List Nat) : List (Int × Int) := sortM (wantM ws 12)
def isB (b : Nat) (s : Int × Int) : Bool := decide (s.2 = (b : Int))
def cntS (l : List (Int × Int)) : List Int := (List.range 12).map fun b => ((l.countP (isB b) : Nat) : Int)
theorem wantM_succ (ws : List Nat) (k : Nat) : wantM ws (k + 1) = wantM ws k ++ spotsM k (4 * ws.getD k 0) := by unfold wantM;rw [List.range_succ,List.flatMap_append];simp
theorem wantM_len (ws : List Nat) (h : WOk ws) : ∀ k,(wantM ws k).length ≤ 32 * k
 | 0 => by simp [wantM]
 | k + 1 => by
  have ih := wantM_len ws h k
  have : ws.getD k 0 ≤ 8 := by
   by_cases hk : k < ws.length
   ·rw [zC,zE hk];exact h.le _ (List.getElem_mem hk)
   ·rw [zC,List.getElem?_eq_none (by omega)];simp
  rw [wantM_succ,List.length_append,spotsM_len];omega
theorem spotsM_mem {b n : Nat} {s : Int × Int} (h : s ∈ spotsM b n) : s.2 = (b : Int) := by
 obtain ⟨i,_,rfl⟩ := List.mem_map.1 h;rfl
theorem wantM_mem {ws : List Nat} {k : Nat} {s : Int × Int} (h : s ∈ wantM ws k) : 0 ≤ s.2 ∧ s.2 < k := by
 obtain ⟨b,hb,hs⟩ := List.mem_flatMap.1 h
 have := spotsM_mem hs
 have := List.mem_range.1 hb
 omega
theorem ringM_perm (ws : List Nat) : (ringM ws).Perm (wantM ws 12) := List.mergeSort_perm _ _
theorem ringM_mem {ws : List Nat} {s : Int × Int} (h : s ∈ ringM ws) : 0 ≤ s.2 ∧ s.2 < 12 := wantM_mem ((ringM_perm ws).mem_iff.1 h)
theorem ringM_len (ws : List Nat) (h : WOk ws) : (ringM ws).length ≤ 384 := by rw [(ringM_perm ws).length_eq];exact wantM_len ws h 12
theorem cnt_spots (b c n : Nat) : (spotsM c n).countP (isB b) = if c = b then n else 0 := by
 by_cases h : c = b
 ·rw [if_pos h,List.countP_eq_length.2 fun s hs => by have := spotsM_mem hs;simp [isB,this,h],spotsM_len]
 ·rw [if_neg h]
  refine List.countP_eq_zero.2 fun s hs => ?_
  have := spotsM_mem hs
  simp [isB,this];omega
theorem cnt_want (ws : List Nat) (b : Nat) : ∀ k,(wantM ws k).countP (isB b) = if b < k then 4 * ws.getD b 0 else 0
 | 0 => by simp [wantM]
 | k + 1 => by
  rw [wantM_succ,List.countP_append,cnt_want ws b k,cnt_spots]
  rcases Nat.lt_trichotomy b k with h | h | h
  ·rw [if_pos h,if_neg (by omega),if_pos (by omega)];rfl
  ·subst h;rw [if_neg (by omega),if_pos rfl,if_pos (by omega)];omega
  ·rw [if_neg (by omega),if_neg (by omega),if_neg (by omega)]
theorem cnt_ring (ws : List Nat) (b : Nat) (hb : b < 12) : (ringM ws).countP (isB b) = 4 * ws.getD b 0 := by
 rw [(ringM_perm ws).countP_eq,cnt_want,if_pos hb]
def byM (ws : List Nat) (k : Nat) : List Int := (List.range 12).map fun b => if b < k then ((ws.getD b 0 : Nat) : Int) else ((4 * ws.getD b 0 : Nat) : Int)
theorem cnt_byM (ws : List Nat) : cntS (ringM ws) = byM ws 0 := by
 unfold cntS byM
 refine List.map_congr_left fun b hb => ?_
 rw [cnt_ring ws b (List.mem_range.1 hb),if_neg (by omega)]
theorem cntS_succ (l : List (Int × Int)) (i : Nat) (h : i < l.length) (b : Nat) (hb : l[i].2 = b) (hb2 : b < 12) : cntS (l.take (i + 1)) = (cntS (l.take i)).set b (((l.take i).countP (isB b) : Nat) + 1) := by
 rw [List.take_succ_eq_append_getElem h]
 refine List.ext_getElem (by simp [cntS]) fun j h1 h2 => ?_
 have hj : j < 12 := by simpa [cntS] using h1
 rw [List.getElem_set]
 simp only [cntS,List.getElem_map,List.getElem_range,List.countP_append,List.countP_cons,List.countP_nil]
 by_cases hjb : b = j
 ·subst hjb;simp [isB,hb]
 ·rw [if_neg hjb]
  have : isB j l[i] = false := by simp [isB,hb];omega
  simp [this]
theorem cntS_bd (l : List (Int × Int)) (b : Nat) : ((l.countP (isB b) : Nat) : Int) ≤ l.length := by
 have := List.countP_le_length (p := isB b) (l := l);omega
theorem byM_set (ws : List Nat) (k : Nat) (hk : k < 12) : (byM ws k).set k ((ws.getD k 0 : Nat) : Int) = byM ws (k + 1) := by
 refine List.ext_getElem (by simp [byM]) fun j h1 h2 => ?_
 rw [List.getElem_set]
 simp only [byM,List.getElem_map,List.getElem_range]
 by_cases h : k = j
 ·subst h;rw [if_pos rfl,if_pos (by omega)]
 ·rw [if_neg h]
  by_cases h3 : j < k
  ·rw [if_pos h3,if_pos (by omega)]
  ·rw [if_neg h3,if_neg (by omega)]
theorem speq2 (l : List (Int × Int)) (hl : l.length ≤ 1000000) : PF Try.prog 29 [.rows 2 (l.map spE),.rows 2 (l.map spE)] (.bool true) := speq_pf l hl
theorem rnI (f : Nat → Nat) : rnC f ∘ I = I := rfl
theorem spliceI (l : List Int) (b : Nat) (z : Int) (h : b < l.length) : splice (l.map I) b [D.int IntKind.i64 z] = (l.set b z).map I := by
 rw [splice_one _ _ _ (by simpa using h),List.map_set]
theorem omapI (H : List (Nat × Ob)) (nx : Nat) : ∀ l : List Nat,omap (brwC H nx) (l.map fun w : Nat => I (w : Int)) = some (l.map fun w : Nat => I (w : Int))
 | [] => rfl
 | x :: t => by simp [omapI H nx t]
theorem leLI : ∀ l : List Nat,leL (l.map fun w : Nat => I (w : Int)) (l.map fun w : Nat => I (w : Int))
 | [] => by simp
 | x :: t => by simp [leLI t]
theorem rwei_code : cfun Try.prog [] 19 = some ⟨(.seq (qR 0 [oB 1 0,oX 2 (.alloc [qZ,qZ,qZ,qZ,qZ,qZ,qZ,qZ,qZ,qZ,qZ,qZ]),oX 3 (.mov (.k qF))]) (.seq (qR 1 [oX 4 (.alloc [qZ,qZ,qZ,qZ,qZ,qZ,qZ,qZ,qZ,qZ,qZ,qZ])]) (.seq (.seq (qR 2 [oF 10 0 1,oL 11 1 10,oH 12 11,oK 13 0]) (.block 0 (.loop (.seq (qR 3 [oX 14 (.bin .lss (.t 13) (.t 12))]) (.seq (.cond 14 .skip (.exit 0)) (.seq (.block 1 (.seq (qR 4 [oI 15 2 11 13,oA 16 2 15,oX 6 (.alloc [qZ,qZ]),oS 2 6 16]) (.seq (.seq (qR 5 [oF 17 1 6,oL 18 1 17,oX 19 (.bin .lss (.t 18) (kI 0)),oM 20 19,oG 21 (.fad 1 (.t 6)) 20 false,oG 22 (.load false 1 (.t 21)) 20 false,oG 23 (.bin .geq (.t 22) (kI 12)) 20 false,oX 24 (.pick (.t 20) (.k qT) (.t 23))]) (.cond 24 (.seq (qR 6 [oA 25 12 4,oS 12 2 25,oX 3 (.mov (.k qF))]) .ret) .skip)) (qR 7 [oF 26 1 6,oL 27 1 26,oX 28 (.iada 12 1 (.t 4) (.t 27)),oL 29 1 28,oX 30 (.bin .add (.t 29) (kI 1)),oX 31 (.iada 12 1 (.t 4) (.t 27)),oS 1 31 30])))) (qR 8 [oX 32 (.bin .add (.t 13) (kI 1)),oM 13 32]))))))) (.seq (qR 9 [oX 7 (.mov (.k .nil0))]) (.seq (.seq (qR 10 [oA 33 12 4,oK 34 0]) (.block 2 (.loop (.seq (qR 11 [oX 35 (.bin .lss (.t 34) (kI 12))]) (.seq (.cond 35 .skip (.exit 2)) (.seq (.block 3 (.seq (qR 12 [oM 36 34,oX 37 (.ida false 12 1 (.t 33) (.t 34)),oM 8 36,oM 9 37]) (.seq (.seq (qR 13 [oM 38 9,oX 39 (.bin .rem (.t 38) (kI 4)),oX 40 (.bin .neq (.t 39) (kI 0)),oM 41 40,oG 42 (.mov (.t 9)) 41 false,oG 43 (.bin .gtr (.t 42) (kI 32)) 41 false,oX 44 (.pick (.t 41) (.k qT) (.t 43))]) (.cond 44 (.seq (qR 14 [oA 45 12 4,oS 12 2 45,oX 3 (.mov (.k qF))]) .ret) .skip)) (.seq (qR 15 [oM 46 8,oM 47 9,oX 48 (.bin .quo (.t 47) (kI 4)),oX 49 (.iada 12 1 (.t 4) (.t 46)),oS 1 49 48]) (qR 16 [oM 50 7,oM 51 8,oM 52 8,oX 53 (.iada 12 1 (.t 4) (.t 52)),oL 54 1 53,oX 55 (.call 21 [(.t 51),(.t 54)]),oX 56 (.app 2 16 [qZ,qZ] (.t 50) (.t 55)),oM 7 56]))))) (qR 17 [oX 57 (.bin .add (.t 34) (kI 1)),oM 34 57]))))))) (.seq (qR 18 [oM 58 7,oX 59 (.call 22 [(.t 58),(.k (.fn 23 []))])]) (.seq (.draw 19 (qN (oA 60 12 4) (qN (oM 61 7) (qN (oF 62 0 1) (qN (oL 63 1 62) (qN (oX 64 (.call 29 [(.t 61),(.t 63)])) (.one false (oS 12 2 60) (qN (oM 3 64) .done)))))))) .ret))))))),[(.c 2 true 12),(.t 3)],65⟩ := by kernel_rfl
theorem rwei_pf (ws : List Nat) (h : WOk ws) : PF Try.prog 19 [.agg [.rows 2 ((ringM ws).map spE)]] (.tup [.agg (ws.map fun w : Nat => I (w : Int)),.bool true]) := by
 have hrl := ringM_len ws h
 have heq := speq2 (ringM ws) (by omega)
 refine pO rwei_code [0,1,2,3,4,6,7,8,9,11,12,13,14,24,33,34,35,44] [] fun B hBN hB0 => ?_
 simp
 refine W.loopS (fun i : Nat => ⟨[(13,I i),(12,I (ringM ws).length),(11,.rows 2 ((ringM ws).map spE)),(4,.ptr 2 0),(3,.bool false),(2,.ptr 1 0),(1,.ptr 0 0)],[(2,.cells ((cntS ((ringM ws).take i)).map I)),(1,.cells [I 0,I 0,I 0,I 0,I 0,I 0,I 0,I 0,I 0,I 0,I 0,I 0]),(0,.cells [.rows 2 ((ringM ws).map spE)])],3⟩)
  (fun n i => n = (ringM ws).length - i ∧ i ≤ (ringM ws).length) ?_ ?_
 ·exact ⟨_,0,(gr0 [0,1,2] hB0 (by simp [cntS,List.range_succ]) (by simp [cntS,List.range_succ]) (.inl (by simp [cntS,List.range_succ]))),rfl,by omega⟩
 rintro n i ⟨hn,hi⟩
 refine acode_sound [0,1,2,3,4,6,7,8,9,11,12,13,14,24,33,34,35,44] [] _ _ _ ?_
 by_cases hlt : i < (ringM ws).length
 ·obtain ⟨o,ho⟩ : ∃ o,o = (ringM ws)[i] := ⟨_,rfl⟩
  have hm : o ∈ ringM ws := ho ▸ List.getElem_mem hlt
  have hmm := ringM_mem hm
  obtain ⟨b,hb⟩ : ∃ b : Nat,o.2 = b := ⟨o.2.toNat,by omega⟩
  have hb2 : b < 12 := by omega
  have hbd := cntS_bd ((ringM ws).take i) b
  have hll : ((ringM ws).take i).length ≤ 384 := by simp;omega
  have hst := cntS_succ (ringM ws) i hlt b (ho ▸ hb) hb2
  have hlc : (cntS ((ringM ws).take i)).length = 12 := by simp [cntS]
  obtain ⟨c,hc⟩ : ∃ c,c = ((ringM ws).take i).countP (isB b) := ⟨_,rfl⟩
  rw [← hc] at hst hbd
  have hat : (cntS ((ringM ws).take i))[b]? = some (c : Int) := by simp [cntS,hc,List.getElem?_range,hb2]
  have ii : InR ((i : Int) + 1) := inG (by omega) (by omega)
  have ic : InR ((c : Int) + 1) := inG (by omega) (by omega)
  have c1 : ¬ (b : Int) < 0 := by omega
  have c2 : ¬ (12 : Int) ≤ b := by omega
  have hspl := spliceI (cntS ((ringM ws).take i)) b ((c : Int) + 1) (by rw [hlc];exact hb2)
  rw [← hst] at hspl
  simp [hlt,← ho,spE,hb,hat,hlc,ii,ic,c1,c2,hspl]
  exact ⟨by omega,by omega,by omega,by omega,_,i + 1,(gr0 [0,1,2] hB0 (by simp [rnI]) (by simp [rnI]) (.inl (by simp [rnI]))),by omega,rfl,by omega⟩
 ·obtain rfl : i = (ringM ws).length := by omega
  simp only [List.take_length,cnt_byM]
  have hlb : ∀ k,(byM ws k).length = 12 := fun k => by simp [byM]
  have htk : ∀ k,((byM ws k).map I).take 12 = (byM ws k).map I := fun k => List.take_of_length_le (by simp [hlb])
  simp [hlb,htk]
  refine W.loopS (fun k : Nat => ⟨[(34,I k),(33,.agg ((byM ws 0).map I)),(7,.own 3),(4,.ptr 2 0),(3,.bool false),(2,.ptr 1 0),(1,.ptr 0 0)],[(3,.row 2 ((wantM ws k).map spE)),(2,.cells ((byM ws k).map I)),(1,.cells [I 0,I 0,I 0,I 0,I 0,I 0,I 0,I 0,I 0,I 0,I 0,I 0]),(0,.cells [.rows 2 ((ringM ws).map spE)])],4⟩)
   (fun n k => n = 12 - k ∧ k ≤ 12) ?_ ?_
  ·refine ⟨_,0,(Gh.adopt 7 2 (by omega) (by simp)).trans ?_,rfl,by omega⟩
   simp
   exact (gr0 [0,1,2,3] hB0 (by simp [wantM,rnI]) (by simp [wantM,rnI]) (.inl (by simp [wantM,rnI])))
  rintro n k ⟨hn,hk⟩
  refine acode_sound [0,1,2,3,4,6,7,8,9,11,12,13,14,24,33,34,35,44] [] _ _ _ ?_
  by_cases hlt : k < 12
  ·have hz : (k : Int) < 12 := by omega
   obtain ⟨w,hw⟩ : ∃ w,w = ws.getD k 0 := ⟨_,rfl⟩
   have hw8 : w ≤ 8 := by
    rw [hw,zC,zE (by rw [h.len];exact hlt)]
    exact h.le _ (List.getElem_mem _)
   have hset := byM_set ws k hlt
   rw [← hw] at hset
   have hat0 : (byM ws 0)[k]? = some ((4 * w : Nat) : Int) := by simp [byM,List.getElem?_range,hlt,hw]
   have hatk : (byM ws (k + 1))[k]? = some (w : Int) := by simp [byM,List.getElem?_range,hlt,hw]
   have hsp := rspots_pf k w hlt hw8
   have hws := wantM_succ ws k
   rw [← hw] at hws
   have hwl := wantM_len ws h k
   have hsl := spotsM_len k (4 * w)
   have ii : InR ((k : Int) + 1) := inG (by omega) (by omega)
   have c8 : ¬ (32 : Int) < 4 * w := by omega
   have hq : 4 * (w : Int) / 4 = w := by omega
   have hspl := spliceI (byM ws k) k (w : Int) (by rw [hlb];exact hlt)
   rw [hset] at hspl
   have hcap : (wantM ws k).length + 4 * w ≤ 1000 := by omega
   have g1 : 0 < 12 - k := by omega
   have g2 : k ≤ 11 := by omega
   have g3 : (0 : Int) ≤ 4 * w := by omega
   have iw : InR (w : Int) := inG (by omega) (by omega)
   have hcap2 : ((wantM ws k).length + 4 * w) * 16 ≤ 140737488355328 := by omega
   repeat' (first
    | simp [hz,hlb,htk,hat0,c8,hq,hspl,hatk,ii,hwl,hsl,g1,g2,g3,iw,hcap2]
    | refine ⟨wcS ?_,?_⟩
    | (refine WCall.pf (hsp) ?_ ?_ ?_ ?_;iterate 3 (solve|simp [hz,hlb,htk,hat0,c8,hq,hspl,hatk,ii,hwl,hsl,g1,g2,g3,iw,hcap2]))
    | with_reducible refine aI ?_ ?_ ?_)
   exact ⟨fun row a b h1 h2 => by subst h2;rfl,_,k + 1,(gr0 [0,1,2,4] hB0 (by simp [hws,rnI]) (by simp [hws,rnI]) (.inl (by simp [hws,rnI]))),by omega,rfl,by omega⟩
  ·obtain rfl : k = 12 := by omega
   simp [hlb,htk]
   refine WCall.hf [3] (spsortA_hf (wantM ws 12) (by have := wantM_len ws h 12;omega)) (by simp) rfl rfl (by decide) (by simp) (by simp) (by simp) (by simp) (by simp) ?_
   rintro d H' nx' ⟨rfl,rfl,rfl⟩
   have hsr : sortM (wantM ws 12) = ringM ws := rfl
   have hs0 : splice [I 0,I 0,I 0,I 0,I 0,I 0,I 0,I 0,I 0,I 0,I 0,I 0] 0 ((byM ws 12).map I) = (byM ws 12).map I := by simp [splice,hlb]
   have hb12 : (byM ws 12).map I = ws.map fun w : Nat => I (w : Int) := by
    refine List.ext_getElem (by simp [byM,h.len]) fun j h1 h2 => ?_
    have hj : j < 12 := by simpa [byM] using h1
    simp [byM,hj,zE (show j < ws.length by rw [h.len];exact hj)]
   have hw12 : ws.length = 12 := h.len
   have htw : (ws.map fun w : Nat => I (w : Int)).take 12 = ws.map fun w : Nat => I (w : Int) := List.take_of_length_le (by simp [h.len])
   rw [hb12] at hs0
   repeat' (first
    | simp [hlb,htk,hsr,hs0,hb12,hw12,htw,omapI,leLI]
    | refine ⟨wcS ?_,?_⟩
    | (refine WCall.pf (heq) ?_ ?_ ?_ ?_;iterate 3 (solve|simp [hlb,htk,hsr,hs0,hb12,hw12,htw,omapI,leLI]))
    | with_reducible refine aI ?_ ?_ ?_)
end Go.Proofs.Ytmdhegbdffbfoaa
namespace Go.Proofs.Ytmdhegbdffbfoaa
open Go.RowKit Go.Sort
attribute [local simp] AK_at acode_seq acode_region acode_draw acode_cond CB_u acode_block acode_loop acode_exit acode_scope acode_ret acode_skip seqQ_n seqQ_e seqQ_r blockQ_n blockQ_e blockQ_r TK_at OK_at SK_at aops_nil aops_cons asch_done asch_one asch_two asch_top astep aop_eq isLoud aloud aloud1 isWrite qv evS strip gof eget hget putO eput herase oks opnds gS afin afin0 binD arith D.cells takeD fillD keep trim envOf Fin aresl aresv resD argOk pickV isP deq deqs boundD slD lenD isT isSl ptrIds chunks mn_min mx_max splice_one splice_more Rbr_at Rfr_at frR frV frC flatC brwR brwV brwC omap leR leV leC leL leVL rnR rnV rnC rnO rho_0 hputs herases rnS LtS LtR LtV LtC LtO lget noV noC flatR flatV rho
attribute [local simp ↓] CB_t CB_f
theorem sortM_pw (l : List (Int × Int)) : List.Pairwise (fun a b => (!(ltOf cfSp) b a) = true) (sortM l) := by
 refine List.pairwise_mergeSort (fun a b c h1 h2 => ?_) (fun a b => ?_) l
 ·rw [ltSp] at *;simp at *;omega
 ·rw [ltSp,ltSp];simp;omega
theorem sortM_perm {l m : List (Int × Int)} (h : l.Perm m) : sortM l = sortM m := by
 refine List.Perm.eq_of_pairwise (le := fun a b => (!(ltOf cfSp) b a) = true) (fun a b _ _ h1 h2 => ?_) (sortM_pw l) (sortM_pw m) ((List.mergeSort_perm l _).trans (h.trans (List.mergeSort_perm m _).symm))
 simp only [Bool.not_eq_true'] at h1 h2
 exact totSp a b h2 h1
theorem want_add (ws : List Nat) (b w : Nat) (hb : ws.getD b 0 = 0) (hl : b < ws.length) : ∀ k,(wantM (ws.set b w) k).Perm (wantM ws k ++ if b < k then spotsM b (4 * w) else [])
 | 0 => by simp [wantM]
 | k + 1 => by
  have ih := want_add ws b w hb hl k
  rw [wantM_succ,wantM_succ]
  by_cases hk : b = k
  ·subst hk
   have e : (ws.set b w).getD b 0 = w := by simp [zC,hl]
   rw [e,hb,if_pos (by omega)]
   rw [if_neg (by omega),List.append_nil] at ih
   have : spotsM b (4 * 0) = [] := rfl
   rw [this,List.append_nil]
   exact ih.append_right _
  ·have e : (ws.set b w).getD k 0 = ws.getD k 0 := by simp [zC,List.getElem?_set_ne hk]
   rw [e]
   by_cases h2 : b < k
   ·rw [if_pos h2] at ih
    rw [if_pos (by omega)]
    refine (ih.append_right _).trans ?_
    rw [List.append_assoc,List.append_assoc]
    exact List.Perm.append_left _ List.perm_append_comm
   ·rw [if_neg h2,List.append_nil] at ih
    rw [if_neg (by omega),List.append_nil]
    exact ih.append_right _
theorem ring_add (ws : List Nat) (h : WOk ws) (b w : Nat) (hb : b < 12) (h0 : ws.getD b 0 = 0) : sortM (ringM ws ++ spotsM b (4 * w)) = ringM (ws.set b w) := by
 refine sortM_perm ?_
 have h1 := want_add ws b w h0 (by rw [h.len];exact hb) 12
 rw [if_pos hb] at h1
 exact ((ringM_perm ws).append_right _).trans h1.symm
theorem WOk.set {ws : List Nat} (h : WOk ws) (b w : Nat) (hw : w ≤ 8) : WOk (ws.set b w) :=
 ⟨by rw [List.length_set];exact h.len,fun x hx => by
  rcases List.mem_or_eq_of_mem_set hx with h1 | h1
  ·exact h.le x h1
  ·omega⟩
theorem spl12 {l : List Nat} (h : l.length = 12) : splice [I 0,I 0,I 0,I 0,I 0,I 0,I 0,I 0,I 0,I 0,I 0,I 0] 0 (l.map fun w : Nat => I (w : Int)) = l.map fun w : Nat => I (w : Int) := by simp [splice,h]
theorem els_sp (l : List (Int × Int)) : Els 2 spE l := fun x hx => ⟨rfl,fun d hd => by simp [spE] at hd;rcases hd with rfl | rfl <;> rfl⟩
theorem radd_code : cfun Try.prog [] 10 = some ⟨(.seq (qR 0 [oB 3 0,oX 6 (.alloc [.nil0]),oK 7 0]) (.seq (qR 1 [oA 12 1 3,oX 13 (.call 19 [(.t 12)]),oM 11 13,oE 14 11 0,oE 15 11 1,oX 8 (.alloc [qZ,qZ,qZ,qZ,qZ,qZ,qZ,qZ,qZ,qZ,qZ,qZ]),oS 12 8 14,oM 9 15]) (.seq (.block 0 (.seq (qR 2 [oM 17 9,oX 18 (.not (.t 17)),oM 16 18]) (.cond 16 (.seq (qR 3 [oX 19 (.build [.nil0] []),oS 1 6 19,oK 7 6]) .ret) (.seq (qR 4 [oM 21 1,oX 22 (.bin .lss (.t 21) (kI 0)),oM 23 22,oG 24 (.mov (.t 1)) 23 false,oG 25 (.bin .geq (.t 24) (kI 12)) 23 false,oX 26 (.pick (.t 23) (.k qT) (.t 25)),oM 27 26,oG 28 (.mov (.t 2)) 27 false,oG 29 (.bin .lss (.t 28) (kI 1)) 27 false,oX 30 (.pick (.t 27) (.k qT) (.t 29)),oM 31 30,oG 32 (.mov (.t 2)) 31 false,oG 33 (.bin .gtr (.t 32) (kI 8)) 31 false,oX 34 (.pick (.t 31) (.k qT) (.t 33)),oM 20 34]) (.cond 20 (.seq (qR 5 [oX 35 (.build [.nil0] []),oS 1 6 35,oK 7 2]) .ret) (.seq (qR 6 [oM 37 1,oX 38 (.iada 12 1 (.t 8) (.t 37)),oL 39 1 38,oX 40 (.bin .gtr (.t 39) (kI 0)),oM 36 40]) (.cond 36 (.seq (qR 7 [oX 41 (.build [.nil0] []),oS 1 6 41,oK 7 7]) .ret) .skip))))))) (.seq (qR 8 [oF 42 0 3,oL 43 1 42,oX 44 (.call 20 [(.t 43)]),oM 45 1,oM 46 2,oX 47 (.call 21 [(.t 45),(.t 46)]),oX 48 (.app 2 16 [qZ,qZ] (.t 44) (.t 47)),oM 10 48]) (.seq (qR 9 [oM 49 10,oX 50 (.call 22 [(.t 49),(.k (.fn 23 []))])]) (.seq (qR 10 [oM 51 10,oX 52 (.build [.nil0] [(0,(1,(.t 51)))]),oS 1 6 52,oK 7 0]) .ret)))))),[(.c 6 true 1),(.t 7)],53⟩ := by kernel_rfl
theorem radd_pf (ws : List Nat) (h : WOk ws) (b w : Nat) (hb : b < 12) (hw : 1 ≤ w ∧ w ≤ 8) (h0 : ws.getD b 0 = 0) :
  PF Try.prog 10 [.agg [.rows 2 ((ringM ws).map spE)],I b,I w] (.tup [.agg [.rows 2 ((ringM (ws.set b w)).map spE)],I 0]) := by
 have hwe := rwei_pf ws h
 have hsp := rspots_pf b w hb hw.2
 have hrl := ringM_len ws h
 have hsl := spotsM_len b (4 * w)
 have hra := ring_add ws h b w hb h0
 have hcl := spcln_hf spE (ringM ws) (by omega) (els_sp _)
 have hl12 := h.len
 have hs0 := spl12 h.len
 have htw : (ws.map fun w : Nat => I (w : Int)).take 12 = ws.map fun w : Nat => I (w : Int) := List.take_of_length_le (by simp [h.len])
 have hat : ws[b]? = some 0 := by
  rw [zC,zE (by omega)] at h0
  rw [zE (by omega)]
  simpa using h0
 have c1 : ¬ (b : Int) < 0 := by omega
 have c2 : ¬ (12 : Int) ≤ b := by omega
 have c3 : ¬ (w : Int) < 1 := by omega
 have c4 : ¬ (8 : Int) < w := by omega
 have hb1 : (b : Int) < 12 := by omega
 have hb2 : b ≤ 11 := by omega
 have hb3 : 0 < 12 - b := by omega
 refine pO radd_code [0,1,2,3,6,7,8,9,10,16,20,36] [] fun B hBN hB0 => ?_
 repeat' (first
  | simp [hl12,hs0,htw,hat,c1,c2,c3,c4,hb1,hb2,hb3]
  | refine ⟨wcS ?_,?_⟩
  | (refine WCall.pf (hwe) ?_ ?_ ?_ ?_;iterate 3 (solve|simp [hl12,hs0,htw,hat,c1,c2,c3,c4,hb1,hb2,hb3]))
  | with_reducible refine aI ?_ ?_ ?_)
 have hcap : ((ringM ws).length + 4 * w) * 16 ≤ 140737488355328 := by omega
 have hcap0 : 4 * w * 16 ≤ 140737488355328 := by omega
 have hw0 : ¬ spotsM b (4 * w) = [] := fun e => by rw [e] at hsl;simp at hsl;omega
 refine WCall.hf0 hcl (by simp) (by simp) (by simp) (by simp) ?_
 rintro d H' nx' (⟨rfl,hnil,rfl,rfl⟩ | ⟨rfl,rfl,rfl⟩)
 ·rw [hnil] at hra ⊢
  repeat' (first
   | simp [hsl,hcap0,hw0]
   | refine ⟨wcS ?_,?_⟩
   | (refine WCall.pf (hsp) ?_ ?_ ?_ ?_;iterate 3 (solve|simp [hsl,hcap0,hw0]))
   | with_reducible refine aI ?_ ?_ ?_)
  refine ⟨fun row x y h1 h2 => by subst h2;rfl,?_⟩
  refine WCall.hf [3] (spsortA_hf (spotsM b (4 * w)) (by omega)) (by simp) rfl rfl (by decide) (by simp) (by simp) (by simp) (by simp) (by simp) ?_
  rintro d H' nx' ⟨rfl,rfl,rfl⟩
  rw [List.nil_append] at hra
  simp [hra]
 ·skip
  repeat' (first
   | simp [hsl,hcap]
   | refine ⟨wcS ?_,?_⟩
   | (refine WCall.pf (hsp) ?_ ?_ ?_ ?_;iterate 3 (solve|simp [hsl,hcap]))
   | with_reducible refine aI ?_ ?_ ?_)
  refine ⟨fun row x y h1 h2 => by subst h2;rfl,?_⟩
  rw [← List.map_append]
  refine WCall.hf [5] (spsortA_hf (ringM ws ++ spotsM b (4 * w)) (by rw [List.length_append];omega)) (by simp) rfl rfl (by decide) (by simp) (by simp) (by simp) (by simp) (by simp) ?_
  rintro d H' nx' ⟨rfl,rfl,rfl⟩
  simp [hra]
end Go.Proofs.Ytmdhegbdffbfoaa
namespace Go.Proofs.Ytmdhegbdffbfoaa
open Go.RowKit
attribute [local simp] AK_at acode_seq acode_region acode_draw acode_cond CB_u acode_block acode_loop acode_exit acode_scope acode_ret acode_skip seqQ_n seqQ_e seqQ_r blockQ_n blockQ_e blockQ_r TK_at OK_at SK_at aops_nil aops_cons asch_done asch_one asch_two asch_top astep aop_eq isLoud aloud aloud1 isWrite qv evS strip gof eget hget putO eput herase oks opnds gS afin afin0 binD arith D.cells takeD fillD keep trim envOf Fin aresl aresv resD argOk pickV isP deq deqs boundD slD lenD isT isSl ptrIds chunks mn_min mx_max splice_one splice_more Rbr_at Rfr_at frR frV frC flatC brwR brwV brwC omap leR leV leC leL leVL rnR rnV rnC rnO rho_0 hputs herases rnS LtS LtR LtV LtC LtO lget noV noC flatR flatV rho
attribute [local simp ↓] CB_t CB_f
def rgStep (ws : List Nat) (r : List Int) : List Nat :=
 let b := (pickedZ (r.getD 0 0) 12).toNat
 if 0 < ws.getD b 0 then ws else ws.set b (1 + (pickedZ (r.getD 1 0) 8).toNat)
def rg0 : List Nat := [0,0,0,0,0,0,0,0,0,0,0,0]
def rgL (l : List (List Int)) : List Nat := (l.take 20).foldl rgStep rg0
theorem rgL_inv (l : List (List Int)) : ∀ i,WOk ((l.take i).foldl rgStep rg0) := fun i => by
 suffices h : ∀ (m : List (List Int)) (ws : List Nat),WOk ws → WOk (m.foldl rgStep ws) from h _ _ ⟨rfl,by simp [rg0]⟩
 intro m
 induction m with
 | nil => exact fun ws h => h
 | cons r t ih =>
  intro ws h
  refine ih _ ?_
  unfold rgStep
  simp only
  split
  ·exact h
  ·have := pickedZ_range (r.getD 1 0) 8 (by omega)
   exact h.set _ _ (by omega)
theorem rgL_succ (l : List (List Int)) (i : Nat) (h : i < l.length) : (l.take (i + 1)).foldl rgStep rg0 = rgStep ((l.take i).foldl rgStep rg0) l[i] := by
 rw [List.take_succ_eq_append_getElem h,List.foldl_append];rfl
theorem ring0 : ringM rg0 = [] := by
 have : wantM rg0 12 = [] := by simp [wantM,rg0,List.range_succ,spotsM]
 unfold ringM
 rw [this]
 exact List.mergeSort_nil
theorem ring0b : ringM [0,0,0,0,0,0,0,0,0,0,0,0] = [] := ring0
theorem want_len_set (ws : List Nat) (h : WOk ws) (b w : Nat) (hb : b < 12) (h0 : ws.getD b 0 = 0) : (ringM (ws.set b w)).length = (ringM ws).length + 4 * w := by
 rw [← ring_add ws h b w hb h0,sortM_len,List.length_append,spotsM_len]
theorem rnN (f : Nat → Nat) : (rnC f ∘ fun w : Nat => I (w : Int)) = fun w : Nat => I (w : Int) := rfl
theorem spliceN (l : List Nat) (b w : Nat) (h : b < l.length) : splice (l.map fun w : Nat => I (w : Int)) b [D.int IntKind.i64 (w : Int)] = (l.set b w).map fun w : Nat => I (w : Int) := by
 rw [splice_one _ _ _ (by simpa using h),List.map_set]
theorem ringed_code : cfun Try.prog [] 9 = some ⟨(.seq (qR 0 [oX 2 (.alloc [.nil0]),oX 3 (.alloc [qZ,qZ,qZ,qZ,qZ,qZ,qZ,qZ,qZ,qZ,qZ,qZ]),oX 4 (.mov (.k qF))]) (.seq (qR 1 [oX 5 (.alloc [.nil0])]) (.seq (qR 2 [oX 6 (.alloc [qZ,qZ,qZ,qZ,qZ,qZ,qZ,qZ,qZ,qZ,qZ,qZ])]) (.seq (.seq (qR 3 [oK 7 0]) (.block 0 (.loop (.seq (.seq (qR 4 [oM 11 7,oM 12 0,oH 13 12,oX 14 (.bin .lss (.t 11) (.t 13)),oM 15 14,oG 16 (.mov (.t 7)) 15 true,oG 17 (.bin .lss (.t 16) (kI 20)) 15 true,oX 18 (.pick (.t 15) (.t 17) (.k qF))]) (.cond 18 .skip (.exit 0))) (.seq (.block 1 (.seq (qR 6 [oM 21 0,oM 22 7,oI 23 2 21 22,oF 24 0 23,oL 25 1 24,oX 26 (.call 13 [(.t 25),(kI 12)]),oM 8 26]) (.seq (.seq (qR 7 [oM 27 8,oX 28 (.iada 12 1 (.t 6) (.t 27)),oL 29 1 28,oX 30 (.bin .gtr (.t 29) (kI 0))]) (.cond 30 (.exit 1) .skip)) (.seq (qR 8 [oM 31 8,oM 32 0,oM 33 7,oI 34 2 32 33,oF 35 1 34,oL 36 1 35,oX 37 (.call 13 [(.t 36),(kI 8)]),oX 38 (.bin .add (kI 1) (.t 37)),oX 39 (.iada 12 1 (.t 6) (.t 31)),oS 1 39 38]) (.seq (.draw 9 (qN (oA 41 1 5) (qN (oM 42 8) (qN (oM 43 8) (qN (oX 44 (.iada 12 1 (.t 6) (.t 43))) (qN (oL 45 1 44) (.two (qN (oX 46 (.call 10 [(.t 41),(.t 42),(.t 45)])) (qN (oM 40 46) (qN (oE 47 40 0) (qN (oE 48 40 1) (qN (oX 9 (.alloc [.nil0])) (.one false (oS 1 9 47) (qN (oM 10 48) .done))))))) (.two (qN (oX 9 (.alloc [.nil0])) (qN (oX 46 (.call 10 [(.t 41),(.t 42),(.t 45)])) (qN (oM 40 46) (qN (oE 47 40 0) (qN (oE 48 40 1) (.one false (oS 1 9 47) (qN (oM 10 48) .done))))))) .top)))))))) (.seq (.seq (.draw 10 (qN (oM 49 10) (qN (oX 50 (.bin .neq (.t 49) (kI 0))) (qN (oM 51 50) (qN (oG 52 (.fad 0 (.t 9)) 51 false) (qN (oG 53 (.load false 1 (.t 52)) 51 false) (qN (oG 54 (.len (.t 53)) 51 false) (qN (oG 55 (.fad 0 (.t 5)) 51 false) (qN (oG 56 (.load false 1 (.t 55)) 51 false) (qN (oG 57 (.len (.t 56)) 51 false) (qN (oG 58 (.mov (.t 8)) 51 false) (qN (oG 59 (.iada 12 1 (.t 6) (.t 58)) 51 false) (qN (oG 60 (.load false 1 (.t 59)) 51 false) (qN (oG 61 (.bin .mul (kI 4) (.t 60)) 51 false) (qN (oG 62 (.bin .add (.t 57) (.t 61)) 51 false) (qN (oG 63 (.bin .neq (.t 54) (.t 62)) 51 false) (qN (oX 64 (.pick (.t 51) (.k qT) (.t 63))) .done))))))))))))))))) (.cond 64 (.seq (.draw 11 (qN (oA 65 1 5) (.two (qN (oA 66 12 6) (.one false (oS 1 2 65) (.one false (oS 12 3 66) (qN (oX 4 (.mov (.k qF))) .done)))) (.two (.one false (oS 1 2 65) (qN (oA 66 12 6) (.one false (oS 12 3 66) (qN (oX 4 (.mov (.k qF))) .done)))) .top)))) .ret) .skip)) (qR 12 [oA 67 1 9,oS 1 5 67]))))))) (qR 5 [oM 19 7,oX 20 (.bin .add (.t 19) (kI 1)),oM 7 20])))))) (.seq (.draw 13 (qN (oA 68 1 5) (.two (qN (oA 69 12 6) (.one false (oS 1 2 68) (.one false (oS 12 3 69) (qN (oX 4 (.mov (.k qT))) .done)))) (.two (.one false (oS 1 2 68) (qN (oA 69 12 6) (.one false (oS 12 3 69) (qN (oX 4 (.mov (.k qT))) .done)))) .top)))) .ret))))),[(.c 2 true 1),(.c 3 true 12),(.t 4)],70⟩ := by kernel_rfl
theorem ringed_pf (l : List (List Int)) (hl : l.length ≤ Go.maxLen) (hr : ∀ r ∈ l,r.length = 2 ∧ ∀ z ∈ r,InR z) :
  PF Try.prog 9 [.rows 2 (l.map fun r => r.map I)] (.tup [.agg [.rows 2 ((ringM (rgL l)).map spE)],.agg ((rgL l).map fun w : Nat => I (w : Int)),.bool true]) := by
 refine pO ringed_code [0,2,3,4,5,6,7,8,9,10,18,30,64] [] fun B hBN hB0 => ?_
 simp
 refine W.loopS (fun i : Nat => ⟨[(7,I i),(6,.ptr 3 0),(5,.ptr 2 0),(4,.bool false),(3,.ptr 1 0),(2,.ptr 0 0),(0,.rows 2 (l.map fun r => r.map I))],[(3,.cells (((l.take i).foldl rgStep rg0).map fun w : Nat => I (w : Int))),(2,.cells [.rows 2 ((ringM ((l.take i).foldl rgStep rg0)).map spE)]),(1,.cells [I 0,I 0,I 0,I 0,I 0,I 0,I 0,I 0,I 0,I 0,I 0,I 0]),(0,.cells [.nil0])],4⟩)
  (fun n i => n = l.length - i ∧ i ≤ l.length ∧ i ≤ 20) ?_ ?_
 ·refine ⟨_,0,(Gh.nilC 2 0 2 [.nil0] (by simp) rfl).trans ?_,rfl,by omega,by omega⟩
  simp
  exact (gr0 [0,1,2,3] hB0 (by simp [ring0b,rg0]) (by simp [ring0b,rg0]) (.inl (by simp [ring0b,rg0])))
 rintro n i ⟨hn,hi,h20⟩
 refine acode_sound [0,2,3,4,5,6,7,8,9,10,18,30,64] [] _ _ _ ?_
 have hws := rgL_inv l i
 by_cases hlt : i < l.length ∧ i < 20
 ·obtain ⟨hlt,hlt2⟩ := hlt
  have hst := rgL_succ l i hlt
  obtain ⟨ws,hw⟩ : ∃ ws,ws = (l.take i).foldl rgStep rg0 := ⟨_,rfl⟩
  rw [← hw] at hst hws
  obtain ⟨h2,hz⟩ := hr _ (List.getElem_mem hlt)
  obtain ⟨x,y,hxy⟩ : ∃ x y,l[i] = [x,y] := by
   match l[i],h2 with
   | [x,y],_ => exact ⟨x,y,rfl⟩
  rw [hxy] at hst hz
  have ix : InR x := hz _ (by simp)
  have iy : InR y := hz _ (by simp)
  have px := picked_pf x 12 ix (by omega)
  have py := picked_pf y 8 iy (by omega)
  have qx := pickedZ_range x 12 (by omega)
  have qy := pickedZ_range y 8 (by omega)
  have hz1 : (i : Int) < l.length := by omega
  have hz2 : (i : Int) < 20 := by omega
  have ii : InR ((i : Int) + 1) := inG (by omega) (by omega)
  have hst1 : rgStep ws [x,y] = if 0 < ws.getD (pickedZ x 12).toNat 0 then ws else ws.set (pickedZ x 12).toNat (1 + (pickedZ y 8).toNat) := rfl
  rw [hst1] at hst
  obtain ⟨b,hb⟩ : ∃ b : Nat,pickedZ x 12 = b := ⟨(pickedZ x 12).toNat,by omega⟩
  obtain ⟨w,hwv⟩ : ∃ w : Nat,1 + pickedZ y 8 = w := ⟨(1 + pickedZ y 8).toNat,by omega⟩
  have hwv2 : 1 + (pickedZ y 8).toNat = w := by omega
  rw [hb] at px
  rw [hb,hwv2,Int.toNat_natCast] at hst
  have hb12 : b < 12 := by omega
  have hb1 : (b : Int) < 12 := by omega
  have hb2 : b ≤ 11 := by omega
  have hb3 : 0 < 12 - b := by omega
  have hl12 := hws.len
  obtain ⟨c,hc⟩ : ∃ c,c = ws.getD b 0 := ⟨_,rfl⟩
  rw [← hc] at hst
  have hat : ws[b]? = some c := by
   rw [zC,zE (by omega)] at hc
   rw [zE (by omega)]
   simpa using hc.symm
  by_cases hc0 : 0 < c
  ·rw [if_pos hc0] at hst
   have hcz : (0 : Int) < c := by omega
   repeat' (first
    | simp [← hw,hxy,hlt,hz1,hz2,hb1,hb2,hb3,hl12,hat,hc0,ii]
    | refine ⟨wcS ?_,?_⟩
    | (refine WCall.pf (px) ?_ ?_ ?_ ?_;iterate 3 (solve|simp [← hw,hxy,hlt,hz1,hz2,hb1,hb2,hb3,hl12,hat,hc0,ii]))
    | with_reducible refine aI ?_ ?_ ?_)
   all_goals exact ⟨_,i + 1,(gr0 [0,1,2,3] hB0 (by simp [hst,rnN]) (by simp [hst,rnN]) (.inl (by simp [hst,rnN]))),by omega,rfl,by omega,by omega⟩
  ·rw [if_neg hc0] at hst
   obtain rfl : c = 0 := by omega
   have hadd := radd_pf ws hws b w hb12 (by omega) hc.symm
   have hlen := want_len_set ws hws b w hb12 hc.symm
   have iw : InR (w : Int) := inG (by omega) (by omega)
   obtain ⟨ws2,hws2⟩ : ∃ ws2,ws2 = ws.set b w := ⟨_,rfl⟩
   have hspl := spliceN ws b w (by omega)
   have hat2 : (ws.set b w)[b]? = some w := by simp [hl12,hb12]
   have hsl12 : (ws.set b w).length = 12 := by simp [hl12]
   rw [← hws2] at hspl hat2 hsl12 hlen hadd hst
   have hrl := ringM_len ws hws
   have i4 : InR (4 * (w : Int)) := inG (by omega) (by omega)
   have i5 : InR (((ringM ws).length : Int) + 4 * w) := inG (by omega) (by omega)
   repeat' (first
    | simp [← hw,hxy,hlt,hz1,hz2,hb1,hb2,hb3,hl12,hat,ii,hwv,iw,hspl,hat2,hsl12,hlen,i4,i5]
    | refine ⟨wcS ?_,?_⟩
    | (refine WCall.pf (px) ?_ ?_ ?_ ?_;iterate 3 (solve|simp [← hw,hxy,hlt,hz1,hz2,hb1,hb2,hb3,hl12,hat,ii,hwv,iw,hspl,hat2,hsl12,hlen,i4,i5]))
    | (refine WCall.pf (py) ?_ ?_ ?_ ?_;iterate 3 (solve|simp [← hw,hxy,hlt,hz1,hz2,hb1,hb2,hb3,hl12,hat,ii,hwv,iw,hspl,hat2,hsl12,hlen,i4,i5]))
    | (refine WCall.pf (hadd) ?_ ?_ ?_ ?_;iterate 3 (solve|simp [← hw,hxy,hlt,hz1,hz2,hb1,hb2,hb3,hl12,hat,ii,hwv,iw,hspl,hat2,hsl12,hlen,i4,i5]))
    | with_reducible refine aI ?_ ?_ ?_)
   all_goals exact ⟨_,i + 1,(gr0 [0,1,2,3] hB0 (by simp [hst,rnN]) (by simp [hst,rnN]) (.inl (by simp [hst,rnN]))),by omega,rfl,by omega,by omega⟩
 ·have hcl : (l.take i).foldl rgStep rg0 = rgL l := by
   unfold rgL
   by_cases h1 : i = 20
   ·rw [h1]
   ·rw [List.take_of_length_le (show l.length ≤ i by omega),List.take_of_length_le (show l.length ≤ 20 by omega)]
  rw [hcl] at hws ⊢
  have hl12 := hws.len
  have hs0 := spl12 hws.len
  have htw : ((rgL l).map fun w : Nat => I (w : Int)).take 12 = (rgL l).map fun w : Nat => I (w : Int) := List.take_of_length_le (by simp [hl12])
  by_cases hlt1 : i < l.length
  ·obtain rfl : i = 20 := by omega
   have hz1 : (20 : Int) < l.length := by omega
   simp [hlt1,hz1,hl12,hs0,htw,omapI,leLI]
  ·have hz1 : ¬ (i : Int) < l.length := by omega
   simp [hlt1,hz1,hl12,hs0,htw,omapI,leLI]
end Go.Proofs.Ytmdhegbdffbfoaa
namespace Go.Proofs.Ytmdhegbdffbfoaa
open Go.ChangeShapes Go.WideShapes Go.ChangeAt Go.RowKit
def numsE (r : List Int) : List Value := r.map (Value.int .i64)
def NumsOk (r : List Int) : Prop := ∀ z ∈ r,(Lit.int .i64 z).wf = true
def Nums (P : Program) (t : TypeId) (n : Nat) : Prop :=
 ∀ {H : Type} {enc : TypeId × Value → H} {w : World} {base : Nat} {spare : Nat → Bool} {held : Bool} {fuel : Nat} {cs : List Value} {x : DataW H × List MemPlace},
  DataW.trod enc P w base spare held fuel t cs = some x → ∃ r : List Int,cs = numsE r ∧ r.length = n ∧ NumsOk r
theorem nums_of_cells (cs : List Value) (h : ∀ i,i < cs.length → ∃ z,cs[i]? = some (.int .i64 z) ∧ (Lit.int .i64 z).wf = true) : ∃ r : List Int,cs = numsE r ∧ NumsOk r := by
 induction cs with
 | nil => exact ⟨[],rfl,fun z hz => by cases hz⟩
 | cons v cs ih =>
  obtain ⟨z,hz,hw⟩ := h 0 (by simp)
  obtain ⟨r,rfl,hr⟩ := ih fun i hi => by have := h (i + 1) (by simpa using hi);simpa using this
  simp only [List.getElem?_cons_zero,zA] at hz
  subst hz
  refine ⟨z :: r,rfl,fun y hy => ?_⟩
  rcases List.mem_cons.1 hy with rfl | hy
  ·exact hw
  ·exact hr y hy
theorem Nums.struct {P : Program} {t : TypeId} {fs : Array Field} (ht : P.underlying t = some (.struct fs)) (hc : P.cellsOf t = fs.size)
  (hf : ∀ (i : Nat) (f : Field),fs[i]? = some f → f.offset = i ∧ P.cellsOf f.type = 1 ∧ P.underlying f.type = some (.int .i64)) : Nums P t fs.size := by
 intro H enc w base spare held fuel cs x h
 obtain ⟨xs,n,_,_,hl,hlen,hx⟩ := DataW.trod_struct ht h
 rw [hc] at hl
 obtain ⟨r,rfl,hr⟩ := nums_of_cells cs fun i hi => by
  rw [hl] at hi
  have hi' : i < xs.length := by omega
  have h1 := hx i fs[i] (by simp [hi])
  obtain ⟨h2,h3,h4⟩ := hf i fs[i] (by simp [hi])
  rw [h2,h3,zE hi'] at h1
  obtain ⟨z,hz,_,hw⟩ := DataW.trod_int h4 h1
  refine ⟨z,?_,hw⟩
  have := congrArg (fun l => l[0]?) hz
  simpa [List.getElem?_take,List.getElem?_drop] using this
 exact ⟨r,rfl,by simpa [numsE] using hl,hr⟩
theorem nums_wf {z : Int} (h : (Lit.int .i64 z).wf = true) : -9223372036854775808 ≤ z ∧ z ≤ 9223372036854775807 := by
 have h1 : IntKind.i64.min = -9223372036854775808 := rfl
 have h2 : IntKind.i64.max = 9223372036854775807 := rfl
 simp only [Lit.wf,Bool.and_eq_true,decide_eq_true_eq] at h
 omega
def Elt (P : Program) (t : TypeId) (n : Nat) {α : Type} (E : α → List Value) (ok : α → Prop) : Prop :=
 ∀ {H : Type} {enc : TypeId × Value → H} {w : World} {base : Nat} {spare : Nat → Bool} {held : Bool} {fuel : Nat} {cs : List Value} {x : DataW H × List MemPlace},
  DataW.trod enc P w base spare held fuel t cs = some x → ∃ r : α,cs = E r ∧ (E r).length = n ∧ ok r
theorem Elt.bool {P : Program} {t : TypeId} (ht : P.underlying t = some .bool) : Elt P t 1 (fun b : Bool => [Value.bool b]) (fun _ => True) := fun h => by
 obtain ⟨b,rfl,_⟩ := DataW.trod_bool ht h
 exact ⟨b,rfl,rfl,trivial⟩
theorem Elt.int {P : Program} {t : TypeId} (ht : P.underlying t = some (.int .i64)) : Elt P t 1 (fun z : Int => [Value.int .i64 z]) InR := fun h => by
 obtain ⟨z,rfl,_,hw⟩ := DataW.trod_int ht h
 exact ⟨z,rfl,rfl,nums_wf hw⟩
theorem Elt.nums {P : Program} {t : TypeId} {n : Nat} (h : Nums P t n) : Elt P t n numsE (fun r => r.length = n ∧ ∀ z ∈ r,InR z) := fun hx => by
 obtain ⟨r,rfl,hl,hk⟩ := h hx
 exact ⟨r,rfl,by simpa [numsE] using hl,hl,fun z hz => nums_wf (hk z hz)⟩
theorem open_elts {α : Type} [Inhabited α] {E : α → List Value} {ok : α → Prop} {H : Type} {enc : TypeId × Value → H} {P : Program} {w : World} {base : Nat} {spare : Nat → Bool} {held : Bool} {r0 : Reach} {b0 : Nat} {t e : TypeId} {n : Nat} {v : Value} {d : DataW H} {ps : List MemPlace}
  (ht : P.underlying t = some (.slice e)) (hc : P.cellsOf e = n) (hn0 : 0 < n) (hI : Elt P e n E ok) (hv : Value.okWide P w r0 b0 t v) (h : DataW.Trod enc P w base spare held t v d ps) :
  ∃ rows : List α,rows.length ≤ maxLen ∧ (∀ r ∈ rows,(E r).length = n ∧ ok r) ∧ Sl w n E v rows := by
 obtain ⟨a0,len0,cap0,rfl⟩ := okWide_slice ht hv
 obtain ⟨fuel,hf⟩ := h
 rcases Go.Deep.open_slice ht hf with ⟨h0,_⟩ | ⟨a,len,cap,m,k,D,Pl,hcs,hb,hl,hm,hmm,_,hx⟩
 ·simp only [Value.cells,List.cons.injEq,Value.slice.injEq,and_true] at h0
  obtain ⟨rfl,rfl,rfl⟩ := h0
  exact ⟨[],by simp,by simp,Sl.nil _ _ _⟩
 ·simp only [Value.cells,List.cons.injEq,Value.slice.injEq,and_true] at hcs
  obtain ⟨e0,e1,e2⟩ := hcs
  subst e0 e1 e2
  rw [hc] at hx
  have hlm : len0 ≤ m := by rw [hmm];split <;> omega
  have hrow : ∀ i,i < len0 → ∃ r : α,((E r).length = n ∧ ok r) ∧ ∀ j,j < n → w.cell? ((a.add (i * n)).add j) = (E r)[j]? := fun i hi => by
   obtain ⟨cs',h1,h2⟩ := hx i (by omega)
   obtain ⟨r,rfl,hr,hk⟩ := hI h2
   exact ⟨r,⟨hr,hk⟩,(World.cells?_some h1).2.2⟩
  obtain ⟨f,hf'⟩ := Go.Deep.choose_lt hrow
  have hlen : ((List.range len0).map f).length = len0 := by simp
  refine ⟨(List.range len0).map f,by rw [hlen];omega,fun r hr => ?_,some a,cap0,by rw [hlen],by rw [hlen];exact hl,(fun h => by cases h),fun hne => ?_⟩
  ·obtain ⟨i,hi,rfl⟩ := List.mem_map.1 hr
   exact (hf' i (List.mem_range.1 hi)).1
  ·have h0 : 0 < len0 := by
    rcases Nat.eq_zero_or_pos len0 with rfl | h
    ·simp at hne
    ·exact h
   have hL : ∀ i,i < len0 → (E (f i)).length = n := fun i hi => (hf' i hi).1.1
   have hc0 := (hf' 0 h0).2 0 hn0
   rw [zE (by rw [hL 0 h0];exact hn0)] at hc0
   obtain ⟨b,off,spot⟩ := a
   have hspot : spot = none := by simpa [Addr.add] using World.cell?_spot hc0
   subst hspot
   refine ⟨b,off,rfl,?_,fun i x j u hxx hu => ?_⟩
   ·obtain ⟨cs0,g1,_⟩ := hx 0 (by omega)
    simpa [Addr.add] using World.cells?_block g1 (by omega)
   ·have hi : i < len0 := by
     have := (zB.1 hxx).1
     rwa [hlen] at this
    rw [List.getElem?_map,List.getElem?_range hi] at hxx
    simp only [Option.map_some,zA] at hxx
    subst hxx
    have hj : j < n := by
     have := (zB.1 hu).1
     rwa [hL i hi] at this
    rw [← hu,← (hf' i hi).2 j hj,Go.Deep.add_add]
    congr 1
    unfold Addr.add
    split
    ·rename_i hz
     obtain ⟨h1,h2⟩ : i * n = 0 ∧ j = 0 := by omega
     rw [h1,h2];rfl
    ·rw [Nat.add_assoc]
theorem vt_nums {W : World} {v : Value} {n : Nat} {l : List (List Int)} (h : Sl W n numsE v l) (hl : ∀ r ∈ l,r.length = n) : VT (allZ W) (.rows n (l.map fun r => r.map I)) v :=
 h.rows fun r hr => ⟨by simp [numsE,hl r hr],by simp [hl r hr],fun j d hd => by
  obtain ⟨z,hz,rfl⟩ := (map_get _ _ _ _).1 hd
  exact ⟨_,(map_get _ _ _ _).2 ⟨z,hz,rfl⟩,fun Z => VT.int .i64 z⟩⟩
theorem open_rows {H : Type} {enc : TypeId × Value → H} {w : World} {base : Nat} {spare : Nat → Bool} {held : Bool} {r0 : Reach} {b0 : Nat} {t e : TypeId} {n : Nat} {v : Value} {d : DataW H} {ps : List MemPlace}
  (ht : Try.prog.underlying t = some (.slice e)) (hc : Try.prog.cellsOf e = n) (h0 : 0 < n) (he : Nums Try.prog e n) (hv : Value.okWide Try.prog w r0 b0 t v) (h : DataW.Trod enc Try.prog w base spare held t v d ps) :
  ∃ l : List (List Int),l.length ≤ maxLen ∧ VV s0 (allZ w) (.rows n (l.map fun r => r.map I)) v ∧ ∀ r ∈ l,r.length = n ∧ ∀ z ∈ r,InR z := by
 obtain ⟨l,h1,h2,h3⟩ := open_elts ht hc h0 (Elt.nums he) hv h
 exact ⟨l,h1,vt_nums h3 (fun r hr => (h2 r hr).2.1),fun r hr => (h2 r hr).2⟩
theorem laidOut : laidOutB Try.prog = true := by kernel_rfl
end Go.Proofs.Ytmdhegbdffbfoaa
