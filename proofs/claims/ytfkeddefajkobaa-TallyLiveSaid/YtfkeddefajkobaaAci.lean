/- This text proves the rule for a call by a contract over memory of one's own that stands anywhere among more memory. It has no condition of its own. -/
import Derived.Test.YtfkeddefajkobaaAch
set_option linter.unusedSimpArgs false
set_option linter.unusedVariables false
namespace Go.Proofs.Ytfkeddefajkobaa
open Go.RowKit

/-! ### Other numbers -/
def rnC (ρ : Nat → Nat) : D → D
  | .own id => .own (ρ id)
  | .ptr id j => .ptr (ρ id) j
  | .pel id i sz j => .pel (ρ id) i sz j
  | d => d
def rnV (ρ : Nat → Nat) : D → D
  | .agg ds => .agg (ds.map (rnC ρ))
  | d => rnC ρ d
def rnR (ρ : Nat → Nat) : D → D
  | .tup ds => .tup (ds.map (rnV ρ))
  | d => rnV ρ d
def rnO (ρ : Nat → Nat) : Ob → Ob
  | .cells ds => .cells (ds.map (rnC ρ))
  | .row sz xs => .row sz xs
  | .rowd sz xs => .rowd sz (xs.map (·.map (rnC ρ)))
  | .mp bare es ck => .mp bare es ck
  | .it m since seen last => .it (ρ m) since seen last
section
variable {s s' : Nat → Value} {Z : Cells} {w : World} {ρ : Nat → Nat} {n m : Nat}
theorem VC.rn (hs : ∀ id, id < n → s' (ρ id) = s id) {d : D} {v : Value} (hl : LtC n d) : VC s' Z (rnC ρ d) v ↔ VC s Z d v := by
  cases d with
  | own id => simp only [rnC, VC, hs id hl]
  | ptr id j => simp only [rnC, VC, hs id hl]
  | pel id i sz j => simp only [rnC, VC, hs id hl]
  | _ => exact Iff.rfl
theorem map_get {α β : Type} (f : α → β) (l : List α) (j : Nat) (y : β) : (l.map f)[j]? = some y ↔ ∃ x, l[j]? = some x ∧ f x = y := by
  rw [List.getElem?_map]; cases l[j]? <;> simp
theorem VV.rn (hs : ∀ id, id < n → s' (ρ id) = s id) {d : D} {v : Value} (hl : LtV n d) : VV s' Z (rnV ρ d) v ↔ VV s Z d v := by
  cases d with
  | agg ds =>
    constructor
    · rintro ⟨vs, rfl, h1, h2⟩
      refine ⟨vs, rfl, by simpa using h1, fun j x hx => ?_⟩
      exact (VC.rn hs (hl x (List.mem_of_getElem? hx))).1 (h2 j _ ((map_get _ _ _ _).2 ⟨x, hx, rfl⟩))
    · rintro ⟨vs, rfl, h1, h2⟩
      refine ⟨vs, rfl, by simpa using h1, fun j y hy => ?_⟩
      obtain ⟨x, hx, rfl⟩ := (map_get _ _ _ _).1 hy
      exact (VC.rn hs (hl x (List.mem_of_getElem? hx))).2 (h2 j x hx)
  | own id => exact VC.rn (Z := Z) (d := .own id) hs hl
  | ptr id j => exact VC.rn (Z := Z) (d := .ptr id j) hs hl
  | pel id i sz j => exact VC.rn (Z := Z) (d := .pel id i sz j) hs hl
  | _ => exact Iff.rfl
theorem VR.rn (hs : ∀ id, id < n → s' (ρ id) = s id) {d : D} {v : Value} (hl : LtR n d) : VR s' Z (rnR ρ d) v ↔ VR s Z d v := by
  cases d with
  | tup ds =>
    constructor
    · rintro ⟨vs, rfl, h1, h2⟩
      refine ⟨vs, rfl, by simpa using h1, fun j x hx => ?_⟩
      exact (VV.rn hs (hl x (List.mem_of_getElem? hx))).1 (h2 j _ ((map_get _ _ _ _).2 ⟨x, hx, rfl⟩))
    · rintro ⟨vs, rfl, h1, h2⟩
      refine ⟨vs, rfl, by simpa using h1, fun j y hy => ?_⟩
      obtain ⟨x, hx, rfl⟩ := (map_get _ _ _ _).1 hy
      exact (VV.rn hs (hl x (List.mem_of_getElem? hx))).2 (h2 j x hx)
  | agg ds => exact VV.rn (Z := Z) (d := .agg ds) hs hl
  | own id => exact VC.rn (Z := Z) (d := .own id) hs hl
  | ptr id j => exact VC.rn (Z := Z) (d := .ptr id j) hs hl
  | pel id i sz j => exact VC.rn (Z := Z) (d := .pel id i sz j) hs hl
  | _ => exact Iff.rfl
theorem LtC.rn (hm : ∀ id, id < n → ρ id < m) {d : D} (hl : LtC n d) : LtC m (rnC ρ d) := by
  cases d <;> first | exact hm _ hl | trivial
theorem LtV.rn (hm : ∀ id, id < n → ρ id < m) {d : D} (hl : LtV n d) : LtV m (rnV ρ d) := by
  cases d with
  | agg ds => intro y hy; obtain ⟨x, hx, rfl⟩ := List.mem_map.1 hy; exact LtC.rn hm (hl x hx)
  | own id => exact hm _ hl
  | ptr id j => exact hm _ hl
  | pel id i sz j => exact hm _ hl
  | _ => trivial
theorem LtR.rn (hm : ∀ id, id < n → ρ id < m) {d : D} (hl : LtR n d) : LtR m (rnR ρ d) := by
  cases d with
  | tup ds => intro y hy; obtain ⟨x, hx, rfl⟩ := List.mem_map.1 hy; exact LtV.rn hm (hl x hx)
  | agg ds => exact LtV.rn (d := .agg ds) hm hl
  | own id => exact hm _ hl
  | ptr id j => exact hm _ hl
  | pel id i sz j => exact hm _ hl
  | _ => trivial
theorem LtO.rn (hm : ∀ id, id < n → ρ id < m) {ob : Ob} (hl : LtO n ob) : LtO m (rnO ρ ob) := by
  cases ob with
  | cells ds => intro y hy; obtain ⟨x, hx, rfl⟩ := List.mem_map.1 hy; exact LtC.rn hm (hl x hx)
  | row sz xs => trivial
  | mp bare es ck => trivial
  | it m since seen last => exact hm _ hl
  | rowd sz xs =>
    intro r hr y hy
    obtain ⟨r', hr', rfl⟩ := List.mem_map.1 hr
    obtain ⟨x, hx, rfl⟩ := List.mem_map.1 hy
    exact LtC.rn hm (hl r' hr' x hx)
theorem ObOk.rn (hs : ∀ id, id < n → s' (ρ id) = s id) {ob : Ob} {v : Value} (hl : LtO n ob) : ObOk s' Z w (rnO ρ ob) v ↔ ObOk s Z w ob v := by
  cases ob with
  | cells ds =>
    constructor
    · rintro ⟨b, T, cs, rfl, h1, h2, h3⟩
      refine ⟨b, T, cs, rfl, h1, by simpa using h2, fun j x hx => ?_⟩
      exact (VC.rn hs (hl x (List.mem_of_getElem? hx))).1 (h3 j _ ((map_get _ _ _ _).2 ⟨x, hx, rfl⟩))
    · rintro ⟨b, T, cs, rfl, h1, h2, h3⟩
      refine ⟨b, T, cs, rfl, h1, by simpa using h2, fun j y hy => ?_⟩
      obtain ⟨x, hx, rfl⟩ := (map_get _ _ _ _).1 hy
      exact (VC.rn hs (hl x (List.mem_of_getElem? hx))).2 (h3 j x hx)
  | row sz xs => exact Iff.rfl
  | mp bare es ck => exact Iff.rfl
  | it m since seen last => have := hs m hl; simp only [rnO, ObOk, this]
  | rowd sz xs =>
    constructor
    · rintro ⟨h1, h2, h3⟩
      refine ⟨h1, fun row hr => by simpa using h2 _ (List.mem_map.2 ⟨row, hr, rfl⟩), ?_⟩
      rcases h3 with ⟨h3, h4⟩ | ⟨g, cap, cur, e, h3, h4, h5, h6, h7, h8⟩
      · exact .inl ⟨by simpa using h3, h4⟩
      · refine .inr ⟨g, cap, cur, e, by simpa using h3, h4, by simpa using h5, h6, h7, fun i row j d hi hj => ?_⟩
        exact (VC.rn hs (hl row (List.mem_of_getElem? hi) d (List.mem_of_getElem? hj))).1 (h8 i _ j _ ((map_get _ _ _ _).2 ⟨row, hi, rfl⟩) ((map_get _ _ _ _).2 ⟨d, hj, rfl⟩))
    · rintro ⟨h1, h2, h3⟩
      refine ⟨h1, fun row hr => ?_, ?_⟩
      · obtain ⟨r, hr', rfl⟩ := List.mem_map.1 hr
        simpa using h2 r hr'
      · rcases h3 with ⟨h3, h4⟩ | ⟨g, cap, cur, e, h3, h4, h5, h6, h7, h8⟩
        · exact .inl ⟨by simpa using h3, h4⟩
        · refine .inr ⟨g, cap, cur, e, by simpa using h3, h4, by simpa using h5, h6, h7, fun i row j d hi hj => ?_⟩
          obtain ⟨r, hr', rfl⟩ := (map_get _ _ _ _).1 hi
          obtain ⟨x, hx, rfl⟩ := (map_get _ _ _ _).1 hj
          exact (VC.rn hs (hl r (List.mem_of_getElem? hr') x (List.mem_of_getElem? hx))).2 (h8 i r j x hr' hx)
end

/-! ### The rule -/
/-- number id of the callee's is this number of the caller's -/
def rho (l : List Nat) (n0 nx id : Nat) : Nat := if id < n0 then l.getD id 0 else nx + (id - n0)
def hputs (ρ : Nat → Nat) : List (Nat × Ob) → List (Nat × Ob) → List (Nat × Ob)
  | [], H => H
  | (id, ob) :: L, H => eput (hputs ρ L H) (ρ id) (rnO ρ ob)
def herases : List Nat → List (Nat × Ob) → List (Nat × Ob)
  | [], H => H
  | k :: ks, H => herases ks (herase H k)
theorem hget_hputs {ρ : Nat → Nat} {H : List (Nat × Ob)} {k : Nat} {ob : Ob} : ∀ {L : List (Nat × Ob)}, hget (hputs ρ L H) k = some ob → (∃ id ob', hget L id = some ob' ∧ k = ρ id ∧ ob = rnO ρ ob') ∨ hget H k = some ob
  | [], h => .inr h
  | (id, o) :: L, h => by
    simp only [hputs, hget_eput] at h
    split at h
    · rename_i hk
      cases h
      exact .inl ⟨id, o, by simp [hget], hk, rfl⟩
    · rename_i hk
      rcases hget_hputs h with ⟨id', o', h1, h2, h3⟩ | h
      · refine .inl ⟨id', o', ?_, h2, h3⟩
        have : id' ≠ id := by rintro rfl; exact hk h2
        simp [hget, this, h1]
      · exact .inr h
theorem hget_herases {k : Nat} {ob : Ob} : ∀ {l : List Nat} {H : List (Nat × Ob)}, hget (herases l H) k = some ob → hget H k = some ob ∧ k ∉ l
  | [], H, h => ⟨h, by simp⟩
  | j :: l, H, h => by
    obtain ⟨h1, h2⟩ := hget_herases (l := l) h
    rw [hget_herase] at h1
    split at h1
    · cases h1
    · rename_i hj; exact ⟨h1, by simp [hj, h2]⟩
theorem hget_mem {id : Nat} {ob : Ob} : ∀ {H : List (Nat × Ob)}, hget H id = some ob → (id, ob) ∈ H
  | [], h => by cases h
  | (k, o) :: H, h => by
    simp only [hget] at h
    split at h
    · rename_i e; cases h; subst e; simp
    · exact List.mem_cons_of_mem _ (hget_mem h)

section
variable {P : Program} {sb : Bool} {B : Base} {st : St} {K : St → Prop}
theorem CallOk.hf {f : FuncId} {ds ds0 : List D} {dst : Option Nat} {H0 : List (Nat × Ob)} {n0 : Nat} {R : D → List (Nat × Ob) → Nat → Prop} (hf : HF P f ds0 H0 n0 R) (hsb : sb = true → H0 = []) (l : List Nat)
    (hl : l.length = n0) (hnd : l.Nodup) (hlt : ∀ k ∈ l, k < st.nx) (hds : ds = ds0.map (rnV (rho l n0 st.nx))) (hao : ds0.all argOk = true) (hdl : ∀ d ∈ ds0, LtV n0 d)
    (hH0 : ∀ p ∈ H0, p.1 < n0 ∧ LtO n0 p.2 ∧ hget st.heap (rho l n0 st.nx p.1) = some (rnO (rho l n0 st.nx) p.2))
    (hK : ∀ d H' nx', n0 ≤ nx' → R d H' nx' → K ⟨putO st.env dst (rnR (rho l n0 st.nx) d), hputs (rho l n0 st.nx) H' (herases l st.heap), st.nx + (nx' - n0)⟩) : CallOk P sb B f ds dst st K := by
  obtain ⟨hcal, hf⟩ := hf
  refine ⟨hcal, fun s Z w vs h hvl hv0 => ?_⟩
  subst hds
  have hlow : ∀ id, id < n0 → rho l n0 st.nx id = l.getD id 0 ∧ rho l n0 st.nx id ∈ l ∧ rho l n0 st.nx id < st.nx := fun id hid => by
    have h1 : rho l n0 st.nx id = l.getD id 0 := by simp [rho, hid]
    have h2 : l.getD id 0 ∈ l := by
      rw [List.getD_eq_getElem?_getD, List.getElem?_eq_getElem (by omega)]
      exact List.getElem_mem _
    exact ⟨h1, by rw [h1]; exact h2, by rw [h1]; exact hlt _ h2⟩
  have hinj0 : ∀ i j, i < n0 → j < n0 → rho l n0 st.nx i = rho l n0 st.nx j → i = j := fun i j hi hj e => by
    rw [(hlow i hi).1, (hlow j hj).1] at e
    rw [List.getD_eq_getElem?_getD, List.getD_eq_getElem?_getD, List.getElem?_eq_getElem (by omega), List.getElem?_eq_getElem (by omega)] at e
    exact (List.getElem_inj hnd).1 e
  generalize hρ : rho l n0 st.nx = ρ at *
  have hhigh : ∀ id, ¬ id < n0 → ρ id = st.nx + (id - n0) := fun id hid => by rw [← hρ]; simp [rho, hid]
  let t0 : Nat → Value := fun id => s (ρ id)
  let F0 : Nat → Prop := fun b => ∃ id ob, hget H0 id = some ob ∧ blk (s (ρ id)) = some b
  have hH : ∀ id ob, hget H0 id = some ob → id < n0 ∧ LtO n0 ob ∧ hget st.heap (ρ id) = some (rnO ρ ob) := fun id ob hh => hH0 _ (hget_mem hh)
  have rel0 : RelH ⟨0, F0, w, n0, t0, Z⟩ t0 Z H0 n0 w := by
    refine ⟨fun id ob hh => ?_, fun id ob hh => ⟨(hH id ob hh).1, (hH id ob hh).2.1⟩, fun id id' ob ob' b hh hh' hne hb => ?_, h.zok, fun id ob b o hh hb => ?_, fun id ob b hh hb => .inr ⟨id, ob, hh, hb⟩, Fr.refl _ _, Nat.le_refl _, fun _ _ => rfl, fun _ _ _ h => h, fun _ _ _ h => .inl h⟩
    · obtain ⟨h1, h2, h3⟩ := hH id ob hh
      exact (ObOk.rn (n := n0) (s := t0) (s' := s) (fun _ _ => rfl) h2).1 (h.ob _ _ h3)
    · obtain ⟨h1, h2, h3⟩ := hH id ob hh
      obtain ⟨g1, g2, g3⟩ := hH id' ob' hh'
      exact h.apart _ _ _ _ b h3 g3 (fun e => hne (hinj0 _ _ h1 g1 e)) hb
    · obtain ⟨h1, h2, h3⟩ := hH id ob hh
      exact h.zap _ _ b o h3 hb
  have hargs : ∀ j x, ds0[j]? = some x → VV t0 Z x (vs.getD j undef) := fun j x hx => by
    have h1 := hv0 j _ ((map_get _ _ _ _).2 ⟨x, hx, rfl⟩)
    have hmem := List.mem_of_getElem? hx
    have ha := List.all_eq_true.1 hao x hmem
    have h2 : VV s Z (rnV ρ x) (vs.getD j undef) := by
      cases x <;> first | exact h1 | cases ha
    exact (VV.rn (n := n0) (s := t0) (s' := s) (fun _ _ => rfl) (hdl x hmem)).1 h2
  refine (hf F0 t0 Z w vs rel0 (by simpa using hvl) hargs).mono ?_
  rintro e w' ⟨v, d, H', nx', s', Z', he, hr, hrl, hR, hpost⟩
  let s1 : Nat → Value := fun k => if k < st.nx then s k else s' (n0 + (k - st.nx))
  have hn0 : n0 ≤ nx' := hR.n0
  have hs1 : ∀ id, id < nx' → s1 (ρ id) = s' id := fun id hid => by
    by_cases h1 : id < n0
    · have h2 := (hlow id h1).2.2
      show (if ρ id < st.nx then s (ρ id) else _) = _
      rw [if_pos h2]
      exact (hR.bs id h1).symm
    · have h2 := hhigh id h1
      show (if ρ id < st.nx then _ else s' (n0 + (ρ id - st.nx))) = _
      rw [if_neg (by omega), h2]
      congr 1; omega
  have hlt1 : ∀ id, id < nx' → ρ id < st.nx + (nx' - n0) := fun id hid => by
    by_cases h1 : id < n0
    · have := (hlow id h1).2.2; omega
    · have := hhigh id h1; omega
  have hold : ∀ id, id < st.nx → s1 id = s id := fun id hid => if_pos hid
  have hcase : ∀ k ob, hget (hputs ρ H' (herases l st.heap)) k = some ob → (∃ id ob', hget H' id = some ob' ∧ k = ρ id ∧ ob = rnO ρ ob') ∨ (hget st.heap k = some ob ∧ k ∉ l) := fun k ob hk => by
    rcases hget_hputs hk with h1 | h1
    · exact .inl h1
    · exact .inr (hget_herases h1)
  have away : ∀ k ob, hget st.heap k = some ob → k ∉ l → ∀ b, blk (s k) = some b → b < w.heap.size ∧ ¬ F0 b := fun k ob hk hkl b hb => by
    refine ⟨(h.ob k ob hk).lt b hb, fun ⟨id, ob', hid, hb'⟩ => ?_⟩
    obtain ⟨h1, h2, h3⟩ := hH id ob' hid
    have h4 : k ≠ ρ id := fun e => hkl (by rw [e]; exact (hlow id h1).2.1)
    exact h.apart _ _ _ _ b hk h3 h4 hb hb'
  have hbel : sb = true → Below w.heap.size w w' := fun hb => by
    have := hsb hb
    subst this
    exact ⟨hR.fr.os, hR.fr.tape, hR.fr.output, hR.fr.size, fun k hk => hR.fr.block k hk (fun ⟨id', o2, h5, _⟩ => by cases h5)⟩
  refine ⟨v, he, hbel, rnR ρ d, hputs ρ H' (herases l st.heap), st.nx + (nx' - n0), s1, Z', (VR.rn hs1 hrl).2 hr, LtR.rn hlt1 hrl, ?_, by omega, hold, hR.bz, hK d H' nx' hn0 hpost⟩
  constructor
  · intro k ob hk
    rcases hcase k ob hk with ⟨id, ob', h1, rfl, rfl⟩ | ⟨h1, h2⟩
    · have h3 := hR.lt id ob' h1
      rw [hs1 id h3.1]
      exact (ObOk.rn hs1 h3.2).2 (hR.ob id ob' h1)
    · have h3 := h.lt k ob h1
      rw [hold k h3.1]
      exact (h.ob k ob h1).mono hR.bz hold h3.2 fun b hb => by
        obtain ⟨g1, g2⟩ := away k ob h1 h2 b hb
        exact hR.fr.block b g1 g2
  · intro k ob hk
    rcases hcase k ob hk with ⟨id, ob', h1, rfl, rfl⟩ | ⟨h1, h2⟩
    · have h3 := hR.lt id ob' h1
      exact ⟨hlt1 id h3.1, LtO.rn hlt1 h3.2⟩
    · have h3 := h.lt k ob h1
      exact ⟨by omega, h3.2.mono (by omega)⟩
  · intro k k' ob ob' b hk hk' hne hb
    rcases hcase k ob hk with ⟨id, o1, h1, rfl, rfl⟩ | ⟨h1, h2⟩
    · have h3 := hR.lt id o1 h1
      rw [hs1 id h3.1] at hb
      rcases hcase k' ob' hk' with ⟨id', o2, g1, rfl, rfl⟩ | ⟨g1, g2⟩
      · have g3 := hR.lt id' o2 g1
        rw [hs1 id' g3.1]
        exact hR.apart id id' o1 o2 b h1 g1 (fun e => hne (by rw [e])) hb
      · rw [hold k' (h.lt k' ob' g1).1]
        intro hb2
        obtain ⟨q1, q2⟩ := away k' ob' g1 g2 b hb2
        rcases hR.mine id o1 b h1 hb with h5 | h5
        · simp only at h5; omega
        · exact q2 h5
    · rw [hold k (h.lt k ob h1).1] at hb
      rcases hcase k' ob' hk' with ⟨id', o2, g1, rfl, rfl⟩ | ⟨g1, g2⟩
      · have g3 := hR.lt id' o2 g1
        rw [hs1 id' g3.1]
        intro hb2
        obtain ⟨q1, q2⟩ := away k ob h1 h2 b hb
        rcases hR.mine id' o2 b g1 hb2 with h5 | h5
        · simp only at h5; omega
        · exact q2 h5
      · rw [hold k' (h.lt k' ob' g1).1]
        exact h.apart k k' ob ob' b h1 g1 hne hb
  · exact hR.zok
  · intro k ob b o hk hb
    rcases hcase k ob hk with ⟨id, o1, h1, rfl, rfl⟩ | ⟨h1, h2⟩
    · rw [hs1 id (hR.lt id o1 h1).1] at hb
      exact hR.zap id o1 b o h1 hb
    · rw [hold k (h.lt k ob h1).1] at hb
      obtain ⟨q1, q2⟩ := away k ob h1 h2 b hb
      cases hq : Z' b o with
      | none => rfl
      | some u =>
        rcases hR.bn b o u hq with h5 | h5 | h5
        · have h6 := h.zap k ob b o h1 hb
          simp only at h5
          rw [h6] at h5; cases h5
        · simp only at h5; omega
        · exact absurd h5 q2
  · intro k ob b hk hb
    rcases hcase k ob hk with ⟨id, o1, h1, rfl, rfl⟩ | ⟨h1, h2⟩
    · rw [hs1 id (hR.lt id o1 h1).1] at hb
      rcases hR.mine id o1 b h1 hb with h5 | ⟨id', o2, h5, h6⟩
      · exact .inl (Nat.le_trans h.fr.size h5)
      · obtain ⟨g1, g2, g3⟩ := hH id' o2 h5
        exact h.mine _ _ b g3 h6
    · rw [hold k (h.lt k ob h1).1] at hb
      exact h.mine k ob b h1 hb
  · refine ⟨hR.fr.os.trans h.fr.os, hR.fr.tape.trans h.fr.tape, hR.fr.output.trans h.fr.output, Nat.le_trans h.fr.size hR.fr.size, fun k hk hf => ?_⟩
    have hnf : ¬ F0 k := fun ⟨id', o2, h5, h6⟩ => by
      obtain ⟨g1, g2, g3⟩ := hH id' o2 h5
      rcases h.mine _ _ k g3 h6 with h7 | h7
      · omega
      · exact hf h7
    rw [hR.fr.block k (Nat.lt_of_lt_of_le hk h.fr.size) hnf]
    exact h.fr.block k hk hf
  · have := h.n0; omega
  · intro id hid
    rw [hold id (Nat.lt_of_lt_of_le hid h.n0)]
    exact h.bs id hid
  · exact fun b o v hv => hR.bz b o v (h.bz b o v hv)
  · intro b o u hu
    rcases hR.bn b o u hu with h5 | h5 | ⟨id', o2, h5, h6⟩
    · exact h.bn b o u h5
    · exact .inr (.inl (Nat.le_trans h.fr.size h5))
    · obtain ⟨g1, g2, g3⟩ := hH id' o2 h5
      exact .inr (h.mine _ _ b g3 h6)
end
end Go.Proofs.Ytfkeddefajkobaa
