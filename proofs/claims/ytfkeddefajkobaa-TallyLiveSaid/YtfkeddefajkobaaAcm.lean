/- This text proves rules for the use of the small machine: other numbers for memory, loops, calls. It has no condition of its own. -/
import Derived.Test.YtfkeddefajkobaaAcl
set_option linter.unusedSimpArgs false
set_option linter.unusedVariables false
namespace Go.Proofs.Ytfkeddefajkobaa
open Go.RowKit

def rnS (ρ : Nat → Nat) : D → D
  | .opt g d => .opt g (rnR ρ d)
  | d => rnR ρ d
theorem VS.rn {s s' : Nat → Value} {Z : Cells} {ρ : Nat → Nat} {n : Nat} (hs : ∀ id, id < n → s' (ρ id) = s id) {d : D} {v : Value} (hl : LtS n d) : VS s' Z (rnS ρ d) v ↔ VS s Z d v := by
  cases d with
  | opt g d => exact ⟨fun h => ⟨fun hg => (VR.rn hs (hl hg)).1 (h.1 hg), h.2⟩, fun h => ⟨fun hg => (VR.rn hs (hl hg)).2 (h.1 hg), h.2⟩⟩
  | tup ds => exact VR.rn (Z := Z) (d := .tup ds) hs hl
  | agg ds => exact VR.rn (Z := Z) (d := .agg ds) hs hl
  | own id => exact VR.rn (Z := Z) (d := .own id) hs hl
  | ptr id j => exact VR.rn (Z := Z) (d := .ptr id j) hs hl
  | pel id i sz j => exact VR.rn (Z := Z) (d := .pel id i sz j) hs hl
  | _ => exact Iff.rfl
/-- number id of what is known anew is this number of what was known -/
def lget (l : List Nat) (id : Nat) : Nat := l.getD id id
section
variable {P : Program} {B : Base} {hw : List FuncId} {Q Q' : Ex → St → Prop} {st st1 : St} {sb : Bool} {K : St → Prop}
theorem Gh.ren (l : List Nat) (h0 : B.n0 ≤ st1.nx) (hl : ∀ id, id < B.n0 → lget l id = id) (he : ∀ p ∈ st1.env, eget st.env p.1 = rnS (lget l) p.2 ∧ LtS st1.nx p.2)
    (hh : ∀ p ∈ st1.heap, p.1 < st1.nx ∧ LtO st1.nx p.2 ∧ hget st.heap (lget l p.1) = some (rnO (lget l) p.2)) (hnd : (st1.heap.map fun p => lget l p.1).Nodup ∨ l = []) : Gh B st st1 := by
  intro s Z a w hr
  have hE : ∀ k, eget st1.env k = .any ∨ (k, eget st1.env k) ∈ st1.env := fun k => by
    have : ∀ l : List (Nat × D), eget l k = .any ∨ (k, eget l k) ∈ l := fun l => by
      induction l with
      | nil => exact .inl rfl
      | cons p l ih =>
        obtain ⟨j, d⟩ := p
        simp only [eget]
        split
        · rename_i e; subst e; exact .inr (List.mem_cons_self ..)
        · exact ih.imp id (List.mem_cons_of_mem _)
    exact this _
  refine ⟨fun id => s (lget l id), Z, ⟨fun k => ?_, fun k => ?_, hr.size, hr.defers, ?_⟩⟩
  · rcases hE k with h | h
    · rw [h]; trivial
    · obtain ⟨h1, h2⟩ := he _ h
      exact (VS.rn (s' := s) (fun _ _ => rfl) h2).1 (by rw [← h1]; exact hr.env k)
  · rcases hE k with h | h
    · rw [h]; trivial
    · exact (he _ h).2
  · have hH : ∀ id ob, hget st1.heap id = some ob → id < st1.nx ∧ LtO st1.nx ob ∧ hget st.heap (lget l id) = some (rnO (lget l) ob) := fun id ob h => hh _ (hget_mem h)
    have inj : ∀ id id' ob ob', hget st1.heap id = some ob → hget st1.heap id' = some ob' → id ≠ id' → lget l id ≠ lget l id' := fun id id' ob ob' h1 h2 hne e => by
      rcases hnd with hnd | rfl
      · have m1 := hget_mem h1
        have m2 := hget_mem h2
        obtain ⟨i, hi⟩ := List.getElem?_of_mem m1
        obtain ⟨j, hj⟩ := List.getElem?_of_mem m2
        have g1 : (st1.heap.map fun p => lget l p.1)[i]? = some (lget l id) := by rw [List.getElem?_map, hi]; rfl
        have g2 : (st1.heap.map fun p => lget l p.1)[j]? = some (lget l id') := by rw [List.getElem?_map, hj]; rfl
        obtain ⟨l1, e1⟩ := List.getElem?_eq_some_iff.1 g1
        obtain ⟨l2, e2⟩ := List.getElem?_eq_some_iff.1 g2
        have : i = j := (List.getElem_inj hnd).1 (by rw [e1, e2]; exact e)
        subst this
        rw [hi] at hj
        cases hj
        exact hne rfl
      · exact hne (by simpa [lget] using e)
    refine ⟨fun id ob h => ?_, fun id ob h => ?_, fun id id' ob ob' b h h' hne hb => ?_, hr.h.zok, fun id ob b o h hb => ?_, fun id ob b h hb => ?_, hr.h.fr, h0, fun id hid => ?_, hr.h.bz, hr.h.bn⟩
    · obtain ⟨h1, h2, h3⟩ := hH id ob h
      exact (ObOk.rn (s' := s) (fun _ _ => rfl) h2).1 (hr.h.ob _ _ h3)
    · obtain ⟨h1, h2, h3⟩ := hH id ob h
      exact ⟨h1, h2⟩
    · exact hr.h.apart _ _ _ _ b (hH id ob h).2.2 (hH id' ob' h').2.2 (inj id id' ob ob' h h' hne) hb
    · exact hr.h.zap _ _ b o (hH id ob h).2.2 hb
    · exact hr.h.mine _ _ b (hH id ob h).2.2 hb
    · rw [hl id hid]; exact hr.h.bs id hid

theorem Gh.of_eq (h : st = st1) : Gh B st st1 := h ▸ Gh.refl st
/-- the end of a round -/
def LK {α : Type} (B : Base) (S : α → St) (I : Nat → α → Prop) (n : Nat) (st : St) : Prop := ∃ m y', Gh B st (S y') ∧ m < n ∧ I m y'
theorem W.loopS {α : Type} {x : AC} (S : α → St) (I : Nat → α → Prop) (h0 : ∃ n y, Gh B st (S y) ∧ I n y)
    (hround : ∀ n y, I n y → W P B hw x (seqQ (LK B S I n) Q) (S y)) : W P B hw (.loop x) Q st := by
  refine W.loop (fun n st => ∃ y, st = S y ∧ I n y) ?_ ?_
  · obtain ⟨n, y, h1, h2⟩ := h0
    exact ⟨n, S y, h1, y, rfl, h2⟩
  · rintro n _ ⟨y, rfl, h⟩
    refine (hround n y h).mono fun e st' h' => ?_
    cases e with
    | normal => obtain ⟨m, y', h1, h2, h3⟩ := h'; exact ⟨m, S y', h1, h2, y', rfl, h3⟩
    | _ => exact h'

theorem WCall.pf {f : FuncId} {as_ : List Opd} {es : List D} {d : D} {dst : Option Nat} (hpf : PF P f es d) (hok : oks st.env (.call f as_) = true) (hes : match omap (brwV st.heap) (as_.map (evS st.env)) with | some e => leVL e es | none => False) (hno : ((as_.map (evS st.env)).all noV || flatR d) = true)
    (hK : K ⟨putO st.env dst d, st.heap, st.nx⟩) : WCall P sb B (.call f as_) dst st K := WCall.of hok (CallOk.pf hpf hes hno hK)
theorem WCall.pfn {f : FuncId} {as_ : List Opd} {es : List D} {d : D} {dst : Option Nat} (hpf : PFn P f es d) (hok : oks st.env (.call f as_) = true) (hes : match omap (brwV st.heap) (as_.map (evS st.env)) with | some e => leVL e es | none => False)
    (hK : K ⟨putO st.env dst d, st.heap, st.nx⟩) : WCall P sb B (.call f as_) dst st K := WCall.of hok (CallOk.pfn hpf hes hK)
theorem WCall.gh {ao : AOp} {dst : Option Nat} (hg : Gh B st st1) (h : WCall P sb B ao dst st1 K) : WCall P sb B ao dst st K := fun o s Z a w K' Q hc hd hdst hr hG => by
  obtain ⟨s', Z', hr'⟩ := hg s Z a w hr
  exact h o s' Z' a w K' Q hc hd hdst hr' hG
end

/-! ### Ghost steps -/
section
variable {B : Base} {st : St}
/-- nothing becomes an own slice of nothing -/
theorem Gh.adopt (k sz : Nat) (h0 : 0 < sz) (hk : eget st.env k = .nil0) : Gh B st ⟨eput st.env k (.own st.nx), eput st.heap st.nx (.row sz []), st.nx + 1⟩ := by
  intro s Z a w hr
  have hv := hr.env k
  rw [hk] at hv
  have hv : VT Z .nil0 (a.tmps.getD k undef) := hv
  generalize hav : a.tmps.getD k undef = v at hv
  cases hv with
  | nil0 q =>
  have hH := hr.h.new (w' := w) (v := .slice q 0 0) (ob := .row sz []) (Below.refl _ _) ⟨h0, (fun _ h => by cases h), .inl ⟨rfl, q, rfl⟩⟩ trivial (fun k hk => by cases q <;> simp [blk] at hk)
  refine ⟨_, Z, fun j => ?_, fun j => ?_, hr.size, hr.defers, hH⟩
  · rw [eget_eput]
    split
    · rename_i e; subst e; rw [hav]; exact ⟨(upd_same _ _ _).symm, .inl ⟨q, 0, 0, rfl⟩⟩
    · exact (hr.env j).mono (fun _ _ _ h => h) (upd_lt s st.nx _) (hr.elt j)
  · rw [eget_eput]
    split
    · exact Nat.lt_succ_self _
    · exact (hr.elt j).mono (Nat.le_succ _)
/-- the same for a cell of a variable -/
theorem Gh.adoptC (id j sz : Nat) (h0 : 0 < sz) (ds : List D) (hh : hget st.heap id = some (.cells ds)) (hk : ds[j]? = some .nil0) : Gh B st ⟨st.env, eput (eput st.heap st.nx (.row sz [])) id (.cells (ds.set j (.own st.nx))), st.nx + 1⟩ := by
  intro s Z a w hr
  obtain ⟨b, T, cs, hb, hg, hsz, hc⟩ := hr.h.ob _ _ hh
  have hv := hc j _ hk
  have hv : VT Z .nil0 (cs.getD j undef) := hv
  generalize hav : cs.getD j undef = v at hv
  cases hv with
  | nil0 q =>
  have hlt := hr.h.lt _ _ hh
  have hne : id ≠ st.nx := by omega
  have hH := hr.h.new (w' := w) (v := .slice q 0 0) (ob := .row sz []) (Below.refl _ _) ⟨h0, (fun _ h => by cases h), .inl ⟨rfl, q, rfl⟩⟩ trivial (fun k hk => by cases q <;> simp [blk] at hk)
  have hh' : hget (eput st.heap st.nx (.row sz [])) id = some (.cells ds) := by rw [hget_eput, if_neg hne]; exact hh
  have hs : upd s st.nx (.slice q 0 0) id = s id := upd_lt _ _ _ _ hlt.1
  have hH2 : RelH B (upd s st.nx (.slice q 0 0)) Z (eput (eput st.heap st.nx (.row sz [])) id (.cells (ds.set j (.own st.nx)))) (st.nx + 1) w := by
    refine hH.write (k := b) hh' (by rw [hs, hb]; rfl) ⟨rfl, rfl, rfl, rfl, fun _ _ => rfl⟩ ?_ ?_
    · refine ⟨b, T, cs, by rw [hs]; exact hb, hg, by simpa using hsz, fun i x hx => ?_⟩
      rw [List.getElem?_set] at hx
      split at hx
      · rename_i e
        subst e
        split at hx
        · simp only [Option.some.injEq] at hx; subst hx; rw [hav]; exact ⟨(upd_same _ _ _).symm, .inl ⟨q, 0, 0, rfl⟩⟩
        · cases hx
      · exact VC.mono (fun _ _ _ h => h) (upd_lt s st.nx _) (hlt.2 x (List.mem_of_getElem? hx)) (hc i x hx)
    · intro x hx
      rcases List.mem_or_eq_of_mem_set hx with hx | rfl
      · exact (hlt.2 x hx).mono (Nat.le_succ _)
      · exact Nat.lt_succ_self _
  exact ⟨_, Z, fun j => (hr.env j).mono (fun _ _ _ h => h) (upd_lt s st.nx _) (hr.elt j), fun j => (hr.elt j).mono (Nat.le_succ _), hr.size, hr.defers, hH2⟩
end

/-! ### Symbolic rows -/
theorem mn_min (a b : Int) : (if b < a then b else a) = min a b := by split <;> omega
theorem mx_max (a b : Int) : (if a < b then b else a) = max a b := by split <;> omega
abbrev I (z : Int) : D := .int .i64 z
theorem splice_one (l : List D) (j : Nat) (v : D) (h : j < l.length) : splice l j [v] = l.set j v := by
  unfold splice
  rw [List.set_eq_take_append_cons_drop, if_pos h]
  simp
theorem splice_more (l : List D) (j : Nat) (x y : D) (es : List D) : splice l j (x :: y :: es) = l.take j ++ (x :: y :: es) ++ l.drop (j + (es.length + 1 + 1)) := rfl
theorem splice_map {α : Type} (f : α → D) (l : List α) (j : Nat) (v : α) (h : j < l.length) : splice (l.map f) j [f v] = (l.set j v).map f := by
  rw [splice_one _ _ _ (by simpa using h), List.map_set]
theorem headD_drop {α : Type} (l : List α) (j : Nat) (d : α) : (l.drop j).headD d = l.getD j d := by
  simp [List.headD_eq_head?_getD, List.head?_drop, List.getD_eq_getElem?_getD]
theorem getD_map {α β : Type} (f : α → β) (l : List α) (j : Nat) (d : β) (e : α) (h : j < l.length) : (l.map f).getD j d = f (l.getD j e) := by
  simp [List.getD_eq_getElem?_getD, h]
end Go.Proofs.Ytfkeddefajkobaa
