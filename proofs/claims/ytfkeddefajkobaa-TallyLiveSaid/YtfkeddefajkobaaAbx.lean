/- This text proves how what is known of memory changes when a new block is made, a cell is written, or a function is called that makes only new memory. It has no condition of its own. -/
import Derived.Test.YtfkeddefajkobaaAbw
set_option linter.unusedSimpArgs false
set_option linter.unusedVariables false
namespace Go.Proofs.Ytfkeddefajkobaa
open Go.RowKit

theorem VT.mono {Z Z' : Cells} (hz : ∀ b o v, Z b o = some v → Z' b o = some v) {d : D} {v : Value} (h : VT Z d v) : VT Z' d v := by
  induction h with
  | int => exact VT.int _ _
  | bool => exact VT.bool _
  | str => exact VT.str _
  | nilp => exact VT.nilp
  | any v h => exact VT.any v h
  | nil0 a => exact VT.nil0 a
  | rnil sz a cap => exact VT.rnil sz a cap
  | rows sz xs b off cap c h1 h2 _ ih => exact VT.rows sz xs b off cap c h1 (fun i row j d hi hj => ⟨(h2 i row j d hi hj).1, hz _ _ _ (h2 i row j d hi hj).2⟩) ih
  | pc ds b off c h1 _ ih => exact VT.pc ds b off c (fun j d hj => hz _ _ _ (h1 j d hj)) ih
  | fn f cs vs h1 _ ih => exact VT.fn f cs vs h1 ih

section
variable {s s' : Nat → Value} {Z Z' : Cells} {n : Nat}
theorem VC.mono (hz : ∀ b o v, Z b o = some v → Z' b o = some v) (hs : ∀ id, id < n → s' id = s id) {d : D} {v : Value} (hl : LtC n d) (h : VC s Z d v) : VC s' Z' d v := by
  cases d with
  | own id => obtain ⟨h1, h2⟩ := h; exact ⟨by rw [hs id hl]; exact h1, h2⟩
  | ptr id j => obtain ⟨b, h1, h2⟩ := h; exact ⟨b, by rw [hs id hl]; exact h1, h2⟩
  | pel id i sz j => obtain ⟨b, m, c, h1, h2⟩ := h; exact ⟨b, m, c, by rw [hs id hl]; exact h1, h2⟩
  | _ => exact VT.mono hz h
theorem VV.mono (hz : ∀ b o v, Z b o = some v → Z' b o = some v) (hs : ∀ id, id < n → s' id = s id) {d : D} {v : Value} (hl : LtV n d) (h : VV s Z d v) : VV s' Z' d v := by
  cases d with
  | agg ds => obtain ⟨vs, h1, h2, h3⟩ := h; exact ⟨vs, h1, h2, fun j x hx => VC.mono hz hs (hl x (List.mem_of_getElem? hx)) (h3 j x hx)⟩
  | _ => simp only [VV, LtV] at h hl ⊢; exact VC.mono hz hs hl h
theorem VR.mono (hz : ∀ b o v, Z b o = some v → Z' b o = some v) (hs : ∀ id, id < n → s' id = s id) {d : D} {v : Value} (hl : LtR n d) (h : VR s Z d v) : VR s' Z' d v := by
  cases d with
  | tup ds => obtain ⟨vs, h1, h2, h3⟩ := h; exact ⟨vs, h1, h2, fun j x hx => VV.mono hz hs (hl x (List.mem_of_getElem? hx)) (h3 j x hx)⟩
  | any => trivial
  | _ => simp only [VR, LtR] at h hl ⊢; exact VV.mono hz hs hl h
theorem VS.mono (hz : ∀ b o v, Z b o = some v → Z' b o = some v) (hs : ∀ id, id < n → s' id = s id) {d : D} {v : Value} (hl : LtS n d) (h : VS s Z d v) : VS s' Z' d v := by
  cases d with
  | opt g d => simp only [VS, LtS] at h hl ⊢; exact ⟨fun hg => VR.mono hz hs (hl hg) (h.1 hg), h.2⟩
  | _ => simp only [VS, LtS] at h hl ⊢; exact VR.mono hz hs hl h
theorem RowOk.mono {R R' : D → Value → Prop} {w w' : World} {sz : Nat} {xs : List (List D)} {v : Value} (h : RowOk R w sz xs v) (hb : ∀ k, blk v = some k → w'.heap[k]? = w.heap[k]?) (hR : ∀ row ∈ xs, ∀ d ∈ row, ∀ u, R d u → R' d u) : RowOk R' w' sz xs v := by
  obtain ⟨h1, h2, h3⟩ := h
  refine ⟨h1, h2, ?_⟩
  rcases h3 with h3 | ⟨g, cap, cur, e, rfl, hg, hcap, hm, hs, hc⟩
  · exact .inl h3
  · by_cases hcap0 : cap = 0
    · have : xs = [] := List.eq_nil_of_length_eq_zero (by omega)
      subst this
      subst hcap0
      exact .inl ⟨rfl, _, rfl⟩
    · refine .inr ⟨g, cap, cur, e, rfl, ?_, hcap, hm, hs, fun i row j d hi hj => hR row (List.mem_of_getElem? hi) d (List.mem_of_getElem? hj) _ (hc i row j d hi hj)⟩
      rw [hb g (by simp [blk, hcap0])]; exact hg
theorem ObOk.mono {w w' : World} (hz : ∀ b o v, Z b o = some v → Z' b o = some v) (hs : ∀ id, id < n → s' id = s id) {ob : Ob} {v : Value} (hl : LtO n ob) (h : ObOk s Z w ob v) (hb : ∀ k, blk v = some k → w'.heap[k]? = w.heap[k]?) : ObOk s' Z' w' ob v := by
  cases ob with
  | cells ds =>
    obtain ⟨b, T, cs, rfl, h1, h2, h3⟩ := h
    exact ⟨b, T, cs, rfl, by rw [hb b rfl]; exact h1, h2, fun j x hx => VC.mono hz hs (hl x (List.mem_of_getElem? hx)) (h3 j x hx)⟩
  | row sz xs => exact RowOk.mono h hb (fun _ _ _ _ _ => VT.mono hz)
  | mp bare es ck => obtain ⟨b, rfl, h1⟩ := h; exact ⟨b, rfl, by rw [hb b rfl]; exact h1⟩
  | it m since seen last => obtain ⟨b, mb, rfl, h1, h2⟩ := h; exact ⟨b, mb, rfl, by rw [hs m hl]; exact h1, by rw [hb b rfl]; exact h2⟩
  | rowd sz xs => exact RowOk.mono h hb (fun row hr d hd _ => VC.mono hz hs (hl row hr d hd))
theorem ObOk.lt {w : World} {ob : Ob} {v : Value} (h : ObOk s Z w ob v) : ∀ k, blk v = some k → k < w.heap.size := by
  have row : ∀ (R : D → Value → Prop) sz xs, RowOk R w sz xs v → ∀ k, blk v = some k → k < w.heap.size := fun R sz xs h k hk => by
    rcases h.2.2 with ⟨_, a, rfl⟩ | ⟨g, cap, cur, e, rfl, hg, _⟩
    · cases a <;> simp [blk] at hk
    · simp only [blk] at hk
      split at hk
      · cases hk
      · cases hk; exact (Array.getElem?_eq_some_iff.1 hg).1
  cases ob with
  | cells ds =>
    obtain ⟨b, T, cs, rfl, h1, _⟩ := h
    intro k hk
    cases hk
    exact (Array.getElem?_eq_some_iff.1 h1).1
  | row sz xs => exact row _ sz xs h
  | mp bare es ck => obtain ⟨b, rfl, h1⟩ := h; intro k hk; cases hk; exact (Array.getElem?_eq_some_iff.1 h1).1
  | it m since seen last => obtain ⟨b, mb, rfl, h1, h2⟩ := h; intro k hk; cases hk; exact (Array.getElem?_eq_some_iff.1 h2).1
  | rowd sz xs => exact row _ sz xs h
end

theorem Fr.refl (F : Nat → Prop) (w : World) : Fr F w w := ⟨rfl, rfl, rfl, Nat.le_refl _, fun _ _ _ => rfl⟩
theorem Fr.below {F : Nat → Prop} {w0 w w' : World} (h : Fr F w0 w) (hb : Below w.heap.size w w') : Fr F w0 w' :=
  ⟨hb.os.trans h.os, hb.tape.trans h.tape, hb.output.trans h.output, Nat.le_trans h.size hb.size, fun k hk hf => (hb.block k (Nat.lt_of_lt_of_le hk h.size)).trans (h.block k hk hf)⟩
theorem Fr.only {F : Nat → Prop} {w0 w w' : World} {k : Nat} (h : Fr F w0 w) (ho : Only k w w') (hk : w0.heap.size ≤ k ∨ F k) : Fr F w0 w' :=
  ⟨ho.os.trans h.os, ho.tape.trans h.tape, ho.output.trans h.output, by rw [ho.size]; exact h.size, fun j hj hf => (ho.block j (by
    rintro rfl
    rcases hk with hk | hk
    · omega
    · exact hf hk)).trans (h.block j hj hf)⟩

def upd (s : Nat → Value) (id : Nat) (v : Value) : Nat → Value := fun k => if k = id then v else s k
theorem upd_same (s : Nat → Value) (id : Nat) (v : Value) : upd s id v id = v := if_pos rfl
theorem upd_lt (s : Nat → Value) (n : Nat) (v : Value) : ∀ id, id < n → upd s n v id = s id := fun id h => if_neg (by omega)

theorem LtC.mono {n m : Nat} (h : n ≤ m) {d : D} (hl : LtC n d) : LtC m d := by cases d <;> simp only [LtC] at hl ⊢ <;> omega
theorem LtV.mono {n m : Nat} (h : n ≤ m) {d : D} (hl : LtV n d) : LtV m d := by
  cases d with
  | agg ds => exact fun x hx => LtC.mono h (hl x hx)
  | _ => simp only [LtV] at hl ⊢; exact LtC.mono h hl
theorem LtR.mono {n m : Nat} (h : n ≤ m) {d : D} (hl : LtR n d) : LtR m d := by
  cases d with
  | tup ds => exact fun x hx => LtV.mono h (hl x hx)
  | _ => simp only [LtR] at hl ⊢; exact LtV.mono h hl
theorem LtS.mono {n m : Nat} (h : n ≤ m) {d : D} (hl : LtS n d) : LtS m d := by
  cases d with
  | opt g d => exact fun hg => LtR.mono h (hl hg)
  | _ => simp only [LtS] at hl ⊢; exact LtR.mono h hl
theorem LtO.mono {n m : Nat} (h : n ≤ m) {ob : Ob} (hl : LtO n ob) : LtO m ob := by
  cases ob with
  | cells ds => exact fun x hx => LtC.mono h (hl x hx)
  | row sz xs => trivial
  | mp bare es ck => trivial
  | it m since seen last => exact Nat.lt_of_lt_of_le hl h
  | rowd sz xs => exact fun r hr x hx => LtC.mono h (hl r hr x hx)

/-- more cells are known; the new ones lie in new blocks -/
structure Zx (Z Z' : Cells) (w w' : World) : Prop where
  old : ∀ b o v, Z b o = some v → Z' b o = some v
  new : ∀ b o v, Z' b o = some v → Z b o = some v ∨ w.heap.size ≤ b
  ok : ∀ b o v, Z' b o = some v → w'.cell? ⟨b, o, none⟩ = some v
theorem Zx.refl {Z : Cells} {w w' : World} (h : ∀ b o v, Z b o = some v → w.cell? ⟨b, o, none⟩ = some v) (hb : Below w.heap.size w w') : Zx Z Z w w' :=
  ⟨fun _ _ _ h => h, fun _ _ _ h => .inl h, fun b o v hz => by
    have := h b o v hz
    rw [hb.cell (p := ⟨b, o, none⟩) (World.block_lt_of_cell? w _ this)]; exact this⟩

section
variable {B : Base} {w w' : World} {s : Nat → Value} {Z Z' : Cells} {H : List (Nat × Ob)} {nx : Nat}

theorem RelH.know (h : RelH B s Z H nx w) : Know s Z H w := ⟨h.ob, h.zok⟩

theorem RelH.call (h : RelH B s Z H nx w) (hb : Below w.heap.size w w') (hz : Zx Z Z' w w') : RelH B s Z' H nx w' where
  ob id ob hh := (h.ob id ob hh).mono hz.old (fun _ _ => rfl) (h.lt id ob hh).2 fun k hk => hb.block k ((h.ob id ob hh).lt k hk)
  lt := h.lt
  apart := h.apart
  zok := hz.ok
  zap id ob b o hh hb' := by
    have h1 := (h.ob id ob hh).lt b hb'
    cases hq : Z' b o with
    | none => rfl
    | some v => rcases hz.new b o v hq with h2 | h2
                · rw [h.zap id ob b o hh hb'] at h2; cases h2
                · omega
  mine := h.mine
  fr := h.fr.below hb
  n0 := h.n0
  bs := h.bs
  bz b o v hv := hz.old b o v (h.bz b o v hv)
  bn b o v hv := by
    rcases hz.new b o v hv with h1 | h1
    · exact h.bn b o v h1
    · exact .inr (.inl (Nat.le_trans h.fr.size h1))

/-- a new block -/
theorem RelH.new (h : RelH B s Z H nx w) (hb : Below w.heap.size w w') {v : Value} {ob : Ob} (ho : ObOk (upd s nx v) Z w' ob v) (hl : LtO (nx + 1) ob) (hv : ∀ k, blk v = some k → w.heap.size ≤ k) : RelH B (upd s nx v) Z (eput H nx ob) (nx + 1) w' where
  ob id ob' hh := by
    rw [hget_eput] at hh
    split at hh
    · rename_i e; subst e; cases hh; rw [upd_same]; exact ho
    · have h1 := (h.lt id ob' hh).1
      rw [upd_lt _ _ _ _ h1]
      exact (h.ob id ob' hh).mono (fun _ _ _ h => h) (upd_lt s nx v) (h.lt id ob' hh).2 fun k hk => hb.block k ((h.ob id ob' hh).lt k hk)
  lt id ob' hh := by
    rw [hget_eput] at hh
    split at hh
    · rename_i e; subst e; cases hh; exact ⟨by omega, hl⟩
    · have := h.lt id ob' hh; exact ⟨by omega, this.2.mono (by omega)⟩
  apart id id' ob ob' b hh hh' hne hb1 := by
    rw [hget_eput] at hh hh'
    split at hh
    · rename_i e; subst e
      rw [if_neg (fun h => hne h.symm)] at hh'
      rw [upd_same] at hb1
      have h1 := (h.lt id' ob' hh').1
      rw [upd_lt _ _ _ _ h1]
      intro hb2
      have := (h.ob id' ob' hh').lt b hb2
      have := hv b hb1
      omega
    · have h1 := (h.lt id ob hh).1
      rw [upd_lt _ _ _ _ h1] at hb1
      split at hh'
      · rename_i e; subst e
        rw [upd_same]
        intro hb2
        have := (h.ob id ob hh).lt b hb1
        have := hv b hb2
        omega
      · have h2 := (h.lt id' ob' hh').1
        rw [upd_lt _ _ _ _ h2]
        exact h.apart id id' ob ob' b hh hh' hne hb1
  zok b o u hz := by
    have := h.zok b o u hz
    rw [hb.cell (p := ⟨b, o, none⟩) (World.block_lt_of_cell? w _ this)]; exact this
  zap id ob' b o hh hb1 := by
    rw [hget_eput] at hh
    split at hh
    · rename_i e; subst e
      rw [upd_same] at hb1
      cases hq : Z b o with
      | none => rfl
      | some u =>
        have h1 := World.block_lt_of_cell? w _ (h.zok b o u hq)
        have := hv b hb1
        simp only at h1
        omega
    · have h1 := (h.lt id ob' hh).1
      rw [upd_lt _ _ _ _ h1] at hb1
      exact h.zap id ob' b o hh hb1
  mine id ob' b hh hb1 := by
    rw [hget_eput] at hh
    split at hh
    · rename_i e; subst e
      rw [upd_same] at hb1
      exact .inl (Nat.le_trans h.fr.size (hv b hb1))
    · have h1 := (h.lt id ob' hh).1
      rw [upd_lt _ _ _ _ h1] at hb1
      exact h.mine id ob' b hh hb1
  fr := h.fr.below hb
  n0 := by have := h.n0; omega
  bs id hi := by rw [upd_lt _ _ _ _ (Nat.lt_of_lt_of_le hi h.n0)]; exact h.bs id hi
  bz := h.bz
  bn := h.bn

/-- a block of one's own is written -/
theorem RelH.write (h : RelH B s Z H nx w) {id : Nat} {ob ob' : Ob} {k : Nat} (hh : hget H id = some ob) (hk : blk (s id) = some k) (ho : Only k w w') (hn : ObOk s Z w' ob' (s id)) (hl : LtO nx ob') : RelH B s Z (eput H id ob') nx w' where
  ob i o hi := by
    rw [hget_eput] at hi
    split at hi
    · rename_i e; subst e; cases hi; exact hn
    · rename_i e
      exact (h.ob i o hi).mono (fun _ _ _ h => h) (fun _ _ => rfl) (h.lt i o hi).2 fun j hj => ho.block j (by
        rintro rfl; exact h.apart i id o ob j hi hh e hj hk)
  lt i o hi := by
    rw [hget_eput] at hi
    split at hi
    · rename_i e; subst e; cases hi; exact ⟨(h.lt i ob hh).1, hl⟩
    · exact h.lt i o hi
  apart i j o o' b hi hj hne hb := by
    rw [hget_eput] at hi hj
    have g1 : ∃ q, hget H i = some q := by split at hi; · rename_i e; subst e; exact ⟨_, hh⟩
                                           · exact ⟨_, hi⟩
    have g2 : ∃ q, hget H j = some q := by split at hj; · rename_i e; subst e; exact ⟨_, hh⟩
                                           · exact ⟨_, hj⟩
    obtain ⟨q, hq⟩ := g1
    obtain ⟨r, hr⟩ := g2
    exact h.apart i j q r b hq hr hne hb
  zok b o u hz := by
    have h1 := h.zok b o u hz
    rw [World.cell?_of_block (w := w) (a := ⟨b, o, none⟩) (ho.block b (by rintro rfl; rw [h.zap id ob b o hh hk] at hz; cases hz))]
    exact h1
  zap i o b p hi hb := by
    rw [hget_eput] at hi
    split at hi
    · rename_i e; subst e; exact h.zap i ob b p hh hb
    · exact h.zap i o b p hi hb
  mine i o b hi hb := by
    rw [hget_eput] at hi
    split at hi
    · rename_i e; subst e; exact h.mine i ob b hh hb
    · exact h.mine i o b hi hb
  fr := h.fr.only ho (h.mine id ob k hh hk)
  n0 := h.n0
  bs := h.bs
  bz := h.bz
  bn := h.bn

/-- a block of one's own becomes another number's; it may have been written, or have moved to a new block -/
theorem RelH.move (h : RelH B s Z H nx w) {id : Nat} {ob ob' : Ob} {v : Value} (hh : hget H id = some ob) (hg : w.grownBy w' (blk (s id))) (hn : ObOk (upd s nx v) Z w' ob' v) (hl : LtO (nx + 1) ob')
    (hv : ∀ k, blk v = some k → w.heap.size ≤ k ∨ blk (s id) = some k) : RelH B (upd s nx v) Z (eput (herase H id) nx ob') (nx + 1) w' := by
  have old : ∀ i o, hget (eput (herase H id) nx ob') i = some o → (i = nx ∧ o = ob') ∨ (i ≠ nx ∧ i ≠ id ∧ hget H i = some o) := fun i o hi => by
    rw [hget_eput] at hi
    split at hi
    · rename_i e; cases hi; exact .inl ⟨e, rfl⟩
    · rename_i e
      rw [hget_herase] at hi
      split at hi
      · cases hi
      · rename_i e'; exact .inr ⟨e, e', hi⟩
  have away : ∀ i o, i ≠ id → hget H i = some o → ∀ j, blk (s i) = some j → w'.heap[j]? = w.heap[j]? := fun i o hne hi j hj =>
    hg.block j ((h.ob i o hi).lt j hj) (by intro e; exact h.apart i id o ob j hi hh hne hj e.symm)
  constructor
  · intro i o hi
    rcases old i o hi with ⟨rfl, rfl⟩ | ⟨h1, h2, h3⟩
    · rw [upd_same]; exact hn
    · rw [upd_lt _ _ _ _ (h.lt i o h3).1]
      exact (h.ob i o h3).mono (fun _ _ _ h => h) (upd_lt s nx v) (h.lt i o h3).2 (away i o h2 h3)
  · intro i o hi
    rcases old i o hi with ⟨rfl, rfl⟩ | ⟨h1, h2, h3⟩
    · exact ⟨by omega, hl⟩
    · have := h.lt i o h3; exact ⟨by omega, this.2.mono (by omega)⟩
  · intro i j o o' b hi hj hne hb
    rcases old i o hi with ⟨rfl, rfl⟩ | ⟨h1, h2, h3⟩
    · rcases old j o' hj with ⟨rfl, rfl⟩ | ⟨g1, g2, g3⟩
      · exact absurd rfl hne
      · rw [upd_same] at hb
        rw [upd_lt _ _ _ _ (h.lt j o' g3).1]
        intro hb2
        rcases hv b hb with h4 | h4
        · have := (h.ob j o' g3).lt b hb2; omega
        · exact h.apart j id o' ob b g3 hh g2 hb2 h4
    · rw [upd_lt _ _ _ _ (h.lt i o h3).1] at hb
      rcases old j o' hj with ⟨rfl, rfl⟩ | ⟨g1, g2, g3⟩
      · rw [upd_same]
        intro hb2
        rcases hv b hb2 with h4 | h4
        · have := (h.ob i o h3).lt b hb; omega
        · exact h.apart i id o ob b h3 hh h2 hb h4
      · rw [upd_lt _ _ _ _ (h.lt j o' g3).1]
        exact h.apart i j o o' b h3 g3 hne hb
  · intro b o u hz
    have h1 := h.zok b o u hz
    rw [World.cell?_of_block (w := w) (a := ⟨b, o, none⟩) (hg.block b (World.block_lt_of_cell? w _ h1) (by intro e; rw [h.zap id ob b o hh e.symm] at hz; cases hz))]
    exact h1
  · intro i o b p hi hb
    rcases old i o hi with ⟨rfl, rfl⟩ | ⟨h1, h2, h3⟩
    · rw [upd_same] at hb
      rcases hv b hb with h4 | h4
      · cases hq : Z b p with
        | none => rfl
        | some u => have := World.block_lt_of_cell? w _ (h.zok b p u hq); simp only at this; omega
      · exact h.zap id ob b p hh h4
    · rw [upd_lt _ _ _ _ (h.lt i o h3).1] at hb
      exact h.zap i o b p h3 hb
  · intro i o b hi hb
    rcases old i o hi with ⟨rfl, rfl⟩ | ⟨h1, h2, h3⟩
    · rw [upd_same] at hb
      rcases hv b hb with h4 | h4
      · exact .inl (Nat.le_trans h.fr.size h4)
      · exact h.mine id ob b hh h4
    · rw [upd_lt _ _ _ _ (h.lt i o h3).1] at hb
      exact h.mine i o b h3 hb
  · refine ⟨hg.os.trans h.fr.os, hg.tape.trans h.fr.tape, hg.output.trans h.fr.output, Nat.le_trans h.fr.size hg.size, fun k hk hf => ?_⟩
    rw [hg.block k (Nat.lt_of_lt_of_le hk h.fr.size) (by
      intro e
      rcases h.mine id ob k hh e.symm with h4 | h4
      · omega
      · exact hf h4)]
    exact h.fr.block k hk hf
  · have := h.n0; omega
  · intro i hi; rw [upd_lt _ _ _ _ (Nat.lt_of_lt_of_le hi h.n0)]; exact h.bs i hi
  · exact h.bz
  · exact h.bn
end
end Go.Proofs.Ytfkeddefajkobaa
