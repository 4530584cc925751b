/- This text proves what the operations that make or write memory do to what is known of it. It has no condition of its own. -/
import Derived.Test.YtfkeddefajkobaaAbx
set_option linter.unusedSimpArgs false
set_option linter.unusedVariables false
namespace Go.Proofs.Ytfkeddefajkobaa
open Go.RowKit

section
variable {P : Program} {B : Base} {w : World} {s : Nat → Value} {Z : Cells} {H : List (Nat × Ob)} {nx : Nat}

/-! ### New variables -/
theorem RelH.cells (h : RelH B s Z H nx w) (cs : Array Value) (T : TypeId) (ds : List D) (hl : cs.size = ds.length) (hc : ∀ j x, ds[j]? = some x → VC s Z x (cs.getD j undef)) (hn : ∀ d ∈ ds, LtC nx d) :
    RelH B (upd s nx (.pointer (some ⟨w.heap.size, 0, none⟩))) Z (eput H nx (.cells ds)) (nx + 1) (w.alloc (.cells cs T)) := by
  refine h.new ((Below.refl _ _).alloc (Nat.le_refl _) _) ⟨w.heap.size, T, cs, rfl, heap_alloc_new w _, hl, fun j x hx => ?_⟩ (fun d hd => (hn d hd).mono (by omega)) (fun k hk => by cases hk; exact Nat.le_refl _)
  exact VC.mono (fun _ _ _ h => h) (upd_lt s nx _) (hn x (List.mem_of_getElem? hx)) (hc j x hx)
theorem VC.new (s : Nat → Value) (Z : Cells) (nx b : Nat) : VC (upd s nx (.pointer (some ⟨b, 0, none⟩))) Z (.ptr nx 0) (.pointer (some ⟨b, 0, none⟩)) := ⟨b, upd_same _ _ _, rfl⟩

theorem run_alloc {t : TypeId} {i : TypeInfo} {v : Value} (hi : P.info? t = some i) (hv : i.zero = some v) : (Instr.alloc t true (.tuple #[])).run P w = .ok (.pointer (some ⟨w.heap.size, 0, none⟩)) (w.alloc (.cells v.cells t)) := by
  simp [Instr.alloc, zeroValue, typeInfo, hi, hv, newVar, newRow]
theorem run_box {t : TypeId} {v : Value} : (Instr.box t v).run P w = .ok (.pointer (some ⟨w.heap.size, 0, none⟩)) (w.alloc (.cells v.cells t)) := by
  simp [Instr.box, newVar, newRow]
theorem cellD_lt {v : Value} {d : D} (h : cellD v = some d) : LtC 0 d := by
  unfold cellD at h
  split at h <;> (try simp only [Option.some.injEq, reduceCtorEq] at h) <;> (try subst h) <;> (try trivial)
  split at h
  · simp only [Option.some.injEq] at h; subst h; trivial
  · cases h
theorem cellsD_lt : ∀ (vs : List Value) (ds : List D), cellsD vs = some ds → ∀ d ∈ ds, LtC 0 d
  | [], ds, h => by simp only [cellsD, Option.some.injEq] at h; subst h; intro d hd; cases hd
  | v :: vs, ds, h => by
    simp only [cellsD] at h
    split at h <;> simp only [Option.some.injEq, reduceCtorEq] at h
    rename_i d ds' h1 h2
    subst h
    intro x hx
    rcases List.mem_cons.1 hx with rfl | hx
    · exact cellD_lt h1
    · exact cellsD_lt vs ds' h2 x hx
theorem zeroT_lt {t : TypeId} {z : List D} (h : zeroT P t = some z) : ∀ d ∈ z, LtC 0 d := by
  unfold zeroT at h
  split at h
  case h_2 => cases h
  split at h
  case h_2 => cases h
  split at h
  case isFalse => cases h
  exact cellsD_lt _ _ h
theorem LtR.cells {n : Nat} {d : D} (h : LtR n d) : ∀ x ∈ d.cells, LtC n x := by
  cases d with
  | agg ds => exact h
  | any => intro x hx; cases hx
  | tup _ => intro x hx; cases hx
  | opt _ _ => intro x hx; cases hx
  | _ => intro x hx; simp only [D.cells, List.mem_singleton] at hx; subst hx; exact h

/-! ### Stores -/
theorem heap_setCells (b : Nat) (T : TypeId) : ∀ (vs : List Value) (o : Nat) (w : World) (cs : Array Value), w.heap[b]? = some (.cells cs T (0, 0)) → o + vs.length ≤ cs.size →
    ∃ cs', (w.setCells b o vs).heap[b]? = some (.cells cs' T (0, 0)) ∧ cs'.size = cs.size ∧ ∀ j, cs'.getD j undef = if o ≤ j ∧ j < o + vs.length then vs.getD (j - o) undef else cs.getD j undef
  | [], o, w, cs, h, _ => ⟨cs, h, rfl, fun j => by rw [if_neg (by simp)]⟩
  | v :: vs, o, w, cs, h, hl => by
    simp only [List.length_cons] at hl
    obtain ⟨cs', h1, h2, h3⟩ := heap_setCells b T vs (o + 1) (w.setCell ⟨b, o, none⟩ v) (cs.setIfInBounds o v) (heap_setCell_same w b o cs T v h) (by simp; omega)
    refine ⟨cs', h1, by simpa using h2, fun j => ?_⟩
    rw [h3 j]
    by_cases hj : o + 1 ≤ j ∧ j < o + 1 + vs.length
    · rw [if_pos hj, if_pos (by simp only [List.length_cons]; omega), show j - o = (j - (o + 1)) + 1 by omega, List.getD_cons_succ]
    · rw [if_neg hj]
      by_cases hjo : j = o
      · subst hjo
        rw [if_pos (by simp only [List.length_cons]; omega), Nat.sub_self, List.getD_cons_zero]
        have : j < cs.size := by omega
        simp [Array.getD, this]
      · rw [if_neg (by simp only [List.length_cons]; omega), Array.getD_eq_getD_getElem?, Array.getD_eq_getD_getElem?, Array.getElem?_setIfInBounds, if_neg (fun h => hjo h.symm)]

theorem storeAt_run {t : TypeId} {n b o : Nat} {v : Value} {cs : Array Value} {T : TypeId} (hn : szT P t = some n) (hv : v.cells.size = n) (h1 : ∀ j, j < n → (v.cells.getD j undef).oneCell' = true) (hb : w.heap[b]? = some (.cells cs T (0, 0))) (hl : o + n ≤ cs.size) :
    (Instr.storeAt t (.pointer (some ⟨b, o, none⟩)) v).run P w = .ok () (w.setCells b o v.cells.toList) := by
  have ht : w.there b o v.cells.size := fun j hj => by
    refine ⟨?_, frozen_of_row w b _ cs T hb⟩
    rw [cell_of_row w b _ cs T (0, 0) hb]
    simp; omega
  have h2 : v.cells.all (·.oneCell') = true := by
    rw [Array.all_eq_true]
    intro j hj
    have := h1 j (by omega)
    rwa [Array.getD_eq_getD_getElem?, Array.getElem?_eq_getElem hj, Option.getD_some] at this
  have := run_storeAt_mid (P := P) w b o t v.cells ht (by unfold szT at hn; rw [hn, hv]) h2
  have e : (Instr.storeAt t (.pointer (some ⟨b, o, none⟩)) v) = (Instr.storeAt t (.pointer (some ⟨b, o, none⟩)) (.agg v.cells)) := rfl
  rw [e]; exact this

/-- these cells, with others from number j on -/
def splice (ds : List D) (j : Nat) (es : List D) : List D := ds.take j ++ es ++ ds.drop (j + es.length)
theorem splice_get {ds es : List D} {j : Nat} (h : j + es.length ≤ ds.length) (k : Nat) : (splice ds j es)[k]? = if j ≤ k ∧ k < j + es.length then es[k - j]? else ds[k]? := by
  unfold splice
  rw [List.append_assoc]
  by_cases h1 : k < j
  · rw [if_neg (by omega), List.getElem?_append_left (by simp; omega), List.getElem?_take, if_pos h1]
  · rw [List.getElem?_append_right (by simp; omega), List.length_take, Nat.min_eq_left (by omega)]
    by_cases h2 : k < j + es.length
    · rw [if_pos (by omega), List.getElem?_append_left (by omega)]
    · rw [if_neg (by omega), List.getElem?_append_right (by omega), List.getElem?_drop]
      congr 1; omega
theorem splice_length {ds es : List D} {j : Nat} (h : j + es.length ≤ ds.length) : (splice ds j es).length = ds.length := by
  unfold splice; simp; omega
theorem splice_mem {ds es : List D} {j : Nat} {d : D} (h : d ∈ splice ds j es) : d ∈ ds ∨ d ∈ es := by
  unfold splice at h
  rcases List.mem_append.1 h with h | h
  · rcases List.mem_append.1 h with h | h
    · exact .inl (List.mem_of_mem_take h)
    · exact .inr h
  · exact .inl (List.mem_of_mem_drop h)

theorem store_cells (h : RelH B s Z H nx w) {t : TypeId} {n id j : Nat} {ds : List D} {pv v : Value} {d : D} (hn : szT P t = some n) (hp : VR s Z (.ptr id j) pv) (hh : hget H id = some (.cells ds)) (hv : VR s Z d v) (hd : LtR nx d) (hlen : d.cells.length = n) (h0 : 0 < n) (hj : j + n ≤ ds.length) :
    ∃ w', (Instr.storeAt t pv v).run P w = .ok () w' ∧ RelH B s Z (eput H id (.cells (splice ds j d.cells))) nx w' := by
  obtain ⟨b, hs, rfl⟩ := hp
  obtain ⟨b', T, cs, hs', hb, hcl, hcc⟩ := h.ob _ _ hh
  rw [hs] at hs'
  injection hs' with e; injection e with e; injection e with e _; subst e
  obtain ⟨hc1, hc2⟩ := hv.cells (by omega)
  have hone : ∀ k, k < n → (v.cells.getD k undef).oneCell' = true := fun k hk => by
    have hx : d.cells[k]? = some d.cells[k] := List.getElem?_eq_getElem (by omega)
    exact (hc2 k _ hx).one
  have hrun := storeAt_run (P := P) hn (by omega) hone hb (o := j) (by omega)
  refine ⟨_, hrun, ?_⟩
  obtain ⟨cs', g1, g2, g3⟩ := heap_setCells b T v.cells.toList j w cs hb (by simp; omega)
  refine h.write hh (by rw [hs]; rfl) (Only.setCells b _ j w) ⟨b, T, cs', by rw [hs], g1, by rw [g2, splice_length (by omega), hcl], fun k x hx => ?_⟩ (fun x hx => ?_)
  · rw [splice_get (by omega)] at hx
    rw [g3 k]
    simp only [Array.length_toList]
    split at hx
    · rename_i hk
      rw [if_pos (by omega)]
      have := hc2 _ _ hx
      simpa [Array.getD_eq_getD_getElem?, List.getD_eq_getElem?_getD] using this
    · rename_i hk
      rw [if_neg (by omega)]
      exact hcc k x hx
  · rcases splice_mem hx with hx | hx
    · exact (h.lt _ _ hh).2 x hx
    · exact hd.cells x hx

theorem store_row {sz : Nat} {R : D → Value → Prop} (mk : List (List D) → Ob) (hob : ∀ w xs v, ObOk s Z w (mk xs) v = RowOk R w sz xs v) (h : RelH B s Z H nx w) {t : TypeId} {n id i j : Nat} {xs : List (List D)} {pv v : Value} {d : D} (hn : szT P t = some n)
    (hp : VR s Z (.pel id i sz j) pv) (hh : hget H id = some (mk xs)) (hv : VR s Z d v) (hR : ∀ x ∈ d.cells, ∀ u, VC s Z x u → R x u) (hlen : d.cells.length = n) (h0 : 0 < n) (hi : i < xs.length) (hj : j + n ≤ sz)
    (hlt : LtO nx (mk (xs.set i (splice (xs.getD i []) j d.cells)))) :
    ∃ w', (Instr.storeAt t pv v).run P w = .ok () w' ∧ RelH B s Z (eput H id (mk (xs.set i (splice (xs.getD i []) j d.cells)))) nx w' := by
  obtain ⟨b, m, c, hs, rfl⟩ := hp
  have ho := h.ob _ _ hh
  rw [hob, hs] at ho
  obtain ⟨hsz, hrow, ho⟩ := ho
  rcases ho with ⟨rfl, _⟩ | ⟨g, cap, cur, e, hvv, hg, hcap, hm, hcs, hcc⟩
  · simp at hi
  injection hvv with e1 e2 e3
  injection e1 with e1; injection e1 with e1; subst e1
  have hx : xs[i]? = some (xs.getD i []) := by rw [List.getD_eq_getElem?_getD, List.getElem?_eq_getElem hi]; rfl
  have hrl : (xs.getD i []).length = sz := hrow _ (List.mem_of_getElem? hx)
  obtain ⟨hc1, hc2⟩ := hv.cells (by omega)
  have hone : ∀ k, k < n → (v.cells.getD k undef).oneCell' = true := fun k hk => by
    have hx : d.cells[k]? = some d.cells[k] := List.getElem?_eq_getElem (by omega)
    exact (hc2 k _ hx).one
  have hle : i * sz + sz ≤ cap * sz := by
    have : (i + 1) * sz ≤ cap * sz := Nat.mul_le_mul_right _ (by omega)
    rwa [Nat.add_mul, Nat.one_mul] at this
  have hrun := storeAt_run (P := P) hn (by omega) hone hg (o := i * sz + j) (by omega)
  refine ⟨_, hrun, ?_⟩
  obtain ⟨cs', g1, g2, g3⟩ := heap_setCells b e v.cells.toList (i * sz + j) w cur hg (by simp; omega)
  have hbk : blk (s id) = some b := by
    rw [hs]
    simp only [blk]
    rw [if_neg (by rw [e3]; omega)]
  refine h.write hh hbk (Only.setCells b _ _ w) ?_ hlt
  rw [hob]
  refine ⟨hsz, fun row hr => ?_, .inr ⟨b, cap, cs', e, by rw [hs, e2, e3, List.length_set], g1, by rw [List.length_set]; exact hcap, hm, by rw [g2, hcs], fun k row l x hk hl => ?_⟩⟩
  · rcases List.mem_or_eq_of_mem_set hr with hr | rfl
    · exact hrow _ hr
    · rw [splice_length (by omega), hrl]
  · rw [g3]
    simp only [Array.length_toList]
    rw [List.getElem?_set] at hk
    have hll : l < sz := by
      split at hk
      · simp only [hi, if_true, Option.some.injEq] at hk
        subst hk
        have := (List.getElem?_eq_some_iff.1 hl).1
        rwa [splice_length (by omega), hrl] at this
      · have := (List.getElem?_eq_some_iff.1 hl).1
        rwa [hrow _ (List.mem_of_getElem? hk)] at this
    split at hk
    · rename_i hik
      subst hik
      simp only [hi, if_true, Option.some.injEq] at hk
      subst hk
      rw [splice_get (by omega)] at hl
      split at hl
      · rename_i hlj
        rw [if_pos (by omega)]
        have := hc2 _ _ hl
        rw [show i * sz + l - (i * sz + j) = l - j by omega]
        exact hR x (List.mem_of_getElem? hl) _ (by simpa [Array.getD_eq_getD_getElem?, List.getD_eq_getElem?_getD] using this)
      · rw [if_neg (by omega)]
        exact hcc i _ l x hx hl
    · rename_i hik
      have hne : ¬ (i * sz + j ≤ k * sz + l ∧ k * sz + l < i * sz + j + v.cells.size) := by
        rcases Nat.lt_or_gt_of_ne hik with h1 | h1
        · have : (i + 1) * sz ≤ k * sz := Nat.mul_le_mul_right _ h1
          rw [Nat.add_mul, Nat.one_mul] at this
          omega
        · have : (k + 1) * sz ≤ i * sz := Nat.mul_le_mul_right _ h1
          rw [Nat.add_mul, Nat.one_mul] at this
          omega
      rw [if_neg hne]
      exact hcc k row l x hk hl
end
end Go.Proofs.Ytfkeddefajkobaa
