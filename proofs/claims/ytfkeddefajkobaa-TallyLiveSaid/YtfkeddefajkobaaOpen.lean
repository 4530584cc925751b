/- This text opens an argument that is a slice of structs of numbers: it gives the rows of numbers and the cells. -/
import Derived.Test.YtfkeddefajkobaaSlice
import Derived.Deep.Slices
set_option linter.unusedSimpArgs false
set_option linter.unusedVariables false
namespace Go.Proofs.Ytfkeddefajkobaa
open Go.ChangeShapes Go.WideShapes Go.ChangeAt Go.RowKit

def numsE (r : List Int) : List Value := r.map (Value.int .i64)
def NumsOk (r : List Int) : Prop := ∀ z ∈ r, (Lit.int .i64 z).wf = true
/-- a type of n numbers in n cells -/
def Nums (P : Program) (t : TypeId) (n : Nat) : Prop :=
  ∀ {H : Type} {enc : TypeId × Value → H} {w : World} {base : Nat} {spare : Nat → Bool} {held : Bool} {fuel : Nat} {cs : List Value} {x : DataW H × List MemPlace},
    DataW.trod enc P w base spare held fuel t cs = some x → ∃ r : List Int, cs = numsE r ∧ r.length = n ∧ NumsOk r
theorem nums_of_cells (cs : List Value) (h : ∀ i, i < cs.length → ∃ z, cs[i]? = some (.int .i64 z) ∧ (Lit.int .i64 z).wf = true) : ∃ r : List Int, cs = numsE r ∧ NumsOk r := by
  induction cs with
  | nil => exact ⟨[], rfl, fun z hz => by cases hz⟩
  | cons v cs ih =>
    obtain ⟨z, hz, hw⟩ := h 0 (by simp)
    obtain ⟨r, rfl, hr⟩ := ih fun i hi => by have := h (i + 1) (by simpa using hi); simpa using this
    simp only [List.getElem?_cons_zero, Option.some.injEq] at hz
    subst hz
    refine ⟨z :: r, rfl, fun y hy => ?_⟩
    rcases List.mem_cons.1 hy with rfl | hy
    · exact hw
    · exact hr y hy
theorem Nums.struct {P : Program} {t : TypeId} {fs : Array Field} (ht : P.underlying t = some (.struct fs)) (hc : P.cellsOf t = fs.size)
    (hf : ∀ (i : Nat) (f : Field), fs[i]? = some f → f.offset = i ∧ P.cellsOf f.type = 1 ∧ P.underlying f.type = some (.int .i64)) : Nums P t fs.size := by
  intro H enc w base spare held fuel cs x h
  obtain ⟨xs, n, _, _, hl, hlen, hx⟩ := DataW.trod_struct ht h
  rw [hc] at hl
  obtain ⟨r, rfl, hr⟩ := nums_of_cells cs fun i hi => by
    rw [hl] at hi
    have hi' : i < xs.length := by omega
    have h1 := hx i fs[i] (by simp [hi])
    obtain ⟨h2, h3, h4⟩ := hf i fs[i] (by simp [hi])
    rw [h2, h3, List.getElem?_eq_getElem hi'] at h1
    obtain ⟨z, hz, _, hw⟩ := DataW.trod_int h4 h1
    refine ⟨z, ?_, hw⟩
    have := congrArg (fun l => l[0]?) hz
    simpa [List.getElem?_take, List.getElem?_drop] using this
  exact ⟨r, rfl, by simpa [numsE] using hl, hr⟩
theorem open_nums {H : Type} {enc : TypeId × Value → H} {P : Program} {w : World} {base : Nat} {spare : Nat → Bool} {held : Bool} {r0 : Reach} {b0 : Nat} {t e : TypeId} {n : Nat} {v : Value} {d : DataW H} {ps : List MemPlace}
    (ht : P.underlying t = some (.slice e)) (hc : P.cellsOf e = n) (hn0 : 0 < n) (hI : Nums P e n) (hv : Value.okWide P w r0 b0 t v) (h : DataW.Trod enc P w base spare held t v d ps) :
    ∃ rows : List (List Int), rows.length ≤ maxLen ∧ (∀ r ∈ rows, r.length = n ∧ NumsOk r) ∧ Sl w n numsE v rows := by
  obtain ⟨a0, len0, cap0, rfl⟩ := okWide_slice ht hv
  obtain ⟨fuel, hf⟩ := h
  rcases Go.Deep.open_slice ht hf with ⟨h0, _⟩ | ⟨a, len, cap, m, k, D, Pl, hcs, hb, hl, hm, hmm, _, hx⟩
  · simp only [Value.cells, List.cons.injEq, Value.slice.injEq, and_true] at h0
    obtain ⟨rfl, rfl, rfl⟩ := h0
    exact ⟨[], by simp, by simp, Sl.nil _ _ _⟩
  · simp only [Value.cells, List.cons.injEq, Value.slice.injEq, and_true] at hcs
    obtain ⟨e0, e1, e2⟩ := hcs
    subst e0 e1 e2
    rw [hc] at hx
    have hlm : len0 ≤ m := by rw [hmm]; split <;> omega
    have hrow : ∀ i, i < len0 → ∃ r : List Int, (r.length = n ∧ NumsOk r) ∧ ∀ j, j < n → w.cell? ((a.add (i * n)).add j) = (numsE r)[j]? := fun i hi => by
      obtain ⟨cs', h1, h2⟩ := hx i (by omega)
      obtain ⟨r, rfl, hr, hk⟩ := hI h2
      exact ⟨r, ⟨hr, hk⟩, (World.cells?_some h1).2.2⟩
    obtain ⟨f, hf'⟩ := Go.Deep.choose_lt hrow
    have hlen : ((List.range len0).map f).length = len0 := by simp
    refine ⟨(List.range len0).map f, by rw [hlen]; omega, fun r hr => ?_, some a, cap0, by rw [hlen], by rw [hlen]; exact hl, (fun h => by cases h), fun hne => ?_⟩
    · obtain ⟨i, hi, rfl⟩ := List.mem_map.1 hr
      exact (hf' i (List.mem_range.1 hi)).1
    · have h0 : 0 < len0 := by
        rcases Nat.eq_zero_or_pos len0 with rfl | h
        · simp at hne
        · exact h
      have hL : ∀ i, i < len0 → (numsE (f i)).length = n := fun i hi => by simp [numsE, (hf' i hi).1.1]
      have hc0 := (hf' 0 h0).2 0 hn0
      rw [List.getElem?_eq_getElem (by rw [hL 0 h0]; exact hn0)] at hc0
      obtain ⟨b, off, spot⟩ := a
      have hspot : spot = none := by simpa [Addr.add] using World.cell?_spot hc0
      subst hspot
      refine ⟨b, off, rfl, ?_, fun i x j u hxx hu => ?_⟩
      · obtain ⟨cs0, g1, _⟩ := hx 0 (by omega)
        simpa [Addr.add] using World.cells?_block g1 (by omega)
      · have hi : i < len0 := by
          have := (List.getElem?_eq_some_iff.1 hxx).1
          rwa [hlen] at this
        rw [List.getElem?_map, List.getElem?_range hi] at hxx
        simp only [Option.map_some, Option.some.injEq] at hxx
        subst hxx
        have hj : j < n := by
          have := (List.getElem?_eq_some_iff.1 hu).1
          rwa [hL i hi] at this
        rw [← hu, ← (hf' i hi).2 j hj, Go.Deep.add_add]
        congr 1
        unfold Addr.add
        split
        · rename_i hz
          obtain ⟨h1, h2⟩ : i * n = 0 ∧ j = 0 := by omega
          rw [h1, h2]; rfl
        · rw [Nat.add_assoc]
theorem Sl.map {α β : Type} {w : World} {sz : Nat} {E : α → List Value} {F : β → List Value} {v : Value} {xs : List α} (g : α → β) (h : Sl w sz E v xs) (hg : ∀ x ∈ xs, F (g x) = E x) : Sl w sz F v (xs.map g) := by
  obtain ⟨a, cap, h1, h2, h0, h3⟩ := h
  refine ⟨a, cap, by rw [h1, List.length_map], by rw [List.length_map]; exact h2, h0, fun hne => ?_⟩
  obtain ⟨b, off, h4, h5, h6⟩ := h3 (by simpa using hne)
  refine ⟨b, off, h4, h5, fun i x j u hx hu => ?_⟩
  rw [List.getElem?_map] at hx
  cases hxi : xs[i]? with
  | none => rw [hxi] at hx; cases hx
  | some y =>
    rw [hxi] at hx
    simp only [Option.map_some, Option.some.injEq] at hx
    subst hx
    exact h6 i y j u hxi (by rw [← hg y (List.mem_of_getElem? hxi)]; exact hu)
theorem nums_wf {z : Int} (h : (Lit.int .i64 z).wf = true) : -9223372036854775808 ≤ z ∧ z ≤ 9223372036854775807 := by
  have h1 : IntKind.i64.min = -9223372036854775808 := rfl
  have h2 : IntKind.i64.max = 9223372036854775807 := rfl
  simp only [Lit.wf, Bool.and_eq_true, decide_eq_true_eq] at h
  omega
end Go.Proofs.Ytfkeddefajkobaa
