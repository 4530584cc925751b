/- This text opens arguments: slices of numbers, of truth values, of structs of numbers. It has no condition of its own. -/
import Derived.Test.YtfkeddefajkobaaBas
import Derived.Test.YtfkeddefajkobaaOpen
set_option linter.unusedSimpArgs false
set_option linter.unusedVariables false
set_option maxRecDepth 100000
namespace Go.Proofs.Ytfkeddefajkobaa
open Go.ChangeShapes Go.WideShapes Go.ChangeAt Go.RowKit

/-- what a type's cells may be -/
def Elt (P : Program) (t : TypeId) (n : Nat) {α : Type} (E : α → List Value) (ok : α → Prop) : Prop :=
  ∀ {H : Type} {enc : TypeId × Value → H} {w : World} {base : Nat} {spare : Nat → Bool} {held : Bool} {fuel : Nat} {cs : List Value} {x : DataW H × List MemPlace},
    DataW.trod enc P w base spare held fuel t cs = some x → ∃ r : α, cs = E r ∧ (E r).length = n ∧ ok r
theorem Elt.bool {P : Program} {t : TypeId} (ht : P.underlying t = some .bool) : Elt P t 1 (fun b : Bool => [Value.bool b]) (fun _ => True) := fun h => by
  obtain ⟨b, rfl, _⟩ := DataW.trod_bool ht h
  exact ⟨b, rfl, rfl, trivial⟩
theorem Elt.int {P : Program} {t : TypeId} (ht : P.underlying t = some (.int .i64)) : Elt P t 1 (fun z : Int => [Value.int .i64 z]) InR := fun h => by
  obtain ⟨z, rfl, _, hw⟩ := DataW.trod_int ht h
  exact ⟨z, rfl, rfl, nums_wf hw⟩
theorem Elt.nums {P : Program} {t : TypeId} {n : Nat} (h : Nums P t n) : Elt P t n numsE (fun r => r.length = n ∧ ∀ z ∈ r, InR z) := fun hx => by
  obtain ⟨r, rfl, hl, hk⟩ := h hx
  exact ⟨r, rfl, by simpa [numsE] using hl, hl, fun z hz => nums_wf (hk z hz)⟩
theorem open_elts {α : Type} [Inhabited α] {E : α → List Value} {ok : α → Prop} {H : Type} {enc : TypeId × Value → H} {P : Program} {w : World} {base : Nat} {spare : Nat → Bool} {held : Bool} {r0 : Reach} {b0 : Nat} {t e : TypeId} {n : Nat} {v : Value} {d : DataW H} {ps : List MemPlace}
    (ht : P.underlying t = some (.slice e)) (hc : P.cellsOf e = n) (hn0 : 0 < n) (hI : Elt P e n E ok) (hv : Value.okWide P w r0 b0 t v) (h : DataW.Trod enc P w base spare held t v d ps) :
    ∃ rows : List α, rows.length ≤ maxLen ∧ (∀ r ∈ rows, (E r).length = n ∧ ok r) ∧ Sl w n E v rows := by
  obtain ⟨a0, len0, cap0, rfl⟩ := okWide_slice ht hv
  obtain ⟨fuel, hf⟩ := h
  rcases Go.Deep.open_slice ht hf with ⟨h0, _⟩ | ⟨a, len, cap, m, k, D, Pl, hcs, hb, hl, hm, hmm, _, hx⟩
  · simp only [Value.cells, List.cons.injEq, Value.slice.injEq, and_true] at h0
    obtain ⟨rfl, rfl, rfl⟩ := h0
    exact ⟨[], by simp, by simp, Sl.nil _ _ _⟩
  · simp only [Value.cells, List.cons.injEq, Value.slice.injEq, and_true] at hcs
    obtain ⟨e0, e1, e2⟩ := hcs
    subst e0 e1 e2
    rw [hc] at hx
    have hlm : len0 ≤ m := by rw [hmm]; split <;> omega
    have hrow : ∀ i, i < len0 → ∃ r : α, ((E r).length = n ∧ ok r) ∧ ∀ j, j < n → w.cell? ((a.add (i * n)).add j) = (E r)[j]? := fun i hi => by
      obtain ⟨cs', h1, h2⟩ := hx i (by omega)
      obtain ⟨r, rfl, hr, hk⟩ := hI h2
      exact ⟨r, ⟨hr, hk⟩, (World.cells?_some h1).2.2⟩
    obtain ⟨f, hf'⟩ := Go.Deep.choose_lt hrow
    have hlen : ((List.range len0).map f).length = len0 := by simp
    refine ⟨(List.range len0).map f, by rw [hlen]; omega, fun r hr => ?_, some a, cap0, by rw [hlen], by rw [hlen]; exact hl, (fun h => by cases h), fun hne => ?_⟩
    · obtain ⟨i, hi, rfl⟩ := List.mem_map.1 hr
      exact (hf' i (List.mem_range.1 hi)).1
    · have h0 : 0 < len0 := by
        rcases Nat.eq_zero_or_pos len0 with rfl | h
        · simp at hne
        · exact h
      have hL : ∀ i, i < len0 → (E (f i)).length = n := fun i hi => (hf' i hi).1.1
      have hc0 := (hf' 0 h0).2 0 hn0
      rw [List.getElem?_eq_getElem (by rw [hL 0 h0]; exact hn0)] at hc0
      obtain ⟨b, off, spot⟩ := a
      have hspot : spot = none := by simpa [Addr.add] using World.cell?_spot hc0
      subst hspot
      refine ⟨b, off, rfl, ?_, fun i x j u hxx hu => ?_⟩
      · obtain ⟨cs0, g1, _⟩ := hx 0 (by omega)
        simpa [Addr.add] using World.cells?_block g1 (by omega)
      · have hi : i < len0 := by
          have := (List.getElem?_eq_some_iff.1 hxx).1
          rwa [hlen] at this
        rw [List.getElem?_map, List.getElem?_range hi] at hxx
        simp only [Option.map_some, Option.some.injEq] at hxx
        subst hxx
        have hj : j < n := by
          have := (List.getElem?_eq_some_iff.1 hu).1
          rwa [hL i hi] at this
        rw [← hu, ← (hf' i hi).2 j hj, Go.Deep.add_add]
        congr 1
        unfold Addr.add
        split
        · rename_i hz
          obtain ⟨h1, h2⟩ : i * n = 0 ∧ j = 0 := by omega
          rw [h1, h2]; rfl
        · rw [Nat.add_assoc]

theorem vt_bools {W : World} {v : Value} {l : List Bool} (h : Sl W 1 (fun b : Bool => [Value.bool b]) v l) : VT (allZ W) (.rows 1 (l.map fun b => [D.bool b])) v :=
  h.rows fun b _ => ⟨rfl, rfl, fun j d hd => by
    cases j with
    | zero => simp at hd; subst hd; exact ⟨_, rfl, fun Z => VT.bool b⟩
    | succ j => simp at hd⟩
theorem vt_ints {W : World} {v : Value} {l : List Int} (h : Sl W 1 (fun z : Int => [Value.int .i64 z]) v l) : VT (allZ W) (.rows 1 (l.map fun z => [I z])) v :=
  h.rows fun z _ => ⟨rfl, rfl, fun j d hd => by
    cases j with
    | zero => simp at hd; subst hd; exact ⟨_, rfl, fun Z => VT.int .i64 z⟩
    | succ j => simp at hd⟩
theorem vt_nums {W : World} {v : Value} {n : Nat} {l : List (List Int)} (h : Sl W n numsE v l) (hl : ∀ r ∈ l, r.length = n) : VT (allZ W) (.rows n (l.map fun r => r.map I)) v :=
  h.rows fun r hr => ⟨by simp [numsE, hl r hr], by simp [hl r hr], fun j d hd => by
    obtain ⟨z, hz, rfl⟩ := (map_get _ _ _ _).1 hd
    exact ⟨_, (map_get _ _ _ _).2 ⟨z, hz, rfl⟩, fun Z => VT.int .i64 z⟩⟩
theorem open_bools {H : Type} {enc : TypeId × Value → H} {w : World} {base : Nat} {spare : Nat → Bool} {held : Bool} {r0 : Reach} {b0 : Nat} {t e : TypeId} {v : Value} {d : DataW H} {ps : List MemPlace}
    (ht : Try.prog.underlying t = some (.slice e)) (hc : Try.prog.cellsOf e = 1) (he : Try.prog.underlying e = some .bool) (hv : Value.okWide Try.prog w r0 b0 t v) (h : DataW.Trod enc Try.prog w base spare held t v d ps) :
    ∃ l : List Bool, l.length ≤ maxLen ∧ VV s0 (allZ w) (.rows 1 (l.map fun b => [D.bool b])) v ∧ True := by
  obtain ⟨l, h1, _, h3⟩ := open_elts ht hc (by omega) (Elt.bool he) hv h
  exact ⟨l, h1, vt_bools h3, trivial⟩
theorem open_ints {H : Type} {enc : TypeId × Value → H} {w : World} {base : Nat} {spare : Nat → Bool} {held : Bool} {r0 : Reach} {b0 : Nat} {t e : TypeId} {v : Value} {d : DataW H} {ps : List MemPlace}
    (ht : Try.prog.underlying t = some (.slice e)) (hc : Try.prog.cellsOf e = 1) (he : Try.prog.underlying e = some (.int .i64)) (hv : Value.okWide Try.prog w r0 b0 t v) (h : DataW.Trod enc Try.prog w base spare held t v d ps) :
    ∃ l : List Int, l.length ≤ maxLen ∧ VV s0 (allZ w) (.rows 1 (l.map fun z => [I z])) v ∧ ∀ z ∈ l, InR z := by
  obtain ⟨l, h1, h2, h3⟩ := open_elts ht hc (by omega) (Elt.int he) hv h
  exact ⟨l, h1, vt_ints h3, fun z hz => (h2 z hz).2⟩
theorem open_rows {H : Type} {enc : TypeId × Value → H} {w : World} {base : Nat} {spare : Nat → Bool} {held : Bool} {r0 : Reach} {b0 : Nat} {t e : TypeId} {n : Nat} {v : Value} {d : DataW H} {ps : List MemPlace}
    (ht : Try.prog.underlying t = some (.slice e)) (hc : Try.prog.cellsOf e = n) (h0 : 0 < n) (he : Nums Try.prog e n) (hv : Value.okWide Try.prog w r0 b0 t v) (h : DataW.Trod enc Try.prog w base spare held t v d ps) :
    ∃ l : List (List Int), l.length ≤ maxLen ∧ VV s0 (allZ w) (.rows n (l.map fun r => r.map I)) v ∧ ∀ r ∈ l, r.length = n ∧ ∀ z ∈ r, InR z := by
  obtain ⟨l, h1, h2, h3⟩ := open_elts ht hc h0 (Elt.nums he) hv h
  exact ⟨l, h1, vt_nums h3 (fun r hr => (h2 r hr).2.1), fun r hr => (h2 r hr).2⟩
theorem laidOut : laidOutB Try.prog = true := by kernel_rfl
end Go.Proofs.Ytfkeddefajkobaa
