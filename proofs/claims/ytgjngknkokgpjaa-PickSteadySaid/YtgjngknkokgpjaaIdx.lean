/- This text holds the plain laws on the place of the first element that fits. It has no condition of its own. -/
import Derived.Test.YtgjngknkokgpjaaBase
set_option linter.unusedSimpArgs false
set_option linter.unusedVariables false
namespace Go.Proofs.Ytgjngknkokgpjaa
/-- the place of the first that fits, or -1 -/
def idxZ {α : Type} (q : α → Bool) : List α → Int
  | [] => -1
  | x :: l => if q x then 0 else if idxZ q l < 0 then -1 else idxZ q l + 1
theorem idxZ_lo {α : Type} (q : α → Bool) : ∀ l : List α, -1 ≤ idxZ q l ∧ idxZ q l < l.length
  | [] => by simp [idxZ]
  | x :: l => by
    have := idxZ_lo q l
    simp only [idxZ, List.length_cons]
    split
    · omega
    · split <;> omega
theorem idxZ_at {α : Type} (q : α → Bool) : ∀ (l : List α) (i : Nat) (h : i < l.length), (∀ j (hj : j < i), q l[j] = false) → q l[i] = true → idxZ q l = i
  | [], i, h, _, _ => by simp at h
  | x :: l, 0, h, _, hq => by
    simp only [List.getElem_cons_zero] at hq
    simp [idxZ, hq]
  | x :: l, i + 1, h, hb, hq => by
    have h0 := hb 0 (by omega)
    simp only [List.getElem_cons_zero] at h0
    have ih := idxZ_at q l i (by simpa using h) (fun j hj => by simpa using hb (j + 1) (by omega)) (by simpa using hq)
    simp only [idxZ, h0, Bool.false_eq_true, if_false, ih]
    rw [if_neg (by omega)]; omega
theorem idxZ_none {α : Type} (q : α → Bool) : ∀ (l : List α), (∀ x ∈ l, q x = false) → idxZ q l = -1
  | [], _ => rfl
  | x :: l, h => by simp [idxZ, h x (by simp), idxZ_none q l fun y hy => h y (List.mem_cons_of_mem _ hy)]
theorem idxZ_some {α : Type} (q : α → Bool) : ∀ (l : List α), (∃ x ∈ l, q x = true) → 0 ≤ idxZ q l
  | [], h => by simp at h
  | x :: l, h => by
    simp only [idxZ]
    split
    · omega
    · rename_i hx
      have : 0 ≤ idxZ q l := idxZ_some q l (by
        obtain ⟨y, hy, hq⟩ := h
        rcases List.mem_cons.1 hy with rfl | hy
        · exact absurd hq hx
        · exact ⟨y, hy, hq⟩)
      rw [if_neg (by omega)]; omega
theorem idxZ_get {α : Type} (q : α → Bool) : ∀ (l : List α) (h : 0 ≤ idxZ q l), ∃ (h2 : (idxZ q l).toNat < l.length), q l[(idxZ q l).toNat] = true ∧ ∀ j (hj : j < (idxZ q l).toNat), q (l[j]'(by omega)) = false := fun l h => by
  by_cases hx : ∃ x ∈ l, q x = true
  · obtain ⟨i, hi, hq, hb⟩ : ∃ (i : Nat) (hi : i < l.length), q l[i] = true ∧ ∀ j (hj : j < i), q (l[j]'(by omega)) = false := by
      obtain ⟨x, hx, hq⟩ := hx
      have h1 : l.findIdx q < l.length := List.findIdx_lt_length_of_exists ⟨x, hx, hq⟩
      exact ⟨l.findIdx q, h1, List.findIdx_getElem (w := h1), fun j hj => by simpa using List.not_of_lt_findIdx hj⟩
    have e := idxZ_at q l i hi hb hq
    have e2 : (idxZ q l).toNat = i := by omega
    refine ⟨by omega, ?_, fun j hj => hb j (by omega)⟩
    simp only [e2]; exact hq
  · have := idxZ_none q l fun x hm => by
      cases hqx : q x with
      | true => exact absurd ⟨x, hm, hqx⟩ hx
      | false => rfl
    omega
end Go.Proofs.Ytgjngknkokgpjaa
