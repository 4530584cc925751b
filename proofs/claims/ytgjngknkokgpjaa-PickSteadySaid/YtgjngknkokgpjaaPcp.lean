/- This text holds the plain laws on who is picked. It has no condition of its own. -/
import Derived.Test.YtgjngknkokgpjaaPcw
set_option linter.unusedSimpArgs false
set_option linter.unusedVariables false
namespace Go.Proofs.Ytgjngknkokgpjaa
open Go.RowKit
theorem pk_ceil_ge (a b : Int) (hb : 0 < b) : a ≤ (a + b - 1) / b * b := by
  have h1 := Int.emod_add_mul_ediv (a + b - 1) b
  have h2 := Int.emod_lt_of_pos (a + b - 1) hb
  rw [Int.mul_comm]
  omega
theorem pk_capZ (num den flows weight total : Int) (hf : factorB num den = true) (h1 : 0 ≤ flows) (h3 : 1 ≤ weight) (h4 : weight ≤ total) : num * (flows + 1) * weight ≤ capZ num den flows weight total * (den * total) := by
  have hf' := of_decide_eq_true hf
  have b3 : 1 ≤ den * total := Int.mul_le_mul (a := 1) (b := 1) (by omega) (by omega) (by omega) (by omega)
  exact pk_ceil_ge _ _ (by omega)
theorem pk_sum (num den flows T : Int) (hf : factorB num den = true) (h1 : 0 ≤ flows) : ∀ (l : List Load), (∀ x ∈ l, 0 ≤ x.weight ∧ x.weight ≤ T) → num * (flows + 1) * sumW l ≤ (l.map (capOf num den flows T)).sum * (den * T)
  | [], _ => by simp [sumW]
  | x :: t, h => by
    have ih := pk_sum num den flows T hf h1 t fun y hy => h y (List.mem_cons_of_mem _ hy)
    have hx := h x (by simp)
    simp only [sumW, List.map_cons, List.sum_cons] at ih ⊢
    rw [Int.mul_add, Int.add_mul]
    have : num * (flows + 1) * x.weight ≤ capOf num den flows T x * (den * T) := by
      unfold capOf
      split
      · exact pk_capZ num den flows x.weight T hf h1 (by omega) hx.2
      · have : x.weight = 0 := by omega
        rw [this]; simp
    omega
/-- loads that may be: their weights and flows -/
def LOk (l : List Load) : Prop := ∀ x ∈ l, 0 ≤ x.weight ∧ x.weight ≤ 8 ∧ 0 ≤ x.flows ∧ x.flows ≤ 40
def someW (x : Load) : Bool := decide (0 < x.weight)
theorem sumW_zero : ∀ {l : List Load}, LOk l → (sumW l = 0 ↔ idxZ someW l < 0)
  | [], _ => by simp [sumW, idxZ]
  | x :: t, h => by
    have ih := sumW_zero (l := t) fun y hy => h y (List.mem_cons_of_mem _ hy)
    have hx := h x (by simp)
    have h2 := sumW_bd (l := t) fun y hy => by have := h y (List.mem_cons_of_mem _ hy); omega
    have hlo := idxZ_lo someW t
    have e : idxZ someW (x :: t) = if someW x = true then 0 else if idxZ someW t < 0 then -1 else idxZ someW t + 1 := rfl
    have e2 : sumW (x :: t) = x.weight + sumW t := by simp [sumW]
    rw [e, e2]
    by_cases hw : 0 < x.weight
    · rw [if_pos (show someW x = true from decide_eq_true hw)]; omega
    · rw [if_neg (by simpa [someW] using hw)]
      split <;> omega
theorem pk_all (l : List Load) (c : Load → Int) (h : ∀ x ∈ l, (0 < x.weight → c x ≤ x.flows) ∧ (¬ 0 < x.weight → c x = 0)) : (l.map c).sum ≤ sumF l := by
  induction l with
  | nil => simp [sumF]
  | cons x t ih =>
    have ih := ih fun y hy => h y (List.mem_cons_of_mem _ hy)
    have hx := h x (by simp)
    simp only [sumF, List.map_cons, List.sum_cons] at ih ⊢
    split
    · rename_i hw; have := hx.1 hw; omega
    · rename_i hw; have := hx.2 hw; omega
/-- where the flows are not more than they are said to be, somebody has room -/
theorem pk_room (l : List Load) (num den flows : Int) (hf : factorB num den = true) (hl : LOk l) (h0 : 0 ≤ flows) (hs : sumF l ≤ flows) (hw : sumW l ≠ 0) : ∃ i, ∃ (h : i < l.length), 0 < l[i].weight ∧ roomB l (capsOf l num den flows) i = true := by
  have hf' := of_decide_eq_true hf
  have hb := sumW_bd (l := l) fun y hy => by have := hl y hy; omega
  have h1 := pk_sum num den flows (sumW l) hf h0 l fun x hx => by
    have := hl x hx
    exact ⟨this.1, sumW_mem (fun y hy => by have := hl y hy; omega) x hx⟩
  refine Classical.byContradiction fun hno => ?_
  have h2 := pk_all l (capOf num den flows (sumW l)) fun x hx => by
    obtain ⟨i, hi⟩ := List.getElem?_of_mem hx
    obtain ⟨hi2, rfl⟩ := List.getElem?_eq_some_iff.1 hi
    refine ⟨fun hw => ?_, fun hw => by simp [capOf, hw]⟩
    refine Classical.byContradiction fun hlt => hno ⟨i, hi2, hw, ?_⟩
    unfold roomB
    refine decide_eq_true ?_
    simp only [List.getD, capsOf, List.getElem?_eq_getElem hi2, List.getElem?_map, Option.map_some, Option.getD_some]
    omega
  have h3 : (l.map (capOf num den flows (sumW l))).sum ≤ flows := by omega
  have hT : 0 < sumW l := by omega
  have h4 : den * (flows + 1) * sumW l ≤ num * (flows + 1) * sumW l := Int.mul_le_mul_of_nonneg_right (Int.mul_le_mul_of_nonneg_right hf'.2.1 (by omega)) (by omega)
  have h5 : (l.map (capOf num den flows (sumW l))).sum * (den * sumW l) ≤ flows * (den * sumW l) := Int.mul_le_mul_of_nonneg_right h3 (Int.mul_nonneg (by omega) (by omega))
  have h6 : den * (flows + 1) * sumW l = flows * (den * sumW l) + den * sumW l := by
    rw [Int.mul_comm den (flows + 1), Int.mul_assoc, Int.add_mul, Int.one_mul]
  have h7 : 1 ≤ den * sumW l := Int.mul_le_mul (a := 1) (b := 1) (by omega) (by omega) (by omega) (by omega)
  omega
theorem ofZ_at {l : List Load} {b : Int} {k : Nat} (h : ofZ l b = k) : ∃ (h2 : k < l.length), l[k].backend = b ∧ 0 < l[k].weight := by
  have h3 := idxZ_get (tkB b) l (by show 0 ≤ ofZ l b; omega)
  have e : (idxZ (tkB b) l).toNat = k := by show (ofZ l b).toNat = k; omega
  obtain ⟨h4, h5, _⟩ := h3
  simp only [e] at h4 h5
  unfold tkB at h5
  simp only [Bool.and_eq_true, decide_eq_true_eq] at h5
  exact ⟨h4, h5⟩
theorem alongZ_at (l : List Load) (caps : List Int) : ∀ (w : List Int) (t : Int) (k : Nat), alongZ l caps w t = k → ∃ (h2 : k < l.length), 0 < l[k].weight ∧ roomB l caps k = true
  | [], t, k, h => by simp only [alongZ] at h; omega
  | b :: w, t, k, h => by
    have e : alongZ l caps (b :: w) t = if ofZ l b < 0 then alongZ l caps w t else if t = 0 then -1 else if roomB l caps (ofZ l b).toNat = true then ofZ l b else alongZ l caps w (t - 1) := rfl
    rw [e] at h
    split at h
    · exact alongZ_at l caps w t k h
    · split at h
      · omega
      · split at h
        · rename_i hr
          obtain ⟨h2, h3, h4⟩ := ofZ_at h
          refine ⟨h2, h4, ?_⟩
          rw [h] at hr
          exact hr
        · exact alongZ_at l caps w (t - 1) k h
theorem alongZ_zero (l : List Load) (caps : List Int) : ∀ (w : List Int), alongZ l caps w 0 = -1
  | [] => rfl
  | b :: w => by
    have e : alongZ l caps (b :: w) 0 = if ofZ l b < 0 then alongZ l caps w 0 else if (0 : Int) = 0 then -1 else if roomB l caps (ofZ l b).toNat = true then ofZ l b else alongZ l caps w (0 - 1) := rfl
    rw [e, alongZ_zero l caps w]
    split
    · rfl
    · simp
/-- one of the least for its weight -/
theorem ratio (a b c d e f : Int) (hb : 0 < b) (hd : 0 < d) (hf : 0 < f) (h1 : a * d ≤ c * b) (h2 : c * f ≤ e * d) : a * f ≤ e * b := by
  have h3 : a * d * f ≤ c * b * f := Int.mul_le_mul_of_nonneg_right h1 (by omega)
  have h4 : c * f * b ≤ e * d * b := Int.mul_le_mul_of_nonneg_right h2 (by omega)
  have e1 : a * d * f = a * f * d := by rw [Int.mul_assoc, Int.mul_comm d f, ← Int.mul_assoc]
  have e2 : c * b * f = c * f * b := by rw [Int.mul_assoc, Int.mul_comm b f, ← Int.mul_assoc]
  have e3 : e * d * b = e * b * d := by rw [Int.mul_assoc, Int.mul_comm d b, ← Int.mul_assoc]
  exact Int.le_of_mul_le_mul_right (by omega : a * f * d ≤ e * b * d) hd
theorem leastN_at (l : List Load) (caps : List Int) (hl : LOk l) : ∀ i, i ≤ l.length → (leastN l caps i < 0 → ∀ j, j < i → (l.getD j zload).weight = 0 ∨ roomB l caps j = false) ∧
    (∀ k : Nat, leastN l caps i = k → k < i ∧ 0 < (l.getD k zload).weight ∧ roomB l caps k = true ∧ ∀ j, j < i → (l.getD j zload).weight ≠ 0 → roomB l caps j = true → (l.getD k zload).flows * (l.getD j zload).weight ≤ (l.getD j zload).flows * (l.getD k zload).weight)
  | 0, _ => ⟨fun _ j hj => by omega, fun k h => by simp only [leastN] at h; omega⟩
  | i + 1, hi => by
    obtain ⟨h1, h2⟩ := leastN_at l caps hl i (by omega)
    have hw : ∀ j, j < l.length → 0 ≤ (l.getD j zload).weight ∧ 0 ≤ (l.getD j zload).flows := fun j hj => by
      have := hl (l.getD j zload) (by simp only [List.getD, List.getElem?_eq_getElem hj, Option.getD_some]; exact List.getElem_mem hj)
      omega
    have hwi := hw i (by omega)
    have e : leastN l caps (i + 1) = if (l.getD i zload).weight = 0 ∨ roomB l caps i = false then leastN l caps i else if leastN l caps i < 0 ∨ (l.getD i zload).flows * (l.getD (leastN l caps i).toNat zload).weight < (l.getD (leastN l caps i).toNat zload).flows * (l.getD i zload).weight then i else leastN l caps i := rfl
    rw [e]
    by_cases hc : (l.getD i zload).weight = 0 ∨ roomB l caps i = false
    · rw [if_pos hc]
      refine ⟨fun hn j hj => ?_, fun k hk => ?_⟩
      · by_cases hji : j = i
        · subst hji; exact hc
        · exact h1 hn j (by omega)
      · obtain ⟨k1, k2, k3, k4⟩ := h2 k hk
        refine ⟨by omega, k2, k3, fun j hj hjw hjr => ?_⟩
        by_cases hji : j = i
        · subst hji
          rcases hc with hc | hc
          · exact absurd hc hjw
          · rw [hc] at hjr; cases hjr
        · exact k4 j (by omega) hjw hjr
    · rw [if_neg hc]
      have hiw : (l.getD i zload).weight ≠ 0 := fun h => hc (.inl h)
      have hir : roomB l caps i = true := by
        cases h : roomB l caps i with
        | true => rfl
        | false => exact absurd (.inr h) hc
      have hlo := leastN_lo l caps i
      split
      · rename_i hd
        refine ⟨fun hn => by omega, fun k hk => ?_⟩
        obtain rfl : i = k := by omega
        refine ⟨by omega, by omega, hir, fun j hj hjw hjr => ?_⟩
        by_cases hji : j = i
        · subst hji; exact Int.le_refl _
        · by_cases hn : leastN l caps i < 0
          · rcases h1 hn j (by omega) with h | h
            · exact absurd h hjw
            · rw [h] at hjr; cases hjr
          · obtain ⟨p, hp⟩ : ∃ p : Nat, leastN l caps i = p := ⟨(leastN l caps i).toNat, by omega⟩
            obtain ⟨k1, k2, k3, k4⟩ := h2 p hp
            have hlt : (l.getD i zload).flows * (l.getD p zload).weight < (l.getD p zload).flows * (l.getD i zload).weight := by
              rcases hd with hd | hd
              · exact absurd hd hn
              · rw [hp] at hd; exact hd
            have hwj := hw j (by omega)
            exact ratio _ _ _ _ _ _ (by omega) k2 (by omega) (by omega) (k4 j (by omega) hjw hjr)
      · rename_i hd
        refine ⟨fun hn => absurd (.inl hn) hd, fun k hk => ?_⟩
        obtain ⟨k1, k2, k3, k4⟩ := h2 k hk
        refine ⟨by omega, k2, k3, fun j hj hjw hjr => ?_⟩
        by_cases hji : j = i
        · subst hji
          rw [hk] at hd
          exact Int.not_lt.1 fun h => hd (.inr h)
        · exact k4 j (by omega) hjw hjr
/-- somebody is picked, who takes something and has room -/
theorem pickI_at (walk : List Int) (l : List Load) (num den flows t : Int) (hf : factorB num den = true) (hl : LOk l) (h0 : 0 ≤ flows) (hs : sumF l ≤ flows) (hw : sumW l ≠ 0) :
    ∃ k : Nat, ∃ (h : k < l.length), pickI walk l (capsOf l num den flows) t = k ∧ 0 < l[k].weight ∧ roomB l (capsOf l num den flows) k = true ∧ pickM walk l num den flows t = (l[k].backend, 0) := by
  have hz : ¬ idxZ someW l < 0 := fun h => hw ((sumW_zero hl).2 h)
  have hp : pickM walk l num den flows t = if pickI walk l (capsOf l num den flows) t < 0 then (0, 9) else ((l.getD (pickI walk l (capsOf l num den flows) t).toNat zload).backend, 0) := by
    unfold pickM; exact if_neg hz
  have key : ∃ k : Nat, ∃ (h : k < l.length), pickI walk l (capsOf l num den flows) t = k ∧ 0 < l[k].weight ∧ roomB l (capsOf l num den flows) k = true := by
    unfold pickI
    have halo := alongZ_lo l (capsOf l num den flows) walk t
    by_cases ha : alongZ l (capsOf l num den flows) walk t < 0
    · rw [if_pos ha]
      obtain ⟨i, hi, h1, h2⟩ := pk_room l num den flows hf hl h0 hs hw
      obtain ⟨g1, g2⟩ := leastN_at l (capsOf l num den flows) hl l.length (Nat.le_refl _)
      have hlo := leastN_lo l (capsOf l num den flows) l.length
      by_cases hn : leastN l (capsOf l num den flows) l.length < 0
      · rcases g1 hn i hi with h | h
        · simp only [List.getD, List.getElem?_eq_getElem hi, Option.getD_some] at h; omega
        · rw [h] at h2; cases h2
      · obtain ⟨k, hk⟩ : ∃ k : Nat, leastN l (capsOf l num den flows) l.length = k := ⟨(leastN l (capsOf l num den flows) l.length).toNat, by omega⟩
        obtain ⟨k1, k2, k3, _⟩ := g2 k hk
        simp only [List.getD, List.getElem?_eq_getElem k1, Option.getD_some] at k2
        exact ⟨k, k1, hk, k2, k3⟩
    · rw [if_neg ha]
      obtain ⟨k, hk⟩ : ∃ k : Nat, alongZ l (capsOf l num den flows) walk t = k := ⟨(alongZ l (capsOf l num den flows) walk t).toNat, by omega⟩
      obtain ⟨h1, h2, h3⟩ := alongZ_at _ _ _ _ _ hk
      exact ⟨k, h1, hk, h2, h3⟩
  obtain ⟨k, h1, h2, h3, h4⟩ := key
  refine ⟨k, h1, h2, h3, h4, ?_⟩
  rw [hp, h2, if_neg (by omega)]
  simp [List.getD, h1]
theorem pickM_busy (walk : List Int) (l : List Load) (num den flows t : Int) (hl : LOk l) (hw : sumW l = 0) : pickM walk l num den flows t = (0, 11) := by
  unfold pickM; exact if_pos ((sumW_zero hl).1 hw)
theorem parts_ok (raw : List (List Int)) : LOk (partsL raw) := fun x hx => by have := partsL_mem hx; omega
theorem parts_back (raw : List (List Int)) (i : Nat) (h : i < (partsL raw).length) : (partsL raw)[i].backend = i := by
  have h2 := partsL_len raw
  rw [partsL_get raw i h (by omega)]; rfl
theorem parts_flows (raw : List (List Int)) : 0 ≤ sumF (partsL raw) ∧ sumF (partsL raw) ≤ 36 := by
  have h2 := partsL_len raw
  have key : ∀ l : List Load, (∀ x ∈ l, 0 ≤ x.flows ∧ x.flows ≤ 3) → 0 ≤ sumF l ∧ sumF l ≤ 3 * l.length := fun l => by
    induction l with
    | nil => simp [sumF]
    | cons x t ih =>
      intro h
      have h1 := h x (by simp)
      have h2 := ih fun y hy => h y (List.mem_cons_of_mem _ hy)
      simp only [sumF, List.map_cons, List.sum_cons, List.length_cons] at h2 ⊢
      split <;> omega
  have := key (partsL raw) fun x hx => by have := partsL_mem hx; omega
  omega
/-- the load of a backend, where backends stand at their places -/
theorem loadM_at {l : List Load} (hb : ∀ i (h : i < l.length), l[i].backend = i) (k : Nat) (hk : k < l.length) : loadM l k = l[k] := by
  have hz := idxZ_at (fun x : Load => decide (x.backend = (k : Int))) l k hk (fun j hj => decide_eq_false (by rw [hb j (by omega)]; omega)) (decide_eq_true (hb k hk))
  unfold loadM
  rw [hz, if_neg (by omega)]
  simp [List.getD, hk]
theorem loadM_none {l : List Load} (hb : ∀ i (h : i < l.length), l[i].backend = i) (b : Int) (hk : b < 0 ∨ l.length ≤ b) : loadM l b = ⟨-1, 0, 0⟩ := by
  have hz := idxZ_none (fun x : Load => decide (x.backend = b)) l fun x hx => by
    obtain ⟨i, hi⟩ := List.getElem?_of_mem hx
    obtain ⟨hi2, rfl⟩ := List.getElem?_eq_some_iff.1 hi
    exact decide_eq_false (by rw [hb i hi2]; omega)
  unfold loadM
  rw [hz, if_pos (by omega)]
theorem ofZ_place {l : List Load} (hb : ∀ i (h : i < l.length), l[i].backend = i) (k : Nat) (hk : k < l.length) (hw : 0 < l[k].weight) : ofZ l k = k :=
  idxZ_at (tkB k) l k hk (fun j hj => by unfold tkB; rw [decide_eq_false (by rw [hb j (by omega)]; omega)]; rfl) (by unfold tkB; rw [decide_eq_true (hb k hk), decide_eq_true hw]; rfl)
theorem ofZ_none {l : List Load} (hb : ∀ i (h : i < l.length), l[i].backend = i) (b : Int) (hk : b < 0 ∨ l.length ≤ b ∨ ∃ (k : Nat) (h : k < l.length), b = k ∧ ¬ 0 < l[k].weight) : ofZ l b = -1 :=
  idxZ_none (tkB b) l fun x hx => by
    obtain ⟨i, hi⟩ := List.getElem?_of_mem hx
    obtain ⟨hi2, rfl⟩ := List.getElem?_eq_some_iff.1 hi
    unfold tkB
    rw [hb i hi2]
    rcases hk with h | h | ⟨k, h1, rfl, h3⟩
    · rw [decide_eq_false (by omega)]; rfl
    · rw [decide_eq_false (by omega)]; rfl
    · by_cases hik : (i : Int) = k
      · obtain rfl : i = k := by omega
        rw [decide_eq_false h3]; simp
      · rw [decide_eq_false hik]; rfl
end Go.Proofs.Ytgjngknkokgpjaa
