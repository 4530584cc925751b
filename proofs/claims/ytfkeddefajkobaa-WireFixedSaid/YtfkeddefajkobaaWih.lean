/- This text holds the plain laws on events as bytes. It has no condition of its own. -/
import Derived.Test.YtfkeddefajkobaaWig
set_option linter.unusedSimpArgs false
set_option linter.unusedVariables false
namespace Go.Proofs.Ytfkeddefajkobaa
open Go.RowKit
theorem encF_one (k : Nat) {m : Int} (h : m < 128) : encF k m = [m] := by
  cases k with
  | zero => rfl
  | succ k => simp only [encF]; rw [if_pos h]
theorem encF_more (k : Nat) {m : Int} (h : ¬ m < 128) : encF (k + 1) m = (m % 128 + 128) :: encF k (m / 128) := by simp only [encF]; rw [if_neg h]
theorem getM_enc : ∀ (k : Nat) (m : Int) (r : List Int) (i : Nat) (a : Int), 0 ≤ m → m < 128 * 128 ^ k → i + k ≤ 5 → (0 < i → 0 < m) → getM (encF k m ++ r) i a = (a + m * 2 ^ (7 * i), ((i + (encF k m).length : Nat) : Int), 0)
  | k, m, r, i, a, h0, h1, hi, hp => by
    by_cases hm : m < 128
    · rw [encF_one k hm]
      simp only [List.singleton_append, getM, List.length_singleton]
      rw [if_neg (by omega), if_pos hm, if_neg (by omega)]
      rfl
    · match k, h1, hi with
      | 0, h1, _ => simp at h1; omega
      | k + 1, h1, hi =>
        rw [encF_more k hm]
        rw [Int.pow_succ] at h1
        obtain ⟨p, hp'⟩ : ∃ p : Int, p = 128 ^ k := ⟨_, rfl⟩
        have h2 : m / 128 < 128 * 128 ^ k := by rw [← hp'] at h1 ⊢; omega
        have ih := getM_enc k (m / 128) r (i + 1) (a + (m % 128 + 128) % 128 * 2 ^ (7 * i)) (by omega) h2 (by omega) (fun _ => by omega)
        simp only [List.cons_append, getM, List.length_cons]
        rw [if_neg (by omega), if_neg (by omega), ih, show (m % 128 + 128) % 128 = m % 128 by omega]
        have e1 : (2 : Int) ^ (7 * (i + 1)) = 2 ^ (7 * i) * 128 := by rw [show 7 * (i + 1) = 7 * i + 7 by omega, Int.pow_add]; rfl
        have e2 : m % 128 * 2 ^ (7 * i) + m / 128 * (2 ^ (7 * i) * 128) = m * 2 ^ (7 * i) := by
          rw [Int.mul_comm (2 ^ (7 * i)) 128, ← Int.mul_assoc, ← Int.add_mul]
          congr 1
          omega
        rw [e1, Int.add_assoc, e2, show i + 1 + (encF k (m / 128)).length = i + ((encF k (m / 128)).length + 1) by omega]
theorem getM_cut : ∀ (k : Nat) (m : Int) (j i : Nat) (a : Int), j < (encF k m).length → i + k ≤ 5 → 0 ≤ m → getM ((encF k m).take j) i a = (0, 0, 4)
  | k, m, 0, i, a, _, _, _ => rfl
  | k, m, j + 1, i, a, hj, hi, h0 => by
    by_cases hm : m < 128
    · rw [encF_one k hm] at hj
      simp at hj
    · match k, hi, hj with
      | 0, _, hj => simp [encF] at hj
      | k + 1, hi, hj =>
        rw [encF_more k hm] at hj ⊢
        simp only [List.length_cons] at hj
        simp only [List.take_succ_cons, getM]
        rw [if_neg (by omega), if_neg (by omega), getM_cut k (m / 128) j (i + 1) _ (by omega) (by omega) (by omega)]
theorem encF_up : ∀ (k : Nat) (m : Int), m < 128 * 128 ^ k → encF (k + 1) m = encF k m
  | 0, m, h => by
    simp at h
    rw [encF_one 1 h, encF_one 0 h]
  | k + 1, m, h => by
    by_cases hm : m < 128
    · rw [encF_one _ hm, encF_one _ hm]
    · rw [encF_more _ hm, encF_more _ hm]
      rw [Int.pow_succ] at h
      obtain ⟨p, hp'⟩ : ∃ p : Int, p = 128 ^ k := ⟨_, rfl⟩
      rw [encF_up k (m / 128) (by rw [← hp'] at h ⊢; omega)]
theorem getM_inv : ∀ (r : List Int) (k i : Nat) (a v u : Int), (∀ c ∈ r, Byte c) → i + k = 5 → getM r i a = (v, u, 0) → ∃ m : Int, 0 ≤ m ∧ v = a + m * 2 ^ (7 * i) ∧ (0 < i → 0 < m) ∧ ∃ j : Nat, u = (i : Int) + j ∧ r.take j = encF k m
  | [], k, i, a, v, u, _, _, h => by simp [getM] at h
  | c :: r, k, i, a, v, u, hb, hi, h => by
    obtain ⟨c0, c1⟩ := hb c (by simp)
    simp only [getM] at h
    rw [if_neg (by omega)] at h
    by_cases hc : c < 128
    · rw [if_pos hc] at h
      split at h
      · simp at h
      · rename_i hz
        simp only [Prod.mk.injEq, and_true] at h
        refine ⟨c, c0, h.1.symm, fun hi0 => ?_, 1, h.2.symm, ?_⟩
        · by_cases hc0 : c = 0
          · exact absurd ⟨hc0, hi0⟩ hz
          · omega
        · rw [encF_one k hc]; rfl
    · rw [if_neg hc] at h
      match k, hi with
      | 0, hi =>
        have : i = 5 := by omega
        subst this
        match r, h with
        | [], h => simp [getM] at h
        | d :: r, h => simp [getM] at h
      | k + 1, hi =>
        obtain ⟨m, h0, h1, h2, j, h3, h4⟩ := getM_inv r k (i + 1) _ v u (fun x hx => hb x (List.mem_cons_of_mem _ hx)) (by omega) h
        have hmp := h2 (by omega)
        refine ⟨m * 128 + c % 128, by omega, ?_, fun _ => by omega, j + 1, by omega, ?_⟩
        · have e1 : (2 : Int) ^ (7 * (i + 1)) = 2 ^ (7 * i) * 128 := by rw [show 7 * (i + 1) = 7 * i + 7 by omega, Int.pow_add]; rfl
          rw [h1, e1, Int.mul_comm (2 ^ (7 * i)) 128, ← Int.mul_assoc, Int.add_assoc, ← Int.add_mul, Int.add_comm (c % 128)]
        · rw [encF_more k (by omega), List.take_succ_cons, h4, show (m * 128 + c % 128) % 128 + 128 = c by omega, show (m * 128 + c % 128) / 128 = m by omega]
theorem encF_byte : ∀ (k : Nat) (m : Int), 0 ≤ m → m < 128 * 128 ^ k → ∀ c ∈ encF k m, Byte c
  | k, m, h0, h1, c, hc => by
    by_cases hm : m < 128
    · rw [encF_one k hm] at hc
      obtain rfl := List.mem_singleton.1 hc
      exact ⟨h0, by omega⟩
    · match k, h1, hc with
      | 0, h1, _ => simp at h1; omega
      | k + 1, h1, hc =>
        rw [encF_more k hm] at hc
        rw [Int.pow_succ] at h1
        obtain ⟨p, hp'⟩ : ∃ p : Int, p = 128 ^ k := ⟨_, rfl⟩
        rcases List.mem_cons.1 hc with rfl | hc
        · exact ⟨by omega, by omega⟩
        · exact encF_byte k (m / 128) (by omega) (by rw [← hp'] at h1 ⊢; omega) c hc
theorem encF_mono : ∀ (k : Nat) (m n : Int), 0 ≤ m → m ≤ n → (encF k m).length ≤ (encF k n).length
  | 0, m, n, _, _ => by simp [encF]
  | k + 1, m, n, h0, h => by
    have h1 := (encF_len (k + 1) n).1
    by_cases hm : m < 128
    · rw [encF_one _ hm]; exact h1
    · rw [encF_more _ hm, encF_more _ (show ¬ n < 128 by omega)]
      have := encF_mono k (m / 128) (n / 128) (by omega) (by omega)
      simp only [List.length_cons]
      omega
theorem big4 {v : Int} (h : v ≤ 4294967295) : v < 128 * 128 ^ 4 := by
  have : (128 : Int) * 128 ^ 4 = 34359738368 := by decide
  omega
theorem decC_step (kd : EK) (m i : Nat) (x y z v : Int) (r : List Int) (h0 : 0 ≤ v) (h1 : v ≤ 4294967295) (hl : kd.lo i ≤ v) (hh : v ≤ kd.hi i) :
    decC kd (m + 1) i x y z (encF 4 v ++ r) = decC kd m (i + 1) (if i = 0 then v else x) (if i = 1 then v else y) (if i = 2 then v else z) r := by
  have hg : getM (encF 4 v ++ r) 0 0 = (v, ((encF 4 v).length : Int), 0) := by
    have := getM_enc 4 v r 0 0 h0 (big4 h1) (by omega) (fun h => by omega)
    simpa using this
  have hd : (encF 4 v ++ r).drop (encF 4 v).length = r := by simp
  simp only [decC, hg]
  rw [if_pos trivial, if_neg (by omega), Int.toNat_natCast, hd]
theorem decC_cut (kd : EK) (m i : Nat) (x y z v : Int) (r : List Int) (j : Nat) (h0 : 0 ≤ v) (h1 : v ≤ 4294967295) (hl : kd.lo i ≤ v) (hh : v ≤ kd.hi i)
    (h : (encF 4 v).length ≤ j → (decC kd m (i + 1) (if i = 0 then v else x) (if i = 1 then v else y) (if i = 2 then v else z) (r.take (j - (encF 4 v).length))).2 = 4) :
    (decC kd (m + 1) i x y z ((encF 4 v ++ r).take j)).2 = 4 := by
  by_cases hj : (encF 4 v).length ≤ j
  · rw [List.take_append, List.take_of_length_le hj, decC_step kd m i x y z v _ h0 h1 hl hh]
    exact h hj
  · rw [List.take_append_of_le_length (by omega)]
    have hg := getM_cut 4 v j 0 0 (by omega) (by omega) h0
    simp only [decC, hg]
    rfl
theorem decC_inv (kd : EK) (m i : Nat) (x y z : Int) (r : List Int) (e : List D) (hb : ∀ c ∈ r, Byte c) (hh : kd.hi i ≤ 4294967295) (h : decC kd (m + 1) i x y z r = (e, 0)) :
    ∃ (v : Int) (r' : List Int), 0 ≤ v ∧ kd.lo i ≤ v ∧ v ≤ kd.hi i ∧ r = encF 4 v ++ r' ∧ decC kd m (i + 1) (if i = 0 then v else x) (if i = 1 then v else y) (if i = 2 then v else z) r' = (e, 0) := by
  simp only [decC] at h
  obtain ⟨v, hv⟩ : ∃ v, v = (getM r 0 0).1 := ⟨_, rfl⟩
  obtain ⟨u, hu⟩ : ∃ u, u = (getM r 0 0).2.1 := ⟨_, rfl⟩
  obtain ⟨q, hq⟩ : ∃ q, q = (getM r 0 0).2.2 := ⟨_, rfl⟩
  have hgq : getM r 0 0 = (v, u, q) := by rw [hv, hu, hq]
  rw [← hv, ← hu, ← hq] at h
  clear hv hu hq
  by_cases h0 : q = 0
  · rw [if_pos h0] at h
    subst h0
    by_cases hbd : v < kd.lo i ∨ kd.hi i < v
    · rw [if_pos hbd] at h
      simp at h
    · rw [if_neg hbd] at h
      obtain ⟨m', g0, g1, _, j, g2, g3⟩ := getM_inv r 5 0 0 v u hb (by omega) hgq
      have hvm : v = m' := by simpa using g1
      subst hvm
      have hju : u.toNat = j := by omega
      rw [hju] at h
      refine ⟨v, r.drop j, g0, by omega, by omega, ?_, h⟩
      rw [← encF_up 4 v (big4 (by omega)), ← g3, List.take_append_drop]
  · rw [if_neg h0] at h
    simp at h
    exact absurd h.2 h0
theorem decC_zero (kd : EK) : ∀ (m i : Nat) (x y z : Int) (r : List Int), (decC kd m i x y z r).2 ≠ 0 → (decC kd m i x y z r).1 = zeroE
  | 0, i, x, y, z, r, h => by
    simp only [decC] at h ⊢
    split at h
    · exact absurd rfl h
    · rename_i hr; rw [if_neg hr]
  | m + 1, i, x, y, z, r, h => by
    simp only [decC] at h ⊢
    split at h
    · rename_i h0
      rw [if_pos h0]
      split at h
      · rename_i h1; rw [if_pos h1]
      · rename_i h1; rw [if_neg h1]; exact decC_zero kd m _ _ _ _ _ h
    · rename_i h0; rw [if_neg h0]
theorem decM_zero (b : List Int) (h : (decM b).2 ≠ 0) : (decM b).1 = zeroE := by
  unfold decM at h ⊢
  split at h
  · rename_i h1; rw [if_pos h1]
  · rename_i h1
    rw [if_neg h1]
    match b, h with
    | [], _ => rfl
    | k :: r, h =>
      simp only at h ⊢
      cases hk : EK.of k with
      | none => rfl
      | some kd =>
        rw [hk] at h
        exact decC_zero kd _ _ _ _ _ _ h
theorem decM_kind (k : Int) (r : List Int) (hk : 8 ≤ k) (hl : r.length ≤ 60) : decM (k :: r) = (zeroE, 5) := by
  have : EK.of k = none := by
    cases h : EK.of k with
    | none => rfl
    | some kd =>
      have := EK.of_some h
      cases kd <;> simp [EK.n] at this <;> omega
  unfold decM
  rw [if_neg (by simp; omega)]
  simp only [this]
theorem decM_cons (kd : EK) (r : List Int) (hl : r.length ≤ 60) : decM (kd.n :: r) = decC kd kd.len 0 0 0 0 r := by
  unfold decM
  rw [if_neg (by simp; omega)]
  simp only [EK.of_n]
/-- what follows the kind -/
def EK.tl (kd : EK) (x y z : Int) (r : List Int) : List Int :=
  match kd.len with
  | 0 => r
  | 1 => encF 4 x ++ r
  | 2 => encF 4 x ++ (encF 4 y ++ r)
  | _ => encF 4 x ++ (encF 4 y ++ (encF 4 z ++ r))
theorem EK.out_tl (kd : EK) (x y z : Int) (r : List Int) : kd.out x y z kd.len ++ r = kd.n :: kd.tl x y z r := by
  cases kd <;> simp [EK.out, EK.tl, EK.len]
theorem EK.tl_len (kd : EK) (x y z : Int) (r : List Int) : (kd.tl x y z r).length ≤ 15 + r.length := by
  have h1 := encF_len 4 x
  have h2 := encF_len 4 y
  have h3 := encF_len 4 z
  cases kd <;> simp [EK.tl, EK.len] <;> omega
theorem EK.val_bd {kd : EK} {x y z : Int} (h : kd.Ok x y z) {i : Nat} (hi : i < kd.len) : 0 ≤ kd.val x y z i ∧ kd.val x y z i ≤ 4294967295 := by
  have h1 := h.at hi
  have h2 : 0 ≤ kd.lo i := by cases kd <;> simp [EK.lo] <;> split <;> omega
  have h3 : kd.hi i ≤ 4294967295 := by
    cases kd <;> simp only [EK.hi] <;> first | omega | (split <;> omega)
  omega
theorem decC_tl (kd : EK) (x y z : Int) (h : kd.Ok x y z) (r : List Int) : decC kd kd.len 0 0 0 0 (kd.tl x y z r) = if r.length = 0 then (kd.cells x y z, 0) else (zeroE, 3) := by
  have ha := fun i hi => h.at (i := i) hi
  have hv := fun i hi => EK.val_bd h (i := i) hi
  cases kd
  all_goals
    simp only [EK.len] at ha hv
    simp only [EK.tl, EK.len]
  · have a0 := ha 0 (by omega); have v0 := hv 0 (by omega)
    simp only [EK.val, if_true] at a0 v0
    rw [decC_step _ 0 0 _ _ _ x _ v0.1 v0.2 a0.1 a0.2]; rfl
  · have a0 := ha 0 (by omega); have v0 := hv 0 (by omega); have a1 := ha 1 (by omega); have v1 := hv 1 (by omega)
    rw [decC_step _ 1 0 _ _ _ x _ v0.1 v0.2 a0.1 a0.2, decC_step _ 0 1 _ _ _ y _ v1.1 v1.2 a1.1 a1.2]; rfl
  · have a0 := ha 0 (by omega); have v0 := hv 0 (by omega); have a1 := ha 1 (by omega); have v1 := hv 1 (by omega)
    rw [decC_step _ 1 0 _ _ _ x _ v0.1 v0.2 a0.1 a0.2, decC_step _ 0 1 _ _ _ y _ v1.1 v1.2 a1.1 a1.2]; rfl
  · have a0 := ha 0 (by omega); have v0 := hv 0 (by omega); have a1 := ha 1 (by omega); have v1 := hv 1 (by omega); have a2 := ha 2 (by omega); have v2 := hv 2 (by omega)
    rw [decC_step _ 2 0 _ _ _ x _ v0.1 v0.2 a0.1 a0.2, decC_step _ 1 1 _ _ _ y _ v1.1 v1.2 a1.1 a1.2, decC_step _ 0 2 _ _ _ z _ v2.1 v2.2 a2.1 a2.2]; rfl
  · have a0 := ha 0 (by omega); have v0 := hv 0 (by omega); have a1 := ha 1 (by omega); have v1 := hv 1 (by omega); have a2 := ha 2 (by omega); have v2 := hv 2 (by omega)
    rw [decC_step _ 2 0 _ _ _ x _ v0.1 v0.2 a0.1 a0.2, decC_step _ 1 1 _ _ _ y _ v1.1 v1.2 a1.1 a1.2, decC_step _ 0 2 _ _ _ z _ v2.1 v2.2 a2.1 a2.2]; rfl
  · have a0 := ha 0 (by omega); have v0 := hv 0 (by omega); have a1 := ha 1 (by omega); have v1 := hv 1 (by omega)
    rw [decC_step _ 1 0 _ _ _ x _ v0.1 v0.2 a0.1 a0.2, decC_step _ 0 1 _ _ _ y _ v1.1 v1.2 a1.1 a1.2]; rfl
  · rfl
/-- what is encoded is decoded; with something behind it, it is none -/
theorem decM_out (kd : EK) (x y z : Int) (h : kd.Ok x y z) : decM (kd.out x y z kd.len) = (kd.cells x y z, 0) := by
  have := EK.tl_len kd x y z []
  rw [← List.append_nil (kd.out x y z kd.len), EK.out_tl, decM_cons kd _ (by simp at this; omega), decC_tl kd x y z h]
  rfl
theorem decM_more (kd : EK) (x y z : Int) (h : kd.Ok x y z) (t : Int) : decM (kd.out x y z kd.len ++ [t]) = (zeroE, 3) := by
  have := EK.tl_len kd x y z [t]
  rw [EK.out_tl, decM_cons kd _ (by simp at this; omega), decC_tl kd x y z h]
  rfl
theorem decC_end (kd : EK) (m i : Nat) (x y z : Int) : (decC kd (m + 1) i x y z []).2 = 4 := rfl
theorem decM_torn (kd : EK) (x y z : Int) (h : kd.Ok x y z) (j : Nat) (hj : j < (kd.out x y z kd.len).length) : (decM ((kd.out x y z kd.len).take j)).2 = 4 := by
  have ht := EK.out_tl kd x y z []
  rw [List.append_nil] at ht
  rw [ht] at hj ⊢
  have hl := EK.tl_len kd x y z []
  match j, hj with
  | 0, _ => rfl
  | j + 1, hj =>
    simp only [List.length_cons, List.length_nil] at hj hl
    rw [List.take_succ_cons, decM_cons kd _ (by simp; omega)]
    have ha := fun i hi => h.at (i := i) hi
    have hv := fun i hi => EK.val_bd h (i := i) hi
    cases kd
    all_goals
      simp only [EK.len] at ha hv
      simp only [EK.tl, EK.len, List.length_append, List.length_nil] at hj ⊢
    · have a0 := ha 0 (by omega); have v0 := hv 0 (by omega)
      exact decC_cut _ 0 0 _ _ _ x _ j v0.1 v0.2 a0.1 a0.2 fun h => by omega
    · have a0 := ha 0 (by omega); have v0 := hv 0 (by omega); have a1 := ha 1 (by omega); have v1 := hv 1 (by omega)
      exact decC_cut _ 1 0 _ _ _ x _ j v0.1 v0.2 a0.1 a0.2 fun h => decC_cut _ 0 1 _ _ _ y _ _ v1.1 v1.2 a1.1 a1.2 fun h => by omega
    · have a0 := ha 0 (by omega); have v0 := hv 0 (by omega); have a1 := ha 1 (by omega); have v1 := hv 1 (by omega)
      exact decC_cut _ 1 0 _ _ _ x _ j v0.1 v0.2 a0.1 a0.2 fun h => decC_cut _ 0 1 _ _ _ y _ _ v1.1 v1.2 a1.1 a1.2 fun h => by omega
    · have a0 := ha 0 (by omega); have v0 := hv 0 (by omega); have a1 := ha 1 (by omega); have v1 := hv 1 (by omega); have a2 := ha 2 (by omega); have v2 := hv 2 (by omega)
      exact decC_cut _ 2 0 _ _ _ x _ j v0.1 v0.2 a0.1 a0.2 fun h => decC_cut _ 1 1 _ _ _ y _ _ v1.1 v1.2 a1.1 a1.2 fun h => decC_cut _ 0 2 _ _ _ z _ _ v2.1 v2.2 a2.1 a2.2 fun h => by omega
    · have a0 := ha 0 (by omega); have v0 := hv 0 (by omega); have a1 := ha 1 (by omega); have v1 := hv 1 (by omega); have a2 := ha 2 (by omega); have v2 := hv 2 (by omega)
      exact decC_cut _ 2 0 _ _ _ x _ j v0.1 v0.2 a0.1 a0.2 fun h => decC_cut _ 1 1 _ _ _ y _ _ v1.1 v1.2 a1.1 a1.2 fun h => decC_cut _ 0 2 _ _ _ z _ _ v2.1 v2.2 a2.1 a2.2 fun h => by omega
    · have a0 := ha 0 (by omega); have v0 := hv 0 (by omega); have a1 := ha 1 (by omega); have v1 := hv 1 (by omega)
      exact decC_cut _ 1 0 _ _ _ x _ j v0.1 v0.2 a0.1 a0.2 fun h => decC_cut _ 0 1 _ _ _ y _ _ v1.1 v1.2 a1.1 a1.2 fun h => by omega
    · omega
/-- what is decoded is what was encoded -/
theorem decM_inv (b : List Int) (e : List D) (hb : ∀ c ∈ b, Byte c) (h : decM b = (e, 0)) : ∃ kd x y z, EK.Ok kd x y z ∧ e = kd.cells x y z ∧ b = kd.out x y z kd.len := by
  unfold decM at h
  split at h
  · simp at h
  · match b, h with
    | [], h => simp at h
    | k :: r, h =>
      simp only at h
      cases hk : EK.of k with
      | none => rw [hk] at h; simp at h
      | some kd =>
        rw [hk] at h
        simp only at h
        have hkn := EK.of_some hk
        have hrb : ∀ c ∈ r, Byte c := fun c hc => hb c (List.mem_cons_of_mem _ hc)
        have ap : ∀ (l s : List Int), (∀ c ∈ l ++ s, Byte c) → ∀ c ∈ s, Byte c := fun l s h c hc => h c (List.mem_append.2 (.inr hc))
        have fin : ∀ (kd : EK) (i : Nat) (x y z : Int) (r : List Int), decC kd 0 i x y z r = (e, 0) → r = [] ∧ e = kd.cells x y z := fun kd i x y z r h => by
          simp only [decC] at h
          split at h
          · rename_i hr
            simp only [Prod.mk.injEq, and_true] at h
            exact ⟨List.length_eq_zero_iff.1 hr, h.symm⟩
          · simp at h
        clear hb hk
        cases kd
        all_goals
          have g0 := h
          simp only [EK.len] at g0
          clear h
        · obtain ⟨x, r1, x0, x1, x2, rfl, g1⟩ := decC_inv .op 0 0 _ _ _ _ _ hrb (by simp [EK.hi]) g0
          obtain ⟨rfl, rfl⟩ := fin _ _ _ _ _ _ g1
          exact ⟨.op, x, 0, 0, ⟨x0, x2⟩, rfl, by rw [hkn]; simp [EK.out, EK.len]⟩
        · obtain ⟨x, r1, x0, x1, x2, rfl, g1⟩ := decC_inv .da 1 0 _ _ _ _ _ hrb (by simp [EK.hi]) g0
          obtain ⟨y, r2, y0, y1, y2, rfl, g2⟩ := decC_inv .da 0 1 _ _ _ _ _ (ap _ _ hrb) (by simp [EK.hi]) g1
          obtain ⟨rfl, rfl⟩ := fin _ _ _ _ _ _ g2
          exact ⟨.da, x, y, 0, ⟨⟨x0, x2⟩, y0, y2⟩, rfl, by rw [hkn]; simp [EK.out, EK.len]⟩
        · obtain ⟨x, r1, x0, x1, x2, rfl, g1⟩ := decC_inv .cl 1 0 _ _ _ _ _ hrb (by simp [EK.hi]) g0
          obtain ⟨y, r2, y0, y1, y2, rfl, g2⟩ := decC_inv .cl 0 1 _ _ _ _ _ (ap _ _ hrb) (by simp [EK.hi]) g1
          obtain ⟨rfl, rfl⟩ := fin _ _ _ _ _ _ g2
          exact ⟨.cl, x, y, 0, ⟨⟨x0, x2⟩, y0, y2⟩, rfl, by rw [hkn]; simp [EK.out, EK.len]⟩
        · obtain ⟨x, r1, x0, x1, x2, rfl, g1⟩ := decC_inv .an 2 0 _ _ _ _ _ hrb (by simp [EK.hi]) g0
          obtain ⟨y, r2, y0, y1, y2, rfl, g2⟩ := decC_inv .an 1 1 _ _ _ _ _ (ap _ _ hrb) (by simp [EK.hi]) g1
          obtain ⟨z, r3, z0, z1, z2, rfl, g3⟩ := decC_inv .an 0 2 _ _ _ _ _ (ap _ _ (ap _ _ hrb)) (by simp [EK.hi]) g2
          obtain ⟨rfl, rfl⟩ := fin _ _ _ _ _ _ g3
          exact ⟨.an, x, y, z, ⟨⟨x0, x2⟩, ⟨y0, y2⟩, z0, z2⟩, rfl, by rw [hkn]; simp [EK.out, EK.len]⟩
        · obtain ⟨x, r1, x0, x1, x2, rfl, g1⟩ := decC_inv .jo 2 0 _ _ _ _ _ hrb (by simp [EK.hi]) g0
          obtain ⟨y, r2, y0, y1, y2, rfl, g2⟩ := decC_inv .jo 1 1 _ _ _ _ _ (ap _ _ hrb) (by simp [EK.hi]) g1
          obtain ⟨z, r3, z0, z1, z2, rfl, g3⟩ := decC_inv .jo 0 2 _ _ _ _ _ (ap _ _ (ap _ _ hrb)) (by simp [EK.hi]) g2
          obtain ⟨rfl, rfl⟩ := fin _ _ _ _ _ _ g3
          exact ⟨.jo, x, y, z, ⟨⟨x0, x2⟩, ⟨y0, y2⟩, z1, z2⟩, rfl, by rw [hkn]; simp [EK.out, EK.len]⟩
        · obtain ⟨x, r1, x0, x1, x2, rfl, g1⟩ := decC_inv .re 1 0 _ _ _ _ _ hrb (by simp [EK.hi]) g0
          obtain ⟨y, r2, y0, y1, y2, rfl, g2⟩ := decC_inv .re 0 1 _ _ _ _ _ (ap _ _ hrb) (by simp [EK.hi]) g1
          obtain ⟨rfl, rfl⟩ := fin _ _ _ _ _ _ g2
          exact ⟨.re, x, y, 0, ⟨⟨x0, x2⟩, y0, y2⟩, rfl, by rw [hkn]; simp [EK.out, EK.len]⟩
        · obtain ⟨rfl, rfl⟩ := fin _ _ _ _ _ _ g0
          exact ⟨.ti, 0, 0, 0, trivial, rfl, by rw [hkn]; simp [EK.out, EK.len]⟩
theorem EK.out_byte (kd : EK) (x y z : Int) (h : kd.Ok x y z) : ∀ c ∈ kd.out x y z kd.len, Byte c := by
  have hv := fun i hi => EK.val_bd h (i := i) hi
  have kb : Byte kd.n := by cases kd <;> simp [EK.n, Byte]
  have eb : ∀ v : Int, 0 ≤ v ∧ v ≤ 4294967295 → ∀ c ∈ encF 4 v, Byte c := fun v hv => encF_byte 4 v hv.1 (big4 hv.2)
  have ht := EK.out_tl kd x y z []
  rw [List.append_nil] at ht
  rw [ht]
  intro c hc
  rcases List.mem_cons.1 hc with rfl | hc
  · exact kb
  · cases kd
    all_goals
      simp only [EK.len] at hv
      simp only [EK.tl, EK.len, List.mem_append, List.not_mem_nil, or_false] at hc
    · exact eb _ (hv 0 (by omega)) c hc
    · exact hc.elim (eb _ (hv 0 (by omega)) c) (eb _ (hv 1 (by omega)) c)
    · exact hc.elim (eb _ (hv 0 (by omega)) c) (eb _ (hv 1 (by omega)) c)
    · exact hc.elim (eb _ (hv 0 (by omega)) c) fun hc => hc.elim (eb _ (hv 1 (by omega)) c) (eb _ (hv 2 (by omega)) c)
    · exact hc.elim (eb _ (hv 0 (by omega)) c) fun hc => hc.elim (eb _ (hv 1 (by omega)) c) (eb _ (hv 2 (by omega)) c)
    · exact hc.elim (eb _ (hv 0 (by omega)) c) (eb _ (hv 1 (by omega)) c)
end Go.Proofs.Ytfkeddefajkobaa
