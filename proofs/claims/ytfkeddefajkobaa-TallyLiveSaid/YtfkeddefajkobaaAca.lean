/- This text proves what a slice that is written out and a slice that is made do to what is known of memory. It has no condition of its own. -/
import Derived.Test.YtfkeddefajkobaaAbz
set_option linter.unusedSimpArgs false
set_option linter.unusedVariables false
namespace Go.Proofs.Ytfkeddefajkobaa
open Go.RowKit

/-- cells by so many -/
def chunks (sz : Nat) : Nat → List D → List (List D)
  | 0, _ => []
  | k + 1, ds => ds.take sz :: chunks sz k (ds.drop sz)
theorem chunks_length (sz : Nat) : ∀ (k : Nat) (ds : List D), (chunks sz k ds).length = k
  | 0, _ => rfl
  | k + 1, ds => by simp [chunks, chunks_length sz k]
theorem chunks_get (sz : Nat) : ∀ (k : Nat) (ds : List D) (i : Nat) (row : List D), (chunks sz k ds)[i]? = some row → row = (ds.drop (i * sz)).take sz ∧ i < k
  | 0, _, i, row, h => by simp [chunks] at h
  | k + 1, ds, 0, row, h => by simp [chunks] at h; simp [h]
  | k + 1, ds, i + 1, row, h => by
    simp only [chunks, List.getElem?_cons_succ] at h
    obtain ⟨h1, h2⟩ := chunks_get sz k _ i row h
    rw [List.drop_drop] at h1
    exact ⟨by rw [h1, show sz + i * sz = (i + 1) * sz by rw [Nat.add_mul]; omega], by omega⟩
theorem flat_get {z : List D} (h0 : 0 < z.length) : ∀ (k j : Nat), (List.replicate k z).flatten[j]? = if j < k * z.length then z[j % z.length]? else none
  | 0, j => by simp
  | k + 1, j => by
    rw [List.replicate_succ, List.flatten_cons]
    by_cases hj : j < z.length
    · rw [List.getElem?_append_left hj, if_pos (by rw [Nat.add_mul]; omega), Nat.mod_eq_of_lt hj]
    · rw [List.getElem?_append_right (by omega), flat_get h0 k]
      have e : (j - z.length) % z.length = j % z.length := by
        conv => rhs; rw [show j = (j - z.length) + z.length by omega, Nat.add_mod_right]
      rw [e]
      by_cases h : j < (k + 1) * z.length
      · rw [if_pos h, if_pos (by rw [Nat.add_mul] at h; omega)]
      · rw [if_neg h, if_neg (by rw [Nat.add_mul] at h; omega)]

section
variable {P : Program} {F : Nat → Prop} {w0 w : World} {s : Nat → Value} {Z : Cells} {H : List (Nat × Ob)} {nx : Nat} {ρ : Operand → Value} {ev : Opd → D}

theorem rowOk_of_cells {R : D → Value → Prop} {w : World} {b k sz : Nat} {e : TypeId} {cs : Array Value} {ds : List D} (hsz : 0 < sz) (hb : w.heap[b]? = some (.cells cs e (0, 0))) (hl : cs.size = ds.length) (hk : ds.length = k * sz) (hm : k ≤ maxLen)
    (hc : ∀ j x, ds[j]? = some x → R x (cs.getD j undef)) : RowOk R w sz (chunks sz k ds) (.slice (some ⟨b, 0, none⟩) k k) := by
  refine ⟨hsz, fun row hr => ?_, .inr ⟨b, k, cs, e, by rw [chunks_length], hb, by rw [chunks_length]; exact Nat.le_refl _, hm, by omega, fun i row j d hi hj => ?_⟩⟩
  · obtain ⟨i, hi⟩ := List.getElem?_of_mem hr
    obtain ⟨rfl, hik⟩ := chunks_get sz k ds i row hi
    have : (i + 1) * sz ≤ k * sz := Nat.mul_le_mul_right _ hik
    rw [Nat.add_mul] at this
    simp; omega
  · obtain ⟨rfl, hik⟩ := chunks_get sz k ds i row hi
    rw [List.getElem?_take] at hj
    split at hj
    · rw [List.getElem?_drop] at hj; exact hc _ _ hj
    · cases hj

theorem bpartsC_sound (hev : ∀ x y, opdC x = some y → VR s Z (ev y) (ρ x)) : ∀ (ps : List (Nat × Operand)) (qs : List (Nat × Opd)), bpartsC ps = some qs →
    ps.length = qs.length ∧ ∀ (j : Nat) (p : Nat × Operand) (q : Nat × Opd), ps[j]? = some p → qs[j]? = some q → p.1 = q.1 ∧ VR s Z (ev q.2) (ρ p.2)
  | [], qs, h => by simp only [bpartsC, Option.some.injEq] at h; subst h; exact ⟨rfl, fun j p q hp => by simp at hp⟩
  | (i, x) :: ps, qs, h => by
    simp only [bpartsC] at h
    split at h <;> simp only [Option.some.injEq, reduceCtorEq] at h
    rename_i y ys h1 h2
    subst h
    obtain ⟨g1, g2⟩ := bpartsC_sound hev ps ys h2
    refine ⟨by simp [g1], fun j p q hp hq => ?_⟩
    cases j with
    | zero => simp at hp hq; subst hp hq; exact ⟨rfl, hev x y h1⟩
    | succ j => exact g2 j p q (by simpa using hp) (by simpa using hq)

theorem bslice_run {t e : TypeId} {n len : Nat} {ps : Array (Nat × Operand)} (ht : sliceT P t = some e) (hn : szT P e = some n) (h0 : 0 < n) (hbig : len * n ≤ 16777216) (hev : ∀ x y, opdC x = some y → VR s Z (ev y) (ρ x)) {z : List D} {qs : List (Nat × Opd)}
    (hz : zeroT P e = some z) (hps : bpartsC ps.toList = some qs) {ds : List D} (hf : fillD (List.replicate len z).flatten (qs.map fun q => (q.1 * n, n, ev q.2)) = some ds) :
    ∃ cs : Array Value, (Instr.buildSlice t len (ps.map fun q => (q.1, ρ q.2))).run P w = .ok (.slice (some ⟨w.heap.size, 0, none⟩) len len) (w.alloc (.cells cs e)) ∧ cs.size = ds.length ∧ ∀ j x, ds[j]? = some x → VC s Z x (cs.getD j undef) := by
  obtain ⟨i, v, hi, hv, hsz, hvc, hcc⟩ := zeroT_sound (s := s) (Z := Z) hz
  have hin : i.size = n := by unfold szT at hn; rw [hi] at hn; simpa using hn
  have hzn : z.length = n := by omega
  obtain ⟨hl, hpq⟩ := bpartsC_sound (s := s) (Z := Z) (ρ := ρ) (ev := ev) hev ps.toList qs hps
  have hu := sliceT_some ht
  have hvn : v.cells.size = n := by omega
  -- the zero cells
  have zero : ∃ A : Array Value, (if len * n = 0 then #[] else v.cells) = A ∧ ((Array.range (len * n)).map fun k => A[k % A.size]!).size = ((List.replicate len z).flatten).length ∧
      ∀ j x, ((List.replicate len z).flatten)[j]? = some x → VC s Z x (((Array.range (len * n)).map fun k => A[k % A.size]!).getD j undef) := by
    refine ⟨_, rfl, by simp [hzn], fun j x hx => ?_⟩
    rw [flat_get (by omega), hzn] at hx
    split at hx
    · rename_i hj
      rw [if_neg (by omega)]
      have h1 := hcc _ _ hx
      rw [Array.getD_eq_getD_getElem?, Array.getElem?_map, Array.getElem?_range, if_pos hj, Option.map_some, Option.getD_some, hvn]
      have hlt : j % n < v.cells.size := by rw [hvn]; exact Nat.mod_lt _ h0
      rw [Array.getD_eq_getD_getElem?, Array.getElem?_eq_getElem hlt, Option.getD_some] at h1
      rwa [getElem!_pos v.cells (j % n) hlt]
    · cases hx
  obtain ⟨A, hA, hA1, hA2⟩ := zero
  obtain ⟨cs, hcs, hcl, hcv⟩ := fill_sound (s := s) (Z := Z) (place := fun i => some (i * n, n)) (ps.toList.map fun q => (q.1, ρ q.2)) (qs.map fun q => (q.1 * n, n, ev q.2)) ((Array.range (len * n)).map fun k => A[k % A.size]!) _ ds (by simpa using hl)
    (fun j p q hp hq => by
      rw [List.getElem?_map] at hp hq
      cases hp' : ps.toList[j]? with
      | none => rw [hp'] at hp; cases hp
      | some p' =>
        cases hq' : qs[j]? with
        | none => rw [hq'] at hq; cases hq
        | some q' =>
          rw [hp'] at hp; rw [hq'] at hq
          simp only [Option.map_some, Option.some.injEq] at hp hq
          subst hp hq
          obtain ⟨g1, g2⟩ := hpq j p' q' hp' hq'
          exact ⟨by simp [g1], g2⟩) hA1 hA2 hf
  refine ⟨cs, ?_, hcl, hcv⟩
  have hzr : (zeroValue e).run P w = .ok v w := by simp [zeroValue, typeInfo, hi, hv]
  have hpl : (ps.map fun q => (q.1, ρ q.2)).toList = ps.toList.map fun q => (q.1, ρ q.2) := by simp
  have hb' : ¬ (len * n > 16777216) := by omega
  simp only [Instr.buildSlice, Sem.run_bind, run_underlying hu, run_sizeOf' hn, Result.andThen_ok, hpl]
  rw [if_neg (by simpa using hb')]
  by_cases hz0 : len * n = 0
  · rw [if_pos hz0] at hA
    subst hA
    rw [if_pos hz0]
    simp only [Sem.run_bind, Sem.run_pure, Result.andThen_ok, hcs, newRow, run_newObj_alloc]
  · rw [if_neg hz0] at hA
    subst hA
    rw [if_neg hz0]
    simp only [Sem.run_bind, hzr, Sem.run_pure, Result.andThen_ok, hcs, newRow, run_newObj_alloc]

theorem make_run {t e : TypeId} (ht : sliceT P t = some e) {i : TypeInfo} (hi : P.info? e = some i) {z : List D} (hz : zeroT P e = some z) (h0 : 0 < i.size) {kl kc : IntKind} {l c : Int} (hl : 0 ≤ l) (hlc : l ≤ c) (hb : (i.bytes : Int) * c ≤ 281474976710656) (h63 : c ≤ 9223372036854775807) :
    ∃ cs : Array Value, (Instr.makeSlice t (.int kl l) (.int kc c)).run P w = .ok (.slice (some ⟨w.heap.size, 0, none⟩) l.toNat c.toNat) (w.alloc (.cells cs e)) ∧ z.length = i.size ∧
      (∀ w' : World, w'.heap[w.heap.size]? = some (.cells cs e (0, 0)) → RowOk (VT Z) w' i.size (List.replicate l.toNat z) (.slice (some ⟨w.heap.size, 0, none⟩) l.toNat c.toNat)) := by
  obtain ⟨i', v, hi', hv, hsz, hvc, hcc⟩ := zeroT_sound (s := fun _ => undef) (Z := Z) hz
  obtain rfl : i' = i := Option.some.inj (hi'.symm.trans hi)
  refine ⟨_, run_make w t e i' v (sliceT_some ht) hi hv kl kc l c hl hlc hb h63, hsz.symm, fun w' hw => ?_⟩
  have hzT : ∀ j x, z[j]? = some x → VT Z x (v.cells.getD j undef) := fun j x hx => by
    have h1 := hcc j x hx
    have h2 := zeroT_lt hz x (List.mem_of_getElem? hx)
    cases x <;> first | exact h1 | (simp only [LtC, Nat.not_lt_zero] at h2; done)
  refine ⟨h0, fun row hr => by rw [List.eq_of_mem_replicate hr]; omega, .inr ⟨w.heap.size, c.toNat, _, e, by simp, hw, by simp; omega, by unfold maxLen; omega, by rw [size_madeCells], fun k row j d hk hj => ?_⟩⟩
  have hrow : row = z := List.eq_of_mem_replicate (List.mem_of_getElem? hk)
  subst hrow
  have hkl : k < l.toNat := by simpa using (List.getElem?_eq_some_iff.1 hk).1
  have hjl : j < i'.size := by have := (List.getElem?_eq_some_iff.1 hj).1; omega
  have hlt : k * i'.size + j < c.toNat * i'.size := by
    have : (k + 1) * i'.size ≤ c.toNat * i'.size := Nat.mul_le_mul_right _ (by omega)
    rw [Nat.add_mul, Nat.one_mul] at this; omega
  have h1 := hzT j d hj
  have hjv : j < v.cells.size := by omega
  unfold madeCells
  rw [Array.getD_eq_getD_getElem?, Array.getElem?_map, Array.getElem?_range, if_pos hlt, Option.map_some, Option.getD_some]
  have hm : (k * i'.size + j) % v.cells.size = j := by
    rw [show v.cells.size = i'.size by omega, Nat.mul_comm, Nat.mul_add_mod, Nat.mod_eq_of_lt hjl]
  rw [hm, getElem!_pos v.cells j hjv]
  rwa [Array.getD_eq_getD_getElem?, Array.getElem?_eq_getElem hjv, Option.getD_some] at h1
end
end Go.Proofs.Ytfkeddefajkobaa
