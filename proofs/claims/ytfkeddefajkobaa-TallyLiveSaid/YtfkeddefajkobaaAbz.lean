/- This text proves what append, make and a slice that is written out do to what is known of memory. It has no condition of its own. -/
import Derived.Test.YtfkeddefajkobaaAby
import Derived.Deep.AppendSrc
set_option linter.unusedSimpArgs false
set_option linter.unusedVariables false
namespace Go.Proofs.Ytfkeddefajkobaa
open Go.RowKit

/-- what a slice reads as: whether its cells hold no reference, the cells of an element (0: any), the elements -/
def slD (H : List (Nat × Ob)) (d : D) : Option (Bool × Nat × List (List D)) :=
  match d with
  | .nil0 => some (true, 0, [])
  | .rows sz xs => some (true, sz, xs)
  | .own id => match hget H id with
    | some (.row sz xs) => some (true, sz, xs)
    | some (.rowd sz xs) => some (false, sz, xs)
    | _ => none
  | _ => none

section
variable {P : Program} {F : Nat → Prop} {w0 w : World} {s : Nat → Value} {Z : Cells} {H : List (Nat × Ob)} {nx : Nat}

/-- the cells of a slice lie there -/
def SlAt (R : D → Value → Prop) (w : World) (sz : Nat) (xs : List (List D)) (v : Value) : Prop :=
  ∃ a cap, v = .slice a xs.length cap ∧ xs.length ≤ cap ∧ (0 < xs.length → ∃ b off, a = some ⟨b, off, none⟩ ∧ ∀ i row j d, xs[i]? = some row → row[j]? = some d → ∃ u, w.cell? ⟨b, off + i * sz + j, none⟩ = some u ∧ R d u)

theorem RowOk.at {R : D → Value → Prop} {sz : Nat} {xs : List (List D)} {v : Value} (h : RowOk R w sz xs v) : SlAt R w sz xs v := by
  obtain ⟨hsz, hrow, h⟩ := h
  rcases h with ⟨rfl, a, rfl⟩ | ⟨g, cap, cur, e, rfl, hg, hcap, hm, hs, hc⟩
  · exact ⟨a, 0, rfl, Nat.le_refl _, fun h => by simp at h⟩
  · refine ⟨_, cap, rfl, hcap, fun _ => ⟨g, 0, rfl, fun i row j d hi hj => ⟨cur.getD (i * sz + j) undef, ?_, hc i row j d hi hj⟩⟩⟩
    have hil : i < xs.length := (List.getElem?_eq_some_iff.1 hi).1
    have hjl : j < sz := by
      have := (List.getElem?_eq_some_iff.1 hj).1
      rwa [hrow _ (List.mem_of_getElem? hi)] at this
    have hlt : i * sz + j < cur.size := by
      rw [hs]
      have : (i + 1) * sz ≤ cap * sz := Nat.mul_le_mul_right _ (by omega)
      rw [Nat.add_mul] at this; omega
    rw [Nat.zero_add, cell_of_row w g _ cur e (0, 0) hg]
    simp [hlt]
theorem slD_at (hk : Know s Z H w) {d : D} {v : Value} (hv : VR s Z d v) {t : Bool} {sz : Nat} {xs : List (List D)} (h : slD H d = some (t, sz, xs)) : SlAt (if t then VT Z else VC s Z) w sz xs v := by
  cases d <;> simp only [slD, Option.some.injEq, Prod.mk.injEq, reduceCtorEq] at h
  · obtain ⟨rfl, rfl, rfl⟩ := h
    cases hv with | nil0 a => exact ⟨a, 0, rfl, Nat.le_refl _, fun h => by simp at h⟩
  · obtain ⟨rfl, rfl, rfl⟩ := h
    simp only [if_true]
    cases hv with
    | rnil _ a cap => exact ⟨a, cap, rfl, Nat.zero_le _, fun h => by simp at h⟩
    | rows _ _ b off cap c hcap h1 h2 => exact ⟨_, cap, rfl, hcap, fun _ => ⟨b, off, rfl, fun i row j d hi hj => ⟨c i j, hk.zok _ _ _ (h1 i row j d hi hj).2, h2 i row j d hi hj⟩⟩⟩
  · split at h <;> simp only [Option.some.injEq, Prod.mk.injEq, reduceCtorEq] at h
    · rename_i sz' xs' hh
      obtain ⟨rfl, rfl, rfl⟩ := h
      have ho := hk.ob _ _ hh
      rw [hv.1]
      simp only [if_true]
      exact RowOk.at ho
    · rename_i sz' xs' hh
      obtain ⟨rfl, rfl, rfl⟩ := h
      have ho := hk.ob _ _ hh
      rw [hv.1]
      exact RowOk.at ho

/-- all cells of a slice, in order -/
theorem SlAt.news {R : D → Value → Prop} {sz : Nat} {xs : List (List D)} {b off : Nat} (hrow : ∀ row ∈ xs, row.length = sz)
    (h : ∀ i row j d, xs[i]? = some row → row[j]? = some d → ∃ u, w.cell? ⟨b, off + i * sz + j, none⟩ = some u ∧ R d u) :
    ∃ news : List Value, news.length = xs.length * sz ∧ w.rangeAt b off news ∧ ∀ i row j d, xs[i]? = some row → row[j]? = some d → R d (news.getD (i * sz + j) undef) := by
  refine ⟨(List.range (xs.length * sz)).map fun k => (w.cell? ⟨b, off + k, none⟩).getD undef, by simp, fun k v hv => ?_, fun i row j d hi hj => ?_⟩
  · rw [List.getElem?_map] at hv
    have hk : k < xs.length * sz := by
      rcases Nat.lt_or_ge k (xs.length * sz) with h1 | h1
      · exact h1
      · rw [List.getElem?_eq_none (by simpa using h1)] at hv; cases hv
    rw [List.getElem?_range hk, Option.map_some, Option.some.injEq] at hv
    have hsz : 0 < sz := by
      rcases Nat.eq_zero_or_pos sz with h0 | h0
      · rw [h0] at hk; simp at hk
      · exact h0
    have hi : k / sz < xs.length := Nat.div_lt_of_lt_mul (by rwa [Nat.mul_comm] at hk)
    have hj : k % sz < sz := Nat.mod_lt _ hsz
    have hx : xs[k / sz]? = some xs[k / sz] := List.getElem?_eq_getElem hi
    have hy : xs[k / sz][k % sz]? = some (xs[k / sz][k % sz]'(by rw [hrow _ (List.getElem_mem hi)]; exact hj)) := List.getElem?_eq_getElem _
    obtain ⟨u, h1, _⟩ := h _ _ _ _ hx hy
    have hdm := Nat.div_add_mod k sz
    rw [show off + k / sz * sz + k % sz = off + k by rw [Nat.mul_comm]; omega] at h1
    rw [h1] at hv ⊢
    rw [← hv]; rfl
  · obtain ⟨u, h1, h2⟩ := h i row j d hi hj
    have hil : i < xs.length := (List.getElem?_eq_some_iff.1 hi).1
    have hjl : j < sz := by
      have := (List.getElem?_eq_some_iff.1 hj).1
      rwa [hrow _ (List.mem_of_getElem? hi)] at this
    have hlt : i * sz + j < xs.length * sz := by
      have : (i + 1) * sz ≤ xs.length * sz := Nat.mul_le_mul_right _ hil
      rw [Nat.add_mul] at this; omega
    rw [List.getD_eq_getElem?_getD, List.getElem?_map, List.getElem?_range hlt, Option.map_some, Option.getD_some, ← Nat.add_assoc, h1]
    exact h2

/-- the elements of an append -/
theorem app_get {R : D → Value → Prop} {sz : Nat} {xs ys : List (List D)} {olds news : List Value} (hx : ∀ row ∈ xs, row.length = sz) (ho : olds.length = xs.length * sz)
    (h1 : ∀ i row j d, xs[i]? = some row → row[j]? = some d → R d (olds.getD (i * sz + j) undef)) (h2 : ∀ i row j d, ys[i]? = some row → row[j]? = some d → R d (news.getD (i * sz + j) undef)) :
    ∀ i row j d, (xs ++ ys)[i]? = some row → row[j]? = some d → R d ((olds ++ news).getD (i * sz + j) undef) := by
  intro i row j d hi hj
  by_cases hil : i < xs.length
  · rw [List.getElem?_append_left hil] at hi
    have hjl : j < sz := by
      have := (List.getElem?_eq_some_iff.1 hj).1
      rwa [hx _ (List.mem_of_getElem? hi)] at this
    have hlt : i * sz + j < olds.length := by
      rw [ho]
      have : (i + 1) * sz ≤ xs.length * sz := Nat.mul_le_mul_right _ hil
      rw [Nat.add_mul] at this; omega
    rw [List.getD_eq_getElem?_getD, List.getElem?_append_left hlt, ← List.getD_eq_getElem?_getD]
    exact h1 i row j d hi hj
  · rw [List.getElem?_append_right (by omega)] at hi
    have hge : olds.length ≤ i * sz + j := by
      rw [ho]
      have : xs.length * sz ≤ i * sz := Nat.mul_le_mul_right _ (by omega)
      omega
    rw [List.getD_eq_getElem?_getD, List.getElem?_append_right hge, ← List.getD_eq_getElem?_getD, ho]
    have := h2 _ row j d hi hj
    rwa [show i * sz + j - xs.length * sz = (i - xs.length) * sz + j by
      rw [Nat.sub_mul]
      have : xs.length * sz ≤ i * sz := Nat.mul_le_mul_right _ (by omega)
      omega]

/-- append, whatever the slice: it owns its elements behind it -/
theorem append_run {R R1 R2 : D → Value → Prop} {t ty e : TypeId} {i : TypeInfo} {z : Value} (ht : P.underlying t = some (.slice e)) (hi : P.info? e = some i) (hz : i.zero = some z) (hzs : z.cells.size = i.size) (hsz : 0 < i.size) (hby : 0 < i.bytes)
    {xs ys : List (List D)} {v u : Value} (hR1 : ∀ d q, R1 d q → R d q) (hR2 : ∀ d q, R2 d q → R d q) (hR : ∀ d q, R d q → q.oneCell' = true)
    (hx : (xs = [] ∧ ∃ a, v = .slice a 0 0) ∨ RowOk R1 w i.size xs v) (hy : SlAt R2 w i.size ys u) (hrow : ∀ row ∈ ys, row.length = i.size) (hlen : (xs.length + ys.length) * i.bytes ≤ 140737488355328) :
    ∃ v' w', (Builtin.append_ #[t, t] ty #[v, u]).run P w = .ok v' w' ∧ w.grownBy w' (blk v) ∧ RowOk R w' i.size (xs ++ ys) v' ∧ (∀ k, blk v' = some k → w.heap.size ≤ k ∨ blk v = some k) ∧ ∃ a n c, v' = .slice a n c := by
  have hxr : (∀ row ∈ xs, row.length = i.size) ∧ ((xs = [] ∧ ∃ a, v = .slice a 0 0) ∨ ∃ g cap cur e', v = .slice (some ⟨g, 0, none⟩) xs.length cap ∧ w.heap[g]? = some (.cells cur e' (0, 0)) ∧ xs.length ≤ cap ∧ cap ≤ maxLen ∧ cur.size = cap * i.size ∧ ∀ k row j d, xs[k]? = some row → row[j]? = some d → R1 d (cur.getD (k * i.size + j) undef)) := by
    rcases hx with ⟨rfl, h⟩ | ⟨_, h1, h2⟩
    · exact ⟨(fun row hr => by cases hr), .inl ⟨rfl, h⟩⟩
    · exact ⟨h1, h2⟩
  obtain ⟨hxrow, hxv⟩ := hxr
  have hall : ∀ row ∈ xs ++ ys, row.length = i.size := fun row hr => by
    rcases List.mem_append.1 hr with h | h
    · exact hxrow row h
    · exact hrow row h
  have hbig : xs.length + ys.length ≤ 140737488355328 := Nat.le_trans (Nat.le_mul_of_pos_right _ hby) hlen
  obtain ⟨ay, cy, rfl, hcy, hya⟩ := hy
  -- what is appended
  have src : ∃ news : List Value, Src P i.size t (.slice ay ys.length cy) ys.length news w ∧ ∀ k row j d, ys[k]? = some row → row[j]? = some d → R d (news.getD (k * i.size + j) undef) := by
    rcases Nat.eq_zero_or_pos ys.length with h0 | h0
    · have hyn : ys = [] := List.eq_nil_of_length_eq_zero h0
      subst hyn
      refine ⟨[], ?_, fun k row j d hk => by simp at hk⟩
      cases ay with
      | none => exact Src.ofNil w ht cy
      | some ad => exact Src.ofSlice w ht ad 0 cy [] (by simp) (fun j u hu => by simp at hu) (fun u hu => by cases hu)
    · obtain ⟨b, off, rfl, hc⟩ := hya h0
      obtain ⟨news, h1, h2, h3⟩ := SlAt.news hrow hc
      refine ⟨news, Src.ofSlice w ht ⟨b, off, none⟩ ys.length cy news h1 (fun j u hu => by rw [add_mid']; exact h2 j u hu) (fun u hu => ?_), fun k row j d hk hj => hR2 _ _ (h3 k row j d hk hj)⟩
      obtain ⟨k, hk⟩ := List.getElem?_of_mem hu
      have hkl : k < ys.length * i.size := by rw [← h1]; exact (List.getElem?_eq_some_iff.1 hk).1
      have hi' : k / i.size < ys.length := Nat.div_lt_of_lt_mul (by rwa [Nat.mul_comm] at hkl)
      have hx : ys[k / i.size]? = some ys[k / i.size] := List.getElem?_eq_getElem hi'
      have hj' : k % i.size < ys[k / i.size].length := by rw [hrow _ (List.getElem_mem hi')]; exact Nat.mod_lt _ hsz
      have := h3 _ _ _ _ hx (List.getElem?_eq_getElem hj')
      have hdm := Nat.div_add_mod k i.size
      rw [show k / i.size * i.size + k % i.size = k by rw [Nat.mul_comm]; omega, List.getD_eq_getElem?_getD, hk, Option.getD_some] at this
      exact hR _ _ (hR2 _ _ this)
  obtain ⟨news, hsrc, hnews⟩ := src
  have hnl := hsrc.newsLen
  -- a new row
  have grow : ∀ (base : Option Addr) (cap : Nat) (olds : List Value), cap < xs.length + ys.length → olds.length = xs.length * i.size → (Builtin.firstCells i.size xs.length (.slice base xs.length cap)).run P w.drew = .ok olds.toArray w.drew →
      (∀ k row j d, xs[k]? = some row → row[j]? = some d → R d (olds.getD (k * i.size + j) undef)) → v = .slice base xs.length cap →
      ∃ v' w', (Builtin.append_ #[t, t] ty #[v, .slice ay ys.length cy]).run P w = .ok v' w' ∧ w.grownBy w' (blk v) ∧ RowOk R w' i.size (xs ++ ys) v' ∧ (∀ k, blk v' = some k → w.heap.size ≤ k ∨ blk v = some k) ∧ ∃ a n c, v' = .slice a n c := by
    intro base cap olds hcap hol hold hget hv
    have hr := run_append_grow_src (P := P) w t t ty e i z ht hi hz base xs.length cap olds hold (.slice ay ys.length cy) ys.length news hsrc hcap (by omega) (growslice_fits hcap hlen)
    rw [hv]
    refine ⟨_, _, hr, ⟨rfl, rfl, rfl, by simp, fun k hk _ => Below.heap_alloc w.drew _ k hk⟩, ⟨hsz, hall, .inr ⟨w.heap.size, _, _, e, by rw [List.length_append], heap_alloc_new w.drew _, by rw [List.length_append]; exact grownCap_ge .., grownCap_le_maxLen _ _ _ _ (by unfold maxLen; omega), ?_, ?_⟩⟩, ?_, _, _, _, rfl⟩
    · have := grownCap_ge w (xs.length + ys.length) cap e
      simp only [Array.size_append, List.size_toArray, List.length_append, size_zeroCells, hzs, hol, hnl, ← Nat.add_mul]
      congr 1; omega
    · intro k row j d hk hj
      have h1 := app_get (R := R) hxrow hol hget hnews k row j d hk hj
      have hkl : k < xs.length + ys.length := by have := (List.getElem?_eq_some_iff.1 hk).1; rwa [List.length_append] at this
      have hjl : j < i.size := by have := (List.getElem?_eq_some_iff.1 hj).1; rwa [hall _ (List.mem_of_getElem? hk)] at this
      have hlt : k * i.size + j < (olds ++ news).length := by
        rw [List.length_append, hol, hnl, ← Nat.add_mul]
        have : (k + 1) * i.size ≤ (xs.length + ys.length) * i.size := Nat.mul_le_mul_right _ hkl
        rw [Nat.add_mul, Nat.one_mul] at this; omega
      rw [Array.getD_eq_getD_getElem?, Array.getElem?_append_left (by simpa using hlt)]
      rw [List.getD_eq_getElem?_getD] at h1
      rw [← Array.getElem?_toList]
      simpa using h1
    · intro k hk
      simp only [blk] at hk
      split at hk
      · cases hk
      · cases hk; exact .inl (Nat.le_refl _)
  rcases hxv with ⟨rfl, a, rfl⟩ | ⟨g, cap, cur, e', rfl, hg, hcap, hm, hcs, hcc⟩
  · rcases Nat.eq_zero_or_pos ys.length with h0 | h0
    · have hyn : ys = [] := List.eq_nil_of_length_eq_zero h0
      subst hyn
      have hn0 : news = [] := List.eq_nil_of_length_eq_zero (by simpa using hnl)
      subst hn0
      refine ⟨.slice a 0 0, w, ?_, ⟨rfl, rfl, rfl, Nat.le_refl _, fun _ _ _ => rfl⟩, ⟨hsz, hall, .inl ⟨rfl, a, rfl⟩⟩, fun k hk => .inr hk, _, _, _, rfl⟩
      have hc := hsrc.cells
      simp only [List.length_nil] at hc
      cases a with
      | none => simp [Builtin.append_, run_underlying ht, sizeOf, typeInfo, hi, Builtin.lenOf, hc]
      | some ad => simp [Builtin.append_, run_underlying ht, sizeOf, typeInfo, hi, Builtin.lenOf, hc, storeCells]
    · refine grow a 0 [] (by simpa using h0) (by simp) ?_ (fun k row j d hk => by simp at hk) rfl
      cases a with
      | none => exact run_firstCells_none w.drew i.size 0 0 0
      | some ad => exact run_firstCells_some w.drew i.size 0 ad 0 0 [] (by simp) (fun j v hv => by simp at hv)
  · have hcells : ∀ k, k < cur.size → w.cell? ⟨g, k, none⟩ = some (cur.getD k undef) := fun k hk => by
      rw [cell_of_row w g k cur e' (0, 0) hg]; simp [hk]
    have hxc : xs.length * i.size ≤ cur.size := by rw [hcs]; exact Nat.mul_le_mul_right _ hcap
    by_cases hroom : xs.length + ys.length ≤ cap
    · have hfit : xs.length * i.size + news.length ≤ cur.size := by rw [hnl, hcs, ← Nat.add_mul]; exact Nat.mul_le_mul_right _ hroom
      have hr := run_append_room_src (P := P) w t t ty e i ht hi g 0 xs.length cap (.slice ay ys.length cy) ys.length news hsrc hroom
        (fun j hj => by rw [Nat.zero_add, hcells _ (by omega)]; rfl) (fun j hj => frozen_of_row w g _ cur e' hg)
      simp only [Nat.zero_add] at hr
      obtain ⟨cs', g1, g2, g3⟩ := heap_setCells g e' news (xs.length * i.size) w cur hg hfit
      have ho := Only.setCells g news (xs.length * i.size) w
      refine ⟨_, _, hr, ⟨ho.os, ho.tape, ho.output, by rw [ho.size]; exact Nat.le_refl _, fun k hk hne => ?_⟩, ⟨hsz, hall, .inr ⟨g, cap, cs', e', by rw [List.length_append], g1, by rw [List.length_append]; exact hroom, hm, by rw [g2, hcs], ?_⟩⟩, ?_, _, _, _, rfl⟩
      · by_cases hkg : k = g
        · subst hkg
          simp only [blk] at hne
          by_cases hcap0 : cap = 0
          · have h1 : news = [] := List.eq_nil_of_length_eq_zero (by rw [hnl]; have : ys.length = 0 := by omega
                                                                     rw [this, Nat.zero_mul])
            subst h1
            rfl
          · rw [if_neg hcap0] at hne; exact absurd rfl hne
        · exact ho.block k hkg
      · intro k row j d hk hj
        have h1 := app_get (R := R) (olds := cur.toList.take (xs.length * i.size)) hxrow (by simp; omega) (fun k row j d hk hj => by
          have hkl : k < xs.length := (List.getElem?_eq_some_iff.1 hk).1
          have hjl : j < i.size := by have := (List.getElem?_eq_some_iff.1 hj).1; rwa [hxrow _ (List.mem_of_getElem? hk)] at this
          have hlt : k * i.size + j < xs.length * i.size := by
            have : (k + 1) * i.size ≤ xs.length * i.size := Nat.mul_le_mul_right _ hkl
            rw [Nat.add_mul, Nat.one_mul] at this; omega
          have := hR1 _ _ (hcc k row j d hk hj)
          rw [List.getD_eq_getElem?_getD, List.getElem?_take, if_pos hlt]
          simpa [Array.getD_eq_getD_getElem?] using this) hnews k row j d hk hj
        rw [g3]
        split
        · rename_i hin
          rw [List.getD_eq_getElem?_getD, List.getElem?_append_right (by simp; omega)] at h1
          rw [List.getD_eq_getElem?_getD]
          simpa [Nat.min_eq_left hxc] using h1
        · rename_i hin
          have hkl : k < xs.length + ys.length := by have := (List.getElem?_eq_some_iff.1 hk).1; rwa [List.length_append] at this
          have hjl : j < i.size := by have := (List.getElem?_eq_some_iff.1 hj).1; rwa [hall _ (List.mem_of_getElem? hk)] at this
          have hlt : k * i.size + j < xs.length * i.size := by
            have h2 : (k + 1) * i.size ≤ (xs.length + ys.length) * i.size := Nat.mul_le_mul_right _ hkl
            rw [Nat.add_mul, Nat.one_mul, Nat.add_mul] at h2
            omega
          rw [List.getD_eq_getElem?_getD, List.getElem?_append_left (by simp; omega), List.getElem?_take, if_pos hlt] at h1
          simpa [Array.getD_eq_getD_getElem?] using h1
      · intro k hk
        simp only [blk] at hk ⊢
        exact .inr hk
    · refine grow (some ⟨g, 0, none⟩) cap (cur.toList.take (xs.length * i.size)) (by omega) (by simp; omega) ?_ (fun k row j d hk hj => ?_) rfl
      · refine run_firstCells_some w.drew i.size xs.length ⟨g, 0, none⟩ xs.length cap _ (by simp; omega) (fun j v hv => ?_)
        rw [List.getElem?_take] at hv
        split at hv
        · rw [add_mid', Nat.zero_add]
          have := cell_of_row w g j cur e' (0, 0) hg
          rw [World.cell?_drew, this]
          simpa using hv
        · cases hv
      · have hkl : k < xs.length := (List.getElem?_eq_some_iff.1 hk).1
        have hjl : j < i.size := by have := (List.getElem?_eq_some_iff.1 hj).1; rwa [hxrow _ (List.mem_of_getElem? hk)] at this
        have hlt : k * i.size + j < xs.length * i.size := by
          have : (k + 1) * i.size ≤ xs.length * i.size := Nat.mul_le_mul_right _ hkl
          rw [Nat.add_mul, Nat.one_mul] at this; omega
        have := hR1 _ _ (hcc k row j d hk hj)
        rw [List.getD_eq_getElem?_getD, List.getElem?_take, if_pos hlt]
        simpa [Array.getD_eq_getD_getElem?] using this
end
end Go.Proofs.Ytfkeddefajkobaa
