/- This text proves what operations on maps of one's own do, over the small machine. It has no condition of its own. -/
import Derived.Test.YtfkeddefajkobaaAco
import Derived.Maps.Keyed
import Derived.Maps.RangeRun
import Derived.MapKept
set_option linter.unusedSimpArgs false
set_option linter.unusedVariables false
namespace Go.Proofs.Ytfkeddefajkobaa
open Go.RowKit
abbrev Ent := List Int × List Int × Nat
def goodK (n : Nat) (ks : List Int) : Prop := ks.length = (if n = 0 then 1 else n) ∧ ∀ z ∈ ks, InR z
def keyD (n : Nat) (ks : List Int) : D := if n = 0 then .int .i64 (ks.headD 0) else .agg (ks.map (.int .i64))
def MapsOk (P : Program) (n : Nat) : Prop := ∀ t kt e, P.underlying t = some (.map kt e) → mapK P kt = some n → Maps.Keyed P kt ∧ ∀ ks, goodK n ks → ∃ l, keyOf P kt (vInts (n == 0) ks) = some l
/-- an entry is laid, or its value is set -/
def mput (es : List Ent) (ks vs : List Int) (ck : Nat) : List Ent × Nat :=
  if ∃ e ∈ es, e.1 = ks then (es.map fun e => if e.1 = ks then (ks, vs, e.2.2) else e, ck) else (es ++ [(ks, vs, ck)], ck + 1)
def mdel (es : List Ent) (ks : List Int) : List Ent := es.filter fun e => decide (e.1 ≠ ks)

theorem aggI_inv {s : Nat → Value} {Z : Cells} {ks : List Int} {v : Value} (h : VR s Z (.agg (ks.map (.int .i64))) v) : v = vInts false ks := by
  obtain ⟨vs, rfl, hl, hc⟩ := h.agg_inv
  obtain ⟨vs⟩ := vs
  simp only [vInts, Bool.false_eq_true, if_false]
  congr 2
  refine List.ext_getElem? fun j => ?_
  have hl2 : vs.length = ks.length := by simpa using hl
  by_cases hj : j < ks.length
  · have h1 := hc j (.int .i64 ks[j]) (by simp [List.getElem?_eq_getElem hj])
    have hj2 : j < vs.length := by omega
    have h2 : vs[j] = .int .i64 ks[j] := by
      have h1 : VT Z (.int .i64 ks[j]) (vs.toArray.getD j undef) := h1
      simp only [Array.getD_eq_getD_getElem?, List.getElem?_toArray, List.getElem?_eq_getElem hj2, Option.getD_some] at h1
      generalize vs[j] = q at h1
      cases h1; rfl
    rw [List.getElem?_eq_getElem hj2, h2]
    simp [List.getElem?_eq_getElem hj]
  · rw [List.getElem?_eq_none (by omega), List.getElem?_eq_none (by simpa using hj)]
theorem keyD_inv {s : Nat → Value} {Z : Cells} {n : Nat} {ks : List Int} {v : Value} (h : VR s Z (keyD n ks) v) : v = vInts (n == 0) ks := by
  unfold keyD at h
  split at h
  · subst_vars
    have := h.int_inv
    rw [this]; rfl
  · rename_i hn
    have : (n == 0) = false := by simpa using hn
    rw [this]
    exact aggI_inv h
theorem aggI_mk (s : Nat → Value) (Z : Cells) (ks : List Int) : VV s Z (.agg (ks.map (.int .i64))) (vInts false ks) := by
  refine ⟨_, rfl, by simp, fun j x hx => ?_⟩
  obtain ⟨z, hz, rfl⟩ := (map_get _ _ _ _).1 hx
  have : ((ks.map (Value.int .i64)).toArray).getD j undef = .int .i64 z := by
    simp [Array.getD_eq_getD_getElem?, List.getElem?_map, hz]
  show VT Z _ _
  rw [this]
  exact VT.int .i64 z
theorem keyD_mk (s : Nat → Value) (Z : Cells) (n : Nat) (ks : List Int) : VV s Z (keyD n ks) (vInts (n == 0) ks) := by
  unfold keyD
  split
  · subst_vars
    exact VT.int .i64 _
  · rename_i hn
    have : (n == 0) = false := by simpa using hn
    rw [this]
    exact aggI_mk s Z ks
theorem keyD_lt (n m : Nat) (ks : List Int) : LtV m (keyD n ks) := by
  unfold keyD
  split
  · trivial
  · intro d hd
    obtain ⟨z, _, rfl⟩ := List.mem_map.1 hd
    trivial
theorem aggI_lt (m : Nat) (ks : List Int) : LtV m (.agg (ks.map (.int .i64))) := by
  intro d hd
  obtain ⟨z, _, rfl⟩ := List.mem_map.1 hd
  trivial
theorem vInts_inj {n : Nat} {a b : List Int} (ha : goodK n a) (hb : goodK n b) (h : vInts (n == 0) a = vInts (n == 0) b) : a = b := by
  obtain ⟨ha, _⟩ := ha
  obtain ⟨hb, _⟩ := hb
  by_cases hn : n = 0
  · subst hn
    simp only [if_true] at ha hb
    match a, b, ha, hb with
    | [x], [y], _, _ => simpa [vInts] using h
  · have : (n == 0) = false := by simpa using hn
    rw [this] at h
    simp only [vInts, Bool.false_eq_true, if_false, Value.agg.injEq] at h
    have h' : a.map (Value.int .i64) = b.map (Value.int .i64) := by simpa using congrArg Array.toList h
    exact (List.map_inj_right fun x y hxy => by simpa using hxy).1 h'

theorem opdsC_one : ∀ {l : List Operand} {a : Opd}, opdsC l = some [a] → ∃ x, l = [x] ∧ opdC x = some a
  | [], a, h => by simp [opdsC] at h
  | x :: l, a, h => by
    simp only [opdsC] at h
    split at h <;> simp at h
    rename_i y ys h1 h2
    obtain ⟨rfl, rfl⟩ := h
    match l, h2 with
    | [], _ => exact ⟨x, rfl, h1⟩
    | z :: l, h2 =>
      simp only [opdsC] at h2
      split at h2 <;> simp at h2
theorem opdsC_two : ∀ {l : List Operand} {a b : Opd}, opdsC l = some [a, b] → ∃ x y, l = [x, y] ∧ opdC x = some a ∧ opdC y = some b
  | [], a, b, h => by simp [opdsC] at h
  | x :: l, a, b, h => by
    simp only [opdsC] at h
    split at h <;> simp at h
    rename_i y ys h1 h2
    obtain ⟨rfl, rfl⟩ := h
    obtain ⟨z, rfl, h3⟩ := opdsC_one h2
    exact ⟨x, z, rfl, h1, h3⟩
section
variable {P : Program}
theorem xcop_0 {o : Op} {n : Nat} {xs : List Opd} (h : xcop P o = some (.xop 0 [n] xs)) : ∃ t kt e, o = .makeMap t none ∧ P.underlying t = some (.map kt e) ∧ mapK P kt = some n := by
  unfold xcop at h
  split at h
  · split at h
    · rename_i kt e he
      simp at h
      obtain ⟨_, h1, rfl, _⟩ := h
      exact ⟨_, kt, e, rfl, he, h1⟩
    · simp at h
  all_goals (repeat' split at h) <;> simp at h
theorem xcop_1 {o : Op} {n : Nat} {xs : List Opd} (h : xcop P o = some (.xop 1 [n] xs)) : ∃ t m k v kt e xm xk xv, o = .mapUpdate t m k v ∧ P.underlying t = some (.map kt e) ∧ opdC m = some xm ∧ opdC k = some xk ∧ opdC v = some xv ∧ mapK P kt = some n ∧ xs = [xm, xk, xv] := by
  unfold xcop at h
  split at h
  · split at h <;> simp at h
  · split at h
    · rename_i kt e xm xk xv he hm hk hv
      simp at h
      obtain ⟨_, h1, rfl, h2⟩ := h
      exact ⟨_, _, _, _, kt, e, xm, xk, xv, rfl, he, hm, hk, hv, h1, h2.symm⟩
    · simp at h
  all_goals (repeat' split at h) <;> simp at h
theorem xcop_2 {o : Op} {n : Nat} {xs : List Opd} (h : xcop P o = some (.xop 2 [n] xs)) : ∃ c t t2 kt e m k xm xk, o = .call c ∧ c.callee = .builtin .delete ∧ c.args.toList = [m, k] ∧ c.argTypes.toList = [t, t2] ∧ P.underlying t = some (.map kt e) ∧ opdC m = some xm ∧ opdC k = some xk ∧ mapK P kt = some n ∧ xs = [xm, xk] := by
  unfold xcop at h
  split at h
  · split at h <;> simp at h
  · split at h <;> simp at h
  · split at h <;> simp at h
  · split at h
    · split at h <;> simp at h
    · simp at h
  · simp at h
  · simp at h
  · rename_i c
    split at h
    · rename_i hcal
      split at h
      · rename_i xm xk t t2 hargs hat
        split at h
        · rename_i kt e he
          simp at h
          have hl := opdsC_two hargs
          obtain ⟨m, k, h1, h2, h3⟩ := hl
          obtain ⟨_, g1, rfl, g2⟩ := h
          exact ⟨c, t, t2, kt, e, m, k, xm, xk, rfl, hcal, h1, hat, he, h2, h3, g1, g2.symm⟩
        · simp at h
      · simp at h
    · (repeat' split at h) <;> simp at h
    · simp at h
  · simp at h
theorem xcop_3 {o : Op} {n : Nat} {xs : List Opd} (h : xcop P o = some (.xop 3 [n] xs)) : ∃ c t kt e m xm, o = .call c ∧ c.callee = .builtin .len ∧ c.args.toList = [m] ∧ c.argTypes.toList = [t] ∧ P.underlying t = some (.map kt e) ∧ opdC m = some xm ∧ mapK P kt = some n ∧ xs = [xm] := by
  unfold xcop at h
  split at h
  · split at h <;> simp at h
  · split at h <;> simp at h
  · split at h <;> simp at h
  · split at h
    · split at h <;> simp at h
    · simp at h
  · simp at h
  · simp at h
  · rename_i c
    split at h
    · (repeat' split at h) <;> simp at h
    · rename_i hcal
      split at h
      · rename_i xm t hargs hat
        split at h
        · rename_i kt e he
          simp at h
          obtain ⟨m, h1, h2⟩ := opdsC_one hargs
          obtain ⟨_, g1, rfl, g2⟩ := h
          exact ⟨c, t, kt, e, m, xm, rfl, hcal, h1, hat, he, h2, g1, g2.symm⟩
        · simp at h
      · simp at h
    · simp at h
  · simp at h
theorem xcop_4 {o : Op} {n : Nat} {xs : List Opd} (h : xcop P o = some (.xop 4 [n] xs)) : ∃ t kt e m xm, o = .range t m ∧ P.underlying t = some (.map kt e) ∧ opdC m = some xm ∧ mapK P kt = some n ∧ xs = [xm] := by
  unfold xcop at h
  split at h
  · split at h <;> simp at h
  · split at h <;> simp at h
  · split at h
    · rename_i kt e xm he hm
      simp at h
      obtain ⟨_, h1, rfl, h2⟩ := h
      exact ⟨_, kt, e, _, xm, rfl, he, hm, h1, h2.symm⟩
    · simp at h
  · split at h
    · split at h <;> simp at h
    · simp at h
  · simp at h
  · simp at h
  · (repeat' split at h) <;> simp at h
  · simp at h
theorem xcop_5 {o : Op} {xs : List Opd} (h : xcop P o = some (.xop 5 [] xs)) : ∃ m xm, o = .next m false ∧ opdC m = some xm ∧ xs = [xm] := by
  unfold xcop at h
  split at h
  · split at h <;> simp at h
  · split at h <;> simp at h
  · split at h <;> simp at h
  · split at h
    · split at h <;> simp at h
    · simp at h
  · simp at h
    obtain ⟨xm, h1, h2⟩ := h
    exact ⟨_, xm, rfl, h1, h2.symm⟩
  · simp at h
  · (repeat' split at h) <;> simp at h
  · simp at h
theorem xcop_6 {o : Op} {xs : List Opd} (h : xcop P o = some (.xop 6 [] xs)) : ∃ m xm, o = .entry m ∧ opdC m = some xm ∧ xs = [xm] := by
  unfold xcop at h
  split at h
  · split at h <;> simp at h
  · split at h <;> simp at h
  · split at h <;> simp at h
  · split at h
    · split at h <;> simp at h
    · simp at h
  · simp at h
  · simp at h
    obtain ⟨xm, h1, h2⟩ := h
    exact ⟨_, xm, rfl, h1, h2.symm⟩
  · (repeat' split at h) <;> simp at h
  · simp at h
theorem xcop_7 {o : Op} {xs : List Opd} (h : xcop P o = some (.xop 7 [] xs)) : ∃ u t e m xm, o = .convert u t m ∧ P.underlying u = some (.slice e) ∧ P.underlying t = some .string ∧ P.underlying e = some (.int .u8) ∧ opdC m = some xm ∧ xs = [xm] := by
  unfold xcop at h
  split at h
  · split at h <;> simp at h
  · split at h <;> simp at h
  · split at h <;> simp at h
  · split at h
    · rename_i e hu ht
      split at h
      · rename_i he
        simp at h
        obtain ⟨xm, h1, h2⟩ := h
        exact ⟨_, _, e, _, xm, rfl, hu, ht, he, h1, h2.symm⟩
      · simp at h
    · simp at h
  · simp at h
  · simp at h
  · (repeat' split at h) <;> simp at h
  · simp at h
end

/-! ### The laws on lists of entries -/
theorem mput_new {es : List Ent} {ks vs : List Int} {ck : Nat} (h : ∀ e ∈ es, e.1 ≠ ks) : mput es ks vs ck = (es ++ [(ks, vs, ck)], ck + 1) := by
  unfold mput
  rw [if_neg]
  rintro ⟨e, he, rfl⟩
  exact h e he rfl
theorem mput_old {es : List Ent} {ks vs : List Int} {ck j : Nat} {e : Ent} (hj : es[j]? = some e) (he : e.1 = ks) (hnd : (es.map (·.1)).Nodup) : mput es ks vs ck = (es.set j (ks, vs, e.2.2), ck) := by
  unfold mput
  rw [if_pos ⟨e, List.mem_of_getElem? hj, he⟩]
  congr 1
  obtain ⟨hjl, hje⟩ := List.getElem?_eq_some_iff.1 hj
  refine List.ext_getElem (by simp) fun i h1 h2 => ?_
  rw [List.getElem_map, List.getElem_set]
  have hil : i < es.length := by simpa using h1
  by_cases hij : j = i
  · subst hij
    rw [if_pos rfl, hje, if_pos he]
  · rw [if_neg hij, if_neg]
    intro hk
    have : (es.map (·.1))[j]'(by simpa using hjl) = (es.map (·.1))[i]'(by simpa using hil) := by simp [hje, he, hk]
    exact hij ((List.getElem_inj hnd).1 this)
theorem mdel_old {es : List Ent} {ks : List Int} {j : Nat} {e : Ent} (hj : es[j]? = some e) (he : e.1 = ks) (hnd : (es.map (·.1)).Nodup) : mdel es ks = es.eraseIdx j := by
  obtain ⟨hjl, hje⟩ := List.getElem?_eq_some_iff.1 hj
  have hsp : es = es.take j ++ e :: es.drop (j + 1) := by
    have := List.drop_eq_getElem_cons hjl
    rw [← hje, ← this, List.take_append_drop]
  have hne : ∀ i (hi : i < es.length), i ≠ j → es[i].1 ≠ ks := fun i hi hij hk => by
    have : (es.map (·.1))[i]'(by simpa using hi) = (es.map (·.1))[j]'(by simpa using hjl) := by simp [hje, he, hk]
    exact hij ((List.getElem_inj hnd).1 this)
  rw [List.eraseIdx_eq_take_drop_succ]
  unfold mdel
  conv => lhs; rw [hsp]
  rw [List.filter_append, List.filter_cons_of_neg (by simp [he])]
  congr 1
  · refine List.filter_eq_self.2 fun x hx => ?_
    obtain ⟨i, hi, rfl⟩ := List.mem_iff_getElem.1 hx
    simp only [List.length_take] at hi
    simp only [List.getElem_take]
    exact decide_eq_true (hne i (by omega) (by omega))
  · refine List.filter_eq_self.2 fun x hx => ?_
    obtain ⟨i, hi, rfl⟩ := List.mem_iff_getElem.1 hx
    simp only [List.length_drop] at hi
    simp only [List.getElem_drop]
    exact decide_eq_true (hne _ (by omega) (by omega))
theorem mdel_none {es : List Ent} {ks : List Int} (h : ∀ e ∈ es, e.1 ≠ ks) : mdel es ks = es := List.filter_eq_self.2 fun e he => decide_eq_true (h e he)

theorem only_set (w : World) (b : Nat) (o : Obj) : Only b w (ChangeMaps.setBlock w b o) := ⟨rfl, rfl, rfl, by simp [ChangeMaps.setBlock], fun k hk => by simp [ChangeMaps.setBlock, Ne.symm hk]⟩
end Go.Proofs.Ytfkeddefajkobaa
