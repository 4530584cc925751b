/- This text proves small rules on slices that are read as lists of plain data. It has no condition of its own. -/
import Derived.Test.YtfkeddefajkobaaMem
import Derived.Deep.AppendLies
import Derived.Deep.OwnShut
import Derived.Deep.Slices
import Derived.Deep.Onto
import Derived.Laws.AppendOwnNone
set_option linter.unusedSimpArgs false
set_option linter.unusedVariables false
namespace Go.Proofs.Ytfkeddefajkobaa
open Go.RowKit

/-- the slice v reads as the list xs; each element lies in sz cells, as E says -/
def Sl {α : Type} (w : World) (sz : Nat) (E : α → List Value) (v : Value) (xs : List α) : Prop :=
  ∃ a cap, v = .slice a xs.length cap ∧ xs.length ≤ cap ∧ (a = none → cap = 0) ∧ (xs ≠ [] → ∃ b off, a = some ⟨b, off, none⟩ ∧ b < w.heap.size ∧
    ∀ i x j u, xs[i]? = some x → (E x)[j]? = some u → w.cell? ⟨b, off + i * sz + j, none⟩ = some u)

theorem Sl.nil {α : Type} (w : World) (sz : Nat) (E : α → List Value) : Sl w sz E (.slice none 0 0) [] := ⟨none, 0, rfl, Nat.le_refl _, fun _ => rfl, fun h => absurd rfl h⟩
theorem Sl.below {α : Type} {B : Nat} {w w' : World} {sz : Nat} {E : α → List Value} {v : Value} {xs : List α} (h : Sl w sz E v xs) (hB : w.heap.size ≤ B) (hb : Below B w w') : Sl w' sz E v xs := by
  obtain ⟨a, cap, h1, h2, h0, h3⟩ := h
  refine ⟨a, cap, h1, h2, h0, fun hne => ?_⟩
  obtain ⟨b, off, h4, h5, h6⟩ := h3 hne
  refine ⟨b, off, h4, Nat.lt_of_lt_of_le h5 hb.size, fun i x j u hx hu => ?_⟩
  rw [hb.cell (p := ⟨b, off + i * sz + j, none⟩) (Nat.lt_of_lt_of_le h5 hB)]
  exact h6 i x j u hx hu
theorem Sl.call {α : Type} {w w' : World} {sz : Nat} {E : α → List Value} {v : Value} {xs : List α} (h : Sl w sz E v xs) (hb : Below w.heap.size w w') : Sl w' sz E v xs := h.below (Nat.le_refl _) hb

theorem length_flatMap {α : Type} (E : α → List Value) (sz : Nat) (hE : ∀ x, (E x).length = sz) (ys : List α) : (ys.flatMap E).length = ys.length * sz := by
  induction ys with
  | nil => simp
  | cons y ys ih => rw [List.flatMap_cons, List.length_append, hE, ih, List.length_cons, Nat.add_mul]; omega
theorem getElem?_flatMap {α : Type} (E : α → List Value) (sz : Nat) (hE : ∀ x, (E x).length = sz) (xs : List α) (i : Nat) (x : α) (hx : xs[i]? = some x) (j : Nat) (hj : j < sz) :
    (xs.flatMap E)[i * sz + j]? = (E x)[j]? := by
  induction xs generalizing i with
  | nil => simp at hx
  | cons y ys ih =>
    rw [List.flatMap_cons]
    cases i with
    | zero =>
      simp at hx
      subst hx
      rw [List.getElem?_append_left (by rw [hE]; omega)]
      simp
    | succ i =>
      rw [List.getElem?_append_right (by rw [hE, Nat.add_mul]; omega), hE, show (i + 1) * sz + j - sz = i * sz + j by rw [Nat.add_mul]; omega]
      exact ih i (by simpa using hx)

theorem Sl.of_owns {α : Type} {w : World} {base : Nat} {e : TypeId} {sz : Nat} {E : α → List Value} {v : Value} {xs : List α} (hE : ∀ x, (E x).length = sz)
    (h : w.ownsRow base e sz v xs.length (xs.flatMap E)) : Sl w sz E v xs := by
  have h0 := h
  obtain ⟨_, h2⟩ := h
  rcases h2 with ⟨h1, h2⟩ | ⟨g, cap, cur, rfl, hg, hh, hn, hcap, hsz, htake⟩
  · have hx : xs = [] := List.length_eq_zero_iff.1 h2
    subst hx
    exact h1 ▸ Sl.nil w sz E
  · refine ⟨_, cap, rfl, hn, fun h => (by cases h), fun _ => ⟨g, 0, rfl, ?_, fun i x j u hx hu => ?_⟩⟩
    · rcases Nat.lt_or_ge g w.heap.size with h1 | h1
      · exact h1
      · rw [Array.getElem?_eq_none h1] at hh; cases hh
    · have hj : j < sz := by
        have := (List.getElem?_eq_some_iff.1 hu).1
        rw [hE] at this; exact this
      have hi : i < xs.length := (List.getElem?_eq_some_iff.1 hx).1
      have hij : i * sz + j < xs.length * sz := by
        have : (i + 1) * sz ≤ xs.length * sz := Nat.mul_le_mul_right _ hi
        rw [Nat.add_mul] at this; omega
      rw [Nat.zero_add, h0.cellAt _ hij, getElem?_flatMap E sz hE xs i x hx j hj, hu]

theorem owns_call {w w' : World} {base : Nat} {e : TypeId} {sz n : Nat} {v : Value} {xs : List Value} (h : w.ownsRow base e sz v n xs) (hb : Below w.heap.size w w') : w'.ownsRow base e sz v n xs := by
  obtain ⟨h1, h2⟩ := h
  refine ⟨h1, ?_⟩
  rcases h2 with h2 | ⟨g, cap, cur, hv, hg, hh, r⟩
  · exact Or.inl h2
  · refine Or.inr ⟨g, cap, cur, hv, hg, ?_, r⟩
    rw [hb.block g ?_]
    · exact hh
    · rcases Nat.lt_or_ge g w.heap.size with h1 | h1
      · exact h1
      · rw [Array.getElem?_eq_none h1] at hh; cases hh

/-- append to a slice of one's own, of whatever slice that reads as a list -/
theorem wpList_append_Sl {α : Type} {P : Program} {w : World} {ops : Array Oper} {rest : List Oper} {o : Oper} {a : Act} {Q : Exit → Act → World → Prop} (hgd : o.guard = none) (s x : Operand) (t : TypeId)
    (ho : o.op = .call { callee := .builtin .append, args := #[s, x], argTypes := #[t, t] })
    (base : Nat) (e : TypeId) (i : TypeInfo) (z : Value) (size bytes : Nat) (ht : P.underlying t = some (.slice e)) (hi : P.info? e = some i) (hz : i.zero = some z)
    (hsize : i.size = size) (hby : i.bytes = bytes) (hzs : z.cells.size = size) (hsz : 0 < size)
    (v : Value) (n : Nat) (xs : List Value) (hs : a.eval s = v) (hown : w.ownsRow base e size v n xs)
    (E : α → List Value) (hE : ∀ y, (E y).length = size) (h1 : ∀ y, ∀ u ∈ E y, u.oneCell' = true) (v2 : Value) (ys : List α) (hx : a.eval x = v2) (hv2 : Sl w size E v2 ys)
    (h63 : n + ys.length ≤ maxLen) (hbytes : (n + ys.length) * bytes ≤ 140737488355328) (hbase : base ≤ w.heap.size)
    (h : ∀ v' w', w'.ownsRow base e size v' (n + ys.length) (xs ++ ys.flatMap E) → w.grownBy w' v.ownBlock → wpList P ops Q rest (a.put o.dst v') w') : wpList P ops Q (o :: rest) a w := by
  obtain ⟨ad, cap, hv, hcap, h0, hc⟩ := hv2
  by_cases hne : ys = []
  · subst hne
    cases ad with
    | none =>
      rw [h0 rfl] at hv
      rw [hv] at hx
      refine wpList_append_own_none hgd s x t ho base e i size ht hi v n xs hs hown hx ?_
      exact h v w (by simpa using hown) ⟨rfl, rfl, rfl, Nat.le_refl _, fun _ _ _ => rfl⟩
    | some ad =>
      rw [hv] at hx
      exact wpList_append_own w hgd s x t ho base e i z size bytes ht hi hz hsize hby hzs hsz v n xs hs hown ad 0 cap [] hx (by simp) (fun j u hu => by simp at hu) (fun u hu => by cases hu) h63 hbytes hbase (fun v' w' h2 h3 _ => h v' w' h2 h3)
  · obtain ⟨b, off, rfl, hb, hcells⟩ := hc hne
    rw [hv] at hx
    have hlen := length_flatMap E size hE ys
    refine wpList_append_own w hgd s x t ho base e i z size bytes ht hi hz hsize hby hzs hsz v n xs hs hown ⟨b, off, none⟩ ys.length cap (ys.flatMap E) hx hlen ?_ ?_ h63 hbytes hbase (fun v' w' h2 h3 _ => h v' w' h2 h3)
    · intro j u hu
      have hj : j < ys.length * size := by rw [← hlen]; exact (List.getElem?_eq_some_iff.1 hu).1
      have hi' : j / size < ys.length := Nat.div_lt_of_lt_mul (by rw [Nat.mul_comm]; exact hj)
      have hm : j % size < size := Nat.mod_lt _ hsz
      have hd := Nat.div_add_mod j size
      have hy : ys[j / size]? = some ys[j / size] := List.getElem?_eq_getElem hi'
      have h2 := getElem?_flatMap E size hE ys (j / size) _ hy (j % size) hm
      rw [show j / size * size + j % size = j by rw [Nat.mul_comm]; exact hd, hu] at h2
      rw [Addr.add_mid]
      have := hcells (j / size) _ (j % size) u hy h2.symm
      rwa [show off + j / size * size + j % size = off + j by rw [Nat.add_assoc, show j / size * size + j % size = j by rw [Nat.mul_comm]; exact hd]] at this
    · intro u hu
      obtain ⟨y, _, hy⟩ := List.mem_flatMap.1 hu
      exact h1 y u hy
end Go.Proofs.Ytfkeddefajkobaa
