/- This text proves small rules on blocks of memory that a function keeps for a variable, and one rule for a statement whose order Go leaves open: where each operation reads memory or calls a function that only makes new memory, and hands back one value in every such world, one walk in the order of the text serves every order. It has no condition of its own. -/
import Derived.Test.YtbfmjccbbkijlaaBase
namespace Go.Proofs.Ytbfmjccbbkijlaa
open Go.RowKit

/-- a world in which all that was there is as it was -/
structure In (w_ : World) where
  w : World
  h : Below w_.heap.size w_ w

instance {w : World} : Nonempty (In w) := ⟨⟨w, Below.refl _ _⟩⟩

theorem wp_region_calm {P : Program} {id : Nat} {Q : Exit → Act → World → Prop} {a : Act} {w : World} {l : List Oper} (hm : P.follows .mixedOrders = true) (hB : Region.lexB .any l.toArray = true)
    (h : wpQuiet P l.toArray (fun w' => ∃ x : In w, w' = x.w) (fun a' => ∀ w', (∃ x : In w, w' = x.w) → Q .normal a' w') l a) : (Code.region id l.toArray true).wp P Q a w :=
  wp_region_quiet (C := fun w' => ∃ x : In w, w' = x.w) hm hB ⟨⟨w.drew, (Below.refl _ _).drew⟩, rfl⟩ (by simpa using h)

theorem calm_of {P : Program} {f : FuncId} {args : Array Value} {w : World} {x : In w} {v : Value}
    (h : Calls P f args x.w fun e w' => e = .returned v ∧ Below x.w.heap.size x.w w') : Calls P f args x.w fun e w'' => e = .returned v ∧ ∃ y : In w, w'' = y.w :=
  h.mono fun _ w' ⟨he, hb⟩ => ⟨he, ⟨w', x.h.trans (hb.mono x.h.size)⟩, rfl⟩

theorem calm_same {P : Program} {f : FuncId} {args : Array Value} {w : World} {x : In w} {v : Value}
    (h : Calls P f args x.w fun e w' => e = .returned v ∧ x.w = w') : Calls P f args x.w fun e w'' => e = .returned v ∧ ∃ y : In w, w'' = y.w :=
  h.mono fun _ _ ⟨he, hb⟩ => ⟨he, x, hb.symm⟩

theorem calm_cell : ∀ {w : World} (x : In w) (b o : Nat), b < w.heap.size → x.w.cell? ⟨b, o, none⟩ = w.cell? ⟨b, o, none⟩ := fun x b o h => x.h.cell (p := ⟨b, o, none⟩) h
theorem calm_end {w : World} {R : World → Prop} (h : ∀ w', Below w.heap.size w w' → R w') : ∀ w', (∃ x : In w, w' = x.w) → R w' := fun w' ⟨x, hx⟩ => h w' (hx ▸ x.h)

/-- block k holds these cells, and may be written -/
def Box (w : World) (k : Nat) (cs : Array Value) : Prop := ∃ T, w.heap[k]? = some (.cells cs T (0, 0))

theorem Box.lt {w : World} {k : Nat} {cs : Array Value} (h : Box w k cs) : k < w.heap.size := by
  obtain ⟨T, h⟩ := h
  rcases Nat.lt_or_ge k w.heap.size with h1 | h1
  · exact h1
  · rw [Array.getElem?_eq_none h1] at h; cases h
theorem Box.cell {w : World} {k : Nat} {cs : Array Value} (h : Box w k cs) (i : Nat) (v : Value) (hv : cs[i]? = some v) : w.cell? ⟨k, i, none⟩ = some v := by
  obtain ⟨T, h⟩ := h
  simp [World.cell?, h, hv]
theorem Box.frozen {w : World} {k : Nat} {cs : Array Value} (h : Box w k cs) (i : Nat) : w.frozen? ⟨k, i, none⟩ = false := by
  obtain ⟨T, h⟩ := h
  simp [World.frozen?, h]
theorem Box.below {w w' : World} {B k : Nat} {cs : Array Value} (h : Box w k cs) (hb : Below B w w') (hk : k < B) : Box w' k cs := by
  obtain ⟨T, h⟩ := h
  exact ⟨T, by rw [hb.block k hk]; exact h⟩
theorem Box.call {w w' : World} {k : Nat} {cs : Array Value} (h : Box w k cs) (hb : Below w.heap.size w w') : Box w' k cs := h.below hb h.lt
theorem Box.alloc {w : World} {k : Nat} {cs : Array Value} (h : Box w k cs) (o : Obj) : Box (w.alloc o) k cs :=
  h.below ((Below.refl w.heap.size w).alloc (Nat.le_refl _) o) h.lt
theorem Box.drew {w : World} {k : Nat} {cs : Array Value} (h : Box w k cs) : Box w.drew k cs := h
theorem Box.new (w : World) (cs : Array Value) (T : TypeId) : Box (w.alloc (.cells cs T)) w.heap.size cs := by
  refine ⟨T, ?_⟩
  show (w.heap.push _)[w.heap.size]? = _
  rw [Array.getElem?_push, if_pos rfl]
theorem Box.new_at {w : World} {k : Nat} (cs : Array Value) (T : TypeId) (h : k = w.heap.size) : Box (w.alloc (.cells cs T)) k cs := h ▸ Box.new w cs T
theorem Box.far {w : World} {k : Nat} {cs : Array Value} (h : Box w k cs) {p : Addr} (hp : k ≠ p.block) (v : Value) : Box (w.setCell p v) k cs := by
  obtain ⟨T, h⟩ := h
  exact ⟨T, by rw [Below.heap_setCell _ _ _ _ hp]; exact h⟩
theorem Box.set {w : World} {k : Nat} {cs : Array Value} (h : Box w k cs) (i : Nat) (v : Value) : Box (w.setCell ⟨k, i, none⟩ v) k (cs.setIfInBounds i v) := by
  obtain ⟨T, h⟩ := h
  refine ⟨T, ?_⟩
  simp [World.setCell, Array.getElem?_modify, h]
theorem Box.set_at {w : World} {k : Nat} {cs cs' : Array Value} (h : Box w k cs) (i : Nat) (v : Value) (e : cs.setIfInBounds i v = cs') : Box (w.setCell ⟨k, i, none⟩ v) k cs' := e ▸ h.set i v
end Go.Proofs.Ytbfmjccbbkijlaa
