/- This text proves small rules on blocks of memory that a function keeps for a variable, and one rule for a statement whose order Go leaves open: where each operation reads memory or calls a function that only makes new memory, and hands back one value in every such world, one walk in the order of the text serves every order. It has no condition of its own. -/
import Derived.Test.YtfkeddefajkobaaBase
import Derived.Deep.MidRow
import Derived.Laws.ResultCell
import Derived.Deep.DeepCutAuto
import Derived.Deep.CutBlock
set_option linter.unusedSimpArgs false
set_option linter.unusedVariables false
namespace Go.Proofs.Ytfkeddefajkobaa
open Go.RowKit

/-- a world in which all that was there is as it was -/
structure In (w_ : World) where
  w : World
  h : Below w_.heap.size w_ w

instance {w : World} : Nonempty (In w) := ⟨⟨w, Below.refl _ _⟩⟩

theorem wp_region_calm {P : Program} {id : Nat} {Q : Exit → Act → World → Prop} {a : Act} {w : World} {l : List Oper} (hm : P.follows .mixedOrders = true) (hB : Region.lexB .any l.toArray = true)
    (h : wpQuiet P l.toArray (fun w' => ∃ x : In w, w' = x.w) (fun a' => ∀ w', (∃ x : In w, w' = x.w) → Q .normal a' w') l a) : (Code.region id l.toArray true).wp P Q a w :=
  wp_region_quiet (C := fun w' => ∃ x : In w, w' = x.w) hm hB ⟨⟨w.drew, (Below.refl _ _).drew⟩, rfl⟩ (by simpa using h)

theorem calm_of {P : Program} {f : FuncId} {args : Array Value} {w : World} {x : In w} {v : Value}
    (h : Calls P f args x.w fun e w' => e = .returned v ∧ Below x.w.heap.size x.w w') : Calls P f args x.w fun e w'' => e = .returned v ∧ ∃ y : In w, w'' = y.w :=
  h.mono fun _ w' ⟨he, hb⟩ => ⟨he, ⟨w', x.h.trans (hb.mono x.h.size)⟩, rfl⟩

theorem calm_same {P : Program} {f : FuncId} {args : Array Value} {w : World} {x : In w} {v : Value}
    (h : Calls P f args x.w fun e w' => e = .returned v ∧ x.w = w') : Calls P f args x.w fun e w'' => e = .returned v ∧ ∃ y : In w, w'' = y.w :=
  h.mono fun _ _ ⟨he, hb⟩ => ⟨he, x, hb.symm⟩

theorem calm_cell : ∀ {w : World} (x : In w) (b o : Nat), b < w.heap.size → x.w.cell? ⟨b, o, none⟩ = w.cell? ⟨b, o, none⟩ := fun x b o h => x.h.cell (p := ⟨b, o, none⟩) h
theorem calm_end {w : World} {R : World → Prop} (h : ∀ w', Below w.heap.size w w' → R w') : ∀ w', (∃ x : In w, w' = x.w) → R w' := fun w' ⟨x, hx⟩ => h w' (hx ▸ x.h)

/-- block k holds these cells, and may be written -/
def Box (w : World) (k : Nat) (cs : Array Value) : Prop := ∃ T, w.heap[k]? = some (.cells cs T (0, 0))

theorem Box.lt {w : World} {k : Nat} {cs : Array Value} (h : Box w k cs) : k < w.heap.size := by
  obtain ⟨T, h⟩ := h
  rcases Nat.lt_or_ge k w.heap.size with h1 | h1
  · exact h1
  · rw [Array.getElem?_eq_none h1] at h; cases h
theorem Box.cell {w : World} {k : Nat} {cs : Array Value} (h : Box w k cs) (i : Nat) (v : Value) (hv : cs[i]? = some v) : w.cell? ⟨k, i, none⟩ = some v := by
  obtain ⟨T, h⟩ := h
  simp [World.cell?, h, hv]
theorem Box.frozen {w : World} {k : Nat} {cs : Array Value} (h : Box w k cs) (i : Nat) : w.frozen? ⟨k, i, none⟩ = false := by
  obtain ⟨T, h⟩ := h
  simp [World.frozen?, h]
theorem Box.below {w w' : World} {B k : Nat} {cs : Array Value} (h : Box w k cs) (hb : Below B w w') (hk : k < B) : Box w' k cs := by
  obtain ⟨T, h⟩ := h
  exact ⟨T, by rw [hb.block k hk]; exact h⟩
theorem Box.call {w w' : World} {k : Nat} {cs : Array Value} (h : Box w k cs) (hb : Below w.heap.size w w') : Box w' k cs := h.below hb h.lt
theorem Box.alloc {w : World} {k : Nat} {cs : Array Value} (h : Box w k cs) (o : Obj) : Box (w.alloc o) k cs :=
  h.below ((Below.refl w.heap.size w).alloc (Nat.le_refl _) o) h.lt
theorem Box.drew {w : World} {k : Nat} {cs : Array Value} (h : Box w k cs) : Box w.drew k cs := h
theorem Box.new (w : World) (cs : Array Value) (T : TypeId) : Box (w.alloc (.cells cs T)) w.heap.size cs := by
  refine ⟨T, ?_⟩
  show (w.heap.push _)[w.heap.size]? = _
  rw [Array.getElem?_push, if_pos rfl]
theorem Box.new_at {w : World} {k : Nat} (cs : Array Value) (T : TypeId) (h : k = w.heap.size) : Box (w.alloc (.cells cs T)) k cs := h ▸ Box.new w cs T
theorem Box.far {w : World} {k : Nat} {cs : Array Value} (h : Box w k cs) {p : Addr} (hp : k ≠ p.block) (v : Value) : Box (w.setCell p v) k cs := by
  obtain ⟨T, h⟩ := h
  exact ⟨T, by rw [Below.heap_setCell _ _ _ _ hp]; exact h⟩
theorem Box.set {w : World} {k : Nat} {cs : Array Value} (h : Box w k cs) (i : Nat) (v : Value) : Box (w.setCell ⟨k, i, none⟩ v) k (cs.setIfInBounds i v) := by
  obtain ⟨T, h⟩ := h
  refine ⟨T, ?_⟩
  simp [World.setCell, Array.getElem?_modify, h]
theorem Box.set_at {w : World} {k : Nat} {cs cs' : Array Value} (h : Box w k cs) (i : Nat) (v : Value) (e : cs.setIfInBounds i v = cs') : Box (w.setCell ⟨k, i, none⟩ v) k cs' := e ▸ h.set i v

/-- block k alone has been written -/
structure Only (k : Nat) (w w' : World) : Prop where
  os : w'.os = w.os
  tape : w'.tape = w.tape
  output : w'.output = w.output
  size : w'.heap.size = w.heap.size
  block : ∀ j, j ≠ k → w'.heap[j]? = w.heap[j]?
theorem Only.below {k B : Nat} {w w' : World} (h : Only k w w') (hB : B ≤ k) : Below B w w' :=
  ⟨h.os, h.tape, h.output, by rw [h.size]; exact Nat.le_refl _, fun j hj => h.block j (by omega)⟩
theorem Only.trans {k : Nat} {a b c : World} (h : Only k a b) (g : Only k b c) : Only k a c :=
  ⟨g.os.trans h.os, g.tape.trans h.tape, g.output.trans h.output, g.size.trans h.size, fun j hj => (g.block j hj).trans (h.block j hj)⟩
theorem Only.set (w : World) (k i : Nat) (v : Value) : Only k w (w.setCell ⟨k, i, none⟩ v) :=
  ⟨rfl, rfl, rfl, by simp [World.setCell], fun j hj => Below.heap_setCell _ _ _ _ hj⟩
theorem Only.setCells (k : Nat) : ∀ (vs : List Value) (i : Nat) (w : World), Only k w (w.setCells k i vs)
  | [], _, _ => ⟨rfl, rfl, rfl, rfl, fun _ _ => rfl⟩
  | v :: vs, i, w => (Only.set w k i v).trans (Only.setCells k vs (i + 1) _)
theorem Box.only {k j : Nat} {w w' : World} {cs : Array Value} (h : Box w j cs) (ho : Only k w w') (hj : j ≠ k) : Box w' j cs := by
  obtain ⟨T, h⟩ := h
  exact ⟨T, by rw [ho.block j hj]; exact h⟩
theorem Box.range {w : World} {k : Nat} {cs : Array Value} (h : Box w k cs) : w.rangeAt k 0 cs.toList := fun j v hv => by
  rw [Nat.zero_add]; exact h.cell j v (by simpa using hv)
theorem Box.there {w : World} {k : Nat} {cs : Array Value} (h : Box w k cs) : w.there k 0 cs.size := fun j hj => by
  rw [Nat.zero_add]
  exact ⟨by rw [h.cell j cs[j] (by simp [hj])]; rfl, h.frozen j⟩
theorem Box.setCells {w : World} {k : Nat} : ∀ (vs : List Value) (pre : List Value) (cs : Array Value), Box w k cs → cs.toList.take pre.length = pre → cs.size = pre.length + vs.length → Box (w.setCells k pre.length vs) k (pre ++ vs).toArray := by
  intro vs
  induction vs generalizing w with
  | nil =>
    intro pre cs h hp hs
    have : cs.toList = pre := by rw [← hp, List.take_of_length_le (by simp; simp at hs; omega)]
    have e : cs = (pre ++ []).toArray := by rw [List.append_nil, ← this]
    rw [← e]; exact h
  | cons v vs ih =>
    intro pre cs h hp hs
    have h1 := h.set pre.length v
    have := ih (w := w.setCell ⟨k, pre.length, none⟩ v) (pre ++ [v]) (cs.setIfInBounds pre.length v) h1 (by
      have hl : pre.length < cs.toList.length := by simp at hs ⊢; omega
      simp only [List.length_append, List.length_cons, List.length_nil, Array.toList_setIfInBounds]
      rw [List.take_succ_eq_append_getElem (by simpa using hl), List.take_set_of_le (Nat.le_refl _), hp]
      simp) (by simp at hs ⊢; omega)
    simpa [World.setCells] using this
theorem Box.store {w : World} {k : Nat} {cs cs' : Array Value} (h : Box w k cs) (hs : cs.size = cs'.size) : Box (w.setCells k 0 cs'.toList) k cs' := by
  have := Box.setCells cs'.toList [] cs h rfl (by simpa using hs)
  simpa using this

theorem wpList_load_box {P : Program} {ops : Array Oper} {rest : List Oper} {op : Oper} {a : Act} {w : World} {Q : Exit → Act → World → Prop} (hgd : op.guard = none) (ty : TypeId) (x : Operand) (ho : op.op = .load ty x)
    (k : Nat) (hx : a.eval x = .pointer (some ⟨k, 0, none⟩)) (cs : Array Value) (d : TypeDesc) (hb : Box w k cs)
    (hu : P.underlying ty = some d) (hd : d.isRow = true) (hi : (P.info? ty).map (·.size) = some cs.size)
    (h : wpList P ops Q rest (a.put op.dst (.agg cs)) w) : wpList P ops Q (op :: rest) a w :=
  wpList_load_mid hgd ty x ho k 0 hx cs.toList d hb.range hu hd (by simpa using hi) (by simpa using h)

theorem wpList_store_box {P : Program} {ops : Array Oper} {rest : List Oper} {op : Oper} {a : Act} {w : World} {Q : Exit → Act → World → Prop} (hgd : op.guard = none) (ty : TypeId) (x y : Operand) (ho : op.op = .store ty x y)
    (k : Nat) (cs cs' : Array Value) (hx : a.eval x = .pointer (some ⟨k, 0, none⟩)) (hy : a.eval y = .agg cs')
    (hb : Box w k cs) (hs : cs.size = cs'.size) (hi : (P.info? ty).map (·.size) = some cs'.size) (h1 : cs'.all (·.oneCell') = true)
    (h : ∀ w', Box w' k cs' → Only k w w' → wpList P ops Q rest (a.put op.dst undef) w') : wpList P ops Q (op :: rest) a w :=
  wpList_store_mid hgd ty x y ho k 0 cs' hx hy (hs ▸ hb.there) hi h1 (h _ (hb.store hs) (Only.setCells k _ 0 w))

theorem results_box {P : Program} {fn : Func} {p u : Tmp} {ty : TypeId} (h : fn.results = #[.cell p ty, .tmp u]) {tmps : Array Value} {w : World} {k : Nat} (hp : tmps.getD p undef = .pointer (some ⟨k, 0, none⟩)) {cs : Array Value} {d : TypeDesc} (hb : Box w k cs)
    (hu : P.underlying ty = some d) (hd : d.isRow = true) (hi : (P.info? ty).map (·.size) = some cs.size) : (results fn tmps).run P w = .ok (.tuple #[.agg cs, tmps.getD u undef]) w := by
  have hl := run_loadVar_mid w k 0 ty cs.toList d hb.range hu hd (by simpa using hi)
  rw [results_cell_tmp h, hp]
  have ha : (asAddr (.pointer (some ⟨k, 0, none⟩))).run P w = .ok (⟨k, 0, none⟩ : Addr) w := rfl
  rw [ha, Result.andThen_ok, hl, Result.andThen_ok]
end Go.Proofs.Ytfkeddefajkobaa
