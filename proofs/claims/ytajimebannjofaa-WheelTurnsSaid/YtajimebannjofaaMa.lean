/- This text holds, one behind the other, the texts that say what the program computes, step by step, and the rules that they need. They have no condition of their own. -/
import Derived.Test.YtajimebannjofaaRows
import Derived.WalkKit
import Derived.ProofKit
import Derived.Handy
import Derived.WalkLawsBesides
import Derived.Lib.Hide
import Derived.Deep.RegionHeld3
import Derived.Deep.QuietTactic
import Derived.BigQuiet
import Derived.Deep.LoopGhost
import Derived.Outline
import Derived.Deep.MidRow
import Derived.Laws.ResultCell
import Derived.Deep.DeepCutAuto
import Derived.Deep.CutBlock
import Derived.Laws.StructEq
import Derived.Deep.AppendSrc
set_option linter.unusedSimpArgs false
set_option linter.unusedVariables false
namespace Go.Proofs.Ytajimebannjofaa
open Go.ChangeShapes Go.WideShapes Go.ChangeAt Go.RowKit

/-- what 'picked' computes -/
def pickedZ (n many : Int) : Int := (if n < 0 then -(n+1) else n) % many

theorem pickedZ_range (n many : Int) (h : 1 ≤ many) : 0 ≤ pickedZ n many ∧ pickedZ n many < many := by
  unfold pickedZ
  exact ⟨Int.emod_nonneg _ (by omega), Int.emod_lt_of_pos _ (by omega)⟩

theorem ret_int {k : IntKind} {a b : Int} (h : a = b) : Ending.returned (.int k a) = .returned (.int k b) := by rw [h]
theorem ret_bool {a b : Bool} (h : a = b) : Ending.returned (.bool a) = .returned (.bool b) := by rw [h]

theorem picked_any (n many : Int) (w : World) (hn : -9223372036854775808 ≤ n) (hn' : n ≤ 9223372036854775807) (hm : 1 ≤ many) (hm' : many ≤ 9223372036854775807) :
    Calls Try.prog 11 #[.int .i64 n, .int .i64 many] w fun e w' => e = .returned (.int .i64 (pickedZ n many)) ∧ w = w' := by
  by_cases h : n < 0
  · have e : pickedZ n many = -((n + 1).tmod many) := by
      unfold pickedZ; rw [if_pos h, ← Int.neg_tmod, Int.tmod_eq_emod_of_nonneg (by omega)]
    have E := Lib.hid e; clear e
    go_enter Try.func11, Try.ntmps11
    go_wp2
    go_ret
    exact ⟨ret_int E.out.symm, rfl⟩
  · have e : pickedZ n many = n % many := by
      unfold pickedZ; rw [if_neg h]
    have E := Lib.hid e; clear e
    go_enter Try.func11, Try.ntmps11
    go_wp2
    go_ret
    exact ⟨ret_int E.out.symm, rfl⟩

theorem bcell {W w1 : World} (hb : Below W.heap.size W w1) : (∀ b o, b < W.heap.size → w1.cell? ⟨b, o, none⟩ = W.cell? ⟨b, o, none⟩) ∧ (∀ b o, b < W.heap.size → w1.frozen? ⟨b, o, none⟩ = W.frozen? ⟨b, o, none⟩) :=
  ⟨fun b o h => hb.cell (p := ⟨b, o, none⟩) h, fun b o h => hb.frozen (p := ⟨b, o, none⟩) h⟩
end Go.Proofs.Ytajimebannjofaa

set_option linter.unusedSimpArgs false
set_option linter.unusedVariables false
namespace Go.Proofs.Ytajimebannjofaa
open Go.RowKit

/-- a world in which all that was there is as it was -/
structure In (w_ : World) where
  w : World
  h : Below w_.heap.size w_ w

instance {w : World} : Nonempty (In w) := ⟨⟨w, Below.refl _ _⟩⟩

theorem wp_region_calm {P : Program} {id : Nat} {Q : Exit → Act → World → Prop} {a : Act} {w : World} {l : List Oper} (hm : P.follows .mixedOrders = true) (hB : Region.lexB .any l.toArray = true)
    (h : wpQuiet P l.toArray (fun w' => ∃ x : In w, w' = x.w) (fun a' => ∀ w', (∃ x : In w, w' = x.w) → Q .normal a' w') l a) : (Code.region id l.toArray true).wp P Q a w :=
  wp_region_quiet (C := fun w' => ∃ x : In w, w' = x.w) hm hB ⟨⟨w.drew, (Below.refl _ _).drew⟩, rfl⟩ (by simpa using h)

theorem calm_of {P : Program} {f : FuncId} {args : Array Value} {w : World} {x : In w} {v : Value}
    (h : Calls P f args x.w fun e w' => e = .returned v ∧ Below x.w.heap.size x.w w') : Calls P f args x.w fun e w'' => e = .returned v ∧ ∃ y : In w, w'' = y.w :=
  h.mono fun _ w' ⟨he, hb⟩ => ⟨he, ⟨w', x.h.trans (hb.mono x.h.size)⟩, rfl⟩

theorem calm_same {P : Program} {f : FuncId} {args : Array Value} {w : World} {x : In w} {v : Value}
    (h : Calls P f args x.w fun e w' => e = .returned v ∧ x.w = w') : Calls P f args x.w fun e w'' => e = .returned v ∧ ∃ y : In w, w'' = y.w :=
  h.mono fun _ _ ⟨he, hb⟩ => ⟨he, x, hb.symm⟩

theorem calm_cell : ∀ {w : World} (x : In w) (b o : Nat), b < w.heap.size → x.w.cell? ⟨b, o, none⟩ = w.cell? ⟨b, o, none⟩ := fun x b o h => x.h.cell (p := ⟨b, o, none⟩) h
theorem calm_end {w : World} {R : World → Prop} (h : ∀ w', Below w.heap.size w w' → R w') : ∀ w', (∃ x : In w, w' = x.w) → R w' := fun w' ⟨x, hx⟩ => h w' (hx ▸ x.h)

/-- block k holds these cells, and may be written -/
def Box (w : World) (k : Nat) (cs : Array Value) : Prop := ∃ T, w.heap[k]? = some (.cells cs T (0, 0))

theorem Box.lt {w : World} {k : Nat} {cs : Array Value} (h : Box w k cs) : k < w.heap.size := by
  obtain ⟨T, h⟩ := h
  rcases Nat.lt_or_ge k w.heap.size with h1 | h1
  · exact h1
  · rw [Array.getElem?_eq_none h1] at h; cases h
theorem Box.cell {w : World} {k : Nat} {cs : Array Value} (h : Box w k cs) (i : Nat) (v : Value) (hv : cs[i]? = some v) : w.cell? ⟨k, i, none⟩ = some v := by
  obtain ⟨T, h⟩ := h
  simp [World.cell?, h, hv]
theorem Box.frozen {w : World} {k : Nat} {cs : Array Value} (h : Box w k cs) (i : Nat) : w.frozen? ⟨k, i, none⟩ = false := by
  obtain ⟨T, h⟩ := h
  simp [World.frozen?, h]
theorem Box.below {w w' : World} {B k : Nat} {cs : Array Value} (h : Box w k cs) (hb : Below B w w') (hk : k < B) : Box w' k cs := by
  obtain ⟨T, h⟩ := h
  exact ⟨T, by rw [hb.block k hk]; exact h⟩
theorem Box.call {w w' : World} {k : Nat} {cs : Array Value} (h : Box w k cs) (hb : Below w.heap.size w w') : Box w' k cs := h.below hb h.lt
theorem Box.alloc {w : World} {k : Nat} {cs : Array Value} (h : Box w k cs) (o : Obj) : Box (w.alloc o) k cs :=
  h.below ((Below.refl w.heap.size w).alloc (Nat.le_refl _) o) h.lt
theorem Box.drew {w : World} {k : Nat} {cs : Array Value} (h : Box w k cs) : Box w.drew k cs := h
theorem Box.new (w : World) (cs : Array Value) (T : TypeId) : Box (w.alloc (.cells cs T)) w.heap.size cs := by
  refine ⟨T, ?_⟩
  show (w.heap.push _)[w.heap.size]? = _
  rw [Array.getElem?_push, if_pos rfl]
theorem Box.new_at {w : World} {k : Nat} (cs : Array Value) (T : TypeId) (h : k = w.heap.size) : Box (w.alloc (.cells cs T)) k cs := h ▸ Box.new w cs T
theorem Box.far {w : World} {k : Nat} {cs : Array Value} (h : Box w k cs) {p : Addr} (hp : k ≠ p.block) (v : Value) : Box (w.setCell p v) k cs := by
  obtain ⟨T, h⟩ := h
  exact ⟨T, by rw [Below.heap_setCell _ _ _ _ hp]; exact h⟩
theorem Box.set {w : World} {k : Nat} {cs : Array Value} (h : Box w k cs) (i : Nat) (v : Value) : Box (w.setCell ⟨k, i, none⟩ v) k (cs.setIfInBounds i v) := by
  obtain ⟨T, h⟩ := h
  refine ⟨T, ?_⟩
  simp [World.setCell, Array.getElem?_modify, h]
theorem Box.set_at {w : World} {k : Nat} {cs cs' : Array Value} (h : Box w k cs) (i : Nat) (v : Value) (e : cs.setIfInBounds i v = cs') : Box (w.setCell ⟨k, i, none⟩ v) k cs' := e ▸ h.set i v

/-- block k alone has been written -/
structure Only (k : Nat) (w w' : World) : Prop where
  os : w'.os = w.os
  tape : w'.tape = w.tape
  output : w'.output = w.output
  size : w'.heap.size = w.heap.size
  block : ∀ j, j ≠ k → w'.heap[j]? = w.heap[j]?
theorem Only.below {k B : Nat} {w w' : World} (h : Only k w w') (hB : B ≤ k) : Below B w w' :=
  ⟨h.os, h.tape, h.output, by rw [h.size]; exact Nat.le_refl _, fun j hj => h.block j (by omega)⟩
theorem Only.trans {k : Nat} {a b c : World} (h : Only k a b) (g : Only k b c) : Only k a c :=
  ⟨g.os.trans h.os, g.tape.trans h.tape, g.output.trans h.output, g.size.trans h.size, fun j hj => (g.block j hj).trans (h.block j hj)⟩
theorem Only.set (w : World) (k i : Nat) (v : Value) : Only k w (w.setCell ⟨k, i, none⟩ v) :=
  ⟨rfl, rfl, rfl, by simp [World.setCell], fun j hj => Below.heap_setCell _ _ _ _ hj⟩
theorem Only.setCells (k : Nat) : ∀ (vs : List Value) (i : Nat) (w : World), Only k w (w.setCells k i vs)
  | [], _, _ => ⟨rfl, rfl, rfl, rfl, fun _ _ => rfl⟩
  | v :: vs, i, w => (Only.set w k i v).trans (Only.setCells k vs (i + 1) _)
theorem Box.only {k j : Nat} {w w' : World} {cs : Array Value} (h : Box w j cs) (ho : Only k w w') (hj : j ≠ k) : Box w' j cs := by
  obtain ⟨T, h⟩ := h
  exact ⟨T, by rw [ho.block j hj]; exact h⟩
theorem Box.range {w : World} {k : Nat} {cs : Array Value} (h : Box w k cs) : w.rangeAt k 0 cs.toList := fun j v hv => by
  rw [Nat.zero_add]; exact h.cell j v (by simpa using hv)
theorem Box.there {w : World} {k : Nat} {cs : Array Value} (h : Box w k cs) : w.there k 0 cs.size := fun j hj => by
  rw [Nat.zero_add]
  exact ⟨by rw [h.cell j cs[j] (by simp [hj])]; rfl, h.frozen j⟩
theorem Box.setCells {w : World} {k : Nat} : ∀ (vs : List Value) (pre : List Value) (cs : Array Value), Box w k cs → cs.toList.take pre.length = pre → cs.size = pre.length + vs.length → Box (w.setCells k pre.length vs) k (pre ++ vs).toArray := by
  intro vs
  induction vs generalizing w with
  | nil =>
    intro pre cs h hp hs
    have : cs.toList = pre := by rw [← hp, List.take_of_length_le (by simp; simp at hs; omega)]
    have e : cs = (pre ++ []).toArray := by rw [List.append_nil, ← this]
    rw [← e]; exact h
  | cons v vs ih =>
    intro pre cs h hp hs
    have h1 := h.set pre.length v
    have := ih (w := w.setCell ⟨k, pre.length, none⟩ v) (pre ++ [v]) (cs.setIfInBounds pre.length v) h1 (by
      have hl : pre.length < cs.toList.length := by simp at hs ⊢; omega
      simp only [List.length_append, List.length_cons, List.length_nil, Array.toList_setIfInBounds]
      rw [List.take_succ_eq_append_getElem (by simpa using hl), List.take_set_of_le (Nat.le_refl _), hp]
      simp) (by simp at hs ⊢; omega)
    simpa [World.setCells] using this
theorem Box.store {w : World} {k : Nat} {cs cs' : Array Value} (h : Box w k cs) (hs : cs.size = cs'.size) : Box (w.setCells k 0 cs'.toList) k cs' := by
  have := Box.setCells cs'.toList [] cs h rfl (by simpa using hs)
  simpa using this

theorem wpList_load_box {P : Program} {ops : Array Oper} {rest : List Oper} {op : Oper} {a : Act} {w : World} {Q : Exit → Act → World → Prop} (hgd : op.guard = none) (ty : TypeId) (x : Operand) (ho : op.op = .load ty x)
    (k : Nat) (hx : a.eval x = .pointer (some ⟨k, 0, none⟩)) (cs : Array Value) (d : TypeDesc) (hb : Box w k cs)
    (hu : P.underlying ty = some d) (hd : d.isRow = true) (hi : (P.info? ty).map (·.size) = some cs.size)
    (h : wpList P ops Q rest (a.put op.dst (.agg cs)) w) : wpList P ops Q (op :: rest) a w :=
  wpList_load_mid hgd ty x ho k 0 hx cs.toList d hb.range hu hd (by simpa using hi) (by simpa using h)

theorem wpList_store_box {P : Program} {ops : Array Oper} {rest : List Oper} {op : Oper} {a : Act} {w : World} {Q : Exit → Act → World → Prop} (hgd : op.guard = none) (ty : TypeId) (x y : Operand) (ho : op.op = .store ty x y)
    (k : Nat) (cs cs' : Array Value) (hx : a.eval x = .pointer (some ⟨k, 0, none⟩)) (hy : a.eval y = .agg cs')
    (hb : Box w k cs) (hs : cs.size = cs'.size) (hi : (P.info? ty).map (·.size) = some cs'.size) (h1 : cs'.all (·.oneCell') = true)
    (h : ∀ w', Box w' k cs' → Only k w w' → wpList P ops Q rest (a.put op.dst undef) w') : wpList P ops Q (op :: rest) a w :=
  wpList_store_mid hgd ty x y ho k 0 cs' hx hy (hs ▸ hb.there) hi h1 (h _ (hb.store hs) (Only.setCells k _ 0 w))

theorem results_box {P : Program} {fn : Func} {p u : Tmp} {ty : TypeId} (h : fn.results = #[.cell p ty, .tmp u]) {tmps : Array Value} {w : World} {k : Nat} (hp : tmps.getD p undef = .pointer (some ⟨k, 0, none⟩)) {cs : Array Value} {d : TypeDesc} (hb : Box w k cs)
    (hu : P.underlying ty = some d) (hd : d.isRow = true) (hi : (P.info? ty).map (·.size) = some cs.size) : (results fn tmps).run P w = .ok (.tuple #[.agg cs, tmps.getD u undef]) w := by
  have hl := run_loadVar_mid w k 0 ty cs.toList d hb.range hu hd (by simpa using hi)
  rw [results_cell_tmp h, hp]
  have ha : (asAddr (.pointer (some ⟨k, 0, none⟩))).run P w = .ok (⟨k, 0, none⟩ : Addr) w := rfl
  rw [ha, Result.andThen_ok, hl, Result.andThen_ok]
end Go.Proofs.Ytajimebannjofaa

set_option linter.unusedSimpArgs false
set_option linter.unusedVariables false
namespace Go.Proofs.Ytajimebannjofaa
open Go.RowKit

/-! ### What is known of a value -/

inductive D where
  | int (k : IntKind) (z : Int)
  | bool (b : Bool)
  | str (s : ByteArray)
  | nilp
  | any
  | nil0
  | rows (sz : Nat) (xs : List (List D))
  | pc (ds : List D)
  | fn (f : FuncId) (cs : List D)
  | own (id : Nat)
  | ptr (id j : Nat)
  | pel (id i sz j : Nat)
  | sl (id sz off len cap : Nat)
  | clo (f : FuncId) (ids : List Nat)
  | agg (ds : List D)
  | tup (ds : List D)
  | opt (g : Bool) (d : D)

abbrev Cells := Nat → Nat → Option Value

/-- data that holds no reference to memory of one's own -/
inductive VT (Z : Cells) : D → Value → Prop
  | int (k : IntKind) (z : Int) : VT Z (.int k z) (.int k z)
  | bool (b : Bool) : VT Z (.bool b) (.bool b)
  | str (s : ByteArray) : VT Z (.str s) (.string s)
  | nilp : VT Z .nilp (.pointer none)
  | any (v : Value) : v.oneCell' = true → VT Z .any v
  | nil0 (a : Option Addr) : VT Z .nil0 (.slice a 0 0)
  | rnil (sz : Nat) (a : Option Addr) (cap : Nat) : VT Z (.rows sz []) (.slice a 0 cap)
  | rows (sz : Nat) (xs : List (List D)) (b off cap : Nat) (c : Nat → Nat → Value) : xs.length ≤ cap →
      (∀ i row j d, xs[i]? = some row → row[j]? = some d → j < sz ∧ Z b (off + i * sz + j) = some (c i j)) →
      (∀ i row j d, xs[i]? = some row → row[j]? = some d → VT Z d (c i j)) → VT Z (.rows sz xs) (.slice (some ⟨b, off, none⟩) xs.length cap)
  | pc (ds : List D) (b off : Nat) (c : Nat → Value) : (∀ j d, ds[j]? = some d → Z b (off + j) = some (c j)) →
      (∀ j d, ds[j]? = some d → VT Z d (c j)) → VT Z (.pc ds) (.pointer (some ⟨b, off, none⟩))
  | fn (f : FuncId) (cs : List D) (vs : Array Value) : vs.size = cs.length → (∀ j d, cs[j]? = some d → VT Z d (vs.getD j undef)) → VT Z (.fn f cs) (.func (.func f) #[] vs)

/-- one cell; s: where one's own memory lies -/
def VC (s : Nat → Value) (Z : Cells) (d : D) (v : Value) : Prop :=
  match d with
  | .own id => v = s id ∧ ((∃ a n c, v = .slice a n c) ∨ ∃ b, v = .map (some b))
  | .ptr id j => ∃ b, s id = .pointer (some ⟨b, 0, none⟩) ∧ v = .pointer (some ⟨b, j, none⟩)
  | .pel id i sz j => ∃ b n c, s id = .slice (some ⟨b, 0, none⟩) n c ∧ v = .pointer (some ⟨b, i * sz + j, none⟩)
  | .sl id sz off len cap => ∃ b n c o, s id = .slice (some ⟨b, 0, none⟩) n c ∧ v = .slice (some ⟨b, o, none⟩) len cap ∧ (0 < cap → o = off * sz) ∧ len ≤ cap ∧ off + cap ≤ c
  | .clo f ids => ∃ vs : Array Value, v = .func (.func f) #[] vs ∧ vs.size = ids.length ∧ ∀ j id, ids[j]? = some id → ∃ b, s id = .pointer (some ⟨b, 0, none⟩) ∧ vs.getD j undef = .pointer (some ⟨b, 0, none⟩)
  | d => VT Z d v
def VV (s : Nat → Value) (Z : Cells) (d : D) (v : Value) : Prop :=
  match d with
  | .agg ds => ∃ vs : Array Value, v = .agg vs ∧ vs.size = ds.length ∧ ∀ j x, ds[j]? = some x → VC s Z x (vs.getD j undef)
  | d => VC s Z d v
def VR (s : Nat → Value) (Z : Cells) (d : D) (v : Value) : Prop :=
  match d with
  | .tup ds => ∃ vs : Array Value, v = .tuple vs ∧ vs.size = ds.length ∧ ∀ j x, ds[j]? = some x → VV s Z x (vs.getD j undef)
  | .any => True
  | d => VV s Z d v
def VS (s : Nat → Value) (Z : Cells) (d : D) (v : Value) : Prop :=
  match d with
  | .opt g d => (g = true → VR s Z d v) ∧ (g = false → v = undef)
  | d => VR s Z d v

/-! ### What is known of memory of one's own -/

inductive Ob where
  | cells (ds : List D)
  | row (sz : Nat) (xs : List (List D))
  | rowd (sz : Nat) (xs : List (List D))
  | blk (sz : Nat) (xs : List (List D))
  | mp (bare : Bool) (es : List (List Int × List Int × Nat)) (clock : Nat)
  | it (m since : Nat) (seen : List Nat) (last : Nat)

/-- the block that a value owns -/
def blk : Value → Option Nat
  | .slice (some a) _ c => if c = 0 then none else some a.block
  | .pointer (some a) => some a.block
  | .map (some r) => some r
  | _ => none

/-- the slice v owns these rows of cells, each as R says -/
def RowOk (R : D → Value → Prop) (w : World) (sz : Nat) (xs : List (List D)) (v : Value) : Prop :=
  0 < sz ∧ (∀ row ∈ xs, row.length = sz) ∧
  ((xs = [] ∧ ∃ a, v = .slice a 0 0) ∨
   ∃ g cap cur e, v = .slice (some ⟨g, 0, none⟩) xs.length cap ∧ w.heap[g]? = some (.cells cur e (0, 0)) ∧ xs.length ≤ cap ∧ cap ≤ maxLen ∧ cur.size = cap * sz ∧
     ∀ i row j d, xs[i]? = some row → row[j]? = some d → R d (cur.getD (i * sz + j) undef))
/-- the slice v stands in a block of its own, whose cells, all of them, are these; of a cell 'any' nothing is known -/
def BlkOk (R : D → Value → Prop) (w : World) (sz : Nat) (xs : List (List D)) (v : Value) : Prop :=
  0 < sz ∧ (∀ row ∈ xs, row.length = sz) ∧ ∃ g n cur e, v = .slice (some ⟨g, 0, none⟩) n xs.length ∧ w.heap[g]? = some (.cells cur e (0, 0)) ∧ 0 < xs.length ∧ xs.length ≤ maxLen ∧ cur.size = xs.length * sz ∧
     ∀ i row j d, xs[i]? = some row → row[j]? = some d → d ≠ .any → R d (cur.getD (i * sz + j) undef)
/-- numbers as a value: one alone, or a struct of them -/
def vInts (bare : Bool) (ks : List Int) : Value := if bare then .int .i64 (ks.headD 0) else .agg ((ks.map (Value.int .i64)).toArray)
/-- an entry of a map -/
def mEnt (bare : Bool) (p : List Int × List Int × Nat) : MapEntry := ⟨vInts bare p.1, vInts false p.2.1, p.2.2⟩
def ObOk (s : Nat → Value) (Z : Cells) (w : World) (ob : Ob) (v : Value) : Prop :=
  match ob with
  | .cells ds => ∃ b T cs, v = .pointer (some ⟨b, 0, none⟩) ∧ w.heap[b]? = some (.cells cs T (0, 0)) ∧ cs.size = ds.length ∧ ∀ j x, ds[j]? = some x → VC s Z x (cs.getD j undef)
  | .row sz xs => RowOk (VT Z) w sz xs v
  | .rowd sz xs => RowOk (VC s Z) w sz xs v
  | .blk sz xs => BlkOk (VC s Z) w sz xs v
  | .mp bare es ck => ∃ b, v = .map (some b) ∧ w.heap[b]? = some (.map (es.map (mEnt bare)).toArray ck)
  | .it m since seen last => ∃ b mb, v = .pointer (some ⟨b, 0, none⟩) ∧ s m = .map (some mb) ∧ w.heap[b]? = some (.mapIter (some mb) since seen.toArray last)

/-! ### The state -/

def eput {α : Type} : List (Nat × α) → Nat → α → List (Nat × α)
  | [], k, d => [(k, d)]
  | (k', d') :: t, k, d => if k' < k then (k, d) :: (k', d') :: t else if k = k' then (k, d) :: t else (k', d') :: eput t k d
def eget : List (Nat × D) → Nat → D
  | [], _ => .any
  | (k', d') :: t, k => if k = k' then d' else eget t k
def hget : List (Nat × Ob) → Nat → Option Ob
  | [], _ => none
  | (k', d') :: t, k => if k = k' then some d' else hget t k
def herase : List (Nat × Ob) → Nat → List (Nat × Ob)
  | [], _ => []
  | (k', d') :: t, k => if k = k' then herase t k else (k', d') :: herase t k

theorem eget_eput (l : List (Nat × D)) (k j : Nat) (d : D) : eget (eput l k d) j = if j = k then d else eget l j := by
  induction l with
  | nil => simp [eput, eget]
  | cons p t ih =>
    obtain ⟨k', d'⟩ := p
    simp only [eput]
    split
    · simp only [eget]
    · split
      · rename_i h1 h2; subst h2; simp only [eget]; split <;> rfl
      · rename_i h1 h2
        simp only [eget, ih]
        by_cases h3 : j = k'
        · subst h3; rw [if_pos rfl, if_neg (fun h => h2 h.symm), if_pos rfl]
        · rw [if_neg h3, if_neg h3]
theorem hget_eput (l : List (Nat × Ob)) (k j : Nat) (d : Ob) : hget (eput l k d) j = if j = k then some d else hget l j := by
  induction l with
  | nil => simp [eput, hget]
  | cons p t ih =>
    obtain ⟨k', d'⟩ := p
    simp only [eput]
    split
    · simp only [hget]
    · split
      · rename_i h1 h2; subst h2; simp only [hget]; split <;> rfl
      · rename_i h1 h2
        simp only [hget, ih]
        by_cases h3 : j = k'
        · subst h3; rw [if_pos rfl, if_neg (fun h => h2 h.symm), if_pos rfl]
        · rw [if_neg h3, if_neg h3]
theorem hget_herase (l : List (Nat × Ob)) (k j : Nat) : hget (herase l k) j = if j = k then none else hget l j := by
  induction l with
  | nil => simp [herase, hget]
  | cons p t ih =>
    obtain ⟨k', d'⟩ := p
    simp only [herase]
    split
    · rename_i h; subst h; rw [ih]; simp only [hget]; split <;> rfl
    · rename_i h
      simp only [hget, ih]
      by_cases h3 : j = k'
      · subst h3; rw [if_pos rfl, if_neg (fun h' => h h'.symm), if_pos rfl]
      · rw [if_neg h3, if_neg h3]

structure St where
  env : List (Nat × D)
  heap : List (Nat × Ob)
  nx : Nat

/-- references are to numbers below n -/
def LtC (n : Nat) : D → Prop
  | .own id => id < n
  | .ptr id _ => id < n
  | .pel id _ _ _ => id < n
  | .sl id _ _ _ _ => id < n
  | .clo _ ids => ∀ id ∈ ids, id < n
  | _ => True
def LtV (n : Nat) : D → Prop
  | .agg ds => ∀ d ∈ ds, LtC n d
  | d => LtC n d
def LtR (n : Nat) : D → Prop
  | .tup ds => ∀ d ∈ ds, LtV n d
  | d => LtV n d
def LtS (n : Nat) : D → Prop
  | .opt g d => g = true → LtR n d
  | d => LtR n d
def LtO (n : Nat) : Ob → Prop
  | .cells ds => ∀ d ∈ ds, LtC n d
  | .row .. => True
  | .rowd _ xs => ∀ row ∈ xs, ∀ d ∈ row, LtC n d
  | .blk _ xs => ∀ row ∈ xs, ∀ d ∈ row, LtC n d
  | .mp .. => True
  | .it m .. => m < n

/-- what was there is as it was, but for the blocks in F -/
structure Fr (F : Nat → Prop) (w w' : World) : Prop where
  os : w'.os = w.os
  tape : w'.tape = w.tape
  output : w'.output = w.output
  size : w.heap.size ≤ w'.heap.size
  block : ∀ k, k < w.heap.size → ¬ F k → w'.heap[k]? = w.heap[k]?

/-- how a function began: its number of slots, the blocks that it may write, the world, the numbers of the memory that it was handed and where that lies, the cells that were known -/
structure Base where
  N : Nat
  F : Nat → Prop
  w0 : World
  n0 : Nat
  sb : Nat → Value
  Zb : Cells
/-- memory is as the state says -/
structure RelH (B : Base) (s : Nat → Value) (Z : Cells) (H : List (Nat × Ob)) (nx : Nat) (w : World) : Prop where
  ob : ∀ id ob, hget H id = some ob → ObOk s Z w ob (s id)
  lt : ∀ id ob, hget H id = some ob → id < nx ∧ LtO nx ob
  apart : ∀ id id' ob ob' b, hget H id = some ob → hget H id' = some ob' → id ≠ id' → blk (s id) = some b → blk (s id') ≠ some b
  zok : ∀ b o v, Z b o = some v → w.cell? ⟨b, o, none⟩ = some v
  zap : ∀ id ob b o, hget H id = some ob → blk (s id) = some b → Z b o = none
  mine : ∀ id ob b, hget H id = some ob → blk (s id) = some b → B.w0.heap.size ≤ b ∨ B.F b
  fr : Fr B.F B.w0 w
  n0 : B.n0 ≤ nx
  bs : ∀ id, id < B.n0 → s id = B.sb id
  bz : ∀ b o v, B.Zb b o = some v → Z b o = some v
  bn : ∀ b o v, Z b o = some v → B.Zb b o = some v ∨ B.w0.heap.size ≤ b ∨ B.F b
structure Rel (B : Base) (s : Nat → Value) (Z : Cells) (st : St) (a : Act) (w : World) : Prop where
  env : ∀ k, VS s Z (eget st.env k) (a.tmps.getD k undef)
  elt : ∀ k, LtS st.nx (eget st.env k)
  size : a.tmps.size = B.N
  defers : a.defers = []
  h : RelH B s Z st.heap st.nx w

/-! ### Operations -/

inductive Opd where
  | t (n : Nat)
  | k (d : D)

/-- kinds of cells that can be compared -/
inductive Kd where
  | i
  | b
  | s

inductive AOp where
  | mov (x : Opd)
  | pick (c x y : Opd)
  | build (z : List D) (ps : List (Nat × Nat × Opd))
  | load (ag : Bool) (n : Nat) (x : Opd)
  | nchk (x : Opd)
  | bin (op : BinOp) (x y : Opd)
  | eqa (ne : Bool) (ks : List Kd) (x y : Opd)
  | eqp (ne : Bool) (x y : Opd)
  | eqb (ne : Bool) (x y : Opd)
  | isnil (ne : Bool) (x : Opd)
  | not (x : Opd)
  | neg (x : Opd)
  | conv (k : IntKind) (x : Opd)
  | fld (ag : Bool) (off n : Nat) (x : Opd)
  | fad (off : Nat) (x : Opd)
  | iada (len sz : Nat) (x i : Opd)
  | iads (sz : Nat) (x i : Opd)
  | ida (ag : Bool) (len sz : Nat) (x i : Opd)
  | ext (x : Opd) (i : Nat)
  | len (x : Opd)
  | cst (n : Nat)
  | mn (x y : Opd)
  | mx (x y : Opd)
  | slc (sz : Nat) (x : Opd) (lo hi mx : Option Opd)
  | mkfn (f : FuncId) (cs : List Opd)
  | alloc (z : List D)
  | box (x : Opd)
  | bslice (sz len : Nat) (z : List D) (ps : List (Nat × Opd))
  | store (n : Nat) (x y : Opd)
  | call (f : FuncId) (args : List Opd)
  | callv (x : Opd) (args : List Opd)
  | app (sz bytes : Nat) (z : List D) (x y : Opd)
  | mks (sz bytes : Nat) (z : List D) (l c : Opd)
  | xop (k : Nat) (ns : List Nat) (xs : List Opd)

structure AO where
  dst : Option Nat
  op : AOp
  guard : Option (Nat × Bool)

def InR (z : Int) : Prop := -9223372036854775808 ≤ z ∧ z ≤ 9223372036854775807
def arith (k : IntKind) (z : Int) : Option (Prop × D) :=
  match k with
  | .i64 => some (InR z, .int .i64 z)
  | k => some (True, .int k (k.wrap z))
def D.cells : D → List D
  | .agg ds => ds
  | .any => []
  | .tup _ => []
  | .opt .. => []
  | d => [d]
def isT : D → Bool
  | .any => false
  | .own _ => false
  | .ptr .. => false
  | .pel .. => false
  | .sl .. => false
  | .clo .. => false
  | .agg _ => false
  | .tup _ => false
  | .opt .. => false
  | _ => true
def deq : Kd → D → D → Option (Prop × Bool)
  | .i, .int k a, .int k' b => some (k = k', decide (a = b))
  | .b, .bool a, .bool b => some (True, decide (a = b))
  | .s, .str a, .str b => some (True, decide (a.data = b.data))
  | _, _, _ => none
def deqs : List Kd → List D → List D → Option (Prop × Bool)
  | [], [], [] => some (True, true)
  | k :: ks, x :: xs, y :: ys => match deq k x y, deqs ks xs ys with
    | some (p, b), some (q, c) => some (p ∧ q, b && c)
    | _, _ => none
  | _, _, _ => none
def fillD : List D → List (Nat × Nat × D) → Option (List D)
  | z, [] => some z
  | z, (off, n, d) :: ps => if d.cells.length = n ∧ 0 < n ∧ off + n ≤ z.length then fillD (z.take off ++ d.cells ++ z.drop (off + n)) ps else none
def ibit (f : (n : Nat) → BitVec n → BitVec n → BitVec n) (k : IntKind) (a b : Int) : Int := k.wrap (f k.bits (BitVec.ofInt k.bits a) (BitVec.ofInt k.bits b)).toNat
def iand := ibit fun _ a b => a &&& b
def ior := ibit fun _ a b => a ||| b
def ixor := ibit fun _ a b => a ^^^ b
def binD (op : BinOp) (x y : D) : Option (Prop × D) :=
  match x, y with
  | .int k a, .int k' b =>
    match op with
    | .shl => match arith k (a * 2 ^ min b.toNat k.bits) with
      | some (p, d) => some (0 ≤ b ∧ p, d)
      | none => none
    | .shr => some (0 ≤ b, .int k (a / 2 ^ min b.toNat k.bits))
    | op => if k = k' then
      match op with
      | .add => arith k (a + b)
      | .sub => arith k (a - b)
      | .mul => arith k (a * b)
      | .quo => match arith k (a / b) with
        | some (p, d) => some ((0 ≤ a ∧ 0 < b) ∧ p, d)
        | none => none
      | .rem => some (0 < b, .int k (if 0 ≤ a then a % b else -(-a % b)))
      | .and => some (True, .int k (iand k a b))
      | .or => some (True, .int k (ior k a b))
      | .xor => some (True, .int k (ixor k a b))
      | .eql => some (True, .bool (decide (a = b)))
      | .neq => some (True, .bool (!decide (a = b)))
      | .lss => some (True, .bool (decide (a < b)))
      | .leq => some (True, .bool (decide (a ≤ b)))
      | .gtr => some (True, .bool (decide (b < a)))
      | .geq => some (True, .bool (decide (b ≤ a)))
      | _ => none
      else none
  | .str a, .str b =>
    match op with
    | .eql => some (True, .bool (a.toList == b.toList))
    | .neq => some (True, .bool (!(a.toList == b.toList)))
    | _ => none
  | _, _ => none
/-- from these cells on: a value -/
def takeD (ag : Bool) (n : Nat) (ds : List D) : Option (Prop × D) :=
  if ag then some (n ≤ ds.length, .agg (ds.take n)) else some (0 < ds.length, ds.headD .any)
def isP : D → Option Bool
  | .nilp => some true
  | .pc _ => some false
  | .ptr .. => some false
  | .pel .. => some false
  | _ => none
def boundD (o : Option Opd) (ev : Opd → D) (dflt : Nat) : Option (Prop × Nat) :=
  match o with
  | none => some (True, dflt)
  | some x => match ev x with
    | .int _ z => some (0 ≤ z, z.toNat)
    | _ => none

/-- variables that a function has captured -/
def ptrIds : List D → Option (List Nat)
  | [] => some []
  | .ptr id 0 :: ds => match ptrIds ds with
    | some l => some (id :: l)
    | none => none
  | _ => none
/-- operations that change nothing -/
def qv (ev : Opd → D) (H : List (Nat × Ob)) : AOp → Option (Prop × D)
  | .mov x => some (True, ev x)
  | .build z ps => match fillD z (ps.map fun p => (p.1, p.2.1, ev p.2.2)) with
    | some ds => some (True, .agg ds)
    | none => none
  | .load ag n x => match ev x with
    | .pc ds => takeD ag n ds
    | .ptr id j => match hget H id with
      | some (.cells ds) => takeD ag n (ds.drop j)
      | _ => none
    | .pel id i sz j => match hget H id with
      | some (.row sz' xs) => match takeD ag n ((xs.getD i []).drop j) with
        | some (p, d) => some ((sz = sz' ∧ i < xs.length) ∧ p, d)
        | none => none
      | some (.rowd sz' xs) => match takeD ag n ((xs.getD i []).drop j) with
        | some (p, d) => some ((sz = sz' ∧ i < xs.length) ∧ p, d)
        | none => none
      | _ => none
    | _ => none
  | .nchk x => match ev x with
    | .pc ds => some (True, .pc ds)
    | .ptr id j => some (True, .ptr id j)
    | .pel id i sz j => some (True, .pel id i sz j)
    | .fn f cs => some (True, .fn f cs)
    | _ => none
  | .bin op x y => binD op (ev x) (ev y)
  | .eqa ne ks x y => match ev x, ev y with
    | .agg cs, .agg bs => match deqs ks cs bs with
      | some (p, b) => some (p, .bool (if ne then !b else b))
      | none => none
    | _, _ => none
  | .eqp ne x y => match isP (ev x), isP (ev y) with
    | some a, some b => some ((a || b) = true, .bool (if ne then !(a && b) else a && b))
    | _, _ => none
  | .eqb ne x y => match ev x, ev y with
    | .bool a, .bool b => some (True, .bool (if ne then !decide (a = b) else decide (a = b)))
    | _, _ => none
  | .not x => match ev x with
    | .bool b => some (True, .bool (!b))
    | _ => none
  | .neg x => match ev x with
    | .int k z => arith k (-z)
    | _ => none
  | .conv k x => match ev x with
    | .int _ z => arith k z
    | _ => none
  | .fld ag off n x => match ev x with
    | .agg ds => takeD ag n (ds.drop off)
    | _ => none
  | .fad off x => match ev x with
    | .pc ds => some (True, .pc (ds.drop off))
    | .ptr id j => some (True, .ptr id (j + off))
    | .pel id i sz j => some (True, .pel id i sz (j + off))
    | _ => none
  | .iada len sz x i => match ev i with
    | .int _ z => match ev x with
      | .pc ds => some (0 ≤ z ∧ z < len, .pc (ds.drop (z.toNat * sz)))
      | .ptr id j => some (0 ≤ z ∧ z < len, .ptr id (j + z.toNat * sz))
      | .pel id i sz' j => some (0 ≤ z ∧ z < len, .pel id i sz' (j + z.toNat * sz))
      | _ => none
    | _ => none
  | .iads sz x i => match ev i with
    | .int _ z => match ev x with
      | .rows sz' xs => some (sz = sz' ∧ 0 ≤ z ∧ z < xs.length, .pc (xs.getD z.toNat []))
      | .own id => match hget H id with
        | some (.row sz' xs) => some (sz = sz' ∧ 0 ≤ z ∧ z < xs.length, .pel id z.toNat sz 0)
        | some (.rowd sz' xs) => some (sz = sz' ∧ 0 ≤ z ∧ z < xs.length, .pel id z.toNat sz 0)
        | _ => none
      | _ => none
    | _ => none
  | .ida ag len sz x i => match ev i with
    | .int _ z => match ev x with
      | .agg ds => match takeD ag sz (ds.drop (z.toNat * sz)) with
        | some (p, d) => some ((0 ≤ z ∧ z < len) ∧ p, d)
        | none => none
      | _ => none
    | _ => none
  | .ext x i => match ev x with
    | .tup ds => some (i < ds.length, ds.getD i .any)
    | _ => none
  | .len x => match ev x with
    | .rows _ xs => some (True, .int .i64 xs.length)
    | .nil0 => some (True, .int .i64 0)
    | .sl _ _ _ n _ => some (True, .int .i64 n)
    | .own id => match hget H id with
      | some (.row _ xs) => some (True, .int .i64 xs.length)
      | some (.rowd _ xs) => some (True, .int .i64 xs.length)
      | _ => none
    | _ => none
  | .cst n => some (True, .int .i64 n)
  | .mn x y => match ev x, ev y with
    | .int k a, .int _ b => some (True, .int k (if b < a then b else a))
    | _, _ => none
  | .mx x y => match ev x, ev y with
    | .int k a, .int _ b => some (True, .int k (if a < b then b else a))
    | _, _ => none
  | .slc sz x lo hi mx => match ev x with
    | .rows sz' xs =>
      match boundD mx ev xs.length, boundD lo ev 0, boundD hi ev xs.length with
      | some (p, m), some (q, l), some (r, h) =>
        if mx.isSome && m == 0 then some ((p ∧ q ∧ r) ∧ h = 0 ∧ l = 0, .nil0)
        else some ((p ∧ q ∧ r) ∧ sz = sz' ∧ l ≤ h ∧ h ≤ m ∧ m ≤ xs.length, .rows sz ((xs.take h).drop l))
      | _, _, _ => none
    | .own id => match hget H id with
      | some (.row sz' xs) =>
        match boundD mx ev xs.length, boundD lo ev 0, boundD hi ev xs.length with
        | some (p, m), some (q, l), some (r, h) => some ((p ∧ q ∧ r) ∧ l ≤ h ∧ h ≤ m ∧ m ≤ xs.length, .any)
        | _, _, _ => none
      | _ => none
    | .sl id sz' off len cap =>
      match boundD mx ev cap, boundD lo ev 0, boundD hi ev len with
      | some (p, m), some (q, l), some (r, h) => some ((p ∧ q ∧ r) ∧ sz = sz' ∧ l ≤ h ∧ h ≤ m ∧ m ≤ cap, .sl id sz (off + l) (h - l) (m - l))
      | _, _, _ => none
    | _ => none
  | .mkfn f cs => let ds := cs.map ev; if ds.all isT then some (True, .fn f ds) else match ptrIds ds with
    | some ids => some (True, .clo f ids)
    | none => none
  | _ => none
end Go.Proofs.Ytajimebannjofaa

set_option linter.unusedSimpArgs false
set_option linter.unusedVariables false
namespace Go.Proofs.Ytajimebannjofaa
open Go.RowKit

def cellD : Value → Option D
  | .int k z => some (.int k z)
  | .bool b => some (.bool b)
  | .string x => some (.str x)
  | .pointer none => some .nilp
  | .slice none 0 0 => some .nil0
  | .func (.func f) l r => if l.size = 0 ∧ r.size = 0 then some (.fn f []) else none
  | _ => none
def cellsD : List Value → Option (List D)
  | [] => some []
  | v :: vs => match cellD v, cellsD vs with
    | some d, some ds => some (d :: ds)
    | _, _ => none
def valD : Value → Option D
  | .agg cs => (cellsD cs.toList).map .agg
  | v => cellD v
def opdC : Operand → Option Opd
  | .tmp t => some (.t t)
  | .const v => (valD v).map .k
  | .func f => some (.k (.fn f []))
  | .global _ => none
def opdsC : List Operand → Option (List Opd)
  | [] => some []
  | x :: xs => match opdC x, opdsC xs with
    | some y, some ys => some (y :: ys)
    | _, _ => none
def szT (P : Program) (t : TypeId) : Option Nat := (P.info? t).map (·.size)
def agT (P : Program) (t : TypeId) : Option Bool := (P.underlying t).map fun d => match d with | .struct _ => true | .array _ _ => true | _ => false
def zeroT (P : Program) (t : TypeId) : Option (List D) :=
  match P.info? t with
  | some i => match i.zero with
    | some z => if z.cells.size = i.size then cellsD z.cells.toList else none
    | none => none
  | none => none
/-- where part number i of a struct or an array lies -/
def placeT (P : Program) (t : TypeId) (i : Nat) : Option (Nat × Nat) :=
  match P.underlying t with
  | some (.struct fs) => if fs.toList.all fun f => (szT P f.type).isSome then match fs[i]? with
    | some f => (szT P f.type).map fun n => (f.offset, n)
    | none => none
    else none
  | some (.array _ e) => (szT P e).map fun n => (i * n, n)
  | _ => none
def partsC (P : Program) (t : TypeId) : List (Nat × Operand) → Option (List (Nat × Nat × Opd))
  | [] => some []
  | (i, x) :: ps => match placeT P t i, opdC x, partsC P t ps with
    | some (o, n), some y, some ys => some ((o, n, y) :: ys)
    | _, _, _ => none
def bpartsC : List (Nat × Operand) → Option (List (Nat × Opd))
  | [] => some []
  | (i, x) :: ps => match opdC x, bpartsC ps with
    | some y, some ys => some ((i, y) :: ys)
    | _, _ => none
def kindsF (P : Program) (K : TypeId → Option (List Kd)) : Nat → List Field → Option (List Kd)
  | _, [] => some []
  | off, f :: fs => if f.name ≠ "_" ∧ f.offset = off then match K f.type, agT P f.type, szT P f.type with
    | some ks, some _, some n => if ks.length = n then (kindsF P K (off + n) fs).map (ks ++ ·) else none
    | _, _, _ => none
    else none
/-- a struct of numbers, truth values and strings, cell by cell -/
def kindsT (P : Program) : Nat → TypeId → Option (List Kd)
  | 0, _ => none
  | d + 1, t => match P.underlying t with
    | some (.int _) => some [.i]
    | some .bool => some [.b]
    | some .string => some [.s]
    | some (.struct fs) => if P.stoodInHeld t then none else kindsF P (kindsT P d) 0 fs.toList
    | _ => none
def optC : Option Operand → Option (Option Opd)
  | none => some none
  | some x => (opdC x).map some
def eqC (P : Program) (t : TypeId) (ne : Bool) (x y : Opd) : Option AOp :=
  match P.underlying t with
  | some (.int _) => some (.bin (if ne then .neq else .eql) x y)
  | some .string => some (.bin (if ne then .neq else .eql) x y)
  | some .bool => some (.eqb ne x y)
  | some (.pointer e) => if 0 < P.cellsOf e then some (.eqp ne x y) else none
  | some (.slice _) => match y with
    | .k .nil0 => some (.isnil ne x)
    | _ => none
  | some (.struct _) => if P.eqGuardType P.depth t then none else (kindsT P 9 t).map fun ks => .eqa ne ks x y
  | _ => none
def sliceT (P : Program) (t : TypeId) : Option TypeId :=
  match P.underlying t with
  | some (.slice e) => some e
  | _ => none
def buildT (P : Program) (t : TypeId) : Bool :=
  match P.underlying t with
  | some (.struct fs) => fs.toList.all fun f => (szT P f.type).isSome
  | some (.array _ e) => (szT P e).isSome
  | _ => false
def cop (P : Program) (o : Op) : Option AOp :=
  match o with
  | .move x => (opdC x).map .mov
  | .assign x => (opdC x).map .mov
  | .pick c a b => match opdC c, opdC a, opdC b with
    | some c, some a, some b => some (.pick c a b)
    | _, _, _ => none
  | .alloc t => (zeroT P t).map .alloc
  | .box _ x => (opdC x).map .box
  | .build t ps => match zeroT P t, partsC P t ps.toList with
    | some z, some ps => if buildT P t then some (.build z ps) else none
    | _, _ => none
  | .buildSlice t len ps => match sliceT P t with
    | some e => match szT P e, zeroT P e, bpartsC ps.toList with
      | some n, some z, some ps => if 0 < n ∧ len * n ≤ 16777216 then some (.bslice n len z ps) else none
      | _, _, _ => none
    | none => none
  | .load t x => match agT P t, szT P t, opdC x with
    | some a, some n, some x => some (.load a n x)
    | _, _, _ => none
  | .store t x y => match szT P t, opdC x, opdC y with
    | some n, some x, some y => some (.store n x y)
    | _, _, _ => none
  | .nilCheck x => (opdC x).map .nchk
  | .binOp op t x y _ => match opdC x, opdC y with
    | some x, some y => match op with
      | .eql => eqC P t false x y
      | .neq => eqC P t true x y
      | op => some (.bin op x y)
    | _, _ => none
  | .unOp op _ x => match op with
    | .not => (opdC x).map .not
    | .neg => (opdC x).map .neg
    | _ => none
  | .convert u t x => match P.underlying t, P.underlying u with
    | some (.int k), some _ => (opdC x).map (.conv k)
    | _, _ => none
  | .makeFunc (.func f) l cs => if l.size = 0 then (opdsC cs.toList).map (.mkfn f) else none
  | .makeSlice t l c => match sliceT P t with
    | some e => match P.info? e, zeroT P e, opdC l, opdC c with
      | some i, some z, some l, some c => if 0 < i.size then some (.mks i.size i.bytes z l c) else none
      | _, _, _, _ => none
    | none => none
  | .slice t x lo hi mx => match sliceT P t with
    | some e => match szT P e, opdC x, optC lo, optC hi, optC mx with
      | some n, some x, some lo, some hi, some mx => if mx.isSome && !hi.isSome then none else some (.slc n x lo hi mx)
      | _, _, _, _, _ => none
    | none => none
  | .fieldAddr t x i => match P.underlying t with
    | some (.struct fs) => match fs[i]? with
      | some f => match szT P f.type, opdC x with
        | some n, some x => if 0 < n then some (.fad f.offset x) else none
        | _, _ => none
      | none => none
    | _ => none
  | .field t x i => match P.underlying t with
    | some (.struct fs) => match fs[i]? with
      | some f => match agT P f.type, szT P f.type, opdC x with
        | some a, some n, some x => some (.fld a f.offset n x)
        | _, _, _ => none
      | none => none
    | _ => none
  | .indexAddr t x i => match P.underlying t, opdC x, opdC i with
    | some (.slice e), some x, some i => (szT P e).map fun n => .iads n x i
    | some (.array len e), some x, some i => (szT P e).map fun n => .iada len n x i
    | _, _, _ => none
  | .index t x i => match P.underlying t, opdC x, opdC i with
    | some (.array len e), some x, some i => match agT P e, szT P e with
      | some a, some n => some (.ida a len n x i)
      | _, _ => none
    | _, _, _ => none
  | .extract x i => (opdC x).map fun x => .ext x i
  | .call c => match c.callee with
    | .value f => match f, opdsC c.args.toList with
      | .func f, some as_ => some (.call f as_)
      | .tmp t, some as_ => some (.callv (.t t) as_)
      | _, _ => none
    | .builtin b => match b, opdsC c.args.toList, c.argTypes.toList with
      | .len, some [x], [t] => match P.underlying t with
        | some (.slice _) => some (.len x)
        | some (.array n _) => some (.cst n)
        | some (.pointer a) => match P.underlying a with
          | some (.array n _) => some (.cst n)
          | _ => none
        | _ => none
      | .min, some [x, y], _ => some (.mn x y)
      | .max, some [x, y], _ => some (.mx x y)
      | .append, some [x, y], [t, t'] => if t = t' then match sliceT P t with
        | some e => match P.info? e, zeroT P e with
          | some i, some z => if 0 < i.size then some (.app i.size i.bytes z x y) else none
          | _, _ => none
        | none => none
        else none
      | _, _, _ => none
    | _ => none
  | _ => none

def dstOk (N : Nat) : Option Nat → Bool
  | some d => decide (d < N)
  | none => true
/-- keys: a number, or a struct of so many -/
def mapK (P : Program) (t : TypeId) : Option Nat :=
  if t < P.types.size then
    match P.underlying t with
    | some (.int .i64) => some 0
    | some (.struct _) => match kindsT P 9 t with
      | some ks => if ks.all (fun k => match k with | .i => true | _ => false) && 0 < ks.length then some ks.length else none
      | none => none
    | _ => none
  else none
/-- operations of other kinds: each has its own rule -/
def xcop (P : Program) (o : Op) : Option AOp :=
  match o with
  | .makeMap t none => match P.underlying t with
    | some (.map k _) => (mapK P k).map fun n => .xop 0 [n] []
    | _ => none
  | .mapUpdate t m k v => match P.underlying t, opdC m, opdC k, opdC v with
    | some (.map kt _), some m, some k, some v => (mapK P kt).map fun n => .xop 1 [n] [m, k, v]
    | _, _, _, _ => none
  | .range t x => match P.underlying t, opdC x with
    | some (.map kt _), some x => (mapK P kt).map fun n => .xop 4 [n] [x]
    | _, _ => none
  | .convert u t x => match P.underlying u, P.underlying t with
    | some (.slice e), some .string => match P.underlying e with
      | some (.int .u8) => (opdC x).map fun x => .xop 7 [] [x]
      | _ => none
    | _, _ => none
  | .next x false => (opdC x).map fun x => .xop 5 [] [x]
  | .entry x => (opdC x).map fun x => .xop 6 [] [x]
  | .call c => match c.callee with
    | .builtin .delete => match opdsC c.args.toList, c.argTypes.toList with
      | some [m, k], [t, _] => match P.underlying t with
        | some (.map kt _) => (mapK P kt).map fun n => .xop 2 [n] [m, k]
        | _ => none
      | _, _ => none
    | .builtin .len => match opdsC c.args.toList, c.argTypes.toList with
      | some [m], [t] => match P.underlying t with
        | some (.map kt _) => (mapK P kt).map fun n => .xop 3 [n] [m]
        | _ => none
      | _, _ => none
    | .builtin .cap => match opdsC c.args.toList, c.argTypes.toList with
      | some [x], [t] => (sliceT P t).map fun _ => .xop 8 [] [x]
      | _, _ => none
    | .builtin .copy => match opdsC c.args.toList, c.argTypes.toList with
      | some [x, y], [t, _] => match sliceT P t with
        | some e => (szT P e).map fun n => .xop 9 [n] [x, y]
        | none => none
      | _, _ => none
    | .builtin .clear => match opdsC c.args.toList, c.argTypes.toList with
      | some [x], [t] => match sliceT P t with
        | some e => match szT P e, zeroT P e with
          | some n, some _ => some (.xop 10 [n] [x])
          | _, _ => none
        | none => none
      | _, _ => none
    | .builtin .append => match opdsC c.args.toList, c.argTypes.toList with
      | some [x, y], [t, t'] => match P.underlying t', sliceT P t with
        | some (.int .i64), some e => match P.info? e, zeroT P e with
          | some i, some _ => some (.xop 11 [i.size, i.bytes] [x, y])
          | _, _ => none
        | _, _ => none
      | _, _ => none
    | _ => none
  | _ => none
def copX (P : Program) (o : Op) : Option AOp :=
  match xcop P o with
  | some x => some x
  | none => cop P o
def coper (P : Program) (N : Nat) (ops : Array Oper) (o : Oper) : Option AO :=
  if dstOk N o.dst then
    match copX P o.op with
    | some op => match o.guard with
      | none => some ⟨o.dst, op, none⟩
      | some (j, b) => match (ops[j]?).bind (·.dst) with
        | some t => some ⟨o.dst, op, some (t, b)⟩
        | none => none
    | none => none
  else none
def copers (P : Program) (N : Nat) (ops : Array Oper) : List Oper → Option (List AO)
  | [] => some []
  | o :: os => match coper P N ops o, copers P N ops os with
    | some a, some r => some (a :: r)
    | _, _ => none

end Go.Proofs.Ytajimebannjofaa

set_option linter.unusedSimpArgs false
set_option linter.unusedVariables false
namespace Go.Proofs.Ytajimebannjofaa
open Go.RowKit

theorem VT.one {Z : Cells} {d : D} {v : Value} (h : VT Z d v) : v.oneCell' = true := by cases h <;> first | rfl | assumption
theorem VC.one {s : Nat → Value} {Z : Cells} {d : D} {v : Value} (h : VC s Z d v) : v.oneCell' = true := by
  cases d <;> first | exact VT.one h | (obtain ⟨_, ⟨_, _, _, rfl⟩ | ⟨_, rfl⟩⟩ := h <;> rfl) | (obtain ⟨_, _, _, _, _, rfl, _⟩ := h; rfl) | (obtain ⟨_, rfl, _, _⟩ := h; rfl) | (obtain ⟨_, _, _, _, rfl⟩ := h; rfl) | (obtain ⟨_, _, rfl⟩ := h; rfl) | (obtain ⟨_, _, _, _, rfl⟩ := h; rfl)
theorem VC.of_vt {s : Nat → Value} {Z : Cells} {d : D} {v : Value} (h : VT Z d v) : VC s Z d v := by
  cases d <;> first | exact h | (cases h; done)
theorem VV.of_vc {s : Nat → Value} {Z : Cells} {d : D} {v : Value} (h : VC s Z d v) : VV s Z d v := by
  cases d <;> first | exact h | (cases h; done)
theorem VR.of_vv {s : Nat → Value} {Z : Cells} {d : D} {v : Value} (h : VV s Z d v) : VR s Z d v := by
  cases d <;> first | exact h | trivial | (cases h; done)
theorem VR.of_vc {s : Nat → Value} {Z : Cells} {d : D} {v : Value} (h : VC s Z d v) : VR s Z d v := VR.of_vv (VV.of_vc h)
theorem VC.vt {s : Nat → Value} {Z : Cells} {d : D} {v : Value} (h : VC s Z d v) (hd : isT d = true) : VT Z d v := by
  cases d <;> first | exact h | (cases hd; done)
theorem VR.vt {s : Nat → Value} {Z : Cells} {d : D} {v : Value} (h : VR s Z d v) (hd : isT d = true) (hn : d ≠ .any) : VT Z d v := by
  cases d <;> first | exact h | (cases hd; done) | exact absurd rfl hn

/-- the value of each is known -/
structure Know (s : Nat → Value) (Z : Cells) (H : List (Nat × Ob)) (w : World) : Prop where
  ob : ∀ id ob, hget H id = some ob → ObOk s Z w ob (s id)
  zok : ∀ b o v, Z b o = some v → w.cell? ⟨b, o, none⟩ = some v
/-- what could be read can be read -/
def More (w w' : World) : Prop := ∀ a v, w.cell? a = some v → w'.cell? a = some v
theorem More.refl (w : World) : More w w := fun _ _ h => h
theorem More.below {w w' : World} (h : Below w.heap.size w w') : More w w' := fun a v hv => by
  rw [h.cell (World.block_lt_of_cell? w a hv)]; exact hv

/-- from address v on these cells can be read -/
def Reads (s : Nat → Value) (Z : Cells) (w : World) (v : Value) (ds : List D) : Prop :=
  ∃ b o, v = .pointer (some ⟨b, o, none⟩) ∧ ∀ j d, ds[j]? = some d → ∃ u, w.cell? ⟨b, o + j, none⟩ = some u ∧ VC s Z d u
theorem Reads.drop {s : Nat → Value} {Z : Cells} {w : World} {b o : Nat} {ds : List D} (h : Reads s Z w (.pointer (some ⟨b, o, none⟩)) ds) (n : Nat) : Reads s Z w (.pointer (some ⟨b, o + n, none⟩)) (ds.drop n) := by
  obtain ⟨b', o', he, h⟩ := h
  injection he with he; injection he with he; injection he with h1 h2
  subst h1 h2
  refine ⟨b, o + n, rfl, fun j d hd => ?_⟩
  rw [List.getElem?_drop] at hd
  rw [Nat.add_assoc]
  exact h (n + j) d hd

theorem choose_cells {s : Nat → Value} {Z : Cells} {w : World} {b o : Nat} (ds : List D) (h : ∀ j d, ds[j]? = some d → ∃ u, w.cell? ⟨b, o + j, none⟩ = some u ∧ VC s Z d u) :
    ∃ vs : List Value, vs.length = ds.length ∧ w.rangeAt b o vs ∧ ∀ j d, ds[j]? = some d → VC s Z d (vs.getD j undef) := by
  induction ds generalizing o with
  | nil => exact ⟨[], rfl, fun j v hv => by simp at hv, fun j d hd => by simp at hd⟩
  | cons d ds ih =>
    obtain ⟨u, h1, h2⟩ := h 0 d rfl
    obtain ⟨vs, h3, h4, h5⟩ := ih (o := o + 1) fun j d hd => by
      have := h (j + 1) d (by simpa using hd)
      rwa [show o + (j + 1) = o + 1 + j by omega] at this
    refine ⟨u :: vs, by simp [h3], fun j v hv => ?_, fun j d' hd => ?_⟩
    · cases j with
      | zero => simp at hv; subst hv; exact h1
      | succ j => have := h4 j v (by simpa using hv); rwa [show o + (j + 1) = o + 1 + j by omega]
    · cases j with
      | zero => simp at hd; subst hd; simpa using h2
      | succ j => have := h5 j d' (by simpa using hd); simpa using this

theorem agT_some {P : Program} {t : TypeId} {a : Bool} (h : agT P t = some a) : ∃ d, P.underlying t = some d ∧ (d.isRow = a) := by
  unfold agT at h
  cases hu : P.underlying t with
  | none => rw [hu] at h; cases h
  | some d =>
    rw [hu] at h
    simp only [Option.map_some, Option.some.injEq] at h
    refine ⟨d, rfl, ?_⟩
    rw [← h]
    cases d <;> rfl
theorem run_isAgg' {P : Program} {t : TypeId} {d : TypeDesc} (h : P.underlying t = some d) (w : World) : (isAgg t).run P w = .ok d.isRow w := by
  unfold isAgg
  rw [Sem.run_bind, run_underlying h w]
  cases d <;> simp
theorem run_sizeOf' {P : Program} {t : TypeId} {n : Nat} (h : szT P t = some n) (w : World) : (sizeOf t).run P w = .ok n w := by
  unfold szT at h
  cases hi : P.info? t with
  | none => rw [hi] at h; cases h
  | some i =>
    rw [hi] at h
    simp only [Option.map_some, Option.some.injEq] at h
    simp [sizeOf, typeInfo, hi, h]

theorem load_sound {P : Program} {s : Nat → Value} {Z : Cells} {w : World} {t : TypeId} {ag : Bool} {n : Nat} {v : Value} {ds : List D} {p : Prop} {d : D}
    (h1 : agT P t = some ag) (h2 : szT P t = some n) (hr : Reads s Z w v ds) (ht : takeD ag n ds = some (p, d)) (hp : p) :
    ∃ u, VR s Z d u ∧ ∀ w', More w w' → (Instr.loadAt t v).run P w' = .ok u w' := by
  obtain ⟨b, o, rfl, hc⟩ := hr
  obtain ⟨td, hu, hrow⟩ := agT_some h1
  unfold takeD at ht
  cases ag with
  | true =>
    simp only [if_true, Option.some.injEq, Prod.mk.injEq] at ht
    obtain ⟨rfl, rfl⟩ := ht
    obtain ⟨vs, h3, h4, h5⟩ := choose_cells (s := s) (Z := Z) (w := w) (b := b) (o := o) (ds.take n) fun j d hd => hc j d (by
      rw [List.getElem?_take] at hd; split at hd
      · exact hd
      · cases hd)
    have hl : vs.length = n := by rw [h3, List.length_take]; omega
    refine ⟨.agg vs.toArray, ⟨vs.toArray, rfl, by simp [h3], fun j x hx => ?_⟩, fun w' hm => ?_⟩
    · have := h5 j x hx
      simpa using this
    · exact run_loadAt_mid w' b o t vs td (fun j v hv => hm _ _ (h4 j v hv)) hu hrow (by unfold szT at h2; rw [h2, hl])
  | false =>
    simp only [Bool.false_eq_true, if_false, Option.some.injEq, Prod.mk.injEq] at ht
    obtain ⟨rfl, rfl⟩ := ht
    cases ds with
    | nil => simp at hp
    | cons x ds =>
      obtain ⟨u, h3, h4⟩ := hc 0 x rfl
      refine ⟨u, VR.of_vc h4, fun w' hm => ?_⟩
      have h5 := hm _ _ h3
      rw [Nat.add_zero] at h5
      simp only [Instr.loadAt, Instr.sureAddr, loadVar, Sem.run_bind, Sem.run_pure, Result.andThen_ok, run_isAgg' hu, hrow, Bool.false_eq_true, if_false, run_load, h5]

theorem RowOk.reads {s : Nat → Value} {Z : Cells} {R : D → Value → Prop} (hR : ∀ d v, R d v → VC s Z d v) {w : World} {sz : Nat} {xs : List (List D)} {b n c : Nat} (h : RowOk R w sz xs (.slice (some ⟨b, 0, none⟩) n c)) {i : Nat} (hi : i < xs.length) :
    Reads s Z w (.pointer (some ⟨b, i * sz, none⟩)) (xs.getD i []) := by
  obtain ⟨hsz, hrow, h⟩ := h
  rcases h with ⟨rfl, _⟩ | ⟨g, cap, cur, e, hv, hg, hcap, hm, hs, hc⟩
  · simp at hi
  · injection hv with h1 h2 h3
    injection h1 with h1; injection h1 with h1; subst h1
    refine ⟨b, i * sz, rfl, fun j d hd => ?_⟩
    have hx : xs[i]? = some xs[i] := List.getElem?_eq_getElem hi
    rw [List.getD_eq_getElem?_getD, hx, Option.getD_some] at hd
    have hj : j < sz := by
      have h4 := (List.getElem?_eq_some_iff.1 hd).1
      rwa [hrow _ (List.getElem_mem hi)] at h4
    have hlt : i * sz + j < cur.size := by
      rw [hs]
      have : (i + 1) * sz ≤ cap * sz := Nat.mul_le_mul_right _ (by omega)
      rw [Nat.add_mul] at this; omega
    refine ⟨cur.getD (i * sz + j) undef, ?_, hR _ _ (hc i _ j d hx hd)⟩
    rw [cell_of_row w b _ cur e (0, 0) hg]
    simp [hlt]

/-- what a pointer reads -/
theorem reads_of {s : Nat → Value} {Z : Cells} {H : List (Nat × Ob)} {w : World} (hk : Know s Z H w) {d : D} {v : Value} (hv : VR s Z d v) {ag : Bool} {n : Nat} {x : Opd} {ev : Opd → D} (hx : ev x = d) {p : Prop} {r : D}
    (hq : qv ev H (.load ag n x) = some (p, r)) (hp : p) : ∃ ds p', Reads s Z w v ds ∧ takeD ag n ds = some (p', r) ∧ p' := by
  simp only [qv, hx] at hq
  cases d with
  | pc ds =>
    cases hv with
    | pc _ b o c h1 h2 => exact ⟨ds, p, ⟨b, o, rfl, fun j d hd => ⟨c j, hk.zok _ _ _ (h1 j d hd), VC.of_vt (h2 j d hd)⟩⟩, hq, hp⟩
  | ptr id j =>
    obtain ⟨b, hs, rfl⟩ := hv
    simp only at hq
    split at hq
    · rename_i ds hds
      obtain ⟨b', T, cs, hs', hg, hsz, hc⟩ := hk.ob _ _ hds
      rw [hs] at hs'
      injection hs' with h1; injection h1 with h1; injection h1 with h1 _; subst h1
      have : Reads s Z w (.pointer (some ⟨b, 0, none⟩)) ds := ⟨b, 0, rfl, fun j d hd => ⟨cs.getD j undef, by
        have hlt : j < cs.size := by rw [hsz]; exact (List.getElem?_eq_some_iff.1 hd).1
        rw [Nat.zero_add, cell_of_row w b j cs T (0, 0) hg]; simp [hlt], hc j d hd⟩⟩
      have := this.drop j
      rw [Nat.zero_add] at this
      exact ⟨_, p, this, hq, hp⟩
    · cases hq
  | pel id i sz j =>
    obtain ⟨b, m, c, hs, rfl⟩ := hv
    simp only at hq
    split at hq
    · rename_i sz' xs hds
      split at hq
      · rename_i p' d' ht
        simp only [Option.some.injEq, Prod.mk.injEq] at hq
        obtain ⟨rfl, rfl⟩ := hq
        obtain ⟨⟨rfl, hi⟩, hp'⟩ := hp
        have ho := hk.ob _ _ hds
        simp only [ObOk, hs] at ho
        exact ⟨_, p', (RowOk.reads (s := s) (Z := Z) (fun _ _ => VC.of_vt) ho hi).drop j, ht, hp'⟩
      · cases hq
    · rename_i sz' xs hds
      split at hq
      · rename_i p' d' ht
        simp only [Option.some.injEq, Prod.mk.injEq] at hq
        obtain ⟨rfl, rfl⟩ := hq
        obtain ⟨⟨rfl, hi⟩, hp'⟩ := hp
        have ho := hk.ob _ _ hds
        simp only [ObOk, hs] at ho
        exact ⟨_, p', (RowOk.reads (s := s) (Z := Z) (fun _ _ h => h) ho hi).drop j, ht, hp'⟩
      · cases hq
    · cases hq
  | _ => cases hq
end Go.Proofs.Ytajimebannjofaa

set_option linter.unusedSimpArgs false
set_option linter.unusedVariables false
namespace Go.Proofs.Ytajimebannjofaa
open Go.RowKit

/-- it reads memory -/
def isLd : Op → Bool
  | .load .. => true
  | _ => false
/-- a world in which an operation hands back the same -/
def Ok4 (w : World) (o : Oper) (w' : World) : Prop := More w w' ∨ isLd o.op = false
/-- one operation that changes nothing computes d -/
def Does (P : Program) (s : Nat → Value) (Z : Cells) (w : World) (ρ : Operand → Value) (o : Oper) (d : D) : Prop :=
  ∃ u, VR s Z d u ∧ ∀ w', Ok4 w o w' → (execOp ρ o).run P w' = .ok (.value u) w'
section
variable {P : Program} {s : Nat → Value} {Z : Cells} {H : List (Nat × Ob)} {w : World} {ρ : Operand → Value} {ev : Opd → D} {o : Oper}

theorem VR.int_inv {k : IntKind} {z : Int} {v : Value} (h : VR s Z (.int k z) v) : v = .int k z := by cases h; rfl
theorem VR.bool_inv {b : Bool} {v : Value} (h : VR s Z (.bool b) v) : v = .bool b := by cases h; rfl
theorem VR.str_inv {b : ByteArray} {v : Value} (h : VR s Z (.str b) v) : v = .string b := by cases h; rfl
theorem VR.agg_inv {ds : List D} {v : Value} (h : VR s Z (.agg ds) v) : ∃ vs : Array Value, v = .agg vs ∧ vs.size = ds.length ∧ ∀ j x, ds[j]? = some x → VC s Z x (vs.getD j undef) := h
theorem VR.tup_inv {ds : List D} {v : Value} (h : VR s Z (.tup ds) v) : ∃ vs : Array Value, v = .tuple vs ∧ vs.size = ds.length ∧ ∀ j x, ds[j]? = some x → VV s Z x (vs.getD j undef) := h
theorem VR.int_mk (k : IntKind) (z : Int) : VR s Z (.int k z) (.int k z) := VT.int k z
theorem VR.bool_mk (b : Bool) : VR s Z (.bool b) (.bool b) := VT.bool b
theorem does_of {d : D} (u : Value) (h : VR s Z d u) (hr : ∀ w', Ok4 w o w' → (execOp ρ o).run P w' = .ok (.value u) w') : Does P s Z w ρ o d := ⟨u, h, hr⟩

theorem does_mov {x : Operand} (ho : o.op = .move x ∨ o.op = .assign x) {d : D} (h : VR s Z d (ρ x)) : Does P s Z w ρ o d :=
  ⟨_, h, fun w' _ => by unfold execOp; rcases ho with ho | ho <;> rw [ho] <;> rfl⟩

theorem does_load {t : TypeId} {x : Operand} (ho : o.op = .load t x) {ag : Bool} {n : Nat} {y : Opd} (h1 : agT P t = some ag) (h2 : szT P t = some n) (hk : Know s Z H w) (hx : VR s Z (ev y) (ρ x)) {p : Prop} {d : D}
    (hq : qv ev H (.load ag n y) = some (p, d)) (hp : p) : Does P s Z w ρ o d := by
  obtain ⟨ds, p', hr, ht, hp'⟩ := reads_of hk hx rfl hq hp
  obtain ⟨u, hu, hrun⟩ := load_sound h1 h2 hr ht hp'
  exact ⟨u, hu, fun w' hm => by
    have hm : More w w' := hm.elim id (fun h => by rw [ho] at h; cases h)
    unfold execOp; rw [ho]; simp only [Sem.run_bind, hrun w' hm, Result.andThen_ok, Sem.run_pure]⟩

theorem does_nchk {x : Operand} (ho : o.op = .nilCheck x) {y : Opd} (hx : VR s Z (ev y) (ρ x)) {p : Prop} {d : D} (hq : qv ev H (.nchk y) = some (p, d)) : Does P s Z w ρ o d := by
  simp only [qv] at hq
  generalize ev y = e at *
  generalize hρ : ρ x = v at *
  cases e <;> simp only [Option.some.injEq, Prod.mk.injEq, reduceCtorEq] at hq
  all_goals
    obtain ⟨_, rfl⟩ := hq
    refine ⟨v, hx, fun w' _ => ?_⟩
    unfold execOp; rw [ho]
  · cases hx with | pc _ b off c _ _ => simp only [hρ, Sem.run_pure]
  · cases hx with | fn _ _ vs _ _ => simp only [hρ, Sem.run_pure]
  · obtain ⟨b, _, rfl⟩ := hx; simp only [hρ, Sem.run_pure]
  · obtain ⟨b, _, _, _, rfl⟩ := hx; simp only [hρ, Sem.run_pure]

theorem wrap_in {z : Int} (h : InR z) : IntKind.i64.wrap z = z := IntWalk.i64_in _ h
theorem arith_run {k : IntKind} {z : Int} {p : Prop} {d : D} (h : arith k z = some (p, d)) (hp : p) : VR s Z d (.int k (k.wrap z)) := by
  unfold arith at h
  split at h <;> (simp only [Option.some.injEq, Prod.mk.injEq] at h; obtain ⟨rfl, rfl⟩ := h)
  · rw [wrap_in hp]; exact VR.int_mk _ _
  · exact VR.int_mk _ _

theorem does_bin {op : BinOp} {t t' : TypeId} {x y : Operand} (ho : o.op = .binOp op t x y t') {X Y : Opd} (hx : VR s Z (ev X) (ρ x)) (hy : VR s Z (ev Y) (ρ y)) {p : Prop} {d : D}
    (hq : qv ev H (.bin op X Y) = some (p, d)) (hp : p) : Does P s Z w ρ o d := by
  simp only [qv] at hq
  generalize ev X = e at *
  generalize ev Y = f at *
  cases e with
  | int k a =>
    cases f with
    | int k' b =>
      have hx := hx.int_inv
      have hy := hy.int_inv
      have hg : ∀ w', (eqGuard op t x y (.int k a) (.int k' b)).run P w' = .ok () w' := fun w' => by cases op <;> simp [eqGuard]
      have key : ∀ u, (∀ w', (binOp op t (.int k a) (.int k' b)).run P w' = .ok u w') → VR s Z d u → Does P s Z w ρ o d := fun u hu hv => ⟨u, hv, fun w' _ => by
        unfold execOp; rw [ho]; simp only [Sem.run_bind, hx, hy, hg w', Result.andThen_ok, hu w', Sem.run_pure]⟩
      simp only [binD] at hq
      cases op <;> simp only at hq
      case shl =>
        split at hq <;> simp only [Option.some.injEq, Prod.mk.injEq, reduceCtorEq] at hq
        rename_i q e he
        obtain ⟨rfl, rfl⟩ := hq
        refine key _ (fun w' => ?_) (arith_run he hp.2)
        have : ¬ b < 0 := by omega
        simp [binOp, Op.shift, this]
      case shr =>
        simp only [Option.some.injEq, Prod.mk.injEq] at hq
        obtain ⟨rfl, rfl⟩ := hq
        refine key _ (fun w' => ?_) (VR.int_mk k _)
        have : ¬ b < 0 := by omega
        simp [binOp, Op.shift, this]
        exact Int.fdiv_eq_ediv_of_nonneg _ (by exact_mod_cast Nat.zero_le _)
      all_goals
        split at hq
        case isFalse => cases hq
        rename_i hkk
        subst hkk
        try simp only [Option.some.injEq, Prod.mk.injEq, reduceCtorEq] at hq
      case int.int.add.isTrue => exact key _ (fun w' => by simp [binOp, Op.intArith]) (arith_run hq hp)
      case int.int.sub.isTrue => exact key _ (fun w' => by simp [binOp, Op.intArith]) (arith_run hq hp)
      case int.int.mul.isTrue => exact key _ (fun w' => by simp [binOp, Op.intArith]) (arith_run hq hp)
      case int.int.quo.isTrue =>
        split at hq <;> simp only [Option.some.injEq, Prod.mk.injEq, reduceCtorEq] at hq
        rename_i q e he
        obtain ⟨rfl, rfl⟩ := hq
        refine key _ (fun w' => ?_) (arith_run he hp.2)
        have : ¬ b = 0 := by omega
        simp [binOp, Op.intDiv, this]
        rw [Int.tdiv_eq_ediv_of_nonneg (by omega)]
      case int.int.rem.isTrue =>
        obtain ⟨rfl, rfl⟩ := hq
        refine key _ (fun w' => ?_) (VR.int_mk k _)
        have hb0 : ¬ b = 0 := by omega
        have hm : Int.tmod a b = if 0 ≤ a then a % b else -(-a % b) := by
          by_cases h0 : 0 ≤ a
          · rw [if_pos h0, Int.tmod_eq_emod_of_nonneg h0]
          · rw [if_neg h0, ← Int.tmod_eq_emod_of_nonneg (show 0 ≤ -a by omega), Int.neg_tmod, Int.neg_neg]
        simp [binOp, Op.intDiv, hb0]
        rw [hm]
      case int.int.and.isTrue => obtain ⟨rfl, rfl⟩ := hq; exact key _ (fun w' => by simp only [binOp, ne_eq, not_true_eq_false, if_false, Op.intBits]; rfl) (VR.int_mk k _)
      case int.int.or.isTrue => obtain ⟨rfl, rfl⟩ := hq; exact key _ (fun w' => by simp only [binOp, ne_eq, not_true_eq_false, if_false, Op.intBits]; rfl) (VR.int_mk k _)
      case int.int.xor.isTrue => obtain ⟨rfl, rfl⟩ := hq; exact key _ (fun w' => by simp only [binOp, ne_eq, not_true_eq_false, if_false, Op.intBits]; rfl) (VR.int_mk k _)
      case int.int.eql.isTrue => obtain ⟨rfl, rfl⟩ := hq; exact key _ (fun w' => by simp [binOp, Op.intCmp]; rfl) (VR.bool_mk _)
      case int.int.neq.isTrue => obtain ⟨rfl, rfl⟩ := hq; exact key _ (fun w' => by simp [binOp, Op.intCmp]; rfl) (VR.bool_mk _)
      case int.int.lss.isTrue => obtain ⟨rfl, rfl⟩ := hq; exact key _ (fun w' => by simp [binOp, Op.intCmp]) (VR.bool_mk _)
      case int.int.leq.isTrue => obtain ⟨rfl, rfl⟩ := hq; exact key _ (fun w' => by simp [binOp, Op.intCmp]) (VR.bool_mk _)
      case int.int.gtr.isTrue => obtain ⟨rfl, rfl⟩ := hq; exact key _ (fun w' => by simp [binOp, Op.intCmp]) (VR.bool_mk _)
      case int.int.geq.isTrue => obtain ⟨rfl, rfl⟩ := hq; exact key _ (fun w' => by simp [binOp, Op.intCmp]) (VR.bool_mk _)
    | _ => cases hq
  | str a =>
    cases f with
    | str b =>
      have hx := hx.str_inv
      have hy := hy.str_inv
      have hg : ∀ w', (eqGuard op t x y (.string a) (.string b)).run P w' = .ok () w' := fun w' => by cases op <;> simp [eqGuard]
      have key : ∀ u, (∀ w', (binOp op t (.string a) (.string b)).run P w' = .ok u w') → VR s Z d u → Does P s Z w ρ o d := fun u hu hv => ⟨u, hv, fun w' _ => by
        unfold execOp; rw [ho]; simp only [Sem.run_bind, hx, hy, hg w', Result.andThen_ok, hu w', Sem.run_pure]⟩
      simp only [binD] at hq
      cases op <;> simp only [Option.some.injEq, Prod.mk.injEq, reduceCtorEq] at hq
      case eql => obtain ⟨rfl, rfl⟩ := hq; exact key _ (fun w' => by simp only [binOp, Op.stringOp, Sem.run_pure]) (VR.bool_mk _)
      case neq => obtain ⟨rfl, rfl⟩ := hq; exact key _ (fun w' => by simp only [binOp, Op.stringOp, Sem.run_pure]) (VR.bool_mk _)
    | _ => cases hq
  | _ => cases hq

theorem does_eqb {t t' : TypeId} {x y : Operand} (ne : Bool) (ho : o.op = .binOp (if ne then .neq else .eql) t x y t') (ht : P.underlying t = some .bool) {X Y : Opd} (hx : VR s Z (ev X) (ρ x)) (hy : VR s Z (ev Y) (ρ y)) {p : Prop} {d : D}
    (hq : qv ev H (.eqb ne X Y) = some (p, d)) : Does P s Z w ρ o d := by
  simp only [qv] at hq
  generalize ev X = e at *
  generalize ev Y = f at *
  cases e with
  | bool a =>
    cases f with
    | bool b =>
      have hx := hx.bool_inv
      have hy := hy.bool_inv
      simp only [Option.some.injEq, Prod.mk.injEq] at hq
      obtain ⟨_, rfl⟩ := hq
      refine ⟨_, VR.bool_mk _, fun w' _ => ?_⟩
      unfold execOp; rw [ho]
      cases ne
      · simp [eqGuard, hx, hy, binOp, Op.equal, Op.maxDepth, run_equalIn_bool w' _ t a b ht]; rfl
      · simp [eqGuard, hx, hy, binOp, Op.equal, Op.maxDepth, run_equalIn_bool w' _ t a b ht]; rfl
    | _ => cases hq
  | _ => cases hq

theorem isP_inv {d : D} {b : Bool} {v : Value} (h : isP d = some b) (hv : VR s Z d v) : (b = true → v = .pointer none) ∧ (b = false → ∃ a, v = .pointer (some a)) := by
  cases d <;> simp only [isP, Option.some.injEq, reduceCtorEq] at h <;> subst h
  · cases hv; exact ⟨fun _ => rfl, fun h => by cases h⟩
  · cases hv; exact ⟨fun h => (by cases h), fun _ => ⟨_, rfl⟩⟩
  · obtain ⟨b, _, rfl⟩ := hv; exact ⟨fun h => (by cases h), fun _ => ⟨_, rfl⟩⟩
  · obtain ⟨b, _, _, _, rfl⟩ := hv; exact ⟨fun h => (by cases h), fun _ => ⟨_, rfl⟩⟩

theorem run_equalIn_nil {t e : TypeId} (ht : P.underlying t = some (.pointer e)) (n : Nat) (a b : Option Addr) (h : a = none ∨ b = none) (w : World) :
    (Op.equalIn (n + 1) t (.pointer a) (.pointer b)).run P w = .ok (a.isNone && b.isNone) w := by
  rcases h with rfl | rfl
  · simp [Op.equalIn, run_underlying ht]
  · cases a <;> simp [Op.equalIn, run_underlying ht]

theorem does_eqp {t t' e : TypeId} {x y : Operand} (ne : Bool) (ho : o.op = .binOp (if ne then .neq else .eql) t x y t') (ht : P.underlying t = some (.pointer e)) {X Y : Opd} (hx : VR s Z (ev X) (ρ x)) (hy : VR s Z (ev Y) (ρ y)) {p : Prop} {d : D}
    (hq : qv ev H (.eqp ne X Y) = some (p, d)) (hp : p) : Does P s Z w ρ o d := by
  simp only [qv] at hq
  split at hq <;> simp only [Option.some.injEq, Prod.mk.injEq, reduceCtorEq] at hq
  rename_i a b ha hb
  obtain ⟨rfl, rfl⟩ := hq
  obtain ⟨h1, h2⟩ := isP_inv ha hx
  obtain ⟨h3, h4⟩ := isP_inv hb hy
  have hvx : ∃ q : Option Addr, ρ x = .pointer q ∧ (a = q.isNone) := by
    cases a
    · obtain ⟨q, hq⟩ := h2 rfl; exact ⟨some q, hq, rfl⟩
    · exact ⟨none, h1 rfl, rfl⟩
  have hvy : ∃ q : Option Addr, ρ y = .pointer q ∧ (b = q.isNone) := by
    cases b
    · obtain ⟨q, hq⟩ := h4 rfl; exact ⟨some q, hq, rfl⟩
    · exact ⟨none, h3 rfl, rfl⟩
  obtain ⟨q, hqx, rfl⟩ := hvx
  obtain ⟨r, hry, rfl⟩ := hvy
  have hn : q = none ∨ r = none := by
    cases q <;> cases r <;> simp at hp ⊢
  refine ⟨_, VR.bool_mk _, fun w' _ => ?_⟩
  unfold execOp; rw [ho]
  have he := run_equalIn_nil (P := P) ht 9999 q r hn w'
  cases ne
  · simp [eqGuard, hqx, hry, binOp, Op.equal, Op.maxDepth, he]
  · simp [eqGuard, hqx, hry, binOp, Op.equal, Op.maxDepth, he]

theorem does_not {t : TypeId} {x : Operand} (ho : o.op = .unOp .not t x) {X : Opd} (hx : VR s Z (ev X) (ρ x)) {p : Prop} {d : D} (hq : qv ev H (.not X) = some (p, d)) : Does P s Z w ρ o d := by
  simp only [qv] at hq
  generalize ev X = e at *
  cases e <;> simp only [Option.some.injEq, Prod.mk.injEq, reduceCtorEq] at hq
  obtain ⟨_, rfl⟩ := hq
  refine ⟨_, VR.bool_mk _, fun w' _ => ?_⟩
  unfold execOp; rw [ho]; simp [hx.bool_inv, Op.unary]
theorem does_neg {t : TypeId} {x : Operand} (ho : o.op = .unOp .neg t x) {X : Opd} (hx : VR s Z (ev X) (ρ x)) {p : Prop} {d : D} (hq : qv ev H (.neg X) = some (p, d)) (hp : p) : Does P s Z w ρ o d := by
  simp only [qv] at hq
  generalize ev X = e at *
  cases e <;> simp only [reduceCtorEq] at hq
  rename_i k z
  refine ⟨_, arith_run hq hp, fun w' _ => ?_⟩
  unfold execOp; rw [ho]; simp [hx.int_inv, Op.unary, Op.intArith]
theorem does_conv {t t' : TypeId} {x : Operand} {k : IntKind} (ho : o.op = .convert t' t x) (ht : P.underlying t = some (.int k)) {X : Opd} (hx : VR s Z (ev X) (ρ x)) {p : Prop} {d : D}
    (hs : (P.underlying t').isSome = true) (hq : qv ev H (.conv k X) = some (p, d)) (hp : p) : Does P s Z w ρ o d := by
  simp only [qv] at hq
  generalize ev X = e at *
  cases e <;> simp only [reduceCtorEq] at hq
  rename_i k' z
  obtain ⟨td, htd⟩ := Option.isSome_iff_exists.1 hs
  refine ⟨_, arith_run hq hp, fun w' _ => ?_⟩
  unfold execOp; rw [ho]
  simp only [convert, Sem.run_bind, run_underlying ht, run_underlying htd, Result.andThen_ok, hx.int_inv, Conv.intToInt, Sem.run_pure]
theorem does_ext {x : Operand} {i : Nat} (ho : o.op = .extract x i) {X : Opd} (hx : VR s Z (ev X) (ρ x)) {p : Prop} {d : D} (hq : qv ev H (.ext X i) = some (p, d)) (hp : p) : Does P s Z w ρ o d := by
  simp only [qv] at hq
  generalize ev X = e at *
  cases e <;> simp only [Option.some.injEq, Prod.mk.injEq, reduceCtorEq] at hq
  rename_i ds
  obtain ⟨rfl, rfl⟩ := hq
  obtain ⟨vs, hv, hl, hc⟩ := hx.tup_inv
  have hi : i < vs.size := by omega
  refine ⟨vs.getD i undef, ?_, fun w' _ => ?_⟩
  · have : ds[i]? = some (ds.getD i .any) := by rw [List.getD_eq_getElem?_getD, List.getElem?_eq_getElem hp]; rfl
    exact VR.of_vv (hc i _ this)
  · unfold execOp; rw [ho]
    simp only [Sem.run_bind, Instr.extract, hv, Array.getElem?_eq_getElem hi, Sem.run_pure, Result.andThen_ok]
    simp [Array.getD, hi]
end
end Go.Proofs.Ytajimebannjofaa

set_option linter.unusedSimpArgs false
set_option linter.unusedVariables false
namespace Go.Proofs.Ytajimebannjofaa
open Go.RowKit
section
variable {P : Program} {s : Nat → Value} {Z : Cells} {H : List (Nat × Ob)} {w : World} {ρ : Operand → Value} {ev : Opd → D} {o : Oper}

theorem add_mid' (b o j : Nat) : (⟨b, o, none⟩ : Addr).add j = ⟨b, o + j, none⟩ := Addr.add_mid b o j

/-- cells that lie behind -/
theorem VR.pc_add {ds : List D} {v : Value} (h : VR s Z (.pc ds) v) (n : Nat) : ∃ b o, v = .pointer (some ⟨b, o, none⟩) ∧ VR s Z (.pc (ds.drop n)) (.pointer (some ⟨b, o + n, none⟩)) := by
  cases h with
  | pc _ b o c h1 h2 =>
    refine ⟨b, o, rfl, VT.pc (ds.drop n) b (o + n) (fun j => c (n + j)) (fun j d hd => ?_) (fun j d hd => ?_)⟩
    · rw [List.getElem?_drop] at hd; rw [Nat.add_assoc]; exact h1 _ _ hd
    · rw [List.getElem?_drop] at hd; exact h2 _ _ hd
theorem VR.ptr_add {id j : Nat} {v : Value} (h : VR s Z (.ptr id j) v) (n : Nat) : ∃ b o, v = .pointer (some ⟨b, o, none⟩) ∧ VR s Z (.ptr id (j + n)) (.pointer (some ⟨b, o + n, none⟩)) := by
  obtain ⟨b, hs, rfl⟩ := h
  exact ⟨b, j, rfl, b, hs, rfl⟩
theorem VR.pel_add {id i sz j : Nat} {v : Value} (h : VR s Z (.pel id i sz j) v) (n : Nat) : ∃ b o, v = .pointer (some ⟨b, o, none⟩) ∧ VR s Z (.pel id i sz (j + n)) (.pointer (some ⟨b, o + n, none⟩)) := by
  obtain ⟨b, m, c, hs, rfl⟩ := h
  exact ⟨b, _, rfl, b, m, c, hs, by rw [Nat.add_assoc]⟩

theorem does_fad {t : TypeId} {x : Operand} {i : Nat} (ho : o.op = .fieldAddr t x i) {fs : Array Field} {f : Field} {n : Nat} (ht : P.underlying t = some (.struct fs)) (hf : fs[i]? = some f) (hn : szT P f.type = some n) (h0 : 0 < n)
    {X : Opd} (hx : VR s Z (ev X) (ρ x)) {p : Prop} {d : D} (hq : qv ev H (.fad f.offset X) = some (p, d)) : Does P s Z w ρ o d := by
  have key : ∀ b off, ρ x = .pointer (some ⟨b, off, none⟩) → VR s Z d (.pointer (some ⟨b, off + f.offset, none⟩)) → Does P s Z w ρ o d := fun b off h1 h2 => ⟨_, h2, fun w' _ => by
    unfold execOp; rw [ho]
    have hne : ¬ n = 0 := by omega
    simp only [Instr.fieldAt, Sem.run_bind, run_underlying ht, Result.andThen_ok, hf, h1, Instr.sureAddr, Sem.run_pure, fieldPlace, run_sizeOf' hn, hne, if_false, add_mid']⟩
  simp only [qv] at hq
  generalize ev X = e at *
  cases e <;> simp only [Option.some.injEq, Prod.mk.injEq, reduceCtorEq] at hq <;> obtain ⟨_, rfl⟩ := hq
  · obtain ⟨b, off, h1, h2⟩ := VR.pc_add hx f.offset; exact key b off h1 h2
  · obtain ⟨b, off, h1, h2⟩ := VR.ptr_add hx f.offset; exact key b off h1 h2
  · obtain ⟨b, off, h1, h2⟩ := VR.pel_add hx f.offset; exact key b off h1 h2

theorem does_iada {t e : TypeId} {x i : Operand} {len n : Nat} (ho : o.op = .indexAddr t x i) (ht : P.underlying t = some (.array len e)) (hn : szT P e = some n)
    {X I : Opd} (hx : VR s Z (ev X) (ρ x)) (hi : VR s Z (ev I) (ρ i)) {p : Prop} {d : D} (hq : qv ev H (.iada len n X I) = some (p, d)) (hp : p) : Does P s Z w ρ o d := by
  simp only [qv] at hq
  generalize ev X = ex at *
  generalize ev I = ei at *
  cases ei <;> simp only [reduceCtorEq] at hq
  rename_i k z
  have hi := hi.int_inv
  have key : ∀ b off, 0 ≤ z ∧ z < len → ρ x = .pointer (some ⟨b, off, none⟩) → VR s Z d (.pointer (some ⟨b, off + z.toNat * n, none⟩)) → Does P s Z w ρ o d := fun b off hz h1 h2 => ⟨_, h2, fun w' _ => by
    unfold execOp; rw [ho]
    simp only [Instr.indexAt, Sem.run_bind, run_underlying ht, Result.andThen_ok, hi, asIntOf, h1, Instr.sureAddr, Sem.run_pure, Sem.run_ite, run_sizeOf' hn, hz, and_self, if_true, add_mid']⟩
  cases ex <;> simp only [Option.some.injEq, Prod.mk.injEq, reduceCtorEq] at hq <;> obtain ⟨rfl, rfl⟩ := hq
  · obtain ⟨b, off, h1, h2⟩ := VR.pc_add hx (z.toNat * n); exact key b off hp h1 h2
  · obtain ⟨b, off, h1, h2⟩ := VR.ptr_add hx (z.toNat * n); exact key b off hp h1 h2
  · obtain ⟨b, off, h1, h2⟩ := VR.pel_add hx (z.toNat * n); exact key b off hp h1 h2

theorem VR.rows_inv {sz : Nat} {xs : List (List D)} {v : Value} (h : VR s Z (.rows sz xs) v) : ∃ a cap, v = .slice a xs.length cap ∧ xs.length ≤ cap ∧
    ((∀ i, i < xs.length → ∃ b off, a = some ⟨b, off, none⟩ ∧ VR s Z (.pc (xs.getD i [])) (.pointer (some ⟨b, off + i * sz, none⟩)))) := by
  cases h with
  | rnil _ a cap => exact ⟨a, cap, rfl, Nat.zero_le _, fun i hi => by simp at hi⟩
  | rows _ _ b off cap c hcap h1 h2 =>
    refine ⟨_, cap, rfl, hcap, fun i hi => ⟨b, off, rfl, ?_⟩⟩
    have hx : xs[i]? = some (xs.getD i []) := by rw [List.getD_eq_getElem?_getD, List.getElem?_eq_getElem hi]; rfl
    exact VT.pc _ b (off + i * sz) (fun j => c i j) (fun j d hd => (h1 i _ j d hx hd).2) (fun j d hd => h2 i _ j d hx hd)

theorem RowOk.slice {R : D → Value → Prop} {sz : Nat} {xs : List (List D)} {v : Value} (h : RowOk R w sz xs v) : ∃ a cap, v = .slice a xs.length cap ∧ xs.length ≤ cap ∧ (0 < xs.length → ∃ b, a = some ⟨b, 0, none⟩) := by
  rcases h.2.2 with ⟨rfl, a, rfl⟩ | ⟨g, cap, cur, e, rfl, _, hcap, _⟩
  · exact ⟨a, 0, rfl, by simp, fun h => by simp at h⟩
  · exact ⟨_, cap, rfl, hcap, fun _ => ⟨g, rfl⟩⟩

theorem does_iads {t e : TypeId} {x i : Operand} {n : Nat} (ho : o.op = .indexAddr t x i) (ht : P.underlying t = some (.slice e)) (hn : szT P e = some n) (hk : Know s Z H w)
    {X I : Opd} (hx : VR s Z (ev X) (ρ x)) (hi : VR s Z (ev I) (ρ i)) {p : Prop} {d : D} (hq : qv ev H (.iads n X I) = some (p, d)) (hp : p) : Does P s Z w ρ o d := by
  simp only [qv] at hq
  generalize ev X = ex at *
  generalize ev I = ei at *
  cases ei <;> simp only [reduceCtorEq] at hq
  rename_i k z
  have hi := hi.int_inv
  have key : ∀ b off len cap, 0 ≤ z ∧ z < (len : Nat) → ρ x = .slice (some ⟨b, off, none⟩) len cap → VR s Z d (.pointer (some ⟨b, off + z.toNat * n, none⟩)) → Does P s Z w ρ o d := fun b off len cap hz h1 h2 => ⟨_, h2, fun w' _ => by
    unfold execOp; rw [ho]
    simp only [Instr.indexAt, Sem.run_bind, run_underlying ht, Result.andThen_ok, hi, asIntOf, h1, Sem.run_pure, Sem.run_ite, run_sizeOf' hn, hz, and_self, if_true, add_mid']⟩
  have own : ∀ (R : D → Value → Prop) id sz xs, RowOk R w sz xs (s id) → VR s Z (.own id) (ρ x) → n = sz → 0 ≤ z ∧ z < (xs.length : Nat) → d = .pel id z.toNat n 0 → Does P s Z w ρ o d := fun R id sz xs hr hv hn' hz hd => by
    obtain ⟨hv1, _⟩ := hv
    obtain ⟨a, cap, h1, h2, h3⟩ := hr.slice
    obtain ⟨b, rfl⟩ := h3 (by omega)
    subst hd
    refine key b 0 xs.length cap hz (by rw [hv1, h1]) ⟨b, _, cap, h1, by simp⟩
  cases ex <;> simp only [reduceCtorEq] at hq
  · rename_i sz xs
    simp only [Option.some.injEq, Prod.mk.injEq] at hq
    obtain ⟨rfl, rfl⟩ := hq
    obtain ⟨rfl, hz⟩ := hp
    obtain ⟨a, cap, h1, h2, h3⟩ := hx.rows_inv
    obtain ⟨b, off, rfl, h4⟩ := h3 z.toNat (by omega)
    exact key b off _ cap hz h1 h4
  · rename_i id
    split at hq
    · rename_i sz xs hh
      simp only [Option.some.injEq, Prod.mk.injEq] at hq
      obtain ⟨rfl, rfl⟩ := hq
      exact own _ id sz xs (hk.ob _ _ hh) hx hp.1 hp.2 rfl
    · rename_i sz xs hh
      simp only [Option.some.injEq, Prod.mk.injEq] at hq
      obtain ⟨rfl, rfl⟩ := hq
      exact own _ id sz xs (hk.ob _ _ hh) hx hp.1 hp.2 rfl
    · cases hq

/-- a part of a struct or of an array by value -/
theorem part_sound {t : TypeId} {ag : Bool} {n off : Nat} {ds : List D} {vs : Array Value} {p : Prop} {d : D} (h1 : agT P t = some ag) (h2 : szT P t = some n) (hl : vs.size = ds.length)
    (hc : ∀ j x, ds[j]? = some x → VC s Z x (vs.getD j undef)) (ht : takeD ag n (ds.drop off) = some (p, d)) (hp : p) : ∃ u, VR s Z d u ∧ ∀ w', (part t vs off).run P w' = .ok u w' := by
  obtain ⟨td, hu, hrow⟩ := agT_some h1
  unfold takeD at ht
  cases ag with
  | true =>
    simp only [if_true, Option.some.injEq, Prod.mk.injEq, List.length_drop] at ht
    obtain ⟨rfl, rfl⟩ := ht
    refine ⟨.agg (vs.extract off (off + n)), ⟨_, rfl, by simp; omega, fun j x hx => ?_⟩, fun w' => ?_⟩
    · rw [List.getElem?_take] at hx
      split at hx
      · rename_i hj
        rw [List.getElem?_drop] at hx
        have := hc _ _ hx
        have hlt : off + j < vs.size := by rw [hl]; exact (List.getElem?_eq_some_iff.1 hx).1
        have e : (vs.extract off (off + n)).getD j undef = vs.getD (off + j) undef := by
          rw [Array.getD_eq_getD_getElem?, Array.getD_eq_getD_getElem?, Array.getElem?_extract, if_pos (by omega)]
        rw [e]; exact this
      · cases hx
    · simp only [part, Sem.run_bind, run_isAgg' hu, hrow, Result.andThen_ok, if_true, run_sizeOf' h2, Sem.run_pure]
  | false =>
    simp only [Bool.false_eq_true, if_false, Option.some.injEq, Prod.mk.injEq, List.length_drop] at ht
    obtain ⟨rfl, rfl⟩ := ht
    have hlt : off < ds.length := by omega
    have hx : ds[off]? = some ((ds.drop off).headD .any) := by
      rw [List.headD_eq_head?_getD, List.head?_drop, List.getElem?_eq_getElem hlt]; rfl
    refine ⟨vs.getD off undef, VR.of_vc (hc _ _ hx), fun w' => ?_⟩
    have hlt' : off < vs.size := by omega
    simp only [part, Sem.run_bind, run_isAgg' hu, hrow, Result.andThen_ok, Bool.false_eq_true, if_false, Array.getElem?_eq_getElem hlt', Sem.run_pure]
    simp [Array.getD, hlt']

theorem does_fld {t : TypeId} {x : Operand} {i : Nat} (ho : o.op = .field t x i) {fs : Array Field} {f : Field} {ag : Bool} {n : Nat} (ht : P.underlying t = some (.struct fs)) (hf : fs[i]? = some f) (ha : agT P f.type = some ag) (hn : szT P f.type = some n)
    {X : Opd} (hx : VR s Z (ev X) (ρ x)) {p : Prop} {d : D} (hq : qv ev H (.fld ag f.offset n X) = some (p, d)) (hp : p) : Does P s Z w ρ o d := by
  simp only [qv] at hq
  generalize ev X = e at *
  cases e <;> simp only [reduceCtorEq] at hq
  obtain ⟨vs, hv, hl, hc⟩ := hx.agg_inv
  obtain ⟨u, hu, hr⟩ := part_sound ha hn hl hc hq hp
  refine ⟨u, hu, fun w' _ => ?_⟩
  unfold execOp; rw [ho]
  simp only [Instr.field, Sem.run_bind, run_underlying ht, Result.andThen_ok, hf, hv, asAgg, Sem.run_pure, hr w']

theorem does_ida {t e : TypeId} {x i : Operand} {len n : Nat} {ag : Bool} (ho : o.op = .index t x i) (ht : P.underlying t = some (.array len e)) (ha : agT P e = some ag) (hn : szT P e = some n)
    {X I : Opd} (hx : VR s Z (ev X) (ρ x)) (hi : VR s Z (ev I) (ρ i)) {p : Prop} {d : D} (hq : qv ev H (.ida ag len n X I) = some (p, d)) (hp : p) : Does P s Z w ρ o d := by
  simp only [qv] at hq
  generalize ev X = ex at *
  generalize ev I = ei at *
  cases ei <;> simp only [reduceCtorEq] at hq
  rename_i k z
  have hi := hi.int_inv
  cases ex <;> simp only [reduceCtorEq] at hq
  split at hq <;> simp only [Option.some.injEq, Prod.mk.injEq, reduceCtorEq] at hq
  rename_i p' d' htk
  obtain ⟨rfl, rfl⟩ := hq
  obtain ⟨hz, hp'⟩ := hp
  obtain ⟨vs, hv, hl, hc⟩ := hx.agg_inv
  obtain ⟨u, hu, hr⟩ := part_sound ha hn hl hc htk hp'
  refine ⟨u, hu, fun w' _ => ?_⟩
  unfold execOp; rw [ho]
  simp only [Instr.index, Sem.run_bind, run_underlying ht, Result.andThen_ok, hi, asIntOf, hv, Sem.run_pure, Sem.run_ite, run_sizeOf' hn, hz, and_self, if_true, hr w']

theorem does_cst {c : Call} (ho : o.op = .call c) (hc : c.callee = .builtin .len) {x : Operand} {t : TypeId} (ha : c.args.toList = [x]) (hat : c.argTypes.toList = [t]) {n : Nat}
    (ht : (∃ e, P.underlying t = some (.array n e)) ∨ ∃ e r, P.underlying t = some (.pointer r) ∧ P.underlying r = some (.array n e)) : Does P s Z w ρ o (.int .i64 n) := by
  refine ⟨_, VR.int_mk _ _, fun w' _ => ?_⟩
  obtain ⟨cal, ars, ats⟩ := c
  obtain ⟨ars⟩ := ars
  obtain ⟨ats⟩ := ats
  simp only at ha hat hc
  subst ha hat hc
  unfold execOp; rw [ho]
  rcases ht with ⟨e, ht⟩ | ⟨e, r, ht, hr⟩
  · simp [resolve, invoke, builtin, Builtin.len_, run_underlying ht, goInt]
  · simp [resolve, invoke, builtin, Builtin.len_, run_underlying ht, run_underlying hr, goInt]

theorem does_len {c : Call} (ho : o.op = .call c) (hc : c.callee = .builtin .len) {x : Operand} {t e : TypeId} (ha : c.args.toList = [x]) (hat : c.argTypes.toList = [t]) (ht : P.underlying t = some (.slice e)) (hk : Know s Z H w)
    {X : Opd} (hx : VR s Z (ev X) (ρ x)) {p : Prop} {d : D} (hq : qv ev H (.len X) = some (p, d)) : Does P s Z w ρ o d := by
  obtain ⟨cal, ars, ats⟩ := c
  obtain ⟨ars⟩ := ars
  obtain ⟨ats⟩ := ats
  simp only at ha hat hc
  subst ha hat hc
  have key : ∀ a n cap, ρ x = .slice a n cap → d = .int .i64 n → Does P s Z w ρ o d := fun a n cap h1 h2 => ⟨_, h2 ▸ VR.int_mk _ _, fun w' _ => by
    unfold execOp; rw [ho]
    simp [resolve, invoke, builtin, Builtin.len_, run_underlying ht, goInt, h1]⟩
  simp only [qv] at hq
  generalize ev X = ex at *
  cases ex <;> simp only [reduceCtorEq] at hq
  · simp only [Option.some.injEq, Prod.mk.injEq] at hq
    generalize hv : ρ x = v at hx
    cases hx with | nil0 a => exact key a 0 0 hv hq.2.symm
  · simp only [Option.some.injEq, Prod.mk.injEq] at hq
    obtain ⟨a, cap, h1, _⟩ := hx.rows_inv
    exact key a _ cap h1 hq.2.symm
  · split at hq
    · rename_i sz xs hh
      simp only [Option.some.injEq, Prod.mk.injEq] at hq
      obtain ⟨a, cap, h1, _⟩ := RowOk.slice (hk.ob _ _ hh)
      exact key a _ cap (by rw [hx.1, h1]) hq.2.symm
    · rename_i sz xs hh
      simp only [Option.some.injEq, Prod.mk.injEq] at hq
      obtain ⟨a, cap, h1, _⟩ := RowOk.slice (hk.ob _ _ hh)
      exact key a _ cap (by rw [hx.1, h1]) hq.2.symm
    · cases hq
  · simp only [Option.some.injEq, Prod.mk.injEq] at hq
    obtain ⟨b, n', c', o', _, h1, _⟩ := hx
    exact key _ _ _ h1 hq.2.symm

theorem does_mnx {c : Call} (mx : Bool) (ho : o.op = .call c) (hc : c.callee = .builtin (if mx then .max else .min)) {x y : Operand} (ha : c.args.toList = [x, y]) {X Y : Opd} (hx : VR s Z (ev X) (ρ x)) (hy : VR s Z (ev Y) (ρ y)) {p : Prop} {d : D}
    (hq : qv ev H (if mx then .mx X Y else .mn X Y) = some (p, d)) : Does P s Z w ρ o d := by
  obtain ⟨cal, ars, ats⟩ := c
  obtain ⟨ars⟩ := ars
  simp only at ha hc
  subst ha hc
  cases mx
  · simp only [qv, Bool.false_eq_true, if_false] at hq
    generalize ev X = ex at *
    generalize ev Y = ey at *
    cases ex <;> try (simp only [reduceCtorEq] at hq; done)
    cases ey <;> simp only [Option.some.injEq, Prod.mk.injEq, reduceCtorEq] at hq
    obtain ⟨_, rfl⟩ := hq
    refine ⟨_, VR.int_mk _ _, fun w' _ => ?_⟩
    unfold execOp; rw [ho]
    simp [resolve, invoke, builtin, Builtin.min_, Builtin.min2, hx.int_inv, hy.int_inv]
  · simp only [qv, if_true] at hq
    generalize ev X = ex at *
    generalize ev Y = ey at *
    cases ex <;> try (simp only [reduceCtorEq] at hq; done)
    cases ey <;> simp only [Option.some.injEq, Prod.mk.injEq, reduceCtorEq] at hq
    obtain ⟨_, rfl⟩ := hq
    refine ⟨_, VR.int_mk _ _, fun w' _ => ?_⟩
    unfold execOp; rw [ho]
    simp [resolve, invoke, builtin, Builtin.max_, Builtin.max2, hx.int_inv, hy.int_inv]
end
end Go.Proofs.Ytajimebannjofaa

set_option linter.unusedSimpArgs false
set_option linter.unusedVariables false
namespace Go.Proofs.Ytajimebannjofaa
open Go.RowKit
section
variable {P : Program} {s : Nat → Value} {Z : Cells} {H : List (Nat × Ob)} {w : World} {ρ : Operand → Value} {ev : Opd → D} {o : Oper}

/-- two cells of a kind, and whether they are equal -/
def Scal : Kd → Value → Value → Bool → Prop
  | .i, v, u, e => ∃ k a b, v = .int k a ∧ u = .int k b ∧ e = decide (a = b)
  | .b, v, u, e => ∃ a b, v = .bool a ∧ u = .bool b ∧ e = decide (a = b)
  | .s, v, u, e => ∃ a b, v = .string a ∧ u = .string b ∧ e = decide (a.data = b.data)
def Scals : List Kd → List Value → List Value → Bool → Prop
  | [], [], [], e => e = true
  | k :: ks, v :: vs, u :: us, e => ∃ a b, Scal k v u a ∧ Scals ks vs us b ∧ e = (a && b)
  | _, _, _, _ => False
theorem Scals.split : ∀ (ks ls : List Kd) (vs us : List Value) (e : Bool), Scals (ks ++ ls) vs us e → ∃ a b, Scals ks (vs.take ks.length) (us.take ks.length) a ∧ Scals ls (vs.drop ks.length) (us.drop ks.length) b ∧ e = (a && b)
  | [], ls, vs, us, e, h => ⟨true, e, rfl, h, by simp⟩
  | k :: ks, ls, v :: vs, u :: us, e, h => by
    obtain ⟨a, b, h1, h2, rfl⟩ := h
    obtain ⟨a', b', h3, h4, rfl⟩ := Scals.split ks ls vs us b h2
    exact ⟨a && a', b', ⟨a, a', h1, h3, rfl⟩, h4, by rw [Bool.and_assoc]⟩
  | _ :: _, _, [], _, _, h => h.elim
  | _ :: _, _, _ :: _, [], _, h => h.elim
theorem Scals.len : ∀ (ks : List Kd) (vs us : List Value) (e : Bool), Scals ks vs us e → vs.length = ks.length ∧ us.length = ks.length
  | [], [], [], _, _ => ⟨rfl, rfl⟩
  | _ :: ks, _ :: vs, _ :: us, _, ⟨_, b, _, h, _⟩ => by have := Scals.len ks vs us b h; simp [this]
  | [], _ :: _, _, _, h => h.elim
  | [], [], _ :: _, _, h => h.elim
  | _ :: _, [], _, _, h => h.elim
  | _ :: _, _ :: _, [], _, h => h.elim
theorem deqs_scals : ∀ (ks : List Kd) (ds es : List D) (vs us : List Value) (p : Prop) (b : Bool), deqs ks ds es = some (p, b) → p → vs.length = ds.length → us.length = es.length →
    (∀ j x, ds[j]? = some x → VC s Z x (vs.getD j undef)) → (∀ j x, es[j]? = some x → VC s Z x (us.getD j undef)) → Scals ks vs us b
  | [], [], [], [], [], p, b, h, _, _, _, _, _ => by simp only [deqs, Option.some.injEq, Prod.mk.injEq] at h; exact h.2.symm
  | k :: ks, d :: ds, e :: es, v :: vs, u :: us, p, b, h, hp, hl, hm, h1, h2 => by
    simp only [deqs] at h
    split at h <;> simp only [Option.some.injEq, Prod.mk.injEq, reduceCtorEq] at h
    rename_i p1 b1 p2 b2 hd hr
    obtain ⟨rfl, rfl⟩ := h
    refine ⟨b1, b2, ?_, deqs_scals ks ds es vs us p2 b2 hr hp.2 (by simpa using hl) (by simpa using hm) (fun j x hx => by simpa using h1 (j + 1) x (by simpa using hx)) (fun j x hx => by simpa using h2 (j + 1) x (by simpa using hx)), rfl⟩
    have g1 := h1 0 d rfl
    have g2 := h2 0 e rfl
    simp only [List.getD_cons_zero] at g1 g2
    cases k <;> cases d <;> simp only [deq, reduceCtorEq] at hd <;> cases e <;> simp only [Option.some.injEq, Prod.mk.injEq, reduceCtorEq] at hd
    · obtain ⟨rfl, rfl⟩ := hd
      cases g1; cases g2
      have := hp.1
      subst this
      exact ⟨_, _, _, rfl, rfl, rfl⟩
    · obtain ⟨_, rfl⟩ := hd
      cases g1; cases g2
      exact ⟨_, _, rfl, rfl, rfl⟩
    · obtain ⟨_, rfl⟩ := hd
      cases g1; cases g2
      exact ⟨_, _, rfl, rfl, rfl⟩
  | [], _ :: _, _, _, _, _, _, h, _, _, _, _, _ => by simp [deqs] at h
  | [], [], _ :: _, _, _, _, _, h, _, _, _, _, _ => by simp [deqs] at h
  | _ :: _, [], _, _, _, _, _, h, _, _, _, _, _ => by simp [deqs] at h
  | _ :: _, _ :: _, [], _, _, _, _, h, _, _, _, _, _ => by simp [deqs] at h
  | [], [], [], _ :: _, _, _, _, _, _, hl, _, _, _ => by simp at hl
  | [], [], [], [], _ :: _, _, _, _, _, _, hm, _, _ => by simp at hm
  | _ :: _, _ :: _, _ :: _, [], _, _, _, _, _, hl, _, _, _ => by simp at hl
  | _ :: _, _ :: _, _ :: _, _ :: _, [], _, _, _, _, _, hm, _, _ => by simp at hm

/-- a value of these cells -/
def packV (ag : Bool) (vs : List Value) : Value := if ag then .agg vs.toArray else vs.headD undef
theorem toList_beq (a b : ByteArray) : (a.toList == b.toList) = decide (a.data = b.data) := by
  rw [ByteArray.toList_eq, ByteArray.toList_eq]
  obtain ⟨⟨x⟩⟩ := a
  obtain ⟨⟨y⟩⟩ := b
  by_cases h : x = y
  · simp [h]
  · simp [h]
theorem part_pack {t : TypeId} {ag : Bool} {n off : Nat} (h1 : agT P t = some ag) (h2 : szT P t = some n) (vs : List Value) (h : off + n ≤ vs.length) (h0 : ag = false → n = 1) :
    (part t vs.toArray off).run P w = .ok (packV ag ((vs.drop off).take n)) w := by
  obtain ⟨td, hu, hrow⟩ := agT_some h1
  cases ag with
  | true =>
    simp only [part, Sem.run_bind, run_isAgg' hu, hrow, Result.andThen_ok, if_true, run_sizeOf' h2, Sem.run_pure, packV]
    simp
  | false =>
    obtain rfl := h0 rfl
    have hlt : off < vs.length := by omega
    simp only [part, Sem.run_bind, run_isAgg' hu, hrow, Result.andThen_ok, Bool.false_eq_true, if_false, packV]
    rw [List.getElem?_toArray, List.getElem?_eq_getElem hlt, List.drop_eq_getElem_cons hlt]
    rfl
theorem kinds_eq (P : Program) : ∀ (d : Nat) (t : TypeId) (ks : List Kd), kindsT P d t = some ks → ∃ ag, agT P t = some ag ∧ (ag = false → ks.length = 1) ∧ ∀ (m : Nat) (vs us : List Value) (e : Bool) (w : World), Scals ks vs us e →
    (Op.equalIn (m + d) t (packV ag vs) (packV ag us)).run P w = .ok e w
  | 0, _, _, h => by simp [kindsT] at h
  | d + 1, t, ks, h => by
    have one : ∀ (k : Kd) (vs us : List Value) (e : Bool), Scals [k] vs us e → ∃ v u, vs = [v] ∧ us = [u] ∧ Scal k v u e := fun k vs us e hs => by
      have hl := hs.len
      match vs, us, hl with
      | [v], [u], _ =>
        obtain ⟨a, b, h1, h2, rfl⟩ := hs
        have h2' : b = true := h2
        subst h2'
        exact ⟨v, u, rfl, rfl, by simpa using h1⟩
    have nag : ∀ td, P.underlying t = some td → td.isRow = false → agT P t = some false := fun td htd hr => by
      unfold agT; rw [htd]; cases td <;> first | rfl | (cases hr; done)
    simp only [kindsT] at h
    split at h
    · rename_i k ht
      cases h
      refine ⟨false, nag _ ht rfl, fun _ => rfl, fun m vs us e w hs => ?_⟩
      obtain ⟨v, u, rfl, rfl, k, a, b, rfl, rfl, rfl⟩ := one _ _ _ _ hs
      exact run_equalIn_int w (m + d) t k _ a b ht
    · rename_i ht
      cases h
      refine ⟨false, nag _ ht rfl, fun _ => rfl, fun m vs us e w hs => ?_⟩
      obtain ⟨v, u, rfl, rfl, a, b, rfl, rfl, rfl⟩ := one _ _ _ _ hs
      exact run_equalIn_bool w (m + d) t a b ht
    · rename_i ht
      cases h
      refine ⟨false, nag _ ht rfl, fun _ => rfl, fun m vs us e w hs => ?_⟩
      obtain ⟨v, u, rfl, rfl, a, b, rfl, rfl, rfl⟩ := one _ _ _ _ hs
      have := run_equalIn_string w (m + d) t a b ht
      rw [toList_beq] at this
      exact this
    · rename_i fs ht
      split at h
      · cases h
      rename_i hst
      have hag : agT P t = some true := by unfold agT; rw [ht]; rfl
      refine ⟨true, hag, (fun h => by cases h), fun m vs us e w hs => ?_⟩
      have hf : P.fieldsOf t = fs := by unfold Program.fieldsOf; rw [ht]
      have hr := run_equalIn_struct (P := P) w (m + d) t vs.toArray us.toArray (by rw [hf]; exact ht) (by simpa using hst)
      simp only [packV, if_true]
      rw [show m + (d + 1) = (m + d) + 1 from rfl, hr, hf]
      have key : ∀ (fl : List Field) (off : Nat) (ks : List Kd) (e : Bool), kindsF P (kindsT P d) off fl = some ks → off + ks.length = vs.length → off + ks.length = us.length → Scals ks (vs.drop off) (us.drop off) e →
          (Op.eqFields (m + d) vs.toArray us.toArray fl).run P w = .ok e w := by
        intro fl
        induction fl with
        | nil =>
          intro off ks e hk _ _ hs
          simp only [kindsF, Option.some.injEq] at hk
          subst hk
          have hl := hs.len
          have h1 : vs.drop off = [] := List.eq_nil_of_length_eq_zero (by simpa using hl.1)
          have h2 : us.drop off = [] := List.eq_nil_of_length_eq_zero (by simpa using hl.2)
          rw [h1, h2] at hs
          have : e = true := hs
          subst this
          simp [Op.eqFields]
        | cons f fl ih =>
          intro off ks e hk hlv hlu hs
          simp only [kindsF] at hk
          split at hk
          case isFalse => cases hk
          rename_i hnm
          obtain ⟨hnm, hoff⟩ := hnm
          split at hk
          case h_2 => cases hk
          rename_i k1 ag n hK ha hn
          split at hk
          case isFalse => cases hk
          rename_i hkl
          obtain ⟨ag', ha', h1, hrun⟩ := kinds_eq P d f.type k1 hK
          obtain rfl : ag' = ag := Option.some.inj (ha'.symm.trans ha)
          cases hkf : kindsF P (kindsT P d) (off + n) fl with
          | none => rw [hkf] at hk; cases hk
          | some k2 =>
            rw [hkf] at hk
            simp only [Option.map_some, Option.some.injEq] at hk
            subst hk
            obtain ⟨a, b, g1, g2, rfl⟩ := Scals.split k1 k2 _ _ _ hs
            rw [hkl] at g1 g2
            simp only [List.length_append, hkl] at hlv hlu
            have q1 := part_pack (P := P) (w := w) (off := off) ha hn vs (by omega) (fun h => by rw [← hkl]; exact h1 h)
            have q2 := part_pack (P := P) (w := w) (off := off) ha hn us (by omega) (fun h => by rw [← hkl]; exact h1 h)
            have q3 := hrun m _ _ a w g1
            rw [List.drop_drop, List.drop_drop] at g2
            have q4 := ih (off + n) k2 b hkf (by omega) (by omega) g2
            simp only [Op.eqFields, hnm, ne_eq, not_false_eq_true, if_true, hoff, Sem.run_bind, q1, q2, q3, Result.andThen_ok, Sem.run_ite]
            cases a
            · simp
            · simp [q4]
      have hl := hs.len
      exact key fs.toList 0 ks e h (by omega) (by omega) (by simpa using hs)
    · cases h

theorem does_eqa {t t' : TypeId} {x y : Operand} (ne : Bool) (ho : o.op = .binOp (if ne then .neq else .eql) t x y t') {ks : List Kd} (hks : kindsT P 9 t = some ks) (hst : ∃ fs, P.underlying t = some (.struct fs)) (hg : P.eqGuardType P.depth t = false)
    {X Y : Opd} (hx : VR s Z (ev X) (ρ x)) (hy : VR s Z (ev Y) (ρ y)) {p : Prop} {d : D}
    (hq : qv ev H (.eqa ne ks X Y) = some (p, d)) (hp : p) : Does P s Z w ρ o d := by
  simp only [qv] at hq
  generalize ev X = e at *
  generalize ev Y = f at *
  cases e <;> try (simp only [reduceCtorEq] at hq; done)
  cases f <;> try (simp only [reduceCtorEq] at hq; done)
  rename_i ds es
  simp only at hq
  split at hq <;> simp only [Option.some.injEq, Prod.mk.injEq, reduceCtorEq] at hq
  rename_i q b hd
  obtain ⟨rfl, rfl⟩ := hq
  obtain ⟨vs, hv, hl, hc⟩ := hx.agg_inv
  obtain ⟨us, hu, hm, hc'⟩ := hy.agg_inv
  obtain ⟨vs⟩ := vs
  obtain ⟨us⟩ := us
  have hsc := deqs_scals (s := s) (Z := Z) ks ds es vs us _ _ hd hp (by simpa using hl) (by simpa using hm) (fun j x hx => by simpa using hc j x hx) (fun j x hx => by simpa using hc' j x hx)
  obtain ⟨ag, hag, _, hrun⟩ := kinds_eq P 9 t ks hks
  obtain ⟨fs, hfs⟩ := hst
  have : ag = true := by
    unfold agT at hag; rw [hfs] at hag; simpa using hag.symm
  subst this
  refine ⟨_, VR.bool_mk _, fun w' _ => ?_⟩
  have hr := hrun 9991 vs us b w' hsc
  simp only [packV, if_true] at hr
  unfold execOp; rw [ho]
  have hgd := fun op => run_eqGuard_agg (P := P) w' op t x y vs.toArray us.toArray hg
  cases ne
  · simp [hv, hu, hgd, run_eql_struct, hr]
  · simp [hv, hu, hgd, run_neq_struct, hr]

theorem ptrIds_get : ∀ (ds : List D) (ids : List Nat), ptrIds ds = some ids → ids.length = ds.length ∧ ∀ j id : Nat, ids[j]? = some id → ds[j]? = some (D.ptr id 0)
  | [], ids, h => by
    simp only [ptrIds, Option.some.injEq] at h
    subst h
    exact ⟨rfl, fun j id hj => by simp at hj⟩
  | d :: ds, ids, h => by
    unfold ptrIds at h
    split at h
    · rename_i heq
      cases heq
    · rename_i id ds' heq
      simp only [List.cons.injEq] at heq
      obtain ⟨rfl, rfl⟩ := heq
      split at h
      · rename_i l hl
        simp only [Option.some.injEq] at h
        subst h
        obtain ⟨h1, h2⟩ := ptrIds_get _ _ hl
        refine ⟨by simp [h1], fun j id' hj => ?_⟩
        cases j with
        | zero => simp at hj; subst hj; rfl
        | succ j => simpa using h2 j id' (by simpa using hj)
      · cases h
    · cases h
theorem does_mkfn {f : FuncId} {l cs : Array Operand} (ho : o.op = .makeFunc (.func f) l cs) (hl : l.size = 0) {ys : List Opd} (hys : ys.length = cs.size) (hev : ∀ (j : Nat) (y : Opd), ys[j]? = some y → ∃ x, cs[j]? = some x ∧ VR s Z (ev y) (ρ x)) {p : Prop} {d : D}
    (hq : qv ev H (.mkfn f ys) = some (p, d)) : Does P s Z w ρ o d := by
  have hl' : l = #[] := by apply Array.eq_empty_of_size_eq_zero hl
  subst hl'
  simp only [qv] at hq
  split at hq
  case isFalse =>
    split at hq <;> simp only [Option.some.injEq, Prod.mk.injEq, reduceCtorEq] at hq
    rename_i ids hids
    obtain ⟨_, rfl⟩ := hq
    have hp := ptrIds_get _ _ hids
    refine ⟨.func (.func f) #[] (cs.map ρ), ⟨cs.map ρ, rfl, by rw [hp.1]; simp [hys], fun j id hj => ?_⟩, fun w' _ => ?_⟩
    · have h1 := hp.2 j id hj
      rw [List.getElem?_map] at h1
      cases hy : ys[j]? with
      | none => rw [hy] at h1; cases h1
      | some y =>
        rw [hy] at h1
        simp only [Option.map_some, Option.some.injEq] at h1
        obtain ⟨x, hx, hv⟩ := hev j y hy
        rw [h1] at hv
        obtain ⟨b, h2, h3⟩ := hv
        have : (cs.map ρ).getD j undef = ρ x := by rw [Array.getD_eq_getD_getElem?, Array.getElem?_map, hx]; rfl
        rw [this]
        exact ⟨b, h2, h3⟩
    · unfold execOp; rw [ho]
      simp [Instr.makeFunc]
  simp only [Option.some.injEq, Prod.mk.injEq] at hq
  rename_i hall
  obtain ⟨_, rfl⟩ := hq
  refine ⟨.func (.func f) #[] (cs.map ρ), VT.fn f _ _ (by simp [hys]) (fun j d hd => ?_), fun w' _ => ?_⟩
  · rw [List.getElem?_map] at hd
    cases hy : ys[j]? with
    | none => rw [hy] at hd; cases hd
    | some y =>
      rw [hy] at hd
      simp only [Option.map_some, Option.some.injEq] at hd
      subst hd
      obtain ⟨x, hx, hv⟩ := hev j y hy
      have ht : isT (ev y) = true := List.all_eq_true.1 hall _ (List.mem_map.2 ⟨y, List.mem_of_getElem? hy, rfl⟩)
      have : (cs.map ρ).getD j undef = ρ x := by rw [Array.getD_eq_getD_getElem?, Array.getElem?_map, hx]; rfl
      rw [this]
      exact VR.vt hv ht (fun h => by rw [h] at ht; cases ht)
  · unfold execOp; rw [ho]
    simp [Instr.makeFunc]
end
end Go.Proofs.Ytajimebannjofaa

set_option linter.unusedSimpArgs false
set_option linter.unusedVariables false
namespace Go.Proofs.Ytajimebannjofaa
open Go.RowKit
section
variable {P : Program} {s : Nat → Value} {Z : Cells} {H : List (Nat × Ob)} {w : World} {ρ : Operand → Value} {ev : Opd → D} {o : Oper}

theorem sliceT_some {t e : TypeId} (h : sliceT P t = some e) : P.underlying t = some (.slice e) := by
  unfold sliceT at h
  split at h
  · rename_i e' he; cases h; exact he
  · cases h
theorem bound_run {x : Option Operand} {X : Option Opd} (hev : ∀ x y, opdC x = some y → VR s Z (ev y) (ρ x)) (hX : optC x = some X) {dflt : Nat} {p : Prop} {n : Nat} (hb : boundD X ev dflt = some (p, n)) (hp : p) :
    (x = none ∧ X = none ∧ n = dflt) ∨ ∃ y k z, x = some y ∧ X.isSome = true ∧ ρ y = .int k z ∧ 0 ≤ z ∧ n = z.toNat := by
  cases x with
  | none =>
    simp only [optC, Option.some.injEq] at hX
    subst hX
    simp only [boundD, Option.some.injEq, Prod.mk.injEq] at hb
    exact .inl ⟨rfl, rfl, hb.2.symm⟩
  | some y =>
    simp only [optC] at hX
    cases hy : opdC y with
    | none => rw [hy] at hX; cases hX
    | some Y =>
      rw [hy] at hX
      simp only [Option.map_some, Option.some.injEq] at hX
      subst hX
      have hv := hev y Y hy
      simp only [boundD] at hb
      generalize ev Y = e at *
      cases e <;> simp only [Option.some.injEq, Prod.mk.injEq, reduceCtorEq] at hb
      obtain ⟨rfl, rfl⟩ := hb
      exact .inr ⟨y, _, _, rfl, rfl, hv.int_inv, hp, rfl⟩
theorem run_bounds {len cap l h m : Nat} {lo hi mx : Option Operand} (hlo : (lo = none ∧ l = 0) ∨ ∃ y k z, lo = some y ∧ ρ y = .int k z ∧ 0 ≤ z ∧ l = z.toNat) (hhi : (hi = none ∧ h = len) ∨ ∃ y k z, hi = some y ∧ ρ y = .int k z ∧ 0 ≤ z ∧ h = z.toNat)
    (hmx : (mx = none ∧ m = cap) ∨ ∃ y k z, mx = some y ∧ ρ y = .int k z ∧ 0 ≤ z ∧ m = z.toNat) (hmh : mx.isSome = true → hi.isSome = true) (h1 : l ≤ h) (h2 : h ≤ m) (h3 : m ≤ cap) (w : World) :
    (Instr.sliceBounds true len cap (lo.map ρ) (hi.map ρ) (mx.map ρ)).run P w = .ok (l, h, m) w := by
  rcases hmx with ⟨rfl, rfl⟩ | ⟨y3, k3, z3, rfl, e3, q3, rfl⟩
  · rcases hhi with ⟨rfl, rfl⟩ | ⟨y2, k2, z2, rfl, e2, q2, rfl⟩
    · rcases hlo with ⟨rfl, rfl⟩ | ⟨y1, k1, z1, rfl, e1, q1, rfl⟩
      · simp [Instr.sliceBounds]
      · have r1 := fun c => run_sliceBound (P := P) w k1 z1 h c q1 (by omega)
        simp [Instr.sliceBounds, e1, r1]
    · have r2 := fun c => run_sliceBound (P := P) w k2 z2 m c q2 (by omega)
      rcases hlo with ⟨rfl, rfl⟩ | ⟨y1, k1, z1, rfl, e1, q1, rfl⟩
      · simp [Instr.sliceBounds, e2, r2]
      · have r1 := fun c => run_sliceBound (P := P) w k1 z1 z2.toNat c q1 (by omega)
        simp [Instr.sliceBounds, e1, r1, e2, r2]
  · rcases hhi with ⟨rfl, rfl⟩ | ⟨y2, k2, z2, rfl, e2, q2, rfl⟩
    · simp at hmh
    · have r3 := fun c => run_sliceBound (P := P) w k3 z3 cap c q3 (by omega)
      have r2 := fun c => run_sliceBound (P := P) w k2 z2 z3.toNat c q2 (by omega)
      rcases hlo with ⟨rfl, rfl⟩ | ⟨y1, k1, z1, rfl, e1, q1, rfl⟩
      · simp [Instr.sliceBounds, e2, r2, e3, r3]
      · have r1 := fun c => run_sliceBound (P := P) w k1 z1 z2.toNat c q1 (by omega)
        simp [Instr.sliceBounds, e1, r1, e2, r2, e3, r3]

theorem does_slc {t e : TypeId} {x : Operand} {lo hi mx : Option Operand} {n : Nat} (ho : o.op = .slice t x lo hi mx) (ht : sliceT P t = some e) (hn : szT P e = some n) (hev : ∀ x y, opdC x = some y → VR s Z (ev y) (ρ x)) (hk : Know s Z H w)
    {X : Opd} {LO HI MX : Option Opd} (hx : VR s Z (ev X) (ρ x)) (hlo : optC lo = some LO) (hhi : optC hi = some HI) (hmx : optC mx = some MX) (hmh : mx.isSome = true → hi.isSome = true) {p : Prop} {d : D}
    (hq : qv ev H (.slc n X LO HI MX) = some (p, d)) (hp : p) : Does P s Z w ρ o d := by
  have hu := sliceT_some ht
  have start : ∀ (a : Option Addr) (len cap l h m : Nat) (w' : World), ρ x = .slice a len cap → (Instr.sliceBounds true len cap (lo.map ρ) (hi.map ρ) (mx.map ρ)).run P w' = .ok (l, h, m) w' →
      (execOp ρ o).run P w' = .ok (.value (.slice (if m = l then a else a.map (·.add (l * n))) (h - l) (m - l))) w' := fun a len cap l h m w' h1 h2 => by
    unfold execOp; rw [ho]
    simp only [Instr.sliceAt, Instr.slice, Sem.run_bind, run_underlying hu, Result.andThen_ok, h1, h2, run_sizeOf' hn, Sem.run_pure]
  simp only [qv] at hq
  generalize hX : ev X = ex at *
  cases ex <;> simp only [reduceCtorEq] at hq
  case own id =>
    split at hq
    case h_2 => cases hq
    rename_i sz' xs hh
    split at hq
    case h_2 => cases hq
    rename_i p1 m p2 l p3 h hb1 hb2 hb3
    simp only [Option.some.injEq, Prod.mk.injEq] at hq
    obtain ⟨rfl, rfl⟩ := hq
    obtain ⟨⟨hp1, hp2, hp3⟩, hlh, hhm, hmc⟩ := hp
    have g1 := bound_run hev hmx hb1 hp1
    have g2 := bound_run hev hlo hb2 hp2
    have g3 := bound_run hev hhi hb3 hp3
    obtain ⟨qa, cap, hs1, hs2, _⟩ := RowOk.slice (hk.ob _ _ hh)
    have hv0 : ρ x = .slice qa xs.length cap := hx.1.trans hs1
    have g2' : (lo = none ∧ l = 0) ∨ ∃ y k z, lo = some y ∧ ρ y = .int k z ∧ 0 ≤ z ∧ l = z.toNat := by
      rcases g2 with ⟨h1, h2, h3⟩ | ⟨y, k, z, h1, _, h2, h3, h4⟩
      · exact .inl ⟨h1, h3⟩
      · exact .inr ⟨y, k, z, h1, h2, h3, h4⟩
    have g3' : (hi = none ∧ h = xs.length) ∨ ∃ y k z, hi = some y ∧ ρ y = .int k z ∧ 0 ≤ z ∧ h = z.toNat := by
      rcases g3 with ⟨h1, h2, h3⟩ | ⟨y, k, z, h1, _, h2, h3, h4⟩
      · exact .inl ⟨h1, h3⟩
      · exact .inr ⟨y, k, z, h1, h2, h3, h4⟩
    rcases g1 with ⟨h1, h2, h3⟩ | ⟨y, k, z, h1, _, h2, h3, h4⟩
    · exact ⟨_, trivial, fun w' _ => start _ _ cap l h cap w' hv0 (run_bounds g2' g3' (.inl ⟨h1, rfl⟩) hmh hlh (by omega) (Nat.le_refl _) w')⟩
    · exact ⟨_, trivial, fun w' _ => start _ _ cap l h m w' hv0 (run_bounds g2' g3' (.inr ⟨y, k, z, h1, h2, h3, h4⟩) hmh hlh hhm (by omega) w')⟩
  case sl id sz' off len cap =>
    split at hq
    case h_2 => cases hq
    rename_i p1 m p2 l p3 h hb1 hb2 hb3
    simp only [Option.some.injEq, Prod.mk.injEq] at hq
    obtain ⟨rfl, rfl⟩ := hq
    obtain ⟨⟨hp1, hp2, hp3⟩, rfl, hlh, hhm, hmc⟩ := hp
    have g1 := bound_run hev hmx hb1 hp1
    have g2 := bound_run hev hlo hb2 hp2
    have g3 := bound_run hev hhi hb3 hp3
    obtain ⟨b, nn, c, oo, hs1, hs2, hs3, hs4, hs5⟩ := hx
    have g1' : (mx = none ∧ m = cap) ∨ ∃ y k z, mx = some y ∧ ρ y = .int k z ∧ 0 ≤ z ∧ m = z.toNat := by
      rcases g1 with ⟨h1, h2, h3⟩ | ⟨y, k, z, h1, _, h2, h3, h4⟩
      · exact .inl ⟨h1, h3⟩
      · exact .inr ⟨y, k, z, h1, h2, h3, h4⟩
    have g2' : (lo = none ∧ l = 0) ∨ ∃ y k z, lo = some y ∧ ρ y = .int k z ∧ 0 ≤ z ∧ l = z.toNat := by
      rcases g2 with ⟨h1, h2, h3⟩ | ⟨y, k, z, h1, _, h2, h3, h4⟩
      · exact .inl ⟨h1, h3⟩
      · exact .inr ⟨y, k, z, h1, h2, h3, h4⟩
    have g3' : (hi = none ∧ h = len) ∨ ∃ y k z, hi = some y ∧ ρ y = .int k z ∧ 0 ≤ z ∧ h = z.toNat := by
      rcases g3 with ⟨h1, h2, h3⟩ | ⟨y, k, z, h1, _, h2, h3, h4⟩
      · exact .inl ⟨h1, h3⟩
      · exact .inr ⟨y, k, z, h1, h2, h3, h4⟩
    refine ⟨_, ?_, fun w' _ => start _ len cap l h m w' hs2 (run_bounds g2' g3' g1' hmh hlh hhm hmc w')⟩
    by_cases hml : m = l
    · rw [if_pos hml]
      exact ⟨b, nn, c, oo, hs1, rfl, fun h0 => by omega, by omega, by omega⟩
    · rw [if_neg hml]
      have ho := hs3 (by omega)
      exact ⟨b, nn, c, oo + l * n, hs1, by rw [Option.map_some, add_mid'], fun _ => by rw [ho, Nat.add_mul], by omega, by omega⟩
  rename_i sz xs
  split at hq
  case h_2 => cases hq
  rename_i p1 m p2 l p3 h hb1 hb2 hb3
  have hmxs : MX.isSome = mx.isSome := by
    cases mx with
    | none => simp only [optC, Option.some.injEq] at hmx; subst hmx; rfl
    | some y =>
      simp only [optC] at hmx
      cases hy : opdC y with
      | none => rw [hy] at hmx; cases hmx
      | some Y => rw [hy] at hmx; simp only [Option.map_some, Option.some.injEq] at hmx; subst hmx; rfl
  generalize hv : ρ x = v at hx
  split at hq <;> simp only [Option.some.injEq, Prod.mk.injEq] at hq <;> obtain ⟨rfl, rfl⟩ := hq
  · rename_i hm0
    simp only [Bool.and_eq_true, beq_iff_eq] at hm0
    obtain ⟨hm0, rfl⟩ := hm0
    obtain ⟨⟨hp1, hp2, hp3⟩, rfl, rfl⟩ := hp
    have g1 := bound_run hev hmx hb1 hp1
    have g2 := bound_run hev hlo hb2 hp2
    have g3 := bound_run hev hhi hb3 hp3
    have g1' : (mx = none ∧ 0 = (0 : Nat)) ∨ ∃ y k z, mx = some y ∧ ρ y = .int k z ∧ 0 ≤ z ∧ 0 = z.toNat := by
      rcases g1 with ⟨h1, h2, _⟩ | ⟨y, k, z, h1, _, h2, h3, h4⟩
      · rw [h2] at hm0; cases hm0
      · exact .inr ⟨y, k, z, h1, h2, h3, h4⟩
    have g2' : (lo = none ∧ 0 = (0 : Nat)) ∨ ∃ y k z, lo = some y ∧ ρ y = .int k z ∧ 0 ≤ z ∧ 0 = z.toNat := by
      rcases g2 with ⟨h1, h2, h3⟩ | ⟨y, k, z, h1, _, h2, h3, h4⟩
      · exact .inl ⟨h1, h3⟩
      · exact .inr ⟨y, k, z, h1, h2, h3, h4⟩
    have hxx := hx
    obtain ⟨a, cap, rfl, hcap, _⟩ := VR.rows_inv hxx
    have g3' : (hi = none ∧ 0 = xs.length) ∨ ∃ y k z, hi = some y ∧ ρ y = .int k z ∧ 0 ≤ z ∧ 0 = z.toNat := by
      rcases g3 with ⟨h1, h2, h3⟩ | ⟨y, k, z, h1, _, h2, h3, h4⟩
      · exact .inl ⟨h1, h3⟩
      · exact .inr ⟨y, k, z, h1, h2, h3, h4⟩
    have g1'' : (mx = none ∧ 0 = cap) ∨ ∃ y k z, mx = some y ∧ ρ y = .int k z ∧ 0 ≤ z ∧ 0 = z.toNat := by
      rcases g1' with ⟨h1, _⟩ | h1
      · rw [hmxs, h1] at hm0; cases hm0
      · exact .inr h1
    refine ⟨.slice a 0 0, VT.nil0 a, fun w' _ => ?_⟩
    have := start a _ cap 0 0 0 w' hv (run_bounds g2' g3' g1'' hmh (Nat.le_refl _) (Nat.le_refl _) (Nat.zero_le _) w')
    simpa using this
  · obtain ⟨⟨hp1, hp2, hp3⟩, rfl, hlh, hhm, hml⟩ := hp
    have g1 := bound_run hev hmx hb1 hp1
    have g2 := bound_run hev hlo hb2 hp2
    have g3 := bound_run hev hhi hb3 hp3
    have g2' : (lo = none ∧ l = 0) ∨ ∃ y k z, lo = some y ∧ ρ y = .int k z ∧ 0 ≤ z ∧ l = z.toNat := by
      rcases g2 with ⟨h1, h2, h3⟩ | ⟨y, k, z, h1, _, h2, h3, h4⟩
      · exact .inl ⟨h1, h3⟩
      · exact .inr ⟨y, k, z, h1, h2, h3, h4⟩
    have g3' : (hi = none ∧ h = xs.length) ∨ ∃ y k z, hi = some y ∧ ρ y = .int k z ∧ 0 ≤ z ∧ h = z.toNat := by
      rcases g3 with ⟨h1, h2, h3⟩ | ⟨y, k, z, h1, _, h2, h3, h4⟩
      · exact .inl ⟨h1, h3⟩
      · exact .inr ⟨y, k, z, h1, h2, h3, h4⟩
    -- the bound above: what was given, or the capacity
    have bounds : ∀ cap, xs.length ≤ cap → ∃ M, h ≤ M ∧ M ≤ cap ∧ ∀ w', (Instr.sliceBounds true xs.length cap (lo.map ρ) (hi.map ρ) (mx.map ρ)).run P w' = .ok (l, h, M) w' := fun cap hcap => by
      rcases g1 with ⟨h1, h2, h3⟩ | ⟨y, k, z, h1, _, h2, h3, h4⟩
      · exact ⟨cap, by omega, Nat.le_refl _, run_bounds g2' g3' (.inl ⟨h1, rfl⟩) hmh hlh (by omega) (Nat.le_refl _)⟩
      · exact ⟨m, hhm, by omega, run_bounds g2' g3' (.inr ⟨y, k, z, h1, h2, h3, h4⟩) hmh hlh hhm (by omega)⟩
    have hxx := hx
    obtain ⟨a, cap, rfl, hcap, _⟩ := VR.rows_inv hxx
    obtain ⟨M, hM1, hM2, hrun⟩ := bounds cap hcap
    refine ⟨_, ?_, fun w' _ => start a _ cap l h M w' hv (hrun w')⟩
    have hlen : ((xs.take h).drop l).length = h - l := by rw [List.length_drop, List.length_take]; omega
    cases hx with
    | rnil _ a cap =>
      simp only [List.length_nil] at hml
      have : l = 0 := by omega
      subst this
      have : h = 0 := by omega
      subst this
      simp only [List.take_nil, List.drop_nil, Nat.sub_self, Nat.sub_zero]
      exact VT.rnil n _ _
    | rows _ _ b off cap c hc h1 h2 =>
      by_cases hMl : M = l
      · rw [if_pos hMl]
        have hh : h = l := by omega
        have e1 : (xs.take h).drop l = [] := List.eq_nil_of_length_eq_zero (by omega)
        rw [e1, show h - l = ([] : List (List D)).length by simp; omega]
        exact VT.rows n [] b off (M - l) c (by simp) (fun i row j d hi => by simp at hi) (fun i row j d hi => by simp at hi)
      · rw [if_neg hMl, Option.map_some, add_mid', show h - l = ((xs.take h).drop l).length from hlen.symm]
        have hget : ∀ (i : Nat) (row : List D), ((xs.take h).drop l)[i]? = some row → xs[l + i]? = some row := fun i row hi => by
          rw [List.getElem?_drop, List.getElem?_take] at hi
          split at hi
          · exact hi
          · cases hi
        refine VT.rows n _ b (off + l * n) (M - l) (fun i j => c (l + i) j) (by omega) (fun i row j d hi hj => ?_) (fun i row j d hi hj => h2 _ row j d (hget i row hi) hj)
        have := h1 _ row j d (hget i row hi) hj
        rwa [show off + (l + i) * n + j = off + l * n + i * n + j by rw [Nat.add_mul]; omega] at this

/-! ### Structs that are built -/
theorem VR.cells {d : D} {v : Value} (h : VR s Z d v) (h0 : 0 < d.cells.length) : v.cells.size = d.cells.length ∧ ∀ j x, d.cells[j]? = some x → VC s Z x (v.cells.getD j undef) := by
  have one : VC s Z d v → d.cells = [d] → v.cells.size = d.cells.length ∧ ∀ j x, d.cells[j]? = some x → VC s Z x (v.cells.getD j undef) := fun hc hd => by
    have h1 := hc.one
    have hcs : v.cells = #[v] := by cases v <;> first | rfl | (cases h1; done)
    rw [hcs, hd]
    refine ⟨rfl, fun j x hx => ?_⟩
    cases j with
    | zero => simp at hx; subst hx; exact hc
    | succ j => simp at hx
  cases d with
  | agg ds =>
    obtain ⟨vs, rfl, hl, hc⟩ := h
    exact ⟨hl, hc⟩
  | any => simp [D.cells] at h0
  | tup _ => simp [D.cells] at h0
  | opt _ _ => simp [D.cells] at h0
  | _ => exact one h rfl

theorem splice_fold (off : Nat) : ∀ (l : List Value) (k : Nat) (cs : Array Value), off + k + l.length ≤ cs.size →
    ((l.zipIdx k).foldl (fun cs (p : Value × Nat) => cs.setIfInBounds (off + p.2) p.1) cs).size = cs.size ∧
    ∀ j, ((l.zipIdx k).foldl (fun cs (p : Value × Nat) => cs.setIfInBounds (off + p.2) p.1) cs).getD j undef = if off + k ≤ j ∧ j < off + k + l.length then l.getD (j - off - k) undef else cs.getD j undef
  | [], k, cs, _ => ⟨rfl, fun j => by rw [if_neg (by simp)]; rfl⟩
  | v :: l, k, cs, h => by
    simp only [List.length_cons] at h
    have ih := splice_fold off l (k + 1) (cs.setIfInBounds (off + k) v) (by simp; omega)
    simp only [List.zipIdx_cons, List.foldl_cons]
    refine ⟨by rw [ih.1]; simp, fun j => ?_⟩
    rw [ih.2 j]
    by_cases h1 : off + (k + 1) ≤ j ∧ j < off + (k + 1) + l.length
    · rw [if_pos h1, if_pos (by simp only [List.length_cons]; omega), show j - off - k = (j - off - (k + 1)) + 1 by omega, List.getD_cons_succ]
    · rw [if_neg h1]
      by_cases h2 : j = off + k
      · subst h2
        rw [if_pos (by simp only [List.length_cons]; omega), show off + k - off - k = 0 by omega, List.getD_cons_zero]
        have : off + k < cs.size := by omega
        simp [Array.getD, this]
      · rw [if_neg (by simp only [List.length_cons]; omega)]
        rw [Array.getD_eq_getD_getElem?, Array.getD_eq_getD_getElem?, Array.getElem?_setIfInBounds, if_neg (fun h => h2 h.symm)]

theorem fill_sound {place : Nat → Option (Nat × Nat)} : ∀ (ps : List (Nat × Value)) (qs : List (Nat × Nat × D)) (cells : Array Value) (z ds : List D), ps.length = qs.length →
    (∀ (j : Nat) (p : Nat × Value) (q : Nat × Nat × D), ps[j]? = some p → qs[j]? = some q → place p.1 = some (q.1, q.2.1) ∧ VR s Z q.2.2 p.2) →
    cells.size = z.length → (∀ j x, z[j]? = some x → VC s Z x (cells.getD j undef)) → fillD z qs = some ds →
    ∃ cs, Instr.fill place cells ps = some cs ∧ cs.size = ds.length ∧ ∀ j x, ds[j]? = some x → VC s Z x (cs.getD j undef)
  | [], [], cells, z, ds, _, _, hl, hc, hf => by
    simp only [fillD, Option.some.injEq] at hf
    subst hf
    exact ⟨cells, rfl, hl, hc⟩
  | (i, v) :: ps, (off, n, d) :: qs, cells, z, ds, hlen, hpq, hl, hc, hf => by
    simp only [fillD] at hf
    split at hf
    case isFalse => cases hf
    rename_i hcond
    obtain ⟨h1, h2, h3⟩ := hcond
    obtain ⟨hpl, hv⟩ := hpq 0 (i, v) (off, n, d) rfl rfl
    simp only at hpl hv
    obtain ⟨hcs, hcc⟩ := hv.cells (by omega)
    have hsp := splice_fold off v.cells.toList 0 cells (by simp; omega)
    simp only [Array.length_toList, Nat.add_zero] at hsp
    have e : v.cells.zipIdx.foldl (fun cs (p : Value × Nat) => cs.setIfInBounds (off + p.2) p.1) cells = (v.cells.toList.zipIdx 0).foldl (fun cs (p : Value × Nat) => cs.setIfInBounds (off + p.2) p.1) cells := by
      rw [← Array.foldl_toList, Array.toList_zipIdx]
    have ih := fill_sound (place := place) ps qs (v.cells.zipIdx.foldl (fun cs (p : Value × Nat) => cs.setIfInBounds (off + p.2) p.1) cells) (z.take off ++ d.cells ++ z.drop (off + n)) ds (by simpa using hlen)
      (fun j p q hp hq => hpq (j + 1) p q (by simpa using hp) (by simpa using hq)) (by rw [e, hsp.1]; simp [h1, List.length_take]; omega) (fun j x hx => ?_) hf
    · obtain ⟨cs, hcs1, hcs2⟩ := ih
      refine ⟨cs, ?_, hcs2⟩
      simp only [Instr.fill, hpl]
      rw [if_neg (by simp; omega)]
      exact hcs1
    · rw [e, hsp.2 j]
      rw [List.append_assoc] at hx
      by_cases hj : off ≤ j ∧ j < off + v.cells.size
      · rw [if_pos hj, show j - off - 0 = j - off by omega]
        rw [List.getElem?_append_right (by simp; omega), List.length_take, Nat.min_eq_left (by omega), List.getElem?_append_left (by omega)] at hx
        have := hcc _ _ hx
        simpa [Array.getD_eq_getD_getElem?, List.getD_eq_getElem?_getD] using this
      · rw [if_neg hj]
        refine hc j x ?_
        by_cases hj2 : j < off
        · rw [List.getElem?_append_left (by simp; omega), List.getElem?_take, if_pos hj2] at hx; exact hx
        · rw [List.getElem?_append_right (by simp; omega), List.length_take, Nat.min_eq_left (by omega), List.getElem?_append_right (by omega), List.getElem?_drop] at hx
          rwa [show off + n + (j - off - d.cells.length) = j by omega] at hx
  | [], _ :: _, _, _, _, h, _, _, _, _ => by simp at h
  | _ :: _, [], _, _, _, h, _, _, _, _ => by simp at h

theorem cellD_sound {v : Value} {d : D} (h : cellD v = some d) : VC s Z d v := by
  unfold cellD at h
  split at h <;> (try simp only [Option.some.injEq, reduceCtorEq] at h) <;> (try subst h)
  · exact VT.int _ _
  · exact VT.bool _
  · exact VT.str _
  · exact VT.nilp
  · exact VT.nil0 _
  · split at h
    · rename_i f l r hlr
      simp only [Option.some.injEq] at h
      subst h
      obtain ⟨h1, h2⟩ := hlr
      have e1 : l = #[] := Array.eq_empty_of_size_eq_zero h1
      have e2 : r = #[] := Array.eq_empty_of_size_eq_zero h2
      subst e1 e2
      exact VT.fn _ [] #[] rfl (fun j d hd => by simp at hd)
    · cases h
theorem cellsD_sound : ∀ (vs : List Value) (ds : List D), cellsD vs = some ds → vs.length = ds.length ∧ ∀ j x, ds[j]? = some x → VC s Z x (vs.getD j undef)
  | [], ds, h => by simp only [cellsD, Option.some.injEq] at h; subst h; exact ⟨rfl, fun j x hx => by simp at hx⟩
  | v :: vs, ds, h => by
    simp only [cellsD] at h
    split at h <;> simp only [Option.some.injEq, reduceCtorEq] at h
    rename_i d ds' h1 h2
    subst h
    obtain ⟨g1, g2⟩ := cellsD_sound vs ds' h2
    refine ⟨by simp [g1], fun j x hx => ?_⟩
    cases j with
    | zero => simp at hx; subst hx; exact cellD_sound h1
    | succ j => simpa using g2 j x (by simpa using hx)
theorem zeroT_sound {t : TypeId} {z : List D} (h : zeroT P t = some z) : ∃ i v, P.info? t = some i ∧ i.zero = some v ∧ i.size = z.length ∧ v.cells.size = z.length ∧ ∀ j x, z[j]? = some x → VC s Z x (v.cells.getD j undef) := by
  unfold zeroT at h
  split at h
  case h_2 => cases h
  rename_i i hi
  split at h
  case h_2 => cases h
  rename_i v hv
  split at h
  case isFalse => cases h
  rename_i hs
  obtain ⟨h1, h2⟩ := cellsD_sound (s := s) (Z := Z) _ _ h
  simp only [Array.length_toList] at h1
  exact ⟨i, v, hi, hv, by omega, h1, fun j x hx => by simpa [Array.getD_eq_getD_getElem?, List.getD_eq_getElem?_getD] using h2 j x hx⟩

theorem partsC_sound {t : TypeId} (hev : ∀ x y, opdC x = some y → VR s Z (ev y) (ρ x)) : ∀ (ps : List (Nat × Operand)) (qs : List (Nat × Nat × Opd)), partsC P t ps = some qs →
    ps.length = qs.length ∧ ∀ (j : Nat) (p : Nat × Operand) (q : Nat × Nat × Opd), ps[j]? = some p → qs[j]? = some q → placeT P t p.1 = some (q.1, q.2.1) ∧ VR s Z (ev q.2.2) (ρ p.2)
  | [], qs, h => by simp only [partsC, Option.some.injEq] at h; subst h; exact ⟨rfl, fun j p q hp => by simp at hp⟩
  | (i, x) :: ps, qs, h => by
    simp only [partsC] at h
    split at h <;> simp only [Option.some.injEq, reduceCtorEq] at h
    rename_i off n y ys h1 h2 h3
    subst h
    obtain ⟨g1, g2⟩ := partsC_sound hev ps ys h3
    refine ⟨by simp [g1], fun j p q hp hq => ?_⟩
    cases j with
    | zero => simp at hp hq; subst hp hq; exact ⟨h1, hev x y h2⟩
    | succ j => exact g2 j p q (by simpa using hp) (by simpa using hq)
theorem run_places' (fs : List Field) (h : ∀ f ∈ fs, (szT P f.type).isSome = true) (w : World) : (fs.mapM (m := Sem) fun f => do pure (f.offset, ← sizeOf f.type)).run P w = .ok (fs.map fun f => (f.offset, (szT P f.type).getD 0)) w := by
  induction fs with
  | nil => rfl
  | cons f fs ih =>
    obtain ⟨n, hn⟩ := Option.isSome_iff_exists.1 (h f (by simp))
    simp only [List.mapM_cons, Sem.run_bind, run_sizeOf' hn, Result.andThen_ok, Sem.run_pure, ih fun g hg => h g (by simp [hg]), List.map_cons, hn, Option.getD_some]

theorem does_build {t : TypeId} {ps : Array (Nat × Operand)} (ho : o.op = .build t ps) (hev : ∀ x y, opdC x = some y → VR s Z (ev y) (ρ x)) {z : List D} {qs : List (Nat × Nat × Opd)} (hz : zeroT P t = some z) (hps : partsC P t ps.toList = some qs)
    (ht : (∃ fs, P.underlying t = some (.struct fs) ∧ ∀ f ∈ fs.toList, (szT P f.type).isSome = true) ∨ ∃ n e m, P.underlying t = some (.array n e) ∧ szT P e = some m) {p : Prop} {d : D}
    (hq : qv ev H (.build z qs) = some (p, d)) : Does P s Z w ρ o d := by
  simp only [qv] at hq
  split at hq <;> simp only [Option.some.injEq, Prod.mk.injEq, reduceCtorEq] at hq
  rename_i ds hds
  obtain ⟨_, rfl⟩ := hq
  obtain ⟨i, v, hi, hv, hsz, hvc, hcc⟩ := zeroT_sound (s := s) (Z := Z) hz
  obtain ⟨hl, hpq⟩ := partsC_sound (P := P) (t := t) hev ps.toList qs hps
  have fill : ∀ place : Nat → Option (Nat × Nat), (∀ i r, placeT P t i = some r → place i = some r) → ∃ cs, Instr.fill place v.cells (ps.toList.map fun q => (q.1, ρ q.2)) = some cs ∧ cs.size = ds.length ∧ ∀ j x, ds[j]? = some x → VC s Z x (cs.getD j undef) := fun place hpl =>
    fill_sound (s := s) (Z := Z) (place := place) (ps.toList.map fun q => (q.1, ρ q.2)) (qs.map fun q => (q.1, q.2.1, ev q.2.2)) v.cells z ds (by simpa using hl)
    (fun j p q hp hq => by
      rw [List.getElem?_map] at hp hq
      cases hp' : ps.toList[j]? with
      | none => rw [hp'] at hp; cases hp
      | some p' =>
        cases hq' : qs[j]? with
        | none => rw [hq'] at hq; cases hq
        | some q' =>
          rw [hp'] at hp; rw [hq'] at hq
          simp only [Option.map_some, Option.some.injEq] at hp hq
          subst hp hq
          obtain ⟨g1, g2⟩ := hpq j p' q' hp' hq'
          exact ⟨hpl _ _ g1, g2⟩) hvc hcc hds
  have hpl : (ps.map fun q => (q.1, ρ q.2)).toList = ps.toList.map fun q => (q.1, ρ q.2) := by simp
  rcases ht with ⟨fs, ht, hfs⟩ | ⟨n, e, m, ht, hm⟩
  · obtain ⟨cs, hcs, hcl, hcv⟩ := fill (fun i => (fs.toList.map fun f => (f.offset, (szT P f.type).getD 0)).toArray[i]?) fun i r hr => by
      unfold placeT at hr
      rw [ht] at hr
      simp only at hr
      split at hr
      case isFalse => cases hr
      split at hr
      case h_2 => cases hr
      rename_i f hf
      cases hs : szT P f.type with
      | none => rw [hs] at hr; cases hr
      | some n =>
        rw [hs] at hr
        simp only [Option.map_some, Option.some.injEq] at hr
        have : fs.toList[i]? = some f := by simpa using hf
        rw [List.getElem?_toArray, List.getElem?_map, this, Option.map_some, hs, ← hr]; rfl
    refine ⟨.agg cs, ⟨cs, rfl, hcl, hcv⟩, fun w' _ => ?_⟩
    unfold execOp; rw [ho]
    have hzr : (zeroValue t).run P w' = .ok v w' := by simp [zeroValue, typeInfo, hi, hv]
    have hp : (fs.mapM (m := Sem) fun f => do pure (f.offset, ← sizeOf f.type)).run P w' = .ok (fs.toList.map fun f => (f.offset, (szT P f.type).getD 0)).toArray w' := by
      rw [Array.mapM_eq_mapM_toList, Sem.run_map, run_places' fs.toList hfs, Result.andThen_ok]
    simp only [Instr.build, Sem.run_bind, hzr, run_underlying ht, Result.andThen_ok, hp, hpl, hcs, Sem.run_pure]
  · obtain ⟨cs, hcs, hcl, hcv⟩ := fill (fun i => some (i * m, m)) fun i r hr => by
      unfold placeT at hr
      rw [ht] at hr
      simp only [hm, Option.map_some] at hr
      exact hr
    refine ⟨.agg cs, ⟨cs, rfl, hcl, hcv⟩, fun w' _ => ?_⟩
    unfold execOp; rw [ho]
    have hzr : (zeroValue t).run P w' = .ok v w' := by simp [zeroValue, typeInfo, hi, hv]
    simp only [Instr.build, Sem.run_bind, hzr, run_underlying ht, run_sizeOf' hm, Result.andThen_ok, hpl, hcs, Sem.run_pure]

/-! ### All kinds -/
theorem opdsC_sound (hev : ∀ x y, opdC x = some y → VR s Z (ev y) (ρ x)) : ∀ (xs : List Operand) (ys : List Opd), opdsC xs = some ys → ys.length = xs.length ∧ ∀ (j : Nat) (y : Opd), ys[j]? = some y → ∃ x, xs[j]? = some x ∧ VR s Z (ev y) (ρ x)
  | [], ys, h => by simp only [opdsC, Option.some.injEq] at h; subst h; exact ⟨rfl, fun j y hy => by simp at hy⟩
  | x :: xs, ys, h => by
    simp only [opdsC] at h
    split at h <;> simp only [Option.some.injEq, reduceCtorEq] at h
    rename_i y ys' h1 h2
    subst h
    obtain ⟨g1, g2⟩ := opdsC_sound hev xs ys' h2
    refine ⟨by simp [g1], fun j z hz => ?_⟩
    cases j with
    | zero => simp at hz; subst hz; exact ⟨x, rfl, hev x y h1⟩
    | succ j => obtain ⟨a, b, c⟩ := g2 j z (by simpa using hz); exact ⟨a, by simpa using b, c⟩
end
end Go.Proofs.Ytajimebannjofaa

set_option linter.unusedSimpArgs false
set_option linter.unusedVariables false
namespace Go.Proofs.Ytajimebannjofaa
open Go.RowKit
section
variable {P : Program} {s : Nat → Value} {Z : Cells} {H : List (Nat × Ob)} {w : World} {ρ : Operand → Value} {ev : Opd → D} {o : Oper}

theorem eqC_sound {t t' : TypeId} {x y : Operand} (ne : Bool) (ho : o.op = .binOp (if ne then .neq else .eql) t x y t') {X Y : Opd} (hx : VR s Z (ev X) (ρ x)) (hy : VR s Z (ev Y) (ρ y)) {ao : AOp} (hc : eqC P t ne X Y = some ao)
    {p : Prop} {d : D} (hq : qv ev H ao = some (p, d)) (hp : p) : Does P s Z w ρ o d := by
  unfold eqC at hc
  split at hc
  · simp only [Option.some.injEq] at hc; subst hc
    exact does_bin ho hx hy hq hp
  · simp only [Option.some.injEq] at hc; subst hc
    exact does_bin ho hx hy hq hp
  · rename_i ht
    simp only [Option.some.injEq] at hc; subst hc
    exact does_eqb ne ho ht hx hy hq
  · rename_i e ht
    split at hc <;> simp only [Option.some.injEq, reduceCtorEq] at hc
    subst hc
    exact does_eqp ne ho ht hx hy hq hp
  · split at hc <;> simp only [Option.some.injEq, reduceCtorEq] at hc
    subst hc
    cases hq
  · rename_i fs ht
    split at hc
    · cases hc
    rename_i hg
    cases hk : kindsT P 9 t with
    | none => rw [hk] at hc; cases hc
    | some ks =>
      rw [hk] at hc
      simp only [Option.map_some, Option.some.injEq] at hc
      subst hc
      exact does_eqa ne ho hk ⟨fs, ht⟩ (by simpa using hg) hx hy hq hp
  · cases hc

theorem optC_isSome {x : Option Operand} {X : Option Opd} (h : optC x = some X) : X.isSome = x.isSome := by
  cases x with
  | none => simp only [optC, Option.some.injEq] at h; subst h; rfl
  | some y =>
    simp only [optC] at h
    cases hy : opdC y with
    | none => rw [hy] at h; cases h
    | some Y => rw [hy] at h; simp only [Option.map_some, Option.some.injEq] at h; subst h; rfl
theorem list_two {α : Type} {l : List α} (h : l.length = 2) : ∃ x y, l = [x, y] := by
  match l, h with
  | [x, y], _ => exact ⟨x, y, rfl⟩
theorem qv_sound (hk : Know s Z H w) (hev : ∀ x y, opdC x = some y → VR s Z (ev y) (ρ x)) {ao : AOp} (hc : cop P o.op = some ao) {p : Prop} {d : D} (hq : qv ev H ao = some (p, d)) (hp : p) : Does P s Z w ρ o d := by
  cases ho : o.op with
  | move x =>
    rw [ho] at hc
    simp only [cop] at hc
    cases hx : opdC x with
    | none => rw [hx] at hc; cases hc
    | some y =>
      rw [hx] at hc; simp only [Option.map_some, Option.some.injEq] at hc; subst hc
      simp only [qv, Option.some.injEq, Prod.mk.injEq] at hq
      obtain ⟨_, rfl⟩ := hq
      exact does_mov (.inl ho) (hev x y hx)
  | assign x =>
    rw [ho] at hc
    simp only [cop] at hc
    cases hx : opdC x with
    | none => rw [hx] at hc; cases hc
    | some y =>
      rw [hx] at hc; simp only [Option.map_some, Option.some.injEq] at hc; subst hc
      simp only [qv, Option.some.injEq, Prod.mk.injEq] at hq
      obtain ⟨_, rfl⟩ := hq
      exact does_mov (.inr ho) (hev x y hx)
  | pick c a b =>
    rw [ho] at hc
    simp only [cop] at hc
    split at hc <;> simp only [Option.some.injEq, reduceCtorEq] at hc
    subst hc
    cases hq
  | alloc t => rw [ho] at hc; simp only [cop] at hc; cases hz : zeroT P t <;> rw [hz] at hc <;> simp only [Option.map_none, Option.map_some, Option.some.injEq, reduceCtorEq] at hc; subst hc; cases hq
  | box t x => rw [ho] at hc; simp only [cop] at hc; cases hz : opdC x <;> rw [hz] at hc <;> simp only [Option.map_none, Option.map_some, Option.some.injEq, reduceCtorEq] at hc; subst hc; cases hq
  | build t ps =>
    rw [ho] at hc
    simp only [cop] at hc
    split at hc
    case h_2 => cases hc
    rename_i z qs hz hqs
    split at hc <;> simp only [Option.some.injEq, reduceCtorEq] at hc
    rename_i hb
    subst hc
    refine does_build ho hev hz hqs ?_ hq
    unfold buildT at hb
    split at hb
    · rename_i fs ht; exact .inl ⟨fs, ht, fun f hf => List.all_eq_true.1 hb f hf⟩
    · rename_i n e ht
      obtain ⟨m, hm⟩ := Option.isSome_iff_exists.1 hb
      exact .inr ⟨n, e, m, ht, hm⟩
    · cases hb
  | load t x =>
    rw [ho] at hc
    simp only [cop] at hc
    split at hc <;> simp only [Option.some.injEq, reduceCtorEq] at hc
    rename_i a n y h1 h2 h3
    subst hc
    exact does_load ho h1 h2 hk (hev x y h3) hq hp
  | nilCheck x =>
    rw [ho] at hc
    simp only [cop] at hc
    cases hx : opdC x with
    | none => rw [hx] at hc; cases hc
    | some y =>
      rw [hx] at hc; simp only [Option.map_some, Option.some.injEq] at hc; subst hc
      exact does_nchk ho (hev x y hx) hq
  | binOp op t x y t' =>
    rw [ho] at hc
    simp only [cop] at hc
    split at hc
    case h_2 => cases hc
    rename_i X Y hX hY
    have hx := hev x X hX
    have hy := hev y Y hY
    cases op <;> simp only [Option.some.injEq] at hc
    case eql => exact eqC_sound false ho hx hy hc hq hp
    case neq => exact eqC_sound true ho hx hy hc hq hp
    all_goals
      subst hc
      exact does_bin ho hx hy hq hp
  | unOp op t x =>
    rw [ho] at hc
    simp only [cop] at hc
    cases op <;> simp only [reduceCtorEq] at hc
    · cases hx : opdC x with
      | none => rw [hx] at hc; cases hc
      | some y =>
        rw [hx] at hc; simp only [Option.map_some, Option.some.injEq] at hc; subst hc
        first | exact does_not ho (hev x y hx) hq | exact does_neg ho (hev x y hx) hq hp
    · cases hx : opdC x with
      | none => rw [hx] at hc; cases hc
      | some y =>
        rw [hx] at hc; simp only [Option.map_some, Option.some.injEq] at hc; subst hc
        first | exact does_not ho (hev x y hx) hq | exact does_neg ho (hev x y hx) hq hp
  | convert u t x =>
    rw [ho] at hc
    simp only [cop] at hc
    split at hc
    case h_2 => cases hc
    rename_i k td ht hu
    cases hx : opdC x with
    | none => rw [hx] at hc; cases hc
    | some y =>
      rw [hx] at hc; simp only [Option.map_some, Option.some.injEq] at hc; subst hc
      exact does_conv ho ht (hev x y hx) (by rw [hu]; rfl) hq hp
  | makeFunc fn l cs =>
    rw [ho] at hc
    simp only [cop] at hc
    cases fn with
    | func f =>
      simp only at hc
      split at hc
      case isFalse => cases hc
      rename_i hl
      cases hys : opdsC cs.toList with
      | none => rw [hys] at hc; cases hc
      | some ys =>
        rw [hys] at hc; simp only [Option.map_some, Option.some.injEq] at hc; subst hc
        obtain ⟨g1, g2⟩ := opdsC_sound hev _ _ hys
        exact does_mkfn ho hl (by simpa using g1) (fun j y hy => by obtain ⟨x, hx, hv⟩ := g2 j y hy; exact ⟨x, by simpa using hx, hv⟩) hq
    | _ => cases hc
  | slice t x lo hi mx =>
    rw [ho] at hc
    simp only [cop] at hc
    split at hc
    case h_2 => cases hc
    rename_i e he
    split at hc
    case h_2 => cases hc
    rename_i n X LO HI MX hn hX hLO hHI hMX
    split at hc
    · cases hc
    rename_i hmh
    simp only [Option.some.injEq] at hc
    subst hc
    exact does_slc ho he hn hev hk (hev x X hX) hLO hHI hMX (fun h => by
      rw [← optC_isSome hMX] at h; rw [← optC_isSome hHI]
      simp only [h, Bool.true_and, Bool.not_eq_true', Bool.not_eq_false] at hmh; exact hmh) hq hp
  | fieldAddr t x i =>
    rw [ho] at hc
    simp only [cop] at hc
    split at hc
    case h_2 => cases hc
    rename_i fs ht
    split at hc
    case h_2 => cases hc
    rename_i f hf
    split at hc
    case h_2 => cases hc
    rename_i n X hn hX
    split at hc
    case isFalse => cases hc
    rename_i h0
    simp only [Option.some.injEq] at hc
    subst hc
    exact does_fad ho ht hf hn h0 (hev x X hX) hq
  | field t x i =>
    rw [ho] at hc
    simp only [cop] at hc
    split at hc
    case h_2 => cases hc
    rename_i fs ht
    split at hc
    case h_2 => cases hc
    rename_i f hf
    split at hc
    case h_2 => cases hc
    rename_i a n X ha hn hX
    simp only [Option.some.injEq] at hc
    subst hc
    exact does_fld ho ht hf ha hn (hev x X hX) hq hp
  | indexAddr t x i =>
    rw [ho] at hc
    simp only [cop] at hc
    split at hc
    · rename_i e X I ht hX hI
      cases hn : szT P e with
      | none => rw [hn] at hc; cases hc
      | some n =>
        rw [hn] at hc; simp only [Option.map_some, Option.some.injEq] at hc; subst hc
        exact does_iads ho ht hn hk (hev x X hX) (hev i I hI) hq hp
    · rename_i len e X I ht hX hI
      cases hn : szT P e with
      | none => rw [hn] at hc; cases hc
      | some n =>
        rw [hn] at hc; simp only [Option.map_some, Option.some.injEq] at hc; subst hc
        exact does_iada ho ht hn (hev x X hX) (hev i I hI) hq hp
    · cases hc
  | index t x i =>
    rw [ho] at hc
    simp only [cop] at hc
    split at hc
    case h_2 => cases hc
    rename_i len e X I ht hX hI
    split at hc
    case h_2 => cases hc
    rename_i a n ha hn
    simp only [Option.some.injEq] at hc
    subst hc
    exact does_ida ho ht ha hn (hev x X hX) (hev i I hI) hq hp
  | extract x i =>
    rw [ho] at hc
    simp only [cop] at hc
    cases hx : opdC x with
    | none => rw [hx] at hc; cases hc
    | some y =>
      rw [hx] at hc; simp only [Option.map_some, Option.some.injEq] at hc; subst hc
      exact does_ext ho (hev x y hx) hq hp
  | store t x y =>
    rw [ho] at hc
    simp only [cop] at hc
    split at hc <;> simp only [Option.some.injEq, reduceCtorEq] at hc
    subst hc
    cases hq
  | buildSlice t n ps =>
    rw [ho] at hc
    simp only [cop] at hc
    split at hc
    case h_2 => cases hc
    split at hc
    case h_2 => cases hc
    split at hc <;> simp only [Option.some.injEq, reduceCtorEq] at hc
    subst hc
    cases hq
  | makeSlice t l c =>
    rw [ho] at hc
    simp only [cop] at hc
    split at hc
    case h_2 => cases hc
    split at hc
    case h_2 => cases hc
    split at hc <;> simp only [Option.some.injEq, reduceCtorEq] at hc
    subst hc
    cases hq
  | call c =>
    rw [ho] at hc
    simp only [cop] at hc
    split at hc
    · split at hc <;> simp only [Option.some.injEq, reduceCtorEq] at hc
      · subst hc; cases hq
      · subst hc; cases hq
    · rename_i b hcal
      split at hc
      · rename_i X t h1 h2
        obtain ⟨g1, g2⟩ := opdsC_sound hev _ _ h1
        have hone : ∃ x, c.args.toList = [x] := by
          have : c.args.toList.length = 1 := by simpa using g1.symm
          exact List.length_eq_one_iff.1 this
        obtain ⟨x, hx⟩ := hone
        obtain ⟨x', hx', hv⟩ := g2 0 X rfl
        rw [hx] at hx'
        simp at hx'
        subst hx'
        split at hc
        · rename_i e ht
          simp only [Option.some.injEq] at hc; subst hc
          exact does_len ho hcal hx h2 ht hk hv hq
        · rename_i n e ht
          simp only [Option.some.injEq] at hc; subst hc
          simp only [qv, Option.some.injEq, Prod.mk.injEq] at hq
          obtain ⟨_, rfl⟩ := hq
          exact does_cst ho hcal hx h2 (.inl ⟨e, ht⟩)
        · rename_i a ht
          split at hc <;> simp only [Option.some.injEq, reduceCtorEq] at hc
          rename_i n e hr
          subst hc
          simp only [qv, Option.some.injEq, Prod.mk.injEq] at hq
          obtain ⟨_, rfl⟩ := hq
          exact does_cst ho hcal hx h2 (.inr ⟨e, a, ht, hr⟩)
        · cases hc
      · rename_i X Y h1
        simp only [Option.some.injEq] at hc; subst hc
        obtain ⟨g1, g2⟩ := opdsC_sound hev _ _ h1
        have htwo : ∃ x y, c.args.toList = [x, y] := by
          have : c.args.toList.length = 2 := by simpa using g1.symm
          exact list_two this
        obtain ⟨x, y, hxy⟩ := htwo
        obtain ⟨x', hx', hv⟩ := g2 0 X rfl
        obtain ⟨y', hy', hv'⟩ := g2 1 Y rfl
        rw [hxy] at hx' hy'
        simp at hx' hy'
        subst hx' hy'
        exact does_mnx false ho hcal hxy hv hv' hq
      · rename_i X Y h1
        simp only [Option.some.injEq] at hc; subst hc
        obtain ⟨g1, g2⟩ := opdsC_sound hev _ _ h1
        have htwo : ∃ x y, c.args.toList = [x, y] := by
          have : c.args.toList.length = 2 := by simpa using g1.symm
          exact list_two this
        obtain ⟨x, y, hxy⟩ := htwo
        obtain ⟨x', hx', hv⟩ := g2 0 X rfl
        obtain ⟨y', hy', hv'⟩ := g2 1 Y rfl
        rw [hxy] at hx' hy'
        simp at hx' hy'
        subst hx' hy'
        exact does_mnx true ho hcal hxy hv hv' hq
      · split at hc
        case isFalse => cases hc
        split at hc
        case h_2 => cases hc
        split at hc
        case h_2 => cases hc
        split at hc <;> simp only [Option.some.injEq, reduceCtorEq] at hc
        subst hc
        cases hq
      · cases hc
    · cases hc
  | _ => rw [ho] at hc; cases hc
end
end Go.Proofs.Ytajimebannjofaa

set_option linter.unusedSimpArgs false
set_option linter.unusedVariables false
namespace Go.Proofs.Ytajimebannjofaa
open Go.RowKit

theorem VT.mono {Z Z' : Cells} (hz : ∀ b o v, Z b o = some v → Z' b o = some v) {d : D} {v : Value} (h : VT Z d v) : VT Z' d v := by
  induction h with
  | int => exact VT.int _ _
  | bool => exact VT.bool _
  | str => exact VT.str _
  | nilp => exact VT.nilp
  | any v h => exact VT.any v h
  | nil0 a => exact VT.nil0 a
  | rnil sz a cap => exact VT.rnil sz a cap
  | rows sz xs b off cap c h1 h2 _ ih => exact VT.rows sz xs b off cap c h1 (fun i row j d hi hj => ⟨(h2 i row j d hi hj).1, hz _ _ _ (h2 i row j d hi hj).2⟩) ih
  | pc ds b off c h1 _ ih => exact VT.pc ds b off c (fun j d hj => hz _ _ _ (h1 j d hj)) ih
  | fn f cs vs h1 _ ih => exact VT.fn f cs vs h1 ih

section
variable {s s' : Nat → Value} {Z Z' : Cells} {n : Nat}
theorem VC.mono (hz : ∀ b o v, Z b o = some v → Z' b o = some v) (hs : ∀ id, id < n → s' id = s id) {d : D} {v : Value} (hl : LtC n d) (h : VC s Z d v) : VC s' Z' d v := by
  cases d with
  | own id => obtain ⟨h1, h2⟩ := h; exact ⟨by rw [hs id hl]; exact h1, h2⟩
  | ptr id j => obtain ⟨b, h1, h2⟩ := h; exact ⟨b, by rw [hs id hl]; exact h1, h2⟩
  | pel id i sz j => obtain ⟨b, m, c, h1, h2⟩ := h; exact ⟨b, m, c, by rw [hs id hl]; exact h1, h2⟩
  | sl id sz off len cap => obtain ⟨b, m, c, q, h1, h2⟩ := h; exact ⟨b, m, c, q, by rw [hs id hl]; exact h1, h2⟩
  | clo f ids =>
    obtain ⟨vs, h1, h2, h3⟩ := h
    exact ⟨vs, h1, h2, fun j id hj => by
      obtain ⟨b, g1, g2⟩ := h3 j id hj
      exact ⟨b, by rw [hs id (hl id (List.mem_of_getElem? hj))]; exact g1, g2⟩⟩
  | _ => exact VT.mono hz h
theorem VV.mono (hz : ∀ b o v, Z b o = some v → Z' b o = some v) (hs : ∀ id, id < n → s' id = s id) {d : D} {v : Value} (hl : LtV n d) (h : VV s Z d v) : VV s' Z' d v := by
  cases d with
  | agg ds => obtain ⟨vs, h1, h2, h3⟩ := h; exact ⟨vs, h1, h2, fun j x hx => VC.mono hz hs (hl x (List.mem_of_getElem? hx)) (h3 j x hx)⟩
  | _ => simp only [VV, LtV] at h hl ⊢; exact VC.mono hz hs hl h
theorem VR.mono (hz : ∀ b o v, Z b o = some v → Z' b o = some v) (hs : ∀ id, id < n → s' id = s id) {d : D} {v : Value} (hl : LtR n d) (h : VR s Z d v) : VR s' Z' d v := by
  cases d with
  | tup ds => obtain ⟨vs, h1, h2, h3⟩ := h; exact ⟨vs, h1, h2, fun j x hx => VV.mono hz hs (hl x (List.mem_of_getElem? hx)) (h3 j x hx)⟩
  | any => trivial
  | _ => simp only [VR, LtR] at h hl ⊢; exact VV.mono hz hs hl h
theorem VS.mono (hz : ∀ b o v, Z b o = some v → Z' b o = some v) (hs : ∀ id, id < n → s' id = s id) {d : D} {v : Value} (hl : LtS n d) (h : VS s Z d v) : VS s' Z' d v := by
  cases d with
  | opt g d => simp only [VS, LtS] at h hl ⊢; exact ⟨fun hg => VR.mono hz hs (hl hg) (h.1 hg), h.2⟩
  | _ => simp only [VS, LtS] at h hl ⊢; exact VR.mono hz hs hl h
theorem RowOk.mono {R R' : D → Value → Prop} {w w' : World} {sz : Nat} {xs : List (List D)} {v : Value} (h : RowOk R w sz xs v) (hb : ∀ k, blk v = some k → w'.heap[k]? = w.heap[k]?) (hR : ∀ row ∈ xs, ∀ d ∈ row, ∀ u, R d u → R' d u) : RowOk R' w' sz xs v := by
  obtain ⟨h1, h2, h3⟩ := h
  refine ⟨h1, h2, ?_⟩
  rcases h3 with h3 | ⟨g, cap, cur, e, rfl, hg, hcap, hm, hs, hc⟩
  · exact .inl h3
  · by_cases hcap0 : cap = 0
    · have : xs = [] := List.eq_nil_of_length_eq_zero (by omega)
      subst this
      subst hcap0
      exact .inl ⟨rfl, _, rfl⟩
    · refine .inr ⟨g, cap, cur, e, rfl, ?_, hcap, hm, hs, fun i row j d hi hj => hR row (List.mem_of_getElem? hi) d (List.mem_of_getElem? hj) _ (hc i row j d hi hj)⟩
      rw [hb g (by simp [blk, hcap0])]; exact hg
theorem BlkOk.mono {R R' : D → Value → Prop} {w w' : World} {sz : Nat} {xs : List (List D)} {v : Value} (h : BlkOk R w sz xs v) (hb : ∀ k, blk v = some k → w'.heap[k]? = w.heap[k]?) (hR : ∀ row ∈ xs, ∀ d ∈ row, ∀ u, R d u → R' d u) : BlkOk R' w' sz xs v := by
  obtain ⟨h1, h2, g, n, cur, e, rfl, hg, h0, hm, hs, hc⟩ := h
  refine ⟨h1, h2, g, n, cur, e, rfl, ?_, h0, hm, hs, fun i row j d hi hj hd => hR row (List.mem_of_getElem? hi) d (List.mem_of_getElem? hj) _ (hc i row j d hi hj hd)⟩
  rw [hb g (by simp only [blk]; rw [if_neg (by omega)])]; exact hg
theorem BlkOk.blk {R : D → Value → Prop} {w : World} {sz : Nat} {xs : List (List D)} {v : Value} (h : BlkOk R w sz xs v) : ∃ g n, v = .slice (some ⟨g, 0, none⟩) n xs.length ∧ blk v = some g ∧ g < w.heap.size := by
  obtain ⟨h1, h2, g, n, cur, e, rfl, hg, h0, _⟩ := h
  exact ⟨g, n, rfl, by simp only [Go.Proofs.Ytajimebannjofaa.blk]; rw [if_neg (by omega)], (Array.getElem?_eq_some_iff.1 hg).1⟩
theorem ObOk.mono {w w' : World} (hz : ∀ b o v, Z b o = some v → Z' b o = some v) (hs : ∀ id, id < n → s' id = s id) {ob : Ob} {v : Value} (hl : LtO n ob) (h : ObOk s Z w ob v) (hb : ∀ k, blk v = some k → w'.heap[k]? = w.heap[k]?) : ObOk s' Z' w' ob v := by
  cases ob with
  | cells ds =>
    obtain ⟨b, T, cs, rfl, h1, h2, h3⟩ := h
    exact ⟨b, T, cs, rfl, by rw [hb b rfl]; exact h1, h2, fun j x hx => VC.mono hz hs (hl x (List.mem_of_getElem? hx)) (h3 j x hx)⟩
  | row sz xs => exact RowOk.mono h hb (fun _ _ _ _ _ => VT.mono hz)
  | mp bare es ck => obtain ⟨b, rfl, h1⟩ := h; exact ⟨b, rfl, by rw [hb b rfl]; exact h1⟩
  | it m since seen last => obtain ⟨b, mb, rfl, h1, h2⟩ := h; exact ⟨b, mb, rfl, by rw [hs m hl]; exact h1, by rw [hb b rfl]; exact h2⟩
  | rowd sz xs => exact RowOk.mono h hb (fun row hr d hd _ => VC.mono hz hs (hl row hr d hd))
  | blk sz xs => exact BlkOk.mono h hb (fun row hr d hd _ => VC.mono hz hs (hl row hr d hd))
theorem ObOk.lt {w : World} {ob : Ob} {v : Value} (h : ObOk s Z w ob v) : ∀ k, blk v = some k → k < w.heap.size := by
  have row : ∀ (R : D → Value → Prop) sz xs, RowOk R w sz xs v → ∀ k, blk v = some k → k < w.heap.size := fun R sz xs h k hk => by
    rcases h.2.2 with ⟨_, a, rfl⟩ | ⟨g, cap, cur, e, rfl, hg, _⟩
    · cases a <;> simp [blk] at hk
    · simp only [blk] at hk
      split at hk
      · cases hk
      · cases hk; exact (Array.getElem?_eq_some_iff.1 hg).1
  cases ob with
  | cells ds =>
    obtain ⟨b, T, cs, rfl, h1, _⟩ := h
    intro k hk
    cases hk
    exact (Array.getElem?_eq_some_iff.1 h1).1
  | row sz xs => exact row _ sz xs h
  | mp bare es ck => obtain ⟨b, rfl, h1⟩ := h; intro k hk; cases hk; exact (Array.getElem?_eq_some_iff.1 h1).1
  | it m since seen last => obtain ⟨b, mb, rfl, h1, h2⟩ := h; intro k hk; cases hk; exact (Array.getElem?_eq_some_iff.1 h2).1
  | rowd sz xs => exact row _ sz xs h
  | blk sz xs =>
    obtain ⟨g, n, rfl, hg, hlt⟩ := BlkOk.blk h
    intro k hk
    rw [hg] at hk; cases hk; exact hlt
end

theorem Fr.refl (F : Nat → Prop) (w : World) : Fr F w w := ⟨rfl, rfl, rfl, Nat.le_refl _, fun _ _ _ => rfl⟩
theorem Fr.below {F : Nat → Prop} {w0 w w' : World} (h : Fr F w0 w) (hb : Below w.heap.size w w') : Fr F w0 w' :=
  ⟨hb.os.trans h.os, hb.tape.trans h.tape, hb.output.trans h.output, Nat.le_trans h.size hb.size, fun k hk hf => (hb.block k (Nat.lt_of_lt_of_le hk h.size)).trans (h.block k hk hf)⟩
theorem Fr.only {F : Nat → Prop} {w0 w w' : World} {k : Nat} (h : Fr F w0 w) (ho : Only k w w') (hk : w0.heap.size ≤ k ∨ F k) : Fr F w0 w' :=
  ⟨ho.os.trans h.os, ho.tape.trans h.tape, ho.output.trans h.output, by rw [ho.size]; exact h.size, fun j hj hf => (ho.block j (by
    rintro rfl
    rcases hk with hk | hk
    · omega
    · exact hf hk)).trans (h.block j hj hf)⟩

def upd (s : Nat → Value) (id : Nat) (v : Value) : Nat → Value := fun k => if k = id then v else s k
theorem upd_same (s : Nat → Value) (id : Nat) (v : Value) : upd s id v id = v := if_pos rfl
theorem upd_lt (s : Nat → Value) (n : Nat) (v : Value) : ∀ id, id < n → upd s n v id = s id := fun id h => if_neg (by omega)

theorem LtC.mono {n m : Nat} (h : n ≤ m) {d : D} (hl : LtC n d) : LtC m d := by
  cases d with
  | clo f ids => exact fun id hid => Nat.lt_of_lt_of_le (hl id hid) h
  | _ => simp only [LtC] at hl ⊢ <;> omega
theorem LtV.mono {n m : Nat} (h : n ≤ m) {d : D} (hl : LtV n d) : LtV m d := by
  cases d with
  | agg ds => exact fun x hx => LtC.mono h (hl x hx)
  | _ => simp only [LtV] at hl ⊢; exact LtC.mono h hl
theorem LtR.mono {n m : Nat} (h : n ≤ m) {d : D} (hl : LtR n d) : LtR m d := by
  cases d with
  | tup ds => exact fun x hx => LtV.mono h (hl x hx)
  | _ => simp only [LtR] at hl ⊢; exact LtV.mono h hl
theorem LtS.mono {n m : Nat} (h : n ≤ m) {d : D} (hl : LtS n d) : LtS m d := by
  cases d with
  | opt g d => exact fun hg => LtR.mono h (hl hg)
  | _ => simp only [LtS] at hl ⊢; exact LtR.mono h hl
theorem LtO.mono {n m : Nat} (h : n ≤ m) {ob : Ob} (hl : LtO n ob) : LtO m ob := by
  cases ob with
  | cells ds => exact fun x hx => LtC.mono h (hl x hx)
  | row sz xs => trivial
  | mp bare es ck => trivial
  | it m since seen last => exact Nat.lt_of_lt_of_le hl h
  | rowd sz xs => exact fun r hr x hx => LtC.mono h (hl r hr x hx)
  | blk sz xs => exact fun r hr x hx => LtC.mono h (hl r hr x hx)

/-- more cells are known; the new ones lie in new blocks -/
structure Zx (Z Z' : Cells) (w w' : World) : Prop where
  old : ∀ b o v, Z b o = some v → Z' b o = some v
  new : ∀ b o v, Z' b o = some v → Z b o = some v ∨ w.heap.size ≤ b
  ok : ∀ b o v, Z' b o = some v → w'.cell? ⟨b, o, none⟩ = some v
theorem Zx.refl {Z : Cells} {w w' : World} (h : ∀ b o v, Z b o = some v → w.cell? ⟨b, o, none⟩ = some v) (hb : Below w.heap.size w w') : Zx Z Z w w' :=
  ⟨fun _ _ _ h => h, fun _ _ _ h => .inl h, fun b o v hz => by
    have := h b o v hz
    rw [hb.cell (p := ⟨b, o, none⟩) (World.block_lt_of_cell? w _ this)]; exact this⟩

section
variable {B : Base} {w w' : World} {s : Nat → Value} {Z Z' : Cells} {H : List (Nat × Ob)} {nx : Nat}

theorem RelH.know (h : RelH B s Z H nx w) : Know s Z H w := ⟨h.ob, h.zok⟩

theorem RelH.call (h : RelH B s Z H nx w) (hb : Below w.heap.size w w') (hz : Zx Z Z' w w') : RelH B s Z' H nx w' where
  ob id ob hh := (h.ob id ob hh).mono hz.old (fun _ _ => rfl) (h.lt id ob hh).2 fun k hk => hb.block k ((h.ob id ob hh).lt k hk)
  lt := h.lt
  apart := h.apart
  zok := hz.ok
  zap id ob b o hh hb' := by
    have h1 := (h.ob id ob hh).lt b hb'
    cases hq : Z' b o with
    | none => rfl
    | some v => rcases hz.new b o v hq with h2 | h2
                · rw [h.zap id ob b o hh hb'] at h2; cases h2
                · omega
  mine := h.mine
  fr := h.fr.below hb
  n0 := h.n0
  bs := h.bs
  bz b o v hv := hz.old b o v (h.bz b o v hv)
  bn b o v hv := by
    rcases hz.new b o v hv with h1 | h1
    · exact h.bn b o v h1
    · exact .inr (.inl (Nat.le_trans h.fr.size h1))

/-- a new block -/
theorem RelH.new (h : RelH B s Z H nx w) (hb : Below w.heap.size w w') {v : Value} {ob : Ob} (ho : ObOk (upd s nx v) Z w' ob v) (hl : LtO (nx + 1) ob) (hv : ∀ k, blk v = some k → w.heap.size ≤ k) : RelH B (upd s nx v) Z (eput H nx ob) (nx + 1) w' where
  ob id ob' hh := by
    rw [hget_eput] at hh
    split at hh
    · rename_i e; subst e; cases hh; rw [upd_same]; exact ho
    · have h1 := (h.lt id ob' hh).1
      rw [upd_lt _ _ _ _ h1]
      exact (h.ob id ob' hh).mono (fun _ _ _ h => h) (upd_lt s nx v) (h.lt id ob' hh).2 fun k hk => hb.block k ((h.ob id ob' hh).lt k hk)
  lt id ob' hh := by
    rw [hget_eput] at hh
    split at hh
    · rename_i e; subst e; cases hh; exact ⟨by omega, hl⟩
    · have := h.lt id ob' hh; exact ⟨by omega, this.2.mono (by omega)⟩
  apart id id' ob ob' b hh hh' hne hb1 := by
    rw [hget_eput] at hh hh'
    split at hh
    · rename_i e; subst e
      rw [if_neg (fun h => hne h.symm)] at hh'
      rw [upd_same] at hb1
      have h1 := (h.lt id' ob' hh').1
      rw [upd_lt _ _ _ _ h1]
      intro hb2
      have := (h.ob id' ob' hh').lt b hb2
      have := hv b hb1
      omega
    · have h1 := (h.lt id ob hh).1
      rw [upd_lt _ _ _ _ h1] at hb1
      split at hh'
      · rename_i e; subst e
        rw [upd_same]
        intro hb2
        have := (h.ob id ob hh).lt b hb1
        have := hv b hb2
        omega
      · have h2 := (h.lt id' ob' hh').1
        rw [upd_lt _ _ _ _ h2]
        exact h.apart id id' ob ob' b hh hh' hne hb1
  zok b o u hz := by
    have := h.zok b o u hz
    rw [hb.cell (p := ⟨b, o, none⟩) (World.block_lt_of_cell? w _ this)]; exact this
  zap id ob' b o hh hb1 := by
    rw [hget_eput] at hh
    split at hh
    · rename_i e; subst e
      rw [upd_same] at hb1
      cases hq : Z b o with
      | none => rfl
      | some u =>
        have h1 := World.block_lt_of_cell? w _ (h.zok b o u hq)
        have := hv b hb1
        simp only at h1
        omega
    · have h1 := (h.lt id ob' hh).1
      rw [upd_lt _ _ _ _ h1] at hb1
      exact h.zap id ob' b o hh hb1
  mine id ob' b hh hb1 := by
    rw [hget_eput] at hh
    split at hh
    · rename_i e; subst e
      rw [upd_same] at hb1
      exact .inl (Nat.le_trans h.fr.size (hv b hb1))
    · have h1 := (h.lt id ob' hh).1
      rw [upd_lt _ _ _ _ h1] at hb1
      exact h.mine id ob' b hh hb1
  fr := h.fr.below hb
  n0 := by have := h.n0; omega
  bs id hi := by rw [upd_lt _ _ _ _ (Nat.lt_of_lt_of_le hi h.n0)]; exact h.bs id hi
  bz := h.bz
  bn := h.bn

/-- a block of one's own is written -/
theorem RelH.write (h : RelH B s Z H nx w) {id : Nat} {ob ob' : Ob} {k : Nat} (hh : hget H id = some ob) (hk : blk (s id) = some k) (ho : Only k w w') (hn : ObOk s Z w' ob' (s id)) (hl : LtO nx ob') : RelH B s Z (eput H id ob') nx w' where
  ob i o hi := by
    rw [hget_eput] at hi
    split at hi
    · rename_i e; subst e; cases hi; exact hn
    · rename_i e
      exact (h.ob i o hi).mono (fun _ _ _ h => h) (fun _ _ => rfl) (h.lt i o hi).2 fun j hj => ho.block j (by
        rintro rfl; exact h.apart i id o ob j hi hh e hj hk)
  lt i o hi := by
    rw [hget_eput] at hi
    split at hi
    · rename_i e; subst e; cases hi; exact ⟨(h.lt i ob hh).1, hl⟩
    · exact h.lt i o hi
  apart i j o o' b hi hj hne hb := by
    rw [hget_eput] at hi hj
    have g1 : ∃ q, hget H i = some q := by split at hi; · rename_i e; subst e; exact ⟨_, hh⟩
                                           · exact ⟨_, hi⟩
    have g2 : ∃ q, hget H j = some q := by split at hj; · rename_i e; subst e; exact ⟨_, hh⟩
                                           · exact ⟨_, hj⟩
    obtain ⟨q, hq⟩ := g1
    obtain ⟨r, hr⟩ := g2
    exact h.apart i j q r b hq hr hne hb
  zok b o u hz := by
    have h1 := h.zok b o u hz
    rw [World.cell?_of_block (w := w) (a := ⟨b, o, none⟩) (ho.block b (by rintro rfl; rw [h.zap id ob b o hh hk] at hz; cases hz))]
    exact h1
  zap i o b p hi hb := by
    rw [hget_eput] at hi
    split at hi
    · rename_i e; subst e; exact h.zap i ob b p hh hb
    · exact h.zap i o b p hi hb
  mine i o b hi hb := by
    rw [hget_eput] at hi
    split at hi
    · rename_i e; subst e; exact h.mine i ob b hh hb
    · exact h.mine i o b hi hb
  fr := h.fr.only ho (h.mine id ob k hh hk)
  n0 := h.n0
  bs := h.bs
  bz := h.bz
  bn := h.bn

/-- a block of one's own becomes another number's; it may have been written, or have moved to a new block -/
theorem RelH.move (h : RelH B s Z H nx w) {id : Nat} {ob ob' : Ob} {v : Value} (hh : hget H id = some ob) (hg : w.grownBy w' (blk (s id))) (hn : ObOk (upd s nx v) Z w' ob' v) (hl : LtO (nx + 1) ob')
    (hv : ∀ k, blk v = some k → w.heap.size ≤ k ∨ blk (s id) = some k) : RelH B (upd s nx v) Z (eput (herase H id) nx ob') (nx + 1) w' := by
  have old : ∀ i o, hget (eput (herase H id) nx ob') i = some o → (i = nx ∧ o = ob') ∨ (i ≠ nx ∧ i ≠ id ∧ hget H i = some o) := fun i o hi => by
    rw [hget_eput] at hi
    split at hi
    · rename_i e; cases hi; exact .inl ⟨e, rfl⟩
    · rename_i e
      rw [hget_herase] at hi
      split at hi
      · cases hi
      · rename_i e'; exact .inr ⟨e, e', hi⟩
  have away : ∀ i o, i ≠ id → hget H i = some o → ∀ j, blk (s i) = some j → w'.heap[j]? = w.heap[j]? := fun i o hne hi j hj =>
    hg.block j ((h.ob i o hi).lt j hj) (by intro e; exact h.apart i id o ob j hi hh hne hj e.symm)
  constructor
  · intro i o hi
    rcases old i o hi with ⟨rfl, rfl⟩ | ⟨h1, h2, h3⟩
    · rw [upd_same]; exact hn
    · rw [upd_lt _ _ _ _ (h.lt i o h3).1]
      exact (h.ob i o h3).mono (fun _ _ _ h => h) (upd_lt s nx v) (h.lt i o h3).2 (away i o h2 h3)
  · intro i o hi
    rcases old i o hi with ⟨rfl, rfl⟩ | ⟨h1, h2, h3⟩
    · exact ⟨by omega, hl⟩
    · have := h.lt i o h3; exact ⟨by omega, this.2.mono (by omega)⟩
  · intro i j o o' b hi hj hne hb
    rcases old i o hi with ⟨rfl, rfl⟩ | ⟨h1, h2, h3⟩
    · rcases old j o' hj with ⟨rfl, rfl⟩ | ⟨g1, g2, g3⟩
      · exact absurd rfl hne
      · rw [upd_same] at hb
        rw [upd_lt _ _ _ _ (h.lt j o' g3).1]
        intro hb2
        rcases hv b hb with h4 | h4
        · have := (h.ob j o' g3).lt b hb2; omega
        · exact h.apart j id o' ob b g3 hh g2 hb2 h4
    · rw [upd_lt _ _ _ _ (h.lt i o h3).1] at hb
      rcases old j o' hj with ⟨rfl, rfl⟩ | ⟨g1, g2, g3⟩
      · rw [upd_same]
        intro hb2
        rcases hv b hb2 with h4 | h4
        · have := (h.ob i o h3).lt b hb; omega
        · exact h.apart i id o ob b h3 hh h2 hb h4
      · rw [upd_lt _ _ _ _ (h.lt j o' g3).1]
        exact h.apart i j o o' b h3 g3 hne hb
  · intro b o u hz
    have h1 := h.zok b o u hz
    rw [World.cell?_of_block (w := w) (a := ⟨b, o, none⟩) (hg.block b (World.block_lt_of_cell? w _ h1) (by intro e; rw [h.zap id ob b o hh e.symm] at hz; cases hz))]
    exact h1
  · intro i o b p hi hb
    rcases old i o hi with ⟨rfl, rfl⟩ | ⟨h1, h2, h3⟩
    · rw [upd_same] at hb
      rcases hv b hb with h4 | h4
      · cases hq : Z b p with
        | none => rfl
        | some u => have := World.block_lt_of_cell? w _ (h.zok b p u hq); simp only at this; omega
      · exact h.zap id ob b p hh h4
    · rw [upd_lt _ _ _ _ (h.lt i o h3).1] at hb
      exact h.zap i o b p h3 hb
  · intro i o b hi hb
    rcases old i o hi with ⟨rfl, rfl⟩ | ⟨h1, h2, h3⟩
    · rw [upd_same] at hb
      rcases hv b hb with h4 | h4
      · exact .inl (Nat.le_trans h.fr.size h4)
      · exact h.mine id ob b hh h4
    · rw [upd_lt _ _ _ _ (h.lt i o h3).1] at hb
      exact h.mine i o b h3 hb
  · refine ⟨hg.os.trans h.fr.os, hg.tape.trans h.fr.tape, hg.output.trans h.fr.output, Nat.le_trans h.fr.size hg.size, fun k hk hf => ?_⟩
    rw [hg.block k (Nat.lt_of_lt_of_le hk h.fr.size) (by
      intro e
      rcases h.mine id ob k hh e.symm with h4 | h4
      · omega
      · exact hf h4)]
    exact h.fr.block k hk hf
  · have := h.n0; omega
  · intro i hi; rw [upd_lt _ _ _ _ (Nat.lt_of_lt_of_le hi h.n0)]; exact h.bs i hi
  · exact h.bz
  · exact h.bn
end
end Go.Proofs.Ytajimebannjofaa

set_option linter.unusedSimpArgs false
set_option linter.unusedVariables false
namespace Go.Proofs.Ytajimebannjofaa
open Go.RowKit

section
variable {P : Program} {B : Base} {w : World} {s : Nat → Value} {Z : Cells} {H : List (Nat × Ob)} {nx : Nat}

/-! ### New variables -/
theorem RelH.cells (h : RelH B s Z H nx w) (cs : Array Value) (T : TypeId) (ds : List D) (hl : cs.size = ds.length) (hc : ∀ j x, ds[j]? = some x → VC s Z x (cs.getD j undef)) (hn : ∀ d ∈ ds, LtC nx d) :
    RelH B (upd s nx (.pointer (some ⟨w.heap.size, 0, none⟩))) Z (eput H nx (.cells ds)) (nx + 1) (w.alloc (.cells cs T)) := by
  refine h.new ((Below.refl _ _).alloc (Nat.le_refl _) _) ⟨w.heap.size, T, cs, rfl, heap_alloc_new w _, hl, fun j x hx => ?_⟩ (fun d hd => (hn d hd).mono (by omega)) (fun k hk => by cases hk; exact Nat.le_refl _)
  exact VC.mono (fun _ _ _ h => h) (upd_lt s nx _) (hn x (List.mem_of_getElem? hx)) (hc j x hx)
theorem VC.new (s : Nat → Value) (Z : Cells) (nx b : Nat) : VC (upd s nx (.pointer (some ⟨b, 0, none⟩))) Z (.ptr nx 0) (.pointer (some ⟨b, 0, none⟩)) := ⟨b, upd_same _ _ _, rfl⟩

theorem run_alloc {t : TypeId} {i : TypeInfo} {v : Value} (hi : P.info? t = some i) (hv : i.zero = some v) : (Instr.alloc t true (.tuple #[])).run P w = .ok (.pointer (some ⟨w.heap.size, 0, none⟩)) (w.alloc (.cells v.cells t)) := by
  simp [Instr.alloc, zeroValue, typeInfo, hi, hv, newVar, newRow]
theorem run_box {t : TypeId} {v : Value} : (Instr.box t v).run P w = .ok (.pointer (some ⟨w.heap.size, 0, none⟩)) (w.alloc (.cells v.cells t)) := by
  simp [Instr.box, newVar, newRow]
theorem cellD_lt {v : Value} {d : D} (h : cellD v = some d) : LtC 0 d := by
  unfold cellD at h
  split at h <;> (try simp only [Option.some.injEq, reduceCtorEq] at h) <;> (try subst h) <;> (try trivial)
  split at h
  · simp only [Option.some.injEq] at h; subst h; trivial
  · cases h
theorem cellsD_lt : ∀ (vs : List Value) (ds : List D), cellsD vs = some ds → ∀ d ∈ ds, LtC 0 d
  | [], ds, h => by simp only [cellsD, Option.some.injEq] at h; subst h; intro d hd; cases hd
  | v :: vs, ds, h => by
    simp only [cellsD] at h
    split at h <;> simp only [Option.some.injEq, reduceCtorEq] at h
    rename_i d ds' h1 h2
    subst h
    intro x hx
    rcases List.mem_cons.1 hx with rfl | hx
    · exact cellD_lt h1
    · exact cellsD_lt vs ds' h2 x hx
theorem cellD_isT {v : Value} {d : D} (h : cellD v = some d) : isT d = true := by
  unfold cellD at h
  split at h <;> (try split at h) <;> simp only [Option.some.injEq, reduceCtorEq] at h <;> subst h <;> rfl
theorem cellsD_isT : ∀ (vs : List Value) (ds : List D), cellsD vs = some ds → ∀ d ∈ ds, isT d = true
  | [], ds, h => by
    simp only [cellsD, Option.some.injEq] at h
    subst h
    exact fun d hd => by cases hd
  | v :: vs, ds, h => by
    simp only [cellsD] at h
    split at h
    · rename_i d es h1 h2
      simp only [Option.some.injEq] at h
      subst h
      intro x hx
      rcases List.mem_cons.1 hx with rfl | hx
      · exact cellD_isT h1
      · exact cellsD_isT vs es h2 x hx
    · cases h
theorem zeroT_isT {P : Program} {t : TypeId} {z : List D} (h : zeroT P t = some z) : ∀ d ∈ z, isT d = true := by
  unfold zeroT at h
  split at h
  · split at h
    · split at h
      · exact cellsD_isT _ _ h
      · cases h
    · cases h
  · cases h
theorem zeroT_lt {t : TypeId} {z : List D} (h : zeroT P t = some z) : ∀ d ∈ z, LtC 0 d := by
  unfold zeroT at h
  split at h
  case h_2 => cases h
  split at h
  case h_2 => cases h
  split at h
  case isFalse => cases h
  exact cellsD_lt _ _ h
theorem LtR.cells {n : Nat} {d : D} (h : LtR n d) : ∀ x ∈ d.cells, LtC n x := by
  cases d with
  | agg ds => exact h
  | any => intro x hx; cases hx
  | tup _ => intro x hx; cases hx
  | opt _ _ => intro x hx; cases hx
  | _ => intro x hx; simp only [D.cells, List.mem_singleton] at hx; subst hx; exact h

/-! ### Stores -/
theorem heap_setCells (b : Nat) (T : TypeId) : ∀ (vs : List Value) (o : Nat) (w : World) (cs : Array Value), w.heap[b]? = some (.cells cs T (0, 0)) → o + vs.length ≤ cs.size →
    ∃ cs', (w.setCells b o vs).heap[b]? = some (.cells cs' T (0, 0)) ∧ cs'.size = cs.size ∧ ∀ j, cs'.getD j undef = if o ≤ j ∧ j < o + vs.length then vs.getD (j - o) undef else cs.getD j undef
  | [], o, w, cs, h, _ => ⟨cs, h, rfl, fun j => by rw [if_neg (by simp)]⟩
  | v :: vs, o, w, cs, h, hl => by
    simp only [List.length_cons] at hl
    obtain ⟨cs', h1, h2, h3⟩ := heap_setCells b T vs (o + 1) (w.setCell ⟨b, o, none⟩ v) (cs.setIfInBounds o v) (heap_setCell_same w b o cs T v h) (by simp; omega)
    refine ⟨cs', h1, by simpa using h2, fun j => ?_⟩
    rw [h3 j]
    by_cases hj : o + 1 ≤ j ∧ j < o + 1 + vs.length
    · rw [if_pos hj, if_pos (by simp only [List.length_cons]; omega), show j - o = (j - (o + 1)) + 1 by omega, List.getD_cons_succ]
    · rw [if_neg hj]
      by_cases hjo : j = o
      · subst hjo
        rw [if_pos (by simp only [List.length_cons]; omega), Nat.sub_self, List.getD_cons_zero]
        have : j < cs.size := by omega
        simp [Array.getD, this]
      · rw [if_neg (by simp only [List.length_cons]; omega), Array.getD_eq_getD_getElem?, Array.getD_eq_getD_getElem?, Array.getElem?_setIfInBounds, if_neg (fun h => hjo h.symm)]

theorem storeAt_run {t : TypeId} {n b o : Nat} {v : Value} {cs : Array Value} {T : TypeId} (hn : szT P t = some n) (hv : v.cells.size = n) (h1 : ∀ j, j < n → (v.cells.getD j undef).oneCell' = true) (hb : w.heap[b]? = some (.cells cs T (0, 0))) (hl : o + n ≤ cs.size) :
    (Instr.storeAt t (.pointer (some ⟨b, o, none⟩)) v).run P w = .ok () (w.setCells b o v.cells.toList) := by
  have ht : w.there b o v.cells.size := fun j hj => by
    refine ⟨?_, frozen_of_row w b _ cs T hb⟩
    rw [cell_of_row w b _ cs T (0, 0) hb]
    simp; omega
  have h2 : v.cells.all (·.oneCell') = true := by
    rw [Array.all_eq_true]
    intro j hj
    have := h1 j (by omega)
    rwa [Array.getD_eq_getD_getElem?, Array.getElem?_eq_getElem hj, Option.getD_some] at this
  have := run_storeAt_mid (P := P) w b o t v.cells ht (by unfold szT at hn; rw [hn, hv]) h2
  have e : (Instr.storeAt t (.pointer (some ⟨b, o, none⟩)) v) = (Instr.storeAt t (.pointer (some ⟨b, o, none⟩)) (.agg v.cells)) := rfl
  rw [e]; exact this

/-- these cells, with others from number j on -/
def splice (ds : List D) (j : Nat) (es : List D) : List D := ds.take j ++ es ++ ds.drop (j + es.length)
theorem splice_get {ds es : List D} {j : Nat} (h : j + es.length ≤ ds.length) (k : Nat) : (splice ds j es)[k]? = if j ≤ k ∧ k < j + es.length then es[k - j]? else ds[k]? := by
  unfold splice
  rw [List.append_assoc]
  by_cases h1 : k < j
  · rw [if_neg (by omega), List.getElem?_append_left (by simp; omega), List.getElem?_take, if_pos h1]
  · rw [List.getElem?_append_right (by simp; omega), List.length_take, Nat.min_eq_left (by omega)]
    by_cases h2 : k < j + es.length
    · rw [if_pos (by omega), List.getElem?_append_left (by omega)]
    · rw [if_neg (by omega), List.getElem?_append_right (by omega), List.getElem?_drop]
      congr 1; omega
theorem splice_length {ds es : List D} {j : Nat} (h : j + es.length ≤ ds.length) : (splice ds j es).length = ds.length := by
  unfold splice; simp; omega
theorem splice_mem {ds es : List D} {j : Nat} {d : D} (h : d ∈ splice ds j es) : d ∈ ds ∨ d ∈ es := by
  unfold splice at h
  rcases List.mem_append.1 h with h | h
  · rcases List.mem_append.1 h with h | h
    · exact .inl (List.mem_of_mem_take h)
    · exact .inr h
  · exact .inl (List.mem_of_mem_drop h)

theorem store_cells (h : RelH B s Z H nx w) {t : TypeId} {n id j : Nat} {ds : List D} {pv v : Value} {d : D} (hn : szT P t = some n) (hp : VR s Z (.ptr id j) pv) (hh : hget H id = some (.cells ds)) (hv : VR s Z d v) (hd : LtR nx d) (hlen : d.cells.length = n) (h0 : 0 < n) (hj : j + n ≤ ds.length) :
    ∃ w', (Instr.storeAt t pv v).run P w = .ok () w' ∧ RelH B s Z (eput H id (.cells (splice ds j d.cells))) nx w' := by
  obtain ⟨b, hs, rfl⟩ := hp
  obtain ⟨b', T, cs, hs', hb, hcl, hcc⟩ := h.ob _ _ hh
  rw [hs] at hs'
  injection hs' with e; injection e with e; injection e with e _; subst e
  obtain ⟨hc1, hc2⟩ := hv.cells (by omega)
  have hone : ∀ k, k < n → (v.cells.getD k undef).oneCell' = true := fun k hk => by
    have hx : d.cells[k]? = some d.cells[k] := List.getElem?_eq_getElem (by omega)
    exact (hc2 k _ hx).one
  have hrun := storeAt_run (P := P) hn (by omega) hone hb (o := j) (by omega)
  refine ⟨_, hrun, ?_⟩
  obtain ⟨cs', g1, g2, g3⟩ := heap_setCells b T v.cells.toList j w cs hb (by simp; omega)
  refine h.write hh (by rw [hs]; rfl) (Only.setCells b _ j w) ⟨b, T, cs', by rw [hs], g1, by rw [g2, splice_length (by omega), hcl], fun k x hx => ?_⟩ (fun x hx => ?_)
  · rw [splice_get (by omega)] at hx
    rw [g3 k]
    simp only [Array.length_toList]
    split at hx
    · rename_i hk
      rw [if_pos (by omega)]
      have := hc2 _ _ hx
      simpa [Array.getD_eq_getD_getElem?, List.getD_eq_getElem?_getD] using this
    · rename_i hk
      rw [if_neg (by omega)]
      exact hcc k x hx
  · rcases splice_mem hx with hx | hx
    · exact (h.lt _ _ hh).2 x hx
    · exact hd.cells x hx

theorem store_row {sz : Nat} {R : D → Value → Prop} (mk : List (List D) → Ob) (hob : ∀ w xs v, ObOk s Z w (mk xs) v = RowOk R w sz xs v) (h : RelH B s Z H nx w) {t : TypeId} {n id i j : Nat} {xs : List (List D)} {pv v : Value} {d : D} (hn : szT P t = some n)
    (hp : VR s Z (.pel id i sz j) pv) (hh : hget H id = some (mk xs)) (hv : VR s Z d v) (hR : ∀ x ∈ d.cells, ∀ u, VC s Z x u → R x u) (hlen : d.cells.length = n) (h0 : 0 < n) (hi : i < xs.length) (hj : j + n ≤ sz)
    (hlt : LtO nx (mk (xs.set i (splice (xs.getD i []) j d.cells)))) :
    ∃ w', (Instr.storeAt t pv v).run P w = .ok () w' ∧ RelH B s Z (eput H id (mk (xs.set i (splice (xs.getD i []) j d.cells)))) nx w' := by
  obtain ⟨b, m, c, hs, rfl⟩ := hp
  have ho := h.ob _ _ hh
  rw [hob, hs] at ho
  obtain ⟨hsz, hrow, ho⟩ := ho
  rcases ho with ⟨rfl, _⟩ | ⟨g, cap, cur, e, hvv, hg, hcap, hm, hcs, hcc⟩
  · simp at hi
  injection hvv with e1 e2 e3
  injection e1 with e1; injection e1 with e1; subst e1
  have hx : xs[i]? = some (xs.getD i []) := by rw [List.getD_eq_getElem?_getD, List.getElem?_eq_getElem hi]; rfl
  have hrl : (xs.getD i []).length = sz := hrow _ (List.mem_of_getElem? hx)
  obtain ⟨hc1, hc2⟩ := hv.cells (by omega)
  have hone : ∀ k, k < n → (v.cells.getD k undef).oneCell' = true := fun k hk => by
    have hx : d.cells[k]? = some d.cells[k] := List.getElem?_eq_getElem (by omega)
    exact (hc2 k _ hx).one
  have hle : i * sz + sz ≤ cap * sz := by
    have : (i + 1) * sz ≤ cap * sz := Nat.mul_le_mul_right _ (by omega)
    rwa [Nat.add_mul, Nat.one_mul] at this
  have hrun := storeAt_run (P := P) hn (by omega) hone hg (o := i * sz + j) (by omega)
  refine ⟨_, hrun, ?_⟩
  obtain ⟨cs', g1, g2, g3⟩ := heap_setCells b e v.cells.toList (i * sz + j) w cur hg (by simp; omega)
  have hbk : blk (s id) = some b := by
    rw [hs]
    simp only [blk]
    rw [if_neg (by rw [e3]; omega)]
  refine h.write hh hbk (Only.setCells b _ _ w) ?_ hlt
  rw [hob]
  refine ⟨hsz, fun row hr => ?_, .inr ⟨b, cap, cs', e, by rw [hs, e2, e3, List.length_set], g1, by rw [List.length_set]; exact hcap, hm, by rw [g2, hcs], fun k row l x hk hl => ?_⟩⟩
  · rcases List.mem_or_eq_of_mem_set hr with hr | rfl
    · exact hrow _ hr
    · rw [splice_length (by omega), hrl]
  · rw [g3]
    simp only [Array.length_toList]
    rw [List.getElem?_set] at hk
    have hll : l < sz := by
      split at hk
      · simp only [hi, if_true, Option.some.injEq] at hk
        subst hk
        have := (List.getElem?_eq_some_iff.1 hl).1
        rwa [splice_length (by omega), hrl] at this
      · have := (List.getElem?_eq_some_iff.1 hl).1
        rwa [hrow _ (List.mem_of_getElem? hk)] at this
    split at hk
    · rename_i hik
      subst hik
      simp only [hi, if_true, Option.some.injEq] at hk
      subst hk
      rw [splice_get (by omega)] at hl
      split at hl
      · rename_i hlj
        rw [if_pos (by omega)]
        have := hc2 _ _ hl
        rw [show i * sz + l - (i * sz + j) = l - j by omega]
        exact hR x (List.mem_of_getElem? hl) _ (by simpa [Array.getD_eq_getD_getElem?, List.getD_eq_getElem?_getD] using this)
      · rw [if_neg (by omega)]
        exact hcc i _ l x hx hl
    · rename_i hik
      have hne : ¬ (i * sz + j ≤ k * sz + l ∧ k * sz + l < i * sz + j + v.cells.size) := by
        rcases Nat.lt_or_gt_of_ne hik with h1 | h1
        · have : (i + 1) * sz ≤ k * sz := Nat.mul_le_mul_right _ h1
          rw [Nat.add_mul, Nat.one_mul] at this
          omega
        · have : (k + 1) * sz ≤ i * sz := Nat.mul_le_mul_right _ h1
          rw [Nat.add_mul, Nat.one_mul] at this
          omega
      rw [if_neg hne]
      exact hcc k row l x hk hl
end
end Go.Proofs.Ytajimebannjofaa

set_option linter.unusedSimpArgs false
set_option linter.unusedVariables false
namespace Go.Proofs.Ytajimebannjofaa
open Go.RowKit

/-- what a slice reads as: whether its cells hold no reference, the cells of an element (0: any), the elements -/
def slD (H : List (Nat × Ob)) (d : D) : Option (Bool × Nat × List (List D)) :=
  match d with
  | .nil0 => some (true, 0, [])
  | .rows sz xs => some (true, sz, xs)
  | .own id => match hget H id with
    | some (.row sz xs) => some (true, sz, xs)
    | some (.rowd sz xs) => some (false, sz, xs)
    | _ => none
  | _ => none

section
variable {P : Program} {F : Nat → Prop} {w0 w : World} {s : Nat → Value} {Z : Cells} {H : List (Nat × Ob)} {nx : Nat}

/-- the cells of a slice lie there -/
def SlAt (R : D → Value → Prop) (w : World) (sz : Nat) (xs : List (List D)) (v : Value) : Prop :=
  ∃ a cap, v = .slice a xs.length cap ∧ xs.length ≤ cap ∧ (0 < xs.length → ∃ b off, a = some ⟨b, off, none⟩ ∧ ∀ i row j d, xs[i]? = some row → row[j]? = some d → ∃ u, w.cell? ⟨b, off + i * sz + j, none⟩ = some u ∧ R d u)

theorem RowOk.at {R : D → Value → Prop} {sz : Nat} {xs : List (List D)} {v : Value} (h : RowOk R w sz xs v) : SlAt R w sz xs v := by
  obtain ⟨hsz, hrow, h⟩ := h
  rcases h with ⟨rfl, a, rfl⟩ | ⟨g, cap, cur, e, rfl, hg, hcap, hm, hs, hc⟩
  · exact ⟨a, 0, rfl, Nat.le_refl _, fun h => by simp at h⟩
  · refine ⟨_, cap, rfl, hcap, fun _ => ⟨g, 0, rfl, fun i row j d hi hj => ⟨cur.getD (i * sz + j) undef, ?_, hc i row j d hi hj⟩⟩⟩
    have hil : i < xs.length := (List.getElem?_eq_some_iff.1 hi).1
    have hjl : j < sz := by
      have := (List.getElem?_eq_some_iff.1 hj).1
      rwa [hrow _ (List.mem_of_getElem? hi)] at this
    have hlt : i * sz + j < cur.size := by
      rw [hs]
      have : (i + 1) * sz ≤ cap * sz := Nat.mul_le_mul_right _ (by omega)
      rw [Nat.add_mul] at this; omega
    rw [Nat.zero_add, cell_of_row w g _ cur e (0, 0) hg]
    simp [hlt]
theorem slD_at (hk : Know s Z H w) {d : D} {v : Value} (hv : VR s Z d v) {t : Bool} {sz : Nat} {xs : List (List D)} (h : slD H d = some (t, sz, xs)) : SlAt (if t then VT Z else VC s Z) w sz xs v := by
  cases d <;> simp only [slD, Option.some.injEq, Prod.mk.injEq, reduceCtorEq] at h
  · obtain ⟨rfl, rfl, rfl⟩ := h
    cases hv with | nil0 a => exact ⟨a, 0, rfl, Nat.le_refl _, fun h => by simp at h⟩
  · obtain ⟨rfl, rfl, rfl⟩ := h
    simp only [if_true]
    cases hv with
    | rnil _ a cap => exact ⟨a, cap, rfl, Nat.zero_le _, fun h => by simp at h⟩
    | rows _ _ b off cap c hcap h1 h2 => exact ⟨_, cap, rfl, hcap, fun _ => ⟨b, off, rfl, fun i row j d hi hj => ⟨c i j, hk.zok _ _ _ (h1 i row j d hi hj).2, h2 i row j d hi hj⟩⟩⟩
  · split at h <;> simp only [Option.some.injEq, Prod.mk.injEq, reduceCtorEq] at h
    · rename_i sz' xs' hh
      obtain ⟨rfl, rfl, rfl⟩ := h
      have ho := hk.ob _ _ hh
      rw [hv.1]
      simp only [if_true]
      exact RowOk.at ho
    · rename_i sz' xs' hh
      obtain ⟨rfl, rfl, rfl⟩ := h
      have ho := hk.ob _ _ hh
      rw [hv.1]
      exact RowOk.at ho

/-- all cells of a slice, in order -/
theorem SlAt.news {R : D → Value → Prop} {sz : Nat} {xs : List (List D)} {b off : Nat} (hrow : ∀ row ∈ xs, row.length = sz)
    (h : ∀ i row j d, xs[i]? = some row → row[j]? = some d → ∃ u, w.cell? ⟨b, off + i * sz + j, none⟩ = some u ∧ R d u) :
    ∃ news : List Value, news.length = xs.length * sz ∧ w.rangeAt b off news ∧ ∀ i row j d, xs[i]? = some row → row[j]? = some d → R d (news.getD (i * sz + j) undef) := by
  refine ⟨(List.range (xs.length * sz)).map fun k => (w.cell? ⟨b, off + k, none⟩).getD undef, by simp, fun k v hv => ?_, fun i row j d hi hj => ?_⟩
  · rw [List.getElem?_map] at hv
    have hk : k < xs.length * sz := by
      rcases Nat.lt_or_ge k (xs.length * sz) with h1 | h1
      · exact h1
      · rw [List.getElem?_eq_none (by simpa using h1)] at hv; cases hv
    rw [List.getElem?_range hk, Option.map_some, Option.some.injEq] at hv
    have hsz : 0 < sz := by
      rcases Nat.eq_zero_or_pos sz with h0 | h0
      · rw [h0] at hk; simp at hk
      · exact h0
    have hi : k / sz < xs.length := Nat.div_lt_of_lt_mul (by rwa [Nat.mul_comm] at hk)
    have hj : k % sz < sz := Nat.mod_lt _ hsz
    have hx : xs[k / sz]? = some xs[k / sz] := List.getElem?_eq_getElem hi
    have hy : xs[k / sz][k % sz]? = some (xs[k / sz][k % sz]'(by rw [hrow _ (List.getElem_mem hi)]; exact hj)) := List.getElem?_eq_getElem _
    obtain ⟨u, h1, _⟩ := h _ _ _ _ hx hy
    have hdm := Nat.div_add_mod k sz
    rw [show off + k / sz * sz + k % sz = off + k by rw [Nat.mul_comm]; omega] at h1
    rw [h1] at hv ⊢
    rw [← hv]; rfl
  · obtain ⟨u, h1, h2⟩ := h i row j d hi hj
    have hil : i < xs.length := (List.getElem?_eq_some_iff.1 hi).1
    have hjl : j < sz := by
      have := (List.getElem?_eq_some_iff.1 hj).1
      rwa [hrow _ (List.mem_of_getElem? hi)] at this
    have hlt : i * sz + j < xs.length * sz := by
      have : (i + 1) * sz ≤ xs.length * sz := Nat.mul_le_mul_right _ hil
      rw [Nat.add_mul] at this; omega
    rw [List.getD_eq_getElem?_getD, List.getElem?_map, List.getElem?_range hlt, Option.map_some, Option.getD_some, ← Nat.add_assoc, h1]
    exact h2

/-- the elements of an append -/
theorem app_get {R : D → Value → Prop} {sz : Nat} {xs ys : List (List D)} {olds news : List Value} (hx : ∀ row ∈ xs, row.length = sz) (ho : olds.length = xs.length * sz)
    (h1 : ∀ i row j d, xs[i]? = some row → row[j]? = some d → R d (olds.getD (i * sz + j) undef)) (h2 : ∀ i row j d, ys[i]? = some row → row[j]? = some d → R d (news.getD (i * sz + j) undef)) :
    ∀ i row j d, (xs ++ ys)[i]? = some row → row[j]? = some d → R d ((olds ++ news).getD (i * sz + j) undef) := by
  intro i row j d hi hj
  by_cases hil : i < xs.length
  · rw [List.getElem?_append_left hil] at hi
    have hjl : j < sz := by
      have := (List.getElem?_eq_some_iff.1 hj).1
      rwa [hx _ (List.mem_of_getElem? hi)] at this
    have hlt : i * sz + j < olds.length := by
      rw [ho]
      have : (i + 1) * sz ≤ xs.length * sz := Nat.mul_le_mul_right _ hil
      rw [Nat.add_mul] at this; omega
    rw [List.getD_eq_getElem?_getD, List.getElem?_append_left hlt, ← List.getD_eq_getElem?_getD]
    exact h1 i row j d hi hj
  · rw [List.getElem?_append_right (by omega)] at hi
    have hge : olds.length ≤ i * sz + j := by
      rw [ho]
      have : xs.length * sz ≤ i * sz := Nat.mul_le_mul_right _ (by omega)
      omega
    rw [List.getD_eq_getElem?_getD, List.getElem?_append_right hge, ← List.getD_eq_getElem?_getD, ho]
    have := h2 _ row j d hi hj
    rwa [show i * sz + j - xs.length * sz = (i - xs.length) * sz + j by
      rw [Nat.sub_mul]
      have : xs.length * sz ≤ i * sz := Nat.mul_le_mul_right _ (by omega)
      omega]

/-- append, whatever the slice: it owns its elements behind it -/
theorem append_run {R R1 R2 : D → Value → Prop} {t ty e : TypeId} {i : TypeInfo} {z : Value} (ht : P.underlying t = some (.slice e)) (hi : P.info? e = some i) (hz : i.zero = some z) (hzs : z.cells.size = i.size) (hsz : 0 < i.size) (hby : 0 < i.bytes)
    {xs ys : List (List D)} {v u : Value} (hR1 : ∀ d q, R1 d q → R d q) (hR2 : ∀ d q, R2 d q → R d q) (hR : ∀ d q, R d q → q.oneCell' = true)
    (hx : (xs = [] ∧ ∃ a, v = .slice a 0 0) ∨ RowOk R1 w i.size xs v) (hy : SlAt R2 w i.size ys u) (hrow : ∀ row ∈ ys, row.length = i.size) (hlen : (xs.length + ys.length) * i.bytes ≤ 140737488355328) :
    ∃ v' w', (Builtin.append_ #[t, t] ty #[v, u]).run P w = .ok v' w' ∧ w.grownBy w' (blk v) ∧ RowOk R w' i.size (xs ++ ys) v' ∧ (∀ k, blk v' = some k → w.heap.size ≤ k ∨ blk v = some k) ∧ ∃ a n c, v' = .slice a n c := by
  have hxr : (∀ row ∈ xs, row.length = i.size) ∧ ((xs = [] ∧ ∃ a, v = .slice a 0 0) ∨ ∃ g cap cur e', v = .slice (some ⟨g, 0, none⟩) xs.length cap ∧ w.heap[g]? = some (.cells cur e' (0, 0)) ∧ xs.length ≤ cap ∧ cap ≤ maxLen ∧ cur.size = cap * i.size ∧ ∀ k row j d, xs[k]? = some row → row[j]? = some d → R1 d (cur.getD (k * i.size + j) undef)) := by
    rcases hx with ⟨rfl, h⟩ | ⟨_, h1, h2⟩
    · exact ⟨(fun row hr => by cases hr), .inl ⟨rfl, h⟩⟩
    · exact ⟨h1, h2⟩
  obtain ⟨hxrow, hxv⟩ := hxr
  have hall : ∀ row ∈ xs ++ ys, row.length = i.size := fun row hr => by
    rcases List.mem_append.1 hr with h | h
    · exact hxrow row h
    · exact hrow row h
  have hbig : xs.length + ys.length ≤ 140737488355328 := Nat.le_trans (Nat.le_mul_of_pos_right _ hby) hlen
  obtain ⟨ay, cy, rfl, hcy, hya⟩ := hy
  -- what is appended
  have src : ∃ news : List Value, Src P i.size t (.slice ay ys.length cy) ys.length news w ∧ ∀ k row j d, ys[k]? = some row → row[j]? = some d → R d (news.getD (k * i.size + j) undef) := by
    rcases Nat.eq_zero_or_pos ys.length with h0 | h0
    · have hyn : ys = [] := List.eq_nil_of_length_eq_zero h0
      subst hyn
      refine ⟨[], ?_, fun k row j d hk => by simp at hk⟩
      cases ay with
      | none => exact Src.ofNil w ht cy
      | some ad => exact Src.ofSlice w ht ad 0 cy [] (by simp) (fun j u hu => by simp at hu) (fun u hu => by cases hu)
    · obtain ⟨b, off, rfl, hc⟩ := hya h0
      obtain ⟨news, h1, h2, h3⟩ := SlAt.news hrow hc
      refine ⟨news, Src.ofSlice w ht ⟨b, off, none⟩ ys.length cy news h1 (fun j u hu => by rw [add_mid']; exact h2 j u hu) (fun u hu => ?_), fun k row j d hk hj => hR2 _ _ (h3 k row j d hk hj)⟩
      obtain ⟨k, hk⟩ := List.getElem?_of_mem hu
      have hkl : k < ys.length * i.size := by rw [← h1]; exact (List.getElem?_eq_some_iff.1 hk).1
      have hi' : k / i.size < ys.length := Nat.div_lt_of_lt_mul (by rwa [Nat.mul_comm] at hkl)
      have hx : ys[k / i.size]? = some ys[k / i.size] := List.getElem?_eq_getElem hi'
      have hj' : k % i.size < ys[k / i.size].length := by rw [hrow _ (List.getElem_mem hi')]; exact Nat.mod_lt _ hsz
      have := h3 _ _ _ _ hx (List.getElem?_eq_getElem hj')
      have hdm := Nat.div_add_mod k i.size
      rw [show k / i.size * i.size + k % i.size = k by rw [Nat.mul_comm]; omega, List.getD_eq_getElem?_getD, hk, Option.getD_some] at this
      exact hR _ _ (hR2 _ _ this)
  obtain ⟨news, hsrc, hnews⟩ := src
  have hnl := hsrc.newsLen
  -- a new row
  have grow : ∀ (base : Option Addr) (cap : Nat) (olds : List Value), cap < xs.length + ys.length → olds.length = xs.length * i.size → (Builtin.firstCells i.size xs.length (.slice base xs.length cap)).run P w.drew = .ok olds.toArray w.drew →
      (∀ k row j d, xs[k]? = some row → row[j]? = some d → R d (olds.getD (k * i.size + j) undef)) → v = .slice base xs.length cap →
      ∃ v' w', (Builtin.append_ #[t, t] ty #[v, .slice ay ys.length cy]).run P w = .ok v' w' ∧ w.grownBy w' (blk v) ∧ RowOk R w' i.size (xs ++ ys) v' ∧ (∀ k, blk v' = some k → w.heap.size ≤ k ∨ blk v = some k) ∧ ∃ a n c, v' = .slice a n c := by
    intro base cap olds hcap hol hold hget hv
    have hr := run_append_grow_src (P := P) w t t ty e i z ht hi hz base xs.length cap olds hold (.slice ay ys.length cy) ys.length news hsrc hcap (by omega) (growslice_fits hcap hlen)
    rw [hv]
    refine ⟨_, _, hr, ⟨rfl, rfl, rfl, by simp, fun k hk _ => Below.heap_alloc w.drew _ k hk⟩, ⟨hsz, hall, .inr ⟨w.heap.size, _, _, e, by rw [List.length_append], heap_alloc_new w.drew _, by rw [List.length_append]; exact grownCap_ge .., grownCap_le_maxLen _ _ _ _ (by unfold maxLen; omega), ?_, ?_⟩⟩, ?_, _, _, _, rfl⟩
    · have := grownCap_ge w (xs.length + ys.length) cap e
      simp only [Array.size_append, List.size_toArray, List.length_append, size_zeroCells, hzs, hol, hnl, ← Nat.add_mul]
      congr 1; omega
    · intro k row j d hk hj
      have h1 := app_get (R := R) hxrow hol hget hnews k row j d hk hj
      have hkl : k < xs.length + ys.length := by have := (List.getElem?_eq_some_iff.1 hk).1; rwa [List.length_append] at this
      have hjl : j < i.size := by have := (List.getElem?_eq_some_iff.1 hj).1; rwa [hall _ (List.mem_of_getElem? hk)] at this
      have hlt : k * i.size + j < (olds ++ news).length := by
        rw [List.length_append, hol, hnl, ← Nat.add_mul]
        have : (k + 1) * i.size ≤ (xs.length + ys.length) * i.size := Nat.mul_le_mul_right _ hkl
        rw [Nat.add_mul, Nat.one_mul] at this; omega
      rw [Array.getD_eq_getD_getElem?, Array.getElem?_append_left (by simpa using hlt)]
      rw [List.getD_eq_getElem?_getD] at h1
      rw [← Array.getElem?_toList]
      simpa using h1
    · intro k hk
      simp only [blk] at hk
      split at hk
      · cases hk
      · cases hk; exact .inl (Nat.le_refl _)
  rcases hxv with ⟨rfl, a, rfl⟩ | ⟨g, cap, cur, e', rfl, hg, hcap, hm, hcs, hcc⟩
  · rcases Nat.eq_zero_or_pos ys.length with h0 | h0
    · have hyn : ys = [] := List.eq_nil_of_length_eq_zero h0
      subst hyn
      have hn0 : news = [] := List.eq_nil_of_length_eq_zero (by simpa using hnl)
      subst hn0
      refine ⟨.slice a 0 0, w, ?_, ⟨rfl, rfl, rfl, Nat.le_refl _, fun _ _ _ => rfl⟩, ⟨hsz, hall, .inl ⟨rfl, a, rfl⟩⟩, fun k hk => .inr hk, _, _, _, rfl⟩
      have hc := hsrc.cells
      simp only [List.length_nil] at hc
      cases a with
      | none => simp [Builtin.append_, run_underlying ht, sizeOf, typeInfo, hi, Builtin.lenOf, hc]
      | some ad => simp [Builtin.append_, run_underlying ht, sizeOf, typeInfo, hi, Builtin.lenOf, hc, storeCells]
    · refine grow a 0 [] (by simpa using h0) (by simp) ?_ (fun k row j d hk => by simp at hk) rfl
      cases a with
      | none => exact run_firstCells_none w.drew i.size 0 0 0
      | some ad => exact run_firstCells_some w.drew i.size 0 ad 0 0 [] (by simp) (fun j v hv => by simp at hv)
  · have hcells : ∀ k, k < cur.size → w.cell? ⟨g, k, none⟩ = some (cur.getD k undef) := fun k hk => by
      rw [cell_of_row w g k cur e' (0, 0) hg]; simp [hk]
    have hxc : xs.length * i.size ≤ cur.size := by rw [hcs]; exact Nat.mul_le_mul_right _ hcap
    by_cases hroom : xs.length + ys.length ≤ cap
    · have hfit : xs.length * i.size + news.length ≤ cur.size := by rw [hnl, hcs, ← Nat.add_mul]; exact Nat.mul_le_mul_right _ hroom
      have hr := run_append_room_src (P := P) w t t ty e i ht hi g 0 xs.length cap (.slice ay ys.length cy) ys.length news hsrc hroom
        (fun j hj => by rw [Nat.zero_add, hcells _ (by omega)]; rfl) (fun j hj => frozen_of_row w g _ cur e' hg)
      simp only [Nat.zero_add] at hr
      obtain ⟨cs', g1, g2, g3⟩ := heap_setCells g e' news (xs.length * i.size) w cur hg hfit
      have ho := Only.setCells g news (xs.length * i.size) w
      refine ⟨_, _, hr, ⟨ho.os, ho.tape, ho.output, by rw [ho.size]; exact Nat.le_refl _, fun k hk hne => ?_⟩, ⟨hsz, hall, .inr ⟨g, cap, cs', e', by rw [List.length_append], g1, by rw [List.length_append]; exact hroom, hm, by rw [g2, hcs], ?_⟩⟩, ?_, _, _, _, rfl⟩
      · by_cases hkg : k = g
        · subst hkg
          simp only [blk] at hne
          by_cases hcap0 : cap = 0
          · have h1 : news = [] := List.eq_nil_of_length_eq_zero (by rw [hnl]; have : ys.length = 0 := by omega
                                                                     rw [this, Nat.zero_mul])
            subst h1
            rfl
          · rw [if_neg hcap0] at hne; exact absurd rfl hne
        · exact ho.block k hkg
      · intro k row j d hk hj
        have h1 := app_get (R := R) (olds := cur.toList.take (xs.length * i.size)) hxrow (by simp; omega) (fun k row j d hk hj => by
          have hkl : k < xs.length := (List.getElem?_eq_some_iff.1 hk).1
          have hjl : j < i.size := by have := (List.getElem?_eq_some_iff.1 hj).1; rwa [hxrow _ (List.mem_of_getElem? hk)] at this
          have hlt : k * i.size + j < xs.length * i.size := by
            have : (k + 1) * i.size ≤ xs.length * i.size := Nat.mul_le_mul_right _ hkl
            rw [Nat.add_mul, Nat.one_mul] at this; omega
          have := hR1 _ _ (hcc k row j d hk hj)
          rw [List.getD_eq_getElem?_getD, List.getElem?_take, if_pos hlt]
          simpa [Array.getD_eq_getD_getElem?] using this) hnews k row j d hk hj
        rw [g3]
        split
        · rename_i hin
          rw [List.getD_eq_getElem?_getD, List.getElem?_append_right (by simp; omega)] at h1
          rw [List.getD_eq_getElem?_getD]
          simpa [Nat.min_eq_left hxc] using h1
        · rename_i hin
          have hkl : k < xs.length + ys.length := by have := (List.getElem?_eq_some_iff.1 hk).1; rwa [List.length_append] at this
          have hjl : j < i.size := by have := (List.getElem?_eq_some_iff.1 hj).1; rwa [hall _ (List.mem_of_getElem? hk)] at this
          have hlt : k * i.size + j < xs.length * i.size := by
            have h2 : (k + 1) * i.size ≤ (xs.length + ys.length) * i.size := Nat.mul_le_mul_right _ hkl
            rw [Nat.add_mul, Nat.one_mul, Nat.add_mul] at h2
            omega
          rw [List.getD_eq_getElem?_getD, List.getElem?_append_left (by simp; omega), List.getElem?_take, if_pos hlt] at h1
          simpa [Array.getD_eq_getD_getElem?] using h1
      · intro k hk
        simp only [blk] at hk ⊢
        exact .inr hk
    · refine grow (some ⟨g, 0, none⟩) cap (cur.toList.take (xs.length * i.size)) (by omega) (by simp; omega) ?_ (fun k row j d hk hj => ?_) rfl
      · refine run_firstCells_some w.drew i.size xs.length ⟨g, 0, none⟩ xs.length cap _ (by simp; omega) (fun j v hv => ?_)
        rw [List.getElem?_take] at hv
        split at hv
        · rw [add_mid', Nat.zero_add]
          have := cell_of_row w g j cur e' (0, 0) hg
          rw [World.cell?_drew, this]
          simpa using hv
        · cases hv
      · have hkl : k < xs.length := (List.getElem?_eq_some_iff.1 hk).1
        have hjl : j < i.size := by have := (List.getElem?_eq_some_iff.1 hj).1; rwa [hxrow _ (List.mem_of_getElem? hk)] at this
        have hlt : k * i.size + j < xs.length * i.size := by
          have : (k + 1) * i.size ≤ xs.length * i.size := Nat.mul_le_mul_right _ hkl
          rw [Nat.add_mul, Nat.one_mul] at this; omega
        have := hR1 _ _ (hcc k row j d hk hj)
        rw [List.getD_eq_getElem?_getD, List.getElem?_take, if_pos hlt]
        simpa [Array.getD_eq_getD_getElem?] using this
end
end Go.Proofs.Ytajimebannjofaa

