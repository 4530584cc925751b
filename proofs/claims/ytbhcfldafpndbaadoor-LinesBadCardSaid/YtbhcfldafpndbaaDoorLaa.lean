/- What the program computes, step by step, and the rules for it. No condition of its own. -/
import Derived.Test.YtbhcfldafpndbaaDoorProg
import Derived.Test.YtbhcfldafpndbaaDoorRows
import Derived.WalkKit
import Derived.ProofKit
import Derived.Handy
import Derived.WalkLawsBesides
import Derived.Lib.Hide
import Derived.Deep.RegionHeld3
import Derived.Deep.QuietTactic
import Derived.BigQuiet
import Derived.Deep.LoopGhost
import Derived.Outline
import Derived.OrdersHeld
import Derived.Deep.RegionHeld
import Derived.Scope
import Derived.KernelRfl
import Derived.Deep.AppendLies
import Derived.Deep.OwnShut
import Derived.Deep.Slices
import Derived.Deep.Onto
import Derived.Laws.AppendOwnNone
import Derived.Maps.Keyed
import Derived.Maps.RangeRun
import Derived.MapKept
import Derived.Lib.AppendZerosOnto
import Derived.Laws.CopyRow
import Derived.Laws.IdiomCopy
import Derived.Lib.Overlaps
import Derived.Lib.Split
import Derived.Lib.AtoiAll
import Derived.Lib.ItoaNum
import Derived.Lib.ItoaLen
import Derived.Shelf.Strings.Prefix
import Derived.Shelf.Small.Strs
import Derived.Shelf.Strings.BuilderK
import Derived.Shelf.Strings.SplitShaped
import Derived.Shelf.Strconv.AtoiAll
import Derived.Shelf.Strconv.Itoa3
import Derived.RangeFuncBox
import Derived.StillTailTactics
import Derived.OrdersIn
import Derived.RangeFuncNested
import Derived.RangeFuncLeaves
import Derived.Shelf.Abstract
import Derived.OwnWalkIn
import Derived.TacticsInMore
import Derived.LoopNIn
import Derived.LoopIn
import Derived.RangeFuncCalls
import Derived.Maps.AppendAt
import Derived.Test.YtbhcfldafpndbaaDoorTie
import Derived.Test.YtbhcfldafpndbaaDoorCards
import Derived.Lib.LaidTab
import Derived.Stop.LaidErr
import Derived.Shelf.Vars
import Derived.OpenShut
import Derived.ChangeMaps5
import Derived.Carry
import Derived.Deep.DeepHandedRow
import Derived.Deep.DeepWitnessRowRef
import Derived.Lay
import Derived.Deep.MidRow
import Derived.Laws.ResultCell
import Derived.Deep.DeepCutAuto
import Derived.Deep.CutBlock
import Derived.Laws.StructEq
import Derived.Deep.AppendSrc
set_option linter.unusedSimpArgs false
set_option linter.unusedVariables false
set_option maxRecDepth 100000
set_option maxHeartbeats 8000000
namespace Go.Proofs.YtbhcfldafpndbaaDoor
open Go.RowKit
theorem zA {α : Type _} (a b : α) : (some a = some b) = (a = b) := Option.some.injEq a b
theorem zB {α : Type _} {l : List α} {i : Nat} {a : α} : l[i]? = some a ↔ ∃ h : i < l.length, l[i] = a := List.getElem?_eq_some_iff
theorem zC {α : Type _} {l : List α} {i : Nat} {a : α} : l.getD i a = (l[i]?).getD a := List.getD_eq_getElem?_getD
theorem zD {α : Type _} {l : List α} {i : Nat} {a : α} (e : l[i]? = some a) : a ∈ l := List.mem_of_getElem? e
theorem zE {α : Type _} {l : List α} {i : Nat} (h : i < l.length) : l[i]? = some l[i] := List.getElem?_eq_getElem h
theorem zF {α : Type _} {a : α} {l : List α} (h : a ∈ l) : ∃ i : Nat, l[i]? = some a := List.getElem?_of_mem h
structure In (w_ : World) where
 w : World
 h : Below w_.heap.size w_ w
instance {w : World} : Nonempty (In w) := ⟨⟨w,Below.refl _ _⟩⟩
def Box (w : World) (k : Nat) (cs : Array Value) : Prop := ∃ T,w.heap[k]? = some (.cells cs T (0,0))
theorem Box.lt {w : World} {k : Nat} {cs : Array Value} (h : Box w k cs) : k < w.heap.size := by
 obtain ⟨T,h⟩ := h
 rcases Nat.lt_or_ge k w.heap.size with h1 | h1
 ·exact h1
 ·rw [Array.getElem?_eq_none h1] at h;cases h
theorem Box.cell {w : World} {k : Nat} {cs : Array Value} (h : Box w k cs) (i : Nat) (v : Value) (hv : cs[i]? = some v) : w.cell? ⟨k,i,none⟩ = some v := by
 obtain ⟨T,h⟩ := h
 simp [World.cell?,h,hv]
theorem Box.frozen {w : World} {k : Nat} {cs : Array Value} (h : Box w k cs) (i : Nat) : w.frozen? ⟨k,i,none⟩ = false := by
 obtain ⟨T,h⟩ := h
 simp [World.frozen?,h]
theorem Box.below {w w' : World} {B k : Nat} {cs : Array Value} (h : Box w k cs) (hb : Below B w w') (hk : k < B) : Box w' k cs := by
 obtain ⟨T,h⟩ := h
 exact ⟨T,by rw [hb.block k hk];exact h⟩
theorem Box.call {w w' : World} {k : Nat} {cs : Array Value} (h : Box w k cs) (hb : Below w.heap.size w w') : Box w' k cs := h.below hb h.lt
theorem Box.new (w : World) (cs : Array Value) (T : TypeId) : Box (w.alloc (.cells cs T)) w.heap.size cs := by
 refine ⟨T,?_⟩
 show (w.heap.push _)[w.heap.size]? = _
 rw [Array.getElem?_push,if_pos rfl]
theorem Box.set {w : World} {k : Nat} {cs : Array Value} (h : Box w k cs) (i : Nat) (v : Value) : Box (w.setCell ⟨k,i,none⟩ v) k (cs.setIfInBounds i v) := by
 obtain ⟨T,h⟩ := h
 refine ⟨T,?_⟩
 simp [World.setCell,Array.getElem?_modify,h]
structure Only (k : Nat) (w w' : World) : Prop where
 os : w'.os = w.os
 tape : w'.tape = w.tape
 output : w'.output = w.output
 size : w'.heap.size = w.heap.size
 block : ∀ j,j ≠ k → w'.heap[j]? = w.heap[j]?
theorem Only.below {k B : Nat} {w w' : World} (h : Only k w w') (hB : B ≤ k) : Below B w w' :=
 ⟨h.os,h.tape,h.output,by rw [h.size];exact Nat.le_refl _,fun j hj => h.block j (by omega)⟩
theorem Only.trans {k : Nat} {a b c : World} (h : Only k a b) (g : Only k b c) : Only k a c :=
 ⟨g.os.trans h.os,g.tape.trans h.tape,g.output.trans h.output,g.size.trans h.size,fun j hj => (g.block j hj).trans (h.block j hj)⟩
theorem Only.set (w : World) (k i : Nat) (v : Value) : Only k w (w.setCell ⟨k,i,none⟩ v) :=
 ⟨rfl,rfl,rfl,by simp [World.setCell],fun j hj => Below.heap_setCell _ _ _ _ hj⟩
theorem Only.setCells (k : Nat) : ∀ (vs : List Value) (i : Nat) (w : World),Only k w (w.setCells k i vs)
 | [],_,_ => ⟨rfl,rfl,rfl,rfl,fun _ _ => rfl⟩
 | v :: vs,i,w => (Only.set w k i v).trans (Only.setCells k vs (i + 1) _)
theorem Box.range {w : World} {k : Nat} {cs : Array Value} (h : Box w k cs) : w.rangeAt k 0 cs.toList := fun j v hv => by
 rw [Nat.zero_add];exact h.cell j v (by simpa using hv)
theorem Box.there {w : World} {k : Nat} {cs : Array Value} (h : Box w k cs) : w.there k 0 cs.size := fun j hj => by
 rw [Nat.zero_add]
 exact ⟨by rw [h.cell j cs[j] (by simp [hj])];rfl,h.frozen j⟩
theorem Box.setCells {w : World} {k : Nat} : ∀ (vs : List Value) (pre : List Value) (cs : Array Value),Box w k cs → cs.toList.take pre.length = pre → cs.size = pre.length + vs.length → Box (w.setCells k pre.length vs) k (pre ++ vs).toArray := by
 intro vs
 induction vs generalizing w with
 | nil =>
  intro pre cs h hp hs
  have : cs.toList = pre := by rw [← hp,List.take_of_length_le (by simp;simp at hs;omega)]
  have e : cs = (pre ++ []).toArray := by rw [List.append_nil,← this]
  rw [← e];exact h
 | cons v vs ih =>
  intro pre cs h hp hs
  have h1 := h.set pre.length v
  have := ih (w := w.setCell ⟨k,pre.length,none⟩ v) (pre ++ [v]) (cs.setIfInBounds pre.length v) h1 (by
   have hl : pre.length < cs.toList.length := by simp at hs ⊢;omega
   simp only [List.length_append,List.length_cons,List.length_nil,Array.toList_setIfInBounds]
   rw [List.take_succ_eq_append_getElem (by simpa using hl),List.take_set_of_le (Nat.le_refl _),hp]
   simp) (by simp at hs ⊢;omega)
  simpa [World.setCells] using this
theorem Box.store {w : World} {k : Nat} {cs cs' : Array Value} (h : Box w k cs) (hs : cs.size = cs'.size) : Box (w.setCells k 0 cs'.toList) k cs' := by
 have := Box.setCells cs'.toList [] cs h rfl (by simpa using hs)
 simpa using this
theorem wpList_load_box {P : Program} {ops : Array Oper} {rest : List Oper} {op : Oper} {a : Act} {w : World} {Q : Exit → Act → World → Prop} (hgd : op.guard = none) (ty : TypeId) (x : Operand) (ho : op.op = .load ty x)
  (k : Nat) (hx : a.eval x = .pointer (some ⟨k,0,none⟩)) (cs : Array Value) (d : TypeDesc) (hb : Box w k cs)
  (hu : P.underlying ty = some d) (hd : d.isRow = true) (hi : (P.info? ty).map (·.size) = some cs.size)
  (h : wpList P ops Q rest (a.put op.dst (.agg cs)) w) : wpList P ops Q (op :: rest) a w :=
 wpList_load_mid hgd ty x ho k 0 hx cs.toList d hb.range hu hd (by simpa using hi) (by simpa using h)
theorem wpList_store_box {P : Program} {ops : Array Oper} {rest : List Oper} {op : Oper} {a : Act} {w : World} {Q : Exit → Act → World → Prop} (hgd : op.guard = none) (ty : TypeId) (x y : Operand) (ho : op.op = .store ty x y)
  (k : Nat) (cs cs' : Array Value) (hx : a.eval x = .pointer (some ⟨k,0,none⟩)) (hy : a.eval y = .agg cs')
  (hb : Box w k cs) (hs : cs.size = cs'.size) (hi : (P.info? ty).map (·.size) = some cs'.size) (h1 : cs'.all (·.oneCell') = true)
  (h : ∀ w',Box w' k cs' → Only k w w' → wpList P ops Q rest (a.put op.dst undef) w') : wpList P ops Q (op :: rest) a w :=
 wpList_store_mid hgd ty x y ho k 0 cs' hx hy (hs ▸ hb.there) hi h1 (h _ (hb.store hs) (Only.setCells k _ 0 w))
inductive D where
 | int (k : IntKind) (z : Int)
 | bool (b : Bool)
 | str (s : ByteArray)
 | nilp
 | any
 | nil0
 | rows (sz : Nat) (xs : List (List D))
 | pc (ds : List D)
 | fn (f : FuncId) (cs : List D)
 | own (id : Nat)
 | ptr (id j : Nat)
 | pel (id i sz j : Nat)
 | sl (id sz off len cap : Nat)
 | clo (f : FuncId) (ids : List Nat)
 | agg (ds : List D)
 | tup (ds : List D)
 | opt (g : Bool) (d : D)
abbrev Cells := Nat → Nat → Option Value
inductive VT (Z : Cells) : D → Value → Prop
 | int (k : IntKind) (z : Int) : VT Z (.int k z) (.int k z)
 | bool (b : Bool) : VT Z (.bool b) (.bool b)
 | str (s : ByteArray) : VT Z (.str s) (.string s)
 | nilp : VT Z .nilp (.pointer none)
 | any (v : Value) : v.oneCell' = true → VT Z .any v
 | nil0 (a : Option Addr) : VT Z .nil0 (.slice a 0 0)
 | rnil (sz : Nat) (a : Option Addr) (cap : Nat) : VT Z (.rows sz []) (.slice a 0 cap)
 | rows (sz : Nat) (xs : List (List D)) (b off cap : Nat) (c : Nat → Nat → Value) : xs.length ≤ cap →
   (∀ i row j d,xs[i]? = some row → row[j]? = some d → j < sz ∧ Z b (off + i * sz + j) = some (c i j)) →
   (∀ i row j d,xs[i]? = some row → row[j]? = some d → VT Z d (c i j)) → VT Z (.rows sz xs) (.slice (some ⟨b,off,none⟩) xs.length cap)
 | pc (ds : List D) (b off : Nat) (c : Nat → Value) : (∀ j d,ds[j]? = some d → Z b (off + j) = some (c j)) →
   (∀ j d,ds[j]? = some d → VT Z d (c j)) → VT Z (.pc ds) (.pointer (some ⟨b,off,none⟩))
 | fn (f : FuncId) (cs : List D) (vs : Array Value) : vs.size = cs.length → (∀ j d,cs[j]? = some d → VT Z d (vs.getD j undef)) → VT Z (.fn f cs) (.func (.func f) #[] vs)
def VC (s : Nat → Value) (Z : Cells) (d : D) (v : Value) : Prop :=
 match d with
 | .own id => v = s id ∧ ((∃ a n c,v = .slice a n c) ∨ ∃ b,v = .map (some b))
 | .ptr id j => ∃ b,s id = .pointer (some ⟨b,0,none⟩) ∧ v = .pointer (some ⟨b,j,none⟩)
 | .pel id i sz j => ∃ b n c,s id = .slice (some ⟨b,0,none⟩) n c ∧ v = .pointer (some ⟨b,i * sz + j,none⟩)
 | .sl id sz off len cap => ∃ b n c o,s id = .slice (some ⟨b,0,none⟩) n c ∧ v = .slice (some ⟨b,o,none⟩) len cap ∧ (0 < cap → o = off * sz) ∧ len ≤ cap ∧ off + cap ≤ c
 | .clo f ids => ∃ vs : Array Value,v = .func (.func f) #[] vs ∧ vs.size = ids.length ∧ ∀ j id,ids[j]? = some id → ∃ b,s id = .pointer (some ⟨b,0,none⟩) ∧ vs.getD j undef = .pointer (some ⟨b,0,none⟩)
 | d => VT Z d v
def VV (s : Nat → Value) (Z : Cells) (d : D) (v : Value) : Prop :=
 match d with
 | .agg ds => ∃ vs : Array Value,v = .agg vs ∧ vs.size = ds.length ∧ ∀ j x,ds[j]? = some x → VC s Z x (vs.getD j undef)
 | d => VC s Z d v
def VR (s : Nat → Value) (Z : Cells) (d : D) (v : Value) : Prop :=
 match d with
 | .tup ds => ∃ vs : Array Value,v = .tuple vs ∧ vs.size = ds.length ∧ ∀ j x,ds[j]? = some x → VV s Z x (vs.getD j undef)
 | .any => True
 | d => VV s Z d v
def VS (s : Nat → Value) (Z : Cells) (d : D) (v : Value) : Prop :=
 match d with
 | .opt g d => (g = true → VR s Z d v) ∧ (g = false → v = undef)
 | d => VR s Z d v
inductive Ob where
 | cells (ds : List D)
 | row (sz : Nat) (xs : List (List D))
 | rowd (sz : Nat) (xs : List (List D))
 | blk (sz : Nat) (xs : List (List D))
 | mp (bare : Bool) (es : List (List Int × List Int × Nat)) (clock : Nat)
 | it (m since : Nat) (seen : List Nat) (last : Nat)
def blk : Value → Option Nat
 | .slice (some a) _ c => if c = 0 then none else some a.block
 | .pointer (some a) => some a.block
 | .map (some r) => some r
 | _ => none
def RowOk (R : D → Value → Prop) (w : World) (sz : Nat) (xs : List (List D)) (v : Value) : Prop :=
  0 < sz ∧ (∀ row ∈ xs, row.length = sz) ∧
  ((xs = [] ∧ ∃ a, v = .slice a 0 0) ∨
   ∃ g cap cur e, v = .slice (some ⟨g, 0, none⟩) xs.length cap ∧ w.heap[g]? = some (.cells cur e (0, 0)) ∧ xs.length ≤ cap ∧ cap ≤ maxLen ∧ cur.size = cap * sz ∧
     ∀ i row j d, xs[i]? = some row → row[j]? = some d → R d (cur.getD (i * sz + j) undef))
def BlkOk (R : D → Value → Prop) (w : World) (sz : Nat) (xs : List (List D)) (v : Value) : Prop :=
  0 < sz ∧ (∀ row ∈ xs, row.length = sz) ∧ ∃ g n cur e, v = .slice (some ⟨g, 0, none⟩) n xs.length ∧ w.heap[g]? = some (.cells cur e (0, 0)) ∧ 0 < xs.length ∧ xs.length ≤ maxLen ∧ cur.size = xs.length * sz ∧
     ∀ i row j d, xs[i]? = some row → row[j]? = some d → d ≠ .any → R d (cur.getD (i * sz + j) undef)
def vInts (bare : Bool) (ks : List Int) : Value := if bare then .int .i64 (ks.headD 0) else .agg ((ks.map (Value.int .i64)).toArray)
def mEnt (bare : Bool) (p : List Int × List Int × Nat) : MapEntry := ⟨vInts bare p.1,vInts false p.2.1,p.2.2⟩
def ObOk (s : Nat → Value) (Z : Cells) (w : World) (ob : Ob) (v : Value) : Prop :=
 match ob with
 | .cells ds => ∃ b T cs,v = .pointer (some ⟨b,0,none⟩) ∧ w.heap[b]? = some (.cells cs T (0,0)) ∧ cs.size = ds.length ∧ ∀ j x,ds[j]? = some x → VC s Z x (cs.getD j undef)
 | .row sz xs => RowOk (VT Z) w sz xs v
 | .rowd sz xs => RowOk (VC s Z) w sz xs v
 | .blk sz xs => BlkOk (VC s Z) w sz xs v
 | .mp bare es ck => ∃ b,v = .map (some b) ∧ w.heap[b]? = some (.map (es.map (mEnt bare)).toArray ck)
 | .it m since seen last => ∃ b mb,v = .pointer (some ⟨b,0,none⟩) ∧ s m = .map (some mb) ∧ w.heap[b]? = some (.mapIter (some mb) since seen.toArray last)
def eput {α : Type} : List (Nat × α) → Nat → α → List (Nat × α)
 | [],k,d => [(k,d)]
 | (k',d') :: t,k,d => if k' < k then (k,d) :: (k',d') :: t else if k = k' then (k,d) :: t else (k',d') :: eput t k d
def eget : List (Nat × D) → Nat → D
 | [],_ => .any
 | (k',d') :: t,k => if k = k' then d' else eget t k
def hget : List (Nat × Ob) → Nat → Option Ob
 | [],_ => none
 | (k',d') :: t,k => if k = k' then some d' else hget t k
def herase : List (Nat × Ob) → Nat → List (Nat × Ob)
 | [],_ => []
 | (k',d') :: t,k => if k = k' then herase t k else (k',d') :: herase t k
theorem eget_eput (l : List (Nat × D)) (k j : Nat) (d : D) : eget (eput l k d) j = if j = k then d else eget l j := by
 induction l with
 | nil => simp [eput,eget]
 | cons p t ih =>
  obtain ⟨k',d'⟩ := p
  simp only [eput]
  split
  ·simp only [eget]
  ·split
   ·rename_i h1 h2;subst h2;simp only [eget];split <;> rfl
   ·rename_i h1 h2
    simp only [eget,ih]
    by_cases h3 : j = k'
    ·subst h3;rw [if_pos rfl,if_neg (fun h => h2 h.symm),if_pos rfl]
    ·rw [if_neg h3,if_neg h3]
theorem hget_eput (l : List (Nat × Ob)) (k j : Nat) (d : Ob) : hget (eput l k d) j = if j = k then some d else hget l j := by
 induction l with
 | nil => simp [eput,hget]
 | cons p t ih =>
  obtain ⟨k',d'⟩ := p
  simp only [eput]
  split
  ·simp only [hget]
  ·split
   ·rename_i h1 h2;subst h2;simp only [hget];split <;> rfl
   ·rename_i h1 h2
    simp only [hget,ih]
    by_cases h3 : j = k'
    ·subst h3;rw [if_pos rfl,if_neg (fun h => h2 h.symm),if_pos rfl]
    ·rw [if_neg h3,if_neg h3]
theorem hget_herase (l : List (Nat × Ob)) (k j : Nat) : hget (herase l k) j = if j = k then none else hget l j := by
 induction l with
 | nil => simp [herase,hget]
 | cons p t ih =>
  obtain ⟨k',d'⟩ := p
  simp only [herase]
  split
  ·rename_i h;subst h;rw [ih];simp only [hget];split <;> rfl
  ·rename_i h
   simp only [hget,ih]
   by_cases h3 : j = k'
   ·subst h3;rw [if_pos rfl,if_neg (fun h' => h h'.symm),if_pos rfl]
   ·rw [if_neg h3,if_neg h3]
structure St where
 env : List (Nat × D)
 heap : List (Nat × Ob)
 nx : Nat
def LtC (n : Nat) : D → Prop
 | .own id => id < n
 | .ptr id _ => id < n
 | .pel id _ _ _ => id < n
 | .sl id _ _ _ _ => id < n
 | .clo _ ids => ∀ id ∈ ids,id < n
 | _ => True
def LtV (n : Nat) : D → Prop
 | .agg ds => ∀ d ∈ ds,LtC n d
 | d => LtC n d
def LtR (n : Nat) : D → Prop
 | .tup ds => ∀ d ∈ ds,LtV n d
 | d => LtV n d
def LtS (n : Nat) : D → Prop
 | .opt g d => g = true → LtR n d
 | d => LtR n d
def LtO (n : Nat) : Ob → Prop
 | .cells ds => ∀ d ∈ ds,LtC n d
 | .row .. => True
 | .rowd _ xs => ∀ row ∈ xs,∀ d ∈ row,LtC n d
 | .blk _ xs => ∀ row ∈ xs,∀ d ∈ row,LtC n d
 | .mp .. => True
 | .it m .. => m < n
structure Fr (F : Nat → Prop) (w w' : World) : Prop where
 os : w'.os = w.os
 tape : w'.tape = w.tape
 output : w'.output = w.output
 size : w.heap.size ≤ w'.heap.size
 block : ∀ k,k < w.heap.size → ¬ F k → w'.heap[k]? = w.heap[k]?
structure Base where
 N : Nat
 F : Nat → Prop
 w0 : World
 n0 : Nat
 sb : Nat → Value
 Zb : Cells
structure RelH (B : Base) (s : Nat → Value) (Z : Cells) (H : List (Nat × Ob)) (nx : Nat) (w : World) : Prop where
 ob : ∀ id ob,hget H id = some ob → ObOk s Z w ob (s id)
 lt : ∀ id ob,hget H id = some ob → id < nx ∧ LtO nx ob
 apart : ∀ id id' ob ob' b,hget H id = some ob → hget H id' = some ob' → id ≠ id' → blk (s id) = some b → blk (s id') ≠ some b
 zok : ∀ b o v,Z b o = some v → w.cell? ⟨b,o,none⟩ = some v
 zap : ∀ id ob b o,hget H id = some ob → blk (s id) = some b → Z b o = none
 mine : ∀ id ob b,hget H id = some ob → blk (s id) = some b → B.w0.heap.size ≤ b ∨ B.F b
 fr : Fr B.F B.w0 w
 n0 : B.n0 ≤ nx
 bs : ∀ id,id < B.n0 → s id = B.sb id
 bz : ∀ b o v,B.Zb b o = some v → Z b o = some v
 bn : ∀ b o v,Z b o = some v → B.Zb b o = some v ∨ B.w0.heap.size ≤ b ∨ B.F b
structure Rel (B : Base) (s : Nat → Value) (Z : Cells) (st : St) (a : Act) (w : World) : Prop where
 env : ∀ k,VS s Z (eget st.env k) (a.tmps.getD k undef)
 elt : ∀ k,LtS st.nx (eget st.env k)
 size : a.tmps.size = B.N
 defers : a.defers = []
 h : RelH B s Z st.heap st.nx w
inductive Opd where
 | t (n : Nat)
 | k (d : D)
inductive Kd where
 | i
 | b
 | s
inductive AOp where
 | mov (x : Opd)
 | pick (c x y : Opd)
 | build (z : List D) (ps : List (Nat × Nat × Opd))
 | load (ag : Bool) (n : Nat) (x : Opd)
 | nchk (x : Opd)
 | bin (op : BinOp) (x y : Opd)
 | eqa (ne : Bool) (ks : List Kd) (x y : Opd)
 | eqp (ne : Bool) (x y : Opd)
 | eqb (ne : Bool) (x y : Opd)
 | isnil (ne : Bool) (x : Opd)
 | not (x : Opd)
 | neg (x : Opd)
 | conv (k : IntKind) (x : Opd)
 | fld (ag : Bool) (off n : Nat) (x : Opd)
 | fad (off : Nat) (x : Opd)
 | iada (len sz : Nat) (x i : Opd)
 | iads (sz : Nat) (x i : Opd)
 | ida (ag : Bool) (len sz : Nat) (x i : Opd)
 | ext (x : Opd) (i : Nat)
 | len (x : Opd)
 | cst (n : Nat)
 | mn (x y : Opd)
 | mx (x y : Opd)
 | slc (sz : Nat) (x : Opd) (lo hi mx : Option Opd)
 | mkfn (f : FuncId) (cs : List Opd)
 | alloc (z : List D)
 | box (x : Opd)
 | bslice (sz len : Nat) (z : List D) (ps : List (Nat × Opd))
 | store (n : Nat) (x y : Opd)
 | call (f : FuncId) (args : List Opd)
 | callv (x : Opd) (args : List Opd)
 | app (sz bytes : Nat) (z : List D) (x y : Opd)
 | mks (sz bytes : Nat) (z : List D) (l c : Opd)
 | xop (k : Nat) (ns : List Nat) (xs : List Opd)
structure AO where
 dst : Option Nat
 op : AOp
 guard : Option (Nat × Bool)
def InR (z : Int) : Prop := -9223372036854775808 ≤ z ∧ z ≤ 9223372036854775807
def arith (k : IntKind) (z : Int) : Option (Prop × D) :=
 match k with
 | .i64 => some (InR z,.int .i64 z)
 | k => some (True,.int k (k.wrap z))
def D.cells : D → List D
 | .agg ds => ds
 | .any => []
 | .tup _ => []
 | .opt .. => []
 | d => [d]
def isT : D → Bool
 | .any => false
 | .own _ => false
 | .ptr .. => false
 | .pel .. => false
 | .sl .. => false
 | .clo .. => false
 | .agg _ => false
 | .tup _ => false
 | .opt .. => false
 | _ => true
def deq : Kd → D → D → Option (Prop × Bool)
 | .i,.int k a,.int k' b => some (k = k',decide (a = b))
 | .b,.bool a,.bool b => some (True,decide (a = b))
 | .s,.str a,.str b => some (True,decide (a.data = b.data))
 | _,_,_ => none
def deqs : List Kd → List D → List D → Option (Prop × Bool)
 | [],[],[] => some (True,true)
 | k :: ks,x :: xs,y :: ys => match deq k x y,deqs ks xs ys with
  | some (p,b),some (q,c) => some (p ∧ q,b && c)
  | _,_ => none
 | _,_,_ => none
def fillD : List D → List (Nat × Nat × D) → Option (List D)
 | z,[] => some z
 | z,(off,n,d) :: ps => if d.cells.length = n ∧ 0 < n ∧ off + n ≤ z.length then fillD (z.take off ++ d.cells ++ z.drop (off + n)) ps else none
def ibit (f : (n : Nat) → BitVec n → BitVec n → BitVec n) (k : IntKind) (a b : Int) : Int := k.wrap (f k.bits (BitVec.ofInt k.bits a) (BitVec.ofInt k.bits b)).toNat
def iand := ibit fun _ a b => a &&& b
def ior := ibit fun _ a b => a ||| b
def ixor := ibit fun _ a b => a ^^^ b
def binD (op : BinOp) (x y : D) : Option (Prop × D) :=
 match x,y with
 | .int k a,.int k' b =>
  match op with
  | .shl => match arith k (a * 2 ^ min b.toNat k.bits) with
   | some (p,d) => some (0 ≤ b ∧ p,d)
   | none => none
  | .shr => some (0 ≤ b,.int k (a / 2 ^ min b.toNat k.bits))
  | op => if k = k' then
   match op with
   | .add => arith k (a + b)
   | .sub => arith k (a - b)
   | .mul => arith k (a * b)
   | .quo => match arith k (a / b) with
    | some (p,d) => some ((0 ≤ a ∧ 0 < b) ∧ p,d)
    | none => none
   | .rem => some (0 < b,.int k (if 0 ≤ a then a % b else -(-a % b)))
   | .and => some (True,.int k (iand k a b))
   | .or => some (True,.int k (ior k a b))
   | .xor => some (True,.int k (ixor k a b))
   | .eql => some (True,.bool (decide (a = b)))
   | .neq => some (True,.bool (!decide (a = b)))
   | .lss => some (True,.bool (decide (a < b)))
   | .leq => some (True,.bool (decide (a ≤ b)))
   | .gtr => some (True,.bool (decide (b < a)))
   | .geq => some (True,.bool (decide (b ≤ a)))
   | _ => none
   else none
 | .str a,.str b =>
  match op with
  | .add => some (a.size + b.size ≤ 9223372036854775807,.str (a ++ b))
  | .eql => some (True,.bool (a.toList == b.toList))
  | .neq => some (True,.bool (!(a.toList == b.toList)))
  | _ => none
 | _,_ => none
def takeD (ag : Bool) (n : Nat) (ds : List D) : Option (Prop × D) :=
 if ag then some (n ≤ ds.length,.agg (ds.take n)) else some (0 < ds.length,ds.headD .any)
def isP : D → Option Bool
 | .nilp => some true
 | .pc _ => some false
 | .ptr .. => some false
 | .pel .. => some false
 | _ => none
def boundD (o : Option Opd) (ev : Opd → D) (dflt : Nat) : Option (Prop × Nat) :=
 match o with
 | none => some (True,dflt)
 | some x => match ev x with
  | .int _ z => some (0 ≤ z,z.toNat)
  | _ => none
def ptrIds : List D → Option (List Nat)
 | [] => some []
 | .ptr id 0 :: ds => match ptrIds ds with
  | some l => some (id :: l)
  | none => none
 | _ => none
def qv (ev : Opd → D) (H : List (Nat × Ob)) : AOp → Option (Prop × D)
 | .mov x => some (True,ev x)
 | .build z ps => match fillD z (ps.map fun p => (p.1,p.2.1,ev p.2.2)) with
  | some ds => some (True,.agg ds)
  | none => none
 | .load ag n x => match ev x with
  | .pc ds => takeD ag n ds
  | .ptr id j => match hget H id with
   | some (.cells ds) => takeD ag n (ds.drop j)
   | _ => none
  | .pel id i sz j => match hget H id with
   | some (.row sz' xs) => match takeD ag n ((xs.getD i []).drop j) with
    | some (p,d) => some ((sz = sz' ∧ i < xs.length) ∧ p,d)
    | none => none
   | some (.rowd sz' xs) => match takeD ag n ((xs.getD i []).drop j) with
    | some (p,d) => some ((sz = sz' ∧ i < xs.length) ∧ p,d)
    | none => none
   | _ => none
  | _ => none
 | .nchk x => match ev x with
  | .pc ds => some (True,.pc ds)
  | .ptr id j => some (True,.ptr id j)
  | .pel id i sz j => some (True,.pel id i sz j)
  | .fn f cs => some (True,.fn f cs)
  | _ => none
 | .bin op x y => binD op (ev x) (ev y)
 | .eqa ne ks x y => match ev x,ev y with
  | .agg cs,.agg bs => match deqs ks cs bs with
   | some (p,b) => some (p,.bool (if ne then !b else b))
   | none => none
  | _,_ => none
 | .eqp ne x y => match isP (ev x),isP (ev y) with
  | some a,some b => some ((a || b) = true,.bool (if ne then !(a && b) else a && b))
  | _,_ => none
 | .eqb ne x y => match ev x,ev y with
  | .bool a,.bool b => some (True,.bool (if ne then !decide (a = b) else decide (a = b)))
  | _,_ => none
 | .not x => match ev x with
  | .bool b => some (True,.bool (!b))
  | _ => none
 | .neg x => match ev x with
  | .int k z => arith k (-z)
  | _ => none
 | .conv k x => match ev x with
  | .int _ z => arith k z
  | _ => none
 | .fld ag off n x => match ev x with
  | .agg ds => takeD ag n (ds.drop off)
  | _ => none
 | .fad off x => match ev x with
  | .pc ds => some (True,.pc (ds.drop off))
  | .ptr id j => some (True,.ptr id (j + off))
  | .pel id i sz j => some (True,.pel id i sz (j + off))
  | _ => none
 | .iada len sz x i => match ev i with
  | .int _ z => match ev x with
   | .pc ds => some (0 ≤ z ∧ z < len,.pc (ds.drop (z.toNat * sz)))
   | .ptr id j => some (0 ≤ z ∧ z < len,.ptr id (j + z.toNat * sz))
   | .pel id i sz' j => some (0 ≤ z ∧ z < len,.pel id i sz' (j + z.toNat * sz))
   | _ => none
  | _ => none
 | .iads sz x i => match ev i with
  | .int _ z => match ev x with
   | .rows sz' xs => some (sz = sz' ∧ 0 ≤ z ∧ z < xs.length,.pc (xs.getD z.toNat []))
   | .own id => match hget H id with
    | some (.row sz' xs) => some (sz = sz' ∧ 0 ≤ z ∧ z < xs.length,.pel id z.toNat sz 0)
    | some (.rowd sz' xs) => some (sz = sz' ∧ 0 ≤ z ∧ z < xs.length,.pel id z.toNat sz 0)
    | _ => none
   | _ => none
  | _ => none
 | .ida ag len sz x i => match ev i with
  | .int _ z => match ev x with
   | .agg ds => match takeD ag sz (ds.drop (z.toNat * sz)) with
    | some (p,d) => some ((0 ≤ z ∧ z < len) ∧ p,d)
    | none => none
   | _ => none
  | _ => none
 | .ext x i => match ev x with
  | .tup ds => some (i < ds.length,ds.getD i .any)
  | _ => none
 | .len x => match ev x with
  | .rows _ xs => some (True,.int .i64 xs.length)
  | .nil0 => some (True,.int .i64 0)
  | .sl _ _ _ n _ => some (True,.int .i64 n)
  | .own id => match hget H id with
   | some (.row _ xs) => some (True,.int .i64 xs.length)
   | some (.rowd _ xs) => some (True,.int .i64 xs.length)
   | _ => none
  | _ => none
 | .cst n => some (True,.int .i64 n)
 | .mn x y => match ev x,ev y with
  | .int k a,.int _ b => some (True,.int k (if b < a then b else a))
  | _,_ => none
 | .mx x y => match ev x,ev y with
  | .int k a,.int _ b => some (True,.int k (if a < b then b else a))
  | _,_ => none
 | .slc sz x lo hi mx => match ev x with
  | .rows sz' xs =>
   match boundD mx ev xs.length,boundD lo ev 0,boundD hi ev xs.length with
   | some (p,m),some (q,l),some (r,h) =>
    if mx.isSome && m == 0 then some ((p ∧ q ∧ r) ∧ h = 0 ∧ l = 0,.nil0)
    else some ((p ∧ q ∧ r) ∧ sz = sz' ∧ l ≤ h ∧ h ≤ m ∧ m ≤ xs.length,.rows sz ((xs.take h).drop l))
   | _,_,_ => none
  | .own id => match hget H id with
   | some (.row sz' xs) =>
    match boundD mx ev xs.length,boundD lo ev 0,boundD hi ev xs.length with
    | some (p,m),some (q,l),some (r,h) => some ((p ∧ q ∧ r) ∧ l ≤ h ∧ h ≤ m ∧ m ≤ xs.length,.any)
    | _,_,_ => none
   | _ => none
  | .sl id sz' off len cap =>
   match boundD mx ev cap,boundD lo ev 0,boundD hi ev len with
   | some (p,m),some (q,l),some (r,h) => some ((p ∧ q ∧ r) ∧ sz = sz' ∧ l ≤ h ∧ h ≤ m ∧ m ≤ cap,.sl id sz (off + l) (h - l) (m - l))
   | _,_,_ => none
  | _ => none
 | .mkfn f cs => let ds := cs.map ev;if ds.all isT then some (True,.fn f ds) else match ptrIds ds with
  | some ids => some (True,.clo f ids)
  | none => none
 | _ => none
def cellD : Value → Option D
 | .int k z => some (.int k z)
 | .bool b => some (.bool b)
 | .string x => some (.str x)
 | .pointer none => some .nilp
 | .slice none 0 0 => some .nil0
 | .func (.func f) l r => if l.size = 0 ∧ r.size = 0 then some (.fn f []) else none
 | _ => none
def cellsD : List Value → Option (List D)
 | [] => some []
 | v :: vs => match cellD v,cellsD vs with
  | some d,some ds => some (d :: ds)
  | _,_ => none
def valD : Value → Option D
 | .agg cs => (cellsD cs.toList).map .agg
 | v => cellD v
def opdC : Operand → Option Opd
 | .tmp t => some (.t t)
 | .const v => (valD v).map .k
 | .func f => some (.k (.fn f []))
 | .global _ => none
def opdsC : List Operand → Option (List Opd)
 | [] => some []
 | x :: xs => match opdC x,opdsC xs with
  | some y,some ys => some (y :: ys)
  | _,_ => none
def szT (P : Program) (t : TypeId) : Option Nat := (P.info? t).map (·.size)
def agT (P : Program) (t : TypeId) : Option Bool := (P.underlying t).map fun d => match d with | .struct _ => true | .array _ _ => true | _ => false
def zeroT (P : Program) (t : TypeId) : Option (List D) :=
 match P.info? t with
 | some i => match i.zero with
  | some z => if z.cells.size = i.size then cellsD z.cells.toList else none
  | none => none
 | none => none
def placeT (P : Program) (t : TypeId) (i : Nat) : Option (Nat × Nat) :=
 match P.underlying t with
 | some (.struct fs) => if fs.toList.all fun f => (szT P f.type).isSome then match fs[i]? with
  | some f => (szT P f.type).map fun n => (f.offset,n)
  | none => none
  else none
 | some (.array _ e) => (szT P e).map fun n => (i * n,n)
 | _ => none
def partsC (P : Program) (t : TypeId) : List (Nat × Operand) → Option (List (Nat × Nat × Opd))
 | [] => some []
 | (i,x) :: ps => match placeT P t i,opdC x,partsC P t ps with
  | some (o,n),some y,some ys => some ((o,n,y) :: ys)
  | _,_,_ => none
def bpartsC : List (Nat × Operand) → Option (List (Nat × Opd))
 | [] => some []
 | (i,x) :: ps => match opdC x,bpartsC ps with
  | some y,some ys => some ((i,y) :: ys)
  | _,_ => none
def kindsF (P : Program) (K : TypeId → Option (List Kd)) : Nat → List Field → Option (List Kd)
 | _,[] => some []
 | off,f :: fs => if f.name ≠ "_" ∧ f.offset = off then match K f.type,agT P f.type,szT P f.type with
  | some ks,some _,some n => if ks.length = n then (kindsF P K (off + n) fs).map (ks ++ ·) else none
  | _,_,_ => none
  else none
def kindsT (P : Program) : Nat → TypeId → Option (List Kd)
 | 0,_ => none
 | d + 1,t => match P.underlying t with
  | some (.int _) => some [.i]
  | some .bool => some [.b]
  | some .string => some [.s]
  | some (.struct fs) => if P.stoodInHeld t then none else kindsF P (kindsT P d) 0 fs.toList
  | _ => none
def optC : Option Operand → Option (Option Opd)
 | none => some none
 | some x => (opdC x).map some
def eqC (P : Program) (t : TypeId) (ne : Bool) (x y : Opd) : Option AOp :=
 match P.underlying t with
 | some (.int _) => some (.bin (if ne then .neq else .eql) x y)
 | some .string => some (.bin (if ne then .neq else .eql) x y)
 | some .bool => some (.eqb ne x y)
 | some (.pointer e) => if 0 < P.cellsOf e then some (.eqp ne x y) else none
 | some (.slice _) => match y with
  | .k .nil0 => some (.isnil ne x)
  | _ => none
 | some (.struct _) => if P.eqGuardType P.depth t then none else (kindsT P 9 t).map fun ks => .eqa ne ks x y
 | _ => none
def sliceT (P : Program) (t : TypeId) : Option TypeId :=
 match P.underlying t with
 | some (.slice e) => some e
 | _ => none
def buildT (P : Program) (t : TypeId) : Bool :=
 match P.underlying t with
 | some (.struct fs) => fs.toList.all fun f => (szT P f.type).isSome
 | some (.array _ e) => (szT P e).isSome
 | _ => false
def cop (P : Program) (o : Op) : Option AOp :=
 match o with
 | .move x => (opdC x).map .mov
 | .assign x => (opdC x).map .mov
 | .pick c a b => match opdC c,opdC a,opdC b with
  | some c,some a,some b => some (.pick c a b)
  | _,_,_ => none
 | .alloc t => (zeroT P t).map .alloc
 | .box _ x => (opdC x).map .box
 | .build t ps => match zeroT P t,partsC P t ps.toList with
  | some z,some ps => if buildT P t then some (.build z ps) else none
  | _,_ => none
 | .buildSlice t len ps => match sliceT P t with
  | some e => match szT P e,zeroT P e,bpartsC ps.toList with
   | some n,some z,some ps => if 0 < n ∧ len * n ≤ 16777216 then some (.bslice n len z ps) else none
   | _,_,_ => none
  | none => none
 | .load t x => match agT P t,szT P t,opdC x with
  | some a,some n,some x => some (.load a n x)
  | _,_,_ => none
 | .store t x y => match szT P t,opdC x,opdC y with
  | some n,some x,some y => some (.store n x y)
  | _,_,_ => none
 | .nilCheck x => (opdC x).map .nchk
 | .binOp op t x y _ => match opdC x,opdC y with
  | some x,some y => match op with
   | .eql => eqC P t false x y
   | .neq => eqC P t true x y
   | op => some (.bin op x y)
  | _,_ => none
 | .unOp op _ x => match op with
  | .not => (opdC x).map .not
  | .neg => (opdC x).map .neg
  | _ => none
 | .convert u t x => match P.underlying t,P.underlying u with
  | some (.int k),some _ => (opdC x).map (.conv k)
  | _,_ => none
 | .makeFunc (.func f) l cs => if l.size = 0 then (opdsC cs.toList).map (.mkfn f) else none
 | .makeSlice t l c => match sliceT P t with
  | some e => match P.info? e,zeroT P e,opdC l,opdC c with
   | some i,some z,some l,some c => if 0 < i.size then some (.mks i.size i.bytes z l c) else none
   | _,_,_,_ => none
  | none => none
 | .slice t x lo hi mx => match sliceT P t with
  | some e => match szT P e,opdC x,optC lo,optC hi,optC mx with
   | some n,some x,some lo,some hi,some mx => if mx.isSome && !hi.isSome then none else some (.slc n x lo hi mx)
   | _,_,_,_,_ => none
  | none => none
 | .fieldAddr t x i => match P.underlying t with
  | some (.struct fs) => match fs[i]? with
   | some f => match szT P f.type,opdC x with
    | some n,some x => if 0 < n then some (.fad f.offset x) else none
    | _,_ => none
   | none => none
  | _ => none
 | .field t x i => match P.underlying t with
  | some (.struct fs) => match fs[i]? with
   | some f => match agT P f.type,szT P f.type,opdC x with
    | some a,some n,some x => some (.fld a f.offset n x)
    | _,_,_ => none
   | none => none
  | _ => none
 | .indexAddr t x i => match P.underlying t,opdC x,opdC i with
  | some (.slice e),some x,some i => (szT P e).map fun n => .iads n x i
  | some (.array len e),some x,some i => (szT P e).map fun n => .iada len n x i
  | _,_,_ => none
 | .index t x i => match P.underlying t,opdC x,opdC i with
  | some (.array len e),some x,some i => match agT P e,szT P e with
   | some a,some n => some (.ida a len n x i)
   | _,_ => none
  | _,_,_ => none
 | .extract x i => (opdC x).map fun x => .ext x i
 | .call c => match c.callee with
  | .value f => match f,opdsC c.args.toList with
   | .func f,some as_ => some (.call f as_)
   | .tmp t,some as_ => some (.callv (.t t) as_)
   | _,_ => none
  | .builtin b => match b,opdsC c.args.toList,c.argTypes.toList with
   | .len,some [x],[t] => match P.underlying t with
    | some (.slice _) => some (.len x)
    | some (.array n _) => some (.cst n)
    | some (.pointer a) => match P.underlying a with
     | some (.array n _) => some (.cst n)
     | _ => none
    | _ => none
   | .min,some [x,y],_ => some (.mn x y)
   | .max,some [x,y],_ => some (.mx x y)
   | .append,some [x,y],[t,t'] => if t = t' then match sliceT P t with
    | some e => match P.info? e,zeroT P e with
     | some i,some z => if 0 < i.size then some (.app i.size i.bytes z x y) else none
     | _,_ => none
    | none => none
    else none
   | _,_,_ => none
  | _ => none
 | _ => none
def dstOk (N : Nat) : Option Nat → Bool
 | some d => decide (d < N)
 | none => true
def mapK (P : Program) (t : TypeId) : Option Nat :=
 if t < P.types.size then
  match P.underlying t with
  | some (.int .i64) => some 0
  | some (.struct _) => match kindsT P 9 t with
   | some ks => if ks.all (fun k => match k with | .i => true | _ => false) && 0 < ks.length then some ks.length else none
   | none => none
  | _ => none
 else none
def xcop (P : Program) (o : Op) : Option AOp :=
 match o with
 | .makeMap t none => match P.underlying t with
  | some (.map k _) => (mapK P k).map fun n => .xop 0 [n] []
  | _ => none
 | .mapUpdate t m k v => match P.underlying t,opdC m,opdC k,opdC v with
  | some (.map kt _),some m,some k,some v => (mapK P kt).map fun n => .xop 1 [n] [m,k,v]
  | _,_,_,_ => none
 | .range t x => match P.underlying t,opdC x with
  | some (.map kt _),some x => (mapK P kt).map fun n => .xop 4 [n] [x]
  | _,_ => none
 | .convert u t x => match P.underlying u,P.underlying t with
  | some (.slice e),some .string => match P.underlying e with
   | some (.int .u8) => (opdC x).map fun x => .xop 7 [] [x]
   | _ => none
  | _,_ => none
 | .next x false => (opdC x).map fun x => .xop 5 [] [x]
 | .entry x => (opdC x).map fun x => .xop 6 [] [x]
 | .call c => match c.callee with
  | .builtin .delete => match opdsC c.args.toList,c.argTypes.toList with
   | some [m,k],[t,_] => match P.underlying t with
    | some (.map kt _) => (mapK P kt).map fun n => .xop 2 [n] [m,k]
    | _ => none
   | _,_ => none
  | .builtin .len => match opdsC c.args.toList,c.argTypes.toList with
   | some [m],[t] => match P.underlying t with
    | some (.map kt _) => (mapK P kt).map fun n => .xop 3 [n] [m]
    | _ => none
   | _,_ => none
  | .builtin .cap => match opdsC c.args.toList,c.argTypes.toList with
   | some [x],[t] => (sliceT P t).map fun _ => .xop 8 [] [x]
   | _,_ => none
  | .builtin .copy => match opdsC c.args.toList,c.argTypes.toList with
   | some [x,y],[t,_] => match sliceT P t with
    | some e => (szT P e).map fun n => .xop 9 [n] [x,y]
    | none => none
   | _,_ => none
  | .builtin .clear => match opdsC c.args.toList,c.argTypes.toList with
   | some [x],[t] => match sliceT P t with
    | some e => match szT P e,zeroT P e with
     | some n,some _ => some (.xop 10 [n] [x])
     | _,_ => none
    | none => none
   | _,_ => none
  | .builtin .append => match opdsC c.args.toList,c.argTypes.toList with
   | some [x,y],[t,t'] => match P.underlying t',sliceT P t with
    | some (.int .i64),some e => match P.info? e,zeroT P e with
     | some i,some _ => some (.xop 11 [i.size,i.bytes] [x,y])
     | _,_ => none
    | _,_ => none
   | _,_ => none
  | _ => none
 | _ => none
def copX (P : Program) (o : Op) : Option AOp :=
 match xcop P o with
 | some x => some x
 | none => cop P o
def coper (P : Program) (N : Nat) (ops : Array Oper) (o : Oper) : Option AO :=
 if dstOk N o.dst then
  match copX P o.op with
  | some op => match o.guard with
   | none => some ⟨o.dst,op,none⟩
   | some (j,b) => match (ops[j]?).bind (·.dst) with
    | some t => some ⟨o.dst,op,some (t,b)⟩
    | none => none
  | none => none
 else none
def copers (P : Program) (N : Nat) (ops : Array Oper) : List Oper → Option (List AO)
 | [] => some []
 | o :: os => match coper P N ops o,copers P N ops os with
  | some a,some r => some (a :: r)
  | _,_ => none
theorem VT.one {Z : Cells} {d : D} {v : Value} (h : VT Z d v) : v.oneCell' = true := by cases h <;> first | rfl | assumption
theorem VC.one {s : Nat → Value} {Z : Cells} {d : D} {v : Value} (h : VC s Z d v) : v.oneCell' = true := by
 cases d <;> first | exact VT.one h | (obtain ⟨_,⟨_,_,_,rfl⟩ | ⟨_,rfl⟩⟩ := h <;> rfl) | (obtain ⟨_,_,_,_,_,rfl,_⟩ := h;rfl) | (obtain ⟨_,rfl,_,_⟩ := h;rfl) | (obtain ⟨_,_,_,_,rfl⟩ := h;rfl) | (obtain ⟨_,_,rfl⟩ := h;rfl) | (obtain ⟨_,_,_,_,rfl⟩ := h;rfl)
theorem VC.of_vt {s : Nat → Value} {Z : Cells} {d : D} {v : Value} (h : VT Z d v) : VC s Z d v := by
 cases d <;> first | exact h | (cases h;done)
theorem VV.of_vc {s : Nat → Value} {Z : Cells} {d : D} {v : Value} (h : VC s Z d v) : VV s Z d v := by
 cases d <;> first | exact h | (cases h;done)
theorem VR.of_vv {s : Nat → Value} {Z : Cells} {d : D} {v : Value} (h : VV s Z d v) : VR s Z d v := by
 cases d <;> first | exact h | trivial | (cases h;done)
theorem VR.of_vc {s : Nat → Value} {Z : Cells} {d : D} {v : Value} (h : VC s Z d v) : VR s Z d v := VR.of_vv (VV.of_vc h)
theorem VC.vt {s : Nat → Value} {Z : Cells} {d : D} {v : Value} (h : VC s Z d v) (hd : isT d = true) : VT Z d v := by
 cases d <;> first | exact h | (cases hd;done)
theorem VR.vt {s : Nat → Value} {Z : Cells} {d : D} {v : Value} (h : VR s Z d v) (hd : isT d = true) (hn : d ≠ .any) : VT Z d v := by
 cases d <;> first | exact h | (cases hd;done) | exact absurd rfl hn
structure Know (s : Nat → Value) (Z : Cells) (H : List (Nat × Ob)) (w : World) : Prop where
 ob : ∀ id ob,hget H id = some ob → ObOk s Z w ob (s id)
 zok : ∀ b o v,Z b o = some v → w.cell? ⟨b,o,none⟩ = some v
def More (w w' : World) : Prop := ∀ a v,w.cell? a = some v → w'.cell? a = some v
theorem More.refl (w : World) : More w w := fun _ _ h => h
theorem More.below {w w' : World} (h : Below w.heap.size w w') : More w w' := fun a v hv => by
 rw [h.cell (World.block_lt_of_cell? w a hv)];exact hv
def Reads (s : Nat → Value) (Z : Cells) (w : World) (v : Value) (ds : List D) : Prop :=
 ∃ b o,v = .pointer (some ⟨b,o,none⟩) ∧ ∀ j d,ds[j]? = some d → ∃ u,w.cell? ⟨b,o + j,none⟩ = some u ∧ VC s Z d u
theorem Reads.drop {s : Nat → Value} {Z : Cells} {w : World} {b o : Nat} {ds : List D} (h : Reads s Z w (.pointer (some ⟨b,o,none⟩)) ds) (n : Nat) : Reads s Z w (.pointer (some ⟨b,o + n,none⟩)) (ds.drop n) := by
 obtain ⟨b',o',he,h⟩ := h
 injection he with he;injection he with he;injection he with h1 h2
 subst h1 h2
 refine ⟨b,o + n,rfl,fun j d hd => ?_⟩
 rw [List.getElem?_drop] at hd
 rw [Nat.add_assoc]
 exact h (n + j) d hd
theorem choose_cells {s : Nat → Value} {Z : Cells} {w : World} {b o : Nat} (ds : List D) (h : ∀ j d,ds[j]? = some d → ∃ u,w.cell? ⟨b,o + j,none⟩ = some u ∧ VC s Z d u) :
  ∃ vs : List Value,vs.length = ds.length ∧ w.rangeAt b o vs ∧ ∀ j d,ds[j]? = some d → VC s Z d (vs.getD j undef) := by
 induction ds generalizing o with
 | nil => exact ⟨[],rfl,fun j v hv => by simp at hv,fun j d hd => by simp at hd⟩
 | cons d ds ih =>
  obtain ⟨u,h1,h2⟩ := h 0 d rfl
  obtain ⟨vs,h3,h4,h5⟩ := ih (o := o + 1) fun j d hd => by
   have := h (j + 1) d (by simpa using hd)
   rwa [show o + (j + 1) = o + 1 + j by omega] at this
  refine ⟨u :: vs,by simp [h3],fun j v hv => ?_,fun j d' hd => ?_⟩
  ·cases j with
   | zero => simp at hv;subst hv;exact h1
   | succ j => have := h4 j v (by simpa using hv);rwa [show o + (j + 1) = o + 1 + j by omega]
  ·cases j with
   | zero => simp at hd;subst hd;simpa using h2
   | succ j => have := h5 j d' (by simpa using hd);simpa using this
theorem agT_some {P : Program} {t : TypeId} {a : Bool} (h : agT P t = some a) : ∃ d,P.underlying t = some d ∧ (d.isRow = a) := by
 unfold agT at h
 cases hu : P.underlying t with
 | none => rw [hu] at h;cases h
 | some d =>
  rw [hu] at h
  simp only [Option.map_some,zA] at h
  refine ⟨d,rfl,?_⟩
  rw [← h]
  cases d <;> rfl
theorem run_isAgg' {P : Program} {t : TypeId} {d : TypeDesc} (h : P.underlying t = some d) (w : World) : (isAgg t).run P w = .ok d.isRow w := by
 unfold isAgg
 rw [Sem.run_bind,run_underlying h w]
 cases d <;> simp
theorem run_sizeOf' {P : Program} {t : TypeId} {n : Nat} (h : szT P t = some n) (w : World) : (sizeOf t).run P w = .ok n w := by
 unfold szT at h
 cases hi : P.info? t with
 | none => rw [hi] at h;cases h
 | some i =>
  rw [hi] at h
  simp only [Option.map_some,zA] at h
  simp [sizeOf,typeInfo,hi,h]
theorem load_sound {P : Program} {s : Nat → Value} {Z : Cells} {w : World} {t : TypeId} {ag : Bool} {n : Nat} {v : Value} {ds : List D} {p : Prop} {d : D}
  (h1 : agT P t = some ag) (h2 : szT P t = some n) (hr : Reads s Z w v ds) (ht : takeD ag n ds = some (p,d)) (hp : p) :
  ∃ u,VR s Z d u ∧ ∀ w',More w w' → (Instr.loadAt t v).run P w' = .ok u w' := by
 obtain ⟨b,o,rfl,hc⟩ := hr
 obtain ⟨td,hu,hrow⟩ := agT_some h1
 unfold takeD at ht
 cases ag with
 | true =>
  simp only [if_true,zA,Prod.mk.injEq] at ht
  obtain ⟨rfl,rfl⟩ := ht
  obtain ⟨vs,h3,h4,h5⟩ := choose_cells (s := s) (Z := Z) (w := w) (b := b) (o := o) (ds.take n) fun j d hd => hc j d (by
   rw [List.getElem?_take] at hd;split at hd
   ·exact hd
   ·cases hd)
  have hl : vs.length = n := by rw [h3,List.length_take];omega
  refine ⟨.agg vs.toArray,⟨vs.toArray,rfl,by simp [h3],fun j x hx => ?_⟩,fun w' hm => ?_⟩
  ·have := h5 j x hx
   simpa using this
  ·exact run_loadAt_mid w' b o t vs td (fun j v hv => hm _ _ (h4 j v hv)) hu hrow (by unfold szT at h2;rw [h2,hl])
 | false =>
  simp only [Bool.false_eq_true,if_false,zA,Prod.mk.injEq] at ht
  obtain ⟨rfl,rfl⟩ := ht
  cases ds with
  | nil => simp at hp
  | cons x ds =>
   obtain ⟨u,h3,h4⟩ := hc 0 x rfl
   refine ⟨u,VR.of_vc h4,fun w' hm => ?_⟩
   have h5 := hm _ _ h3
   rw [Nat.add_zero] at h5
   simp only [Instr.loadAt,Instr.sureAddr,loadVar,Sem.run_bind,Sem.run_pure,Result.andThen_ok,run_isAgg' hu,hrow,Bool.false_eq_true,if_false,run_load,h5]
theorem RowOk.reads {s : Nat → Value} {Z : Cells} {R : D → Value → Prop} (hR : ∀ d v,R d v → VC s Z d v) {w : World} {sz : Nat} {xs : List (List D)} {b n c : Nat} (h : RowOk R w sz xs (.slice (some ⟨b,0,none⟩) n c)) {i : Nat} (hi : i < xs.length) :
  Reads s Z w (.pointer (some ⟨b,i * sz,none⟩)) (xs.getD i []) := by
 obtain ⟨hsz,hrow,h⟩ := h
 rcases h with ⟨rfl,_⟩ | ⟨g,cap,cur,e,hv,hg,hcap,hm,hs,hc⟩
 ·simp at hi
 ·injection hv with h1 h2 h3
  injection h1 with h1;injection h1 with h1;subst h1
  refine ⟨b,i * sz,rfl,fun j d hd => ?_⟩
  have hx : xs[i]? = some xs[i] := zE hi
  rw [zC,hx,Option.getD_some] at hd
  have hj : j < sz := by
   have h4 := (zB.1 hd).1
   rwa [hrow _ (List.getElem_mem hi)] at h4
  have hlt : i * sz + j < cur.size := by
   rw [hs]
   have : (i + 1) * sz ≤ cap * sz := Nat.mul_le_mul_right _ (by omega)
   rw [Nat.add_mul] at this;omega
  refine ⟨cur.getD (i * sz + j) undef,?_,hR _ _ (hc i _ j d hx hd)⟩
  rw [cell_of_row w b _ cur e (0,0) hg]
  simp [hlt]
theorem reads_of {s : Nat → Value} {Z : Cells} {H : List (Nat × Ob)} {w : World} (hk : Know s Z H w) {d : D} {v : Value} (hv : VR s Z d v) {ag : Bool} {n : Nat} {x : Opd} {ev : Opd → D} (hx : ev x = d) {p : Prop} {r : D}
  (hq : qv ev H (.load ag n x) = some (p,r)) (hp : p) : ∃ ds p',Reads s Z w v ds ∧ takeD ag n ds = some (p',r) ∧ p' := by
 simp only [qv,hx] at hq
 cases d with
 | pc ds =>
  cases hv with
  | pc _ b o c h1 h2 => exact ⟨ds,p,⟨b,o,rfl,fun j d hd => ⟨c j,hk.zok _ _ _ (h1 j d hd),VC.of_vt (h2 j d hd)⟩⟩,hq,hp⟩
 | ptr id j =>
  obtain ⟨b,hs,rfl⟩ := hv
  simp only at hq
  split at hq
  ·rename_i ds hds
   obtain ⟨b',T,cs,hs',hg,hsz,hc⟩ := hk.ob _ _ hds
   rw [hs] at hs'
   injection hs' with h1;injection h1 with h1;injection h1 with h1 _;subst h1
   have : Reads s Z w (.pointer (some ⟨b,0,none⟩)) ds := ⟨b,0,rfl,fun j d hd => ⟨cs.getD j undef,by
    have hlt : j < cs.size := by rw [hsz];exact (zB.1 hd).1
    rw [Nat.zero_add,cell_of_row w b j cs T (0,0) hg];simp [hlt],hc j d hd⟩⟩
   have := this.drop j
   rw [Nat.zero_add] at this
   exact ⟨_,p,this,hq,hp⟩
  ·cases hq
 | pel id i sz j =>
  obtain ⟨b,m,c,hs,rfl⟩ := hv
  simp only at hq
  split at hq
  ·rename_i sz' xs hds
   split at hq
   ·rename_i p' d' ht
    simp only [zA,Prod.mk.injEq] at hq
    obtain ⟨rfl,rfl⟩ := hq
    obtain ⟨⟨rfl,hi⟩,hp'⟩ := hp
    have ho := hk.ob _ _ hds
    simp only [ObOk,hs] at ho
    exact ⟨_,p',(RowOk.reads (s := s) (Z := Z) (fun _ _ => VC.of_vt) ho hi).drop j,ht,hp'⟩
   ·cases hq
  ·rename_i sz' xs hds
   split at hq
   ·rename_i p' d' ht
    simp only [zA,Prod.mk.injEq] at hq
    obtain ⟨rfl,rfl⟩ := hq
    obtain ⟨⟨rfl,hi⟩,hp'⟩ := hp
    have ho := hk.ob _ _ hds
    simp only [ObOk,hs] at ho
    exact ⟨_,p',(RowOk.reads (s := s) (Z := Z) (fun _ _ h => h) ho hi).drop j,ht,hp'⟩
   ·cases hq
  ·cases hq
 | _ => cases hq
def isLd : Op → Bool
 | .load .. => true
 | _ => false
def Ok4 (w : World) (o : Oper) (w' : World) : Prop := More w w' ∨ isLd o.op = false
def Does (P : Program) (s : Nat → Value) (Z : Cells) (w : World) (ρ : Operand → Value) (o : Oper) (d : D) : Prop :=
 ∃ u,VR s Z d u ∧ ∀ w',Ok4 w o w' → (execOp ρ o).run P w' = .ok (.value u) w'
section
variable {P : Program} {s : Nat → Value} {Z : Cells} {H : List (Nat × Ob)} {w : World} {ρ : Operand → Value} {ev : Opd → D} {o : Oper}
theorem VR.int_inv {k : IntKind} {z : Int} {v : Value} (h : VR s Z (.int k z) v) : v = .int k z := by cases h;rfl
theorem VR.bool_inv {b : Bool} {v : Value} (h : VR s Z (.bool b) v) : v = .bool b := by cases h;rfl
theorem VR.str_inv {b : ByteArray} {v : Value} (h : VR s Z (.str b) v) : v = .string b := by cases h;rfl
theorem VR.agg_inv {ds : List D} {v : Value} (h : VR s Z (.agg ds) v) : ∃ vs : Array Value,v = .agg vs ∧ vs.size = ds.length ∧ ∀ j x,ds[j]? = some x → VC s Z x (vs.getD j undef) := h
theorem VR.tup_inv {ds : List D} {v : Value} (h : VR s Z (.tup ds) v) : ∃ vs : Array Value,v = .tuple vs ∧ vs.size = ds.length ∧ ∀ j x,ds[j]? = some x → VV s Z x (vs.getD j undef) := h
theorem VR.int_mk (k : IntKind) (z : Int) : VR s Z (.int k z) (.int k z) := VT.int k z
theorem VR.bool_mk (b : Bool) : VR s Z (.bool b) (.bool b) := VT.bool b
theorem does_mov {x : Operand} (ho : o.op = .move x ∨ o.op = .assign x) {d : D} (h : VR s Z d (ρ x)) : Does P s Z w ρ o d :=
 ⟨_,h,fun w' _ => by unfold execOp;rcases ho with ho | ho <;> rw [ho] <;> rfl⟩
theorem does_load {t : TypeId} {x : Operand} (ho : o.op = .load t x) {ag : Bool} {n : Nat} {y : Opd} (h1 : agT P t = some ag) (h2 : szT P t = some n) (hk : Know s Z H w) (hx : VR s Z (ev y) (ρ x)) {p : Prop} {d : D}
  (hq : qv ev H (.load ag n y) = some (p,d)) (hp : p) : Does P s Z w ρ o d := by
 obtain ⟨ds,p',hr,ht,hp'⟩ := reads_of hk hx rfl hq hp
 obtain ⟨u,hu,hrun⟩ := load_sound h1 h2 hr ht hp'
 exact ⟨u,hu,fun w' hm => by
  have hm : More w w' := hm.elim id (fun h => by rw [ho] at h;cases h)
  unfold execOp;rw [ho];simp only [Sem.run_bind,hrun w' hm,Result.andThen_ok,Sem.run_pure]⟩
theorem does_nchk {x : Operand} (ho : o.op = .nilCheck x) {y : Opd} (hx : VR s Z (ev y) (ρ x)) {p : Prop} {d : D} (hq : qv ev H (.nchk y) = some (p,d)) : Does P s Z w ρ o d := by
 simp only [qv] at hq
 generalize ev y = e at *
 generalize hρ : ρ x = v at *
 cases e <;> simp only [zA,Prod.mk.injEq,reduceCtorEq] at hq
 all_goals
  obtain ⟨_,rfl⟩ := hq
  refine ⟨v,hx,fun w' _ => ?_⟩
  unfold execOp;rw [ho]
 ·cases hx with | pc _ b off c _ _ => simp only [hρ,Sem.run_pure]
 ·cases hx with | fn _ _ vs _ _ => simp only [hρ,Sem.run_pure]
 ·obtain ⟨b,_,rfl⟩ := hx;simp only [hρ,Sem.run_pure]
 ·obtain ⟨b,_,_,_,rfl⟩ := hx;simp only [hρ,Sem.run_pure]
theorem wrap_in {z : Int} (h : InR z) : IntKind.i64.wrap z = z := IntWalk.i64_in _ h
theorem arith_run {k : IntKind} {z : Int} {p : Prop} {d : D} (h : arith k z = some (p,d)) (hp : p) : VR s Z d (.int k (k.wrap z)) := by
 unfold arith at h
 split at h <;> (simp only [zA,Prod.mk.injEq] at h;obtain ⟨rfl,rfl⟩ := h)
 ·rw [wrap_in hp];exact VR.int_mk _ _
 ·exact VR.int_mk _ _
theorem does_bin {op : BinOp} {t t' : TypeId} {x y : Operand} (ho : o.op = .binOp op t x y t') {X Y : Opd} (hx : VR s Z (ev X) (ρ x)) (hy : VR s Z (ev Y) (ρ y)) {p : Prop} {d : D}
  (hq : qv ev H (.bin op X Y) = some (p,d)) (hp : p) : Does P s Z w ρ o d := by
 simp only [qv] at hq
 generalize ev X = e at *
 generalize ev Y = f at *
 cases e with
 | int k a =>
  cases f with
  | int k' b =>
   have hx := hx.int_inv
   have hy := hy.int_inv
   have hg : ∀ w',(eqGuard op t x y (.int k a) (.int k' b)).run P w' = .ok () w' := fun w' => by cases op <;> simp [eqGuard]
   have key : ∀ u,(∀ w',(binOp op t (.int k a) (.int k' b)).run P w' = .ok u w') → VR s Z d u → Does P s Z w ρ o d := fun u hu hv => ⟨u,hv,fun w' _ => by
    unfold execOp;rw [ho];simp only [Sem.run_bind,hx,hy,hg w',Result.andThen_ok,hu w',Sem.run_pure]⟩
   simp only [binD] at hq
   cases op <;> simp only at hq
   case shl =>
    split at hq <;> simp only [zA,Prod.mk.injEq,reduceCtorEq] at hq
    rename_i q e he
    obtain ⟨rfl,rfl⟩ := hq
    refine key _ (fun w' => ?_) (arith_run he hp.2)
    have : ¬ b < 0 := by omega
    simp [binOp,Op.shift,this]
   case shr =>
    simp only [zA,Prod.mk.injEq] at hq
    obtain ⟨rfl,rfl⟩ := hq
    refine key _ (fun w' => ?_) (VR.int_mk k _)
    have : ¬ b < 0 := by omega
    simp [binOp,Op.shift,this]
    exact Int.fdiv_eq_ediv_of_nonneg _ (by exact_mod_cast Nat.zero_le _)
   all_goals
    split at hq
    case isFalse => cases hq
    rename_i hkk
    subst hkk
    try simp only [zA,Prod.mk.injEq,reduceCtorEq] at hq
   case int.int.add.isTrue => exact key _ (fun w' => by simp [binOp,Op.intArith]) (arith_run hq hp)
   case int.int.sub.isTrue => exact key _ (fun w' => by simp [binOp,Op.intArith]) (arith_run hq hp)
   case int.int.mul.isTrue => exact key _ (fun w' => by simp [binOp,Op.intArith]) (arith_run hq hp)
   case int.int.quo.isTrue =>
    split at hq <;> simp only [zA,Prod.mk.injEq,reduceCtorEq] at hq
    rename_i q e he
    obtain ⟨rfl,rfl⟩ := hq
    refine key _ (fun w' => ?_) (arith_run he hp.2)
    have : ¬ b = 0 := by omega
    simp [binOp,Op.intDiv,this]
    rw [Int.tdiv_eq_ediv_of_nonneg (by omega)]
   case int.int.rem.isTrue =>
    obtain ⟨rfl,rfl⟩ := hq
    refine key _ (fun w' => ?_) (VR.int_mk k _)
    have hb0 : ¬ b = 0 := by omega
    have hm : Int.tmod a b = if 0 ≤ a then a % b else -(-a % b) := by
     by_cases h0 : 0 ≤ a
     ·rw [if_pos h0,Int.tmod_eq_emod_of_nonneg h0]
     ·rw [if_neg h0,← Int.tmod_eq_emod_of_nonneg (show 0 ≤ -a by omega),Int.neg_tmod,Int.neg_neg]
    simp [binOp,Op.intDiv,hb0]
    rw [hm]
   case int.int.and.isTrue => obtain ⟨rfl,rfl⟩ := hq;exact key _ (fun w' => by simp only [binOp,ne_eq,not_true_eq_false,if_false,Op.intBits];rfl) (VR.int_mk k _)
   case int.int.or.isTrue => obtain ⟨rfl,rfl⟩ := hq;exact key _ (fun w' => by simp only [binOp,ne_eq,not_true_eq_false,if_false,Op.intBits];rfl) (VR.int_mk k _)
   case int.int.xor.isTrue => obtain ⟨rfl,rfl⟩ := hq;exact key _ (fun w' => by simp only [binOp,ne_eq,not_true_eq_false,if_false,Op.intBits];rfl) (VR.int_mk k _)
   case int.int.eql.isTrue => obtain ⟨rfl,rfl⟩ := hq;exact key _ (fun w' => by simp [binOp,Op.intCmp];rfl) (VR.bool_mk _)
   case int.int.neq.isTrue => obtain ⟨rfl,rfl⟩ := hq;exact key _ (fun w' => by simp [binOp,Op.intCmp];rfl) (VR.bool_mk _)
   case int.int.lss.isTrue => obtain ⟨rfl,rfl⟩ := hq;exact key _ (fun w' => by simp [binOp,Op.intCmp]) (VR.bool_mk _)
   case int.int.leq.isTrue => obtain ⟨rfl,rfl⟩ := hq;exact key _ (fun w' => by simp [binOp,Op.intCmp]) (VR.bool_mk _)
   case int.int.gtr.isTrue => obtain ⟨rfl,rfl⟩ := hq;exact key _ (fun w' => by simp [binOp,Op.intCmp]) (VR.bool_mk _)
   case int.int.geq.isTrue => obtain ⟨rfl,rfl⟩ := hq;exact key _ (fun w' => by simp [binOp,Op.intCmp]) (VR.bool_mk _)
  | _ => cases hq
 | str a =>
  cases f with
  | str b =>
   have hx := hx.str_inv
   have hy := hy.str_inv
   have hg : ∀ w',(eqGuard op t x y (.string a) (.string b)).run P w' = .ok () w' := fun w' => by cases op <;> simp [eqGuard]
   have key : ∀ u,(∀ w',(binOp op t (.string a) (.string b)).run P w' = .ok u w') → VR s Z d u → Does P s Z w ρ o d := fun u hu hv => ⟨u,hv,fun w' _ => by
    unfold execOp;rw [ho];simp only [Sem.run_bind,hx,hy,hg w',Result.andThen_ok,hu w',Sem.run_pure]⟩
   simp only [binD] at hq
   cases op <;> simp only [zA,Prod.mk.injEq,reduceCtorEq] at hq
   case add =>
    obtain ⟨rfl,rfl⟩ := hq
    refine key _ (fun w' => ?_) (VT.str _)
    have e1 : IntKind.i64.max = 9223372036854775807 := rfl
    have h0 : ¬ ((a.size + b.size : Nat) : Int) > IntKind.i64.max := by rw [e1];omega
    simp only [binOp,Op.stringOp]
    rw [if_neg h0]
    rfl
   case eql => obtain ⟨rfl,rfl⟩ := hq;exact key _ (fun w' => by simp only [binOp,Op.stringOp,Sem.run_pure]) (VR.bool_mk _)
   case neq => obtain ⟨rfl,rfl⟩ := hq;exact key _ (fun w' => by simp only [binOp,Op.stringOp,Sem.run_pure]) (VR.bool_mk _)
  | _ => cases hq
 | _ => cases hq
theorem does_eqb {t t' : TypeId} {x y : Operand} (ne : Bool) (ho : o.op = .binOp (if ne then .neq else .eql) t x y t') (ht : P.underlying t = some .bool) {X Y : Opd} (hx : VR s Z (ev X) (ρ x)) (hy : VR s Z (ev Y) (ρ y)) {p : Prop} {d : D}
  (hq : qv ev H (.eqb ne X Y) = some (p,d)) : Does P s Z w ρ o d := by
 simp only [qv] at hq
 generalize ev X = e at *
 generalize ev Y = f at *
 cases e with
 | bool a =>
  cases f with
  | bool b =>
   have hx := hx.bool_inv
   have hy := hy.bool_inv
   simp only [zA,Prod.mk.injEq] at hq
   obtain ⟨_,rfl⟩ := hq
   refine ⟨_,VR.bool_mk _,fun w' _ => ?_⟩
   unfold execOp;rw [ho]
   cases ne
   ·simp [eqGuard,hx,hy,binOp,Op.equal,Op.maxDepth,run_equalIn_bool w' _ t a b ht];rfl
   ·simp [eqGuard,hx,hy,binOp,Op.equal,Op.maxDepth,run_equalIn_bool w' _ t a b ht];rfl
  | _ => cases hq
 | _ => cases hq
theorem isP_inv {d : D} {b : Bool} {v : Value} (h : isP d = some b) (hv : VR s Z d v) : (b = true → v = .pointer none) ∧ (b = false → ∃ a,v = .pointer (some a)) := by
 cases d <;> simp only [isP,zA,reduceCtorEq] at h <;> subst h
 ·cases hv;exact ⟨fun _ => rfl,fun h => by cases h⟩
 ·cases hv;exact ⟨fun h => (by cases h),fun _ => ⟨_,rfl⟩⟩
 ·obtain ⟨b,_,rfl⟩ := hv;exact ⟨fun h => (by cases h),fun _ => ⟨_,rfl⟩⟩
 ·obtain ⟨b,_,_,_,rfl⟩ := hv;exact ⟨fun h => (by cases h),fun _ => ⟨_,rfl⟩⟩
theorem run_equalIn_nil {t e : TypeId} (ht : P.underlying t = some (.pointer e)) (n : Nat) (a b : Option Addr) (h : a = none ∨ b = none) (w : World) :
  (Op.equalIn (n + 1) t (.pointer a) (.pointer b)).run P w = .ok (a.isNone && b.isNone) w := by
 rcases h with rfl | rfl
 ·simp [Op.equalIn,run_underlying ht]
 ·cases a <;> simp [Op.equalIn,run_underlying ht]
theorem does_eqp {t t' e : TypeId} {x y : Operand} (ne : Bool) (ho : o.op = .binOp (if ne then .neq else .eql) t x y t') (ht : P.underlying t = some (.pointer e)) {X Y : Opd} (hx : VR s Z (ev X) (ρ x)) (hy : VR s Z (ev Y) (ρ y)) {p : Prop} {d : D}
  (hq : qv ev H (.eqp ne X Y) = some (p,d)) (hp : p) : Does P s Z w ρ o d := by
 simp only [qv] at hq
 split at hq <;> simp only [zA,Prod.mk.injEq,reduceCtorEq] at hq
 rename_i a b ha hb
 obtain ⟨rfl,rfl⟩ := hq
 obtain ⟨h1,h2⟩ := isP_inv ha hx
 obtain ⟨h3,h4⟩ := isP_inv hb hy
 have hvx : ∃ q : Option Addr,ρ x = .pointer q ∧ (a = q.isNone) := by
  cases a
  ·obtain ⟨q,hq⟩ := h2 rfl;exact ⟨some q,hq,rfl⟩
  ·exact ⟨none,h1 rfl,rfl⟩
 have hvy : ∃ q : Option Addr,ρ y = .pointer q ∧ (b = q.isNone) := by
  cases b
  ·obtain ⟨q,hq⟩ := h4 rfl;exact ⟨some q,hq,rfl⟩
  ·exact ⟨none,h3 rfl,rfl⟩
 obtain ⟨q,hqx,rfl⟩ := hvx
 obtain ⟨r,hry,rfl⟩ := hvy
 have hn : q = none ∨ r = none := by
  cases q <;> cases r <;> simp at hp ⊢
 refine ⟨_,VR.bool_mk _,fun w' _ => ?_⟩
 unfold execOp;rw [ho]
 have he := run_equalIn_nil (P := P) ht 9999 q r hn w'
 cases ne
 ·simp [eqGuard,hqx,hry,binOp,Op.equal,Op.maxDepth,he]
 ·simp [eqGuard,hqx,hry,binOp,Op.equal,Op.maxDepth,he]
theorem does_not {t : TypeId} {x : Operand} (ho : o.op = .unOp .not t x) {X : Opd} (hx : VR s Z (ev X) (ρ x)) {p : Prop} {d : D} (hq : qv ev H (.not X) = some (p,d)) : Does P s Z w ρ o d := by
 simp only [qv] at hq
 generalize ev X = e at *
 cases e <;> simp only [zA,Prod.mk.injEq,reduceCtorEq] at hq
 obtain ⟨_,rfl⟩ := hq
 refine ⟨_,VR.bool_mk _,fun w' _ => ?_⟩
 unfold execOp;rw [ho];simp [hx.bool_inv,Op.unary]
theorem does_neg {t : TypeId} {x : Operand} (ho : o.op = .unOp .neg t x) {X : Opd} (hx : VR s Z (ev X) (ρ x)) {p : Prop} {d : D} (hq : qv ev H (.neg X) = some (p,d)) (hp : p) : Does P s Z w ρ o d := by
 simp only [qv] at hq
 generalize ev X = e at *
 cases e <;> simp only [reduceCtorEq] at hq
 rename_i k z
 refine ⟨_,arith_run hq hp,fun w' _ => ?_⟩
 unfold execOp;rw [ho];simp [hx.int_inv,Op.unary,Op.intArith]
theorem does_conv {t t' : TypeId} {x : Operand} {k : IntKind} (ho : o.op = .convert t' t x) (ht : P.underlying t = some (.int k)) {X : Opd} (hx : VR s Z (ev X) (ρ x)) {p : Prop} {d : D}
  (hs : (P.underlying t').isSome = true) (hq : qv ev H (.conv k X) = some (p,d)) (hp : p) : Does P s Z w ρ o d := by
 simp only [qv] at hq
 generalize ev X = e at *
 cases e <;> simp only [reduceCtorEq] at hq
 rename_i k' z
 obtain ⟨td,htd⟩ := Option.isSome_iff_exists.1 hs
 refine ⟨_,arith_run hq hp,fun w' _ => ?_⟩
 unfold execOp;rw [ho]
 simp only [convert,Sem.run_bind,run_underlying ht,run_underlying htd,Result.andThen_ok,hx.int_inv,Conv.intToInt,Sem.run_pure]
theorem does_ext {x : Operand} {i : Nat} (ho : o.op = .extract x i) {X : Opd} (hx : VR s Z (ev X) (ρ x)) {p : Prop} {d : D} (hq : qv ev H (.ext X i) = some (p,d)) (hp : p) : Does P s Z w ρ o d := by
 simp only [qv] at hq
 generalize ev X = e at *
 cases e <;> simp only [zA,Prod.mk.injEq,reduceCtorEq] at hq
 rename_i ds
 obtain ⟨rfl,rfl⟩ := hq
 obtain ⟨vs,hv,hl,hc⟩ := hx.tup_inv
 have hi : i < vs.size := by omega
 refine ⟨vs.getD i undef,?_,fun w' _ => ?_⟩
 ·have : ds[i]? = some (ds.getD i .any) := by rw [zC,zE hp];rfl
  exact VR.of_vv (hc i _ this)
 ·unfold execOp;rw [ho]
  simp only [Sem.run_bind,Instr.extract,hv,Array.getElem?_eq_getElem hi,Sem.run_pure,Result.andThen_ok]
  simp [Array.getD,hi]
end
section
variable {P : Program} {s : Nat → Value} {Z : Cells} {H : List (Nat × Ob)} {w : World} {ρ : Operand → Value} {ev : Opd → D} {o : Oper}
theorem add_mid' (b o j : Nat) : (⟨b,o,none⟩ : Addr).add j = ⟨b,o + j,none⟩ := Addr.add_mid b o j
theorem VR.pc_add {ds : List D} {v : Value} (h : VR s Z (.pc ds) v) (n : Nat) : ∃ b o,v = .pointer (some ⟨b,o,none⟩) ∧ VR s Z (.pc (ds.drop n)) (.pointer (some ⟨b,o + n,none⟩)) := by
 cases h with
 | pc _ b o c h1 h2 =>
  refine ⟨b,o,rfl,VT.pc (ds.drop n) b (o + n) (fun j => c (n + j)) (fun j d hd => ?_) (fun j d hd => ?_)⟩
  ·rw [List.getElem?_drop] at hd;rw [Nat.add_assoc];exact h1 _ _ hd
  ·rw [List.getElem?_drop] at hd;exact h2 _ _ hd
theorem VR.ptr_add {id j : Nat} {v : Value} (h : VR s Z (.ptr id j) v) (n : Nat) : ∃ b o,v = .pointer (some ⟨b,o,none⟩) ∧ VR s Z (.ptr id (j + n)) (.pointer (some ⟨b,o + n,none⟩)) := by
 obtain ⟨b,hs,rfl⟩ := h
 exact ⟨b,j,rfl,b,hs,rfl⟩
theorem VR.pel_add {id i sz j : Nat} {v : Value} (h : VR s Z (.pel id i sz j) v) (n : Nat) : ∃ b o,v = .pointer (some ⟨b,o,none⟩) ∧ VR s Z (.pel id i sz (j + n)) (.pointer (some ⟨b,o + n,none⟩)) := by
 obtain ⟨b,m,c,hs,rfl⟩ := h
 exact ⟨b,_,rfl,b,m,c,hs,by rw [Nat.add_assoc]⟩
theorem does_fad {t : TypeId} {x : Operand} {i : Nat} (ho : o.op = .fieldAddr t x i) {fs : Array Field} {f : Field} {n : Nat} (ht : P.underlying t = some (.struct fs)) (hf : fs[i]? = some f) (hn : szT P f.type = some n) (h0 : 0 < n)
  {X : Opd} (hx : VR s Z (ev X) (ρ x)) {p : Prop} {d : D} (hq : qv ev H (.fad f.offset X) = some (p,d)) : Does P s Z w ρ o d := by
 have key : ∀ b off,ρ x = .pointer (some ⟨b,off,none⟩) → VR s Z d (.pointer (some ⟨b,off + f.offset,none⟩)) → Does P s Z w ρ o d := fun b off h1 h2 => ⟨_,h2,fun w' _ => by
  unfold execOp;rw [ho]
  have hne : ¬ n = 0 := by omega
  simp only [Instr.fieldAt,Sem.run_bind,run_underlying ht,Result.andThen_ok,hf,h1,Instr.sureAddr,Sem.run_pure,fieldPlace,run_sizeOf' hn,hne,if_false,add_mid']⟩
 simp only [qv] at hq
 generalize ev X = e at *
 cases e <;> simp only [zA,Prod.mk.injEq,reduceCtorEq] at hq <;> obtain ⟨_,rfl⟩ := hq
 ·obtain ⟨b,off,h1,h2⟩ := VR.pc_add hx f.offset;exact key b off h1 h2
 ·obtain ⟨b,off,h1,h2⟩ := VR.ptr_add hx f.offset;exact key b off h1 h2
 ·obtain ⟨b,off,h1,h2⟩ := VR.pel_add hx f.offset;exact key b off h1 h2
theorem does_iada {t e : TypeId} {x i : Operand} {len n : Nat} (ho : o.op = .indexAddr t x i) (ht : P.underlying t = some (.array len e)) (hn : szT P e = some n)
  {X I : Opd} (hx : VR s Z (ev X) (ρ x)) (hi : VR s Z (ev I) (ρ i)) {p : Prop} {d : D} (hq : qv ev H (.iada len n X I) = some (p,d)) (hp : p) : Does P s Z w ρ o d := by
 simp only [qv] at hq
 generalize ev X = ex at *
 generalize ev I = ei at *
 cases ei <;> simp only [reduceCtorEq] at hq
 rename_i k z
 have hi := hi.int_inv
 have key : ∀ b off,0 ≤ z ∧ z < len → ρ x = .pointer (some ⟨b,off,none⟩) → VR s Z d (.pointer (some ⟨b,off + z.toNat * n,none⟩)) → Does P s Z w ρ o d := fun b off hz h1 h2 => ⟨_,h2,fun w' _ => by
  unfold execOp;rw [ho]
  simp only [Instr.indexAt,Sem.run_bind,run_underlying ht,Result.andThen_ok,hi,asIntOf,h1,Instr.sureAddr,Sem.run_pure,Sem.run_ite,run_sizeOf' hn,hz,and_self,if_true,add_mid']⟩
 cases ex <;> simp only [zA,Prod.mk.injEq,reduceCtorEq] at hq <;> obtain ⟨rfl,rfl⟩ := hq
 ·obtain ⟨b,off,h1,h2⟩ := VR.pc_add hx (z.toNat * n);exact key b off hp h1 h2
 ·obtain ⟨b,off,h1,h2⟩ := VR.ptr_add hx (z.toNat * n);exact key b off hp h1 h2
 ·obtain ⟨b,off,h1,h2⟩ := VR.pel_add hx (z.toNat * n);exact key b off hp h1 h2
theorem VR.rows_inv {sz : Nat} {xs : List (List D)} {v : Value} (h : VR s Z (.rows sz xs) v) : ∃ a cap,v = .slice a xs.length cap ∧ xs.length ≤ cap ∧
  ((∀ i,i < xs.length → ∃ b off,a = some ⟨b,off,none⟩ ∧ VR s Z (.pc (xs.getD i [])) (.pointer (some ⟨b,off + i * sz,none⟩)))) := by
 cases h with
 | rnil _ a cap => exact ⟨a,cap,rfl,Nat.zero_le _,fun i hi => by simp at hi⟩
 | rows _ _ b off cap c hcap h1 h2 =>
  refine ⟨_,cap,rfl,hcap,fun i hi => ⟨b,off,rfl,?_⟩⟩
  have hx : xs[i]? = some (xs.getD i []) := by rw [zC,zE hi];rfl
  exact VT.pc _ b (off + i * sz) (fun j => c i j) (fun j d hd => (h1 i _ j d hx hd).2) (fun j d hd => h2 i _ j d hx hd)
theorem RowOk.slice {R : D → Value → Prop} {sz : Nat} {xs : List (List D)} {v : Value} (h : RowOk R w sz xs v) : ∃ a cap,v = .slice a xs.length cap ∧ xs.length ≤ cap ∧ (0 < xs.length → ∃ b,a = some ⟨b,0,none⟩) := by
 rcases h.2.2 with ⟨rfl,a,rfl⟩ | ⟨g,cap,cur,e,rfl,_,hcap,_⟩
 ·exact ⟨a,0,rfl,by simp,fun h => by simp at h⟩
 ·exact ⟨_,cap,rfl,hcap,fun _ => ⟨g,rfl⟩⟩
theorem does_iads {t e : TypeId} {x i : Operand} {n : Nat} (ho : o.op = .indexAddr t x i) (ht : P.underlying t = some (.slice e)) (hn : szT P e = some n) (hk : Know s Z H w)
  {X I : Opd} (hx : VR s Z (ev X) (ρ x)) (hi : VR s Z (ev I) (ρ i)) {p : Prop} {d : D} (hq : qv ev H (.iads n X I) = some (p,d)) (hp : p) : Does P s Z w ρ o d := by
 simp only [qv] at hq
 generalize ev X = ex at *
 generalize ev I = ei at *
 cases ei <;> simp only [reduceCtorEq] at hq
 rename_i k z
 have hi := hi.int_inv
 have key : ∀ b off len cap,0 ≤ z ∧ z < (len : Nat) → ρ x = .slice (some ⟨b,off,none⟩) len cap → VR s Z d (.pointer (some ⟨b,off + z.toNat * n,none⟩)) → Does P s Z w ρ o d := fun b off len cap hz h1 h2 => ⟨_,h2,fun w' _ => by
  unfold execOp;rw [ho]
  simp only [Instr.indexAt,Sem.run_bind,run_underlying ht,Result.andThen_ok,hi,asIntOf,h1,Sem.run_pure,Sem.run_ite,run_sizeOf' hn,hz,and_self,if_true,add_mid']⟩
 have own : ∀ (R : D → Value → Prop) id sz xs,RowOk R w sz xs (s id) → VR s Z (.own id) (ρ x) → n = sz → 0 ≤ z ∧ z < (xs.length : Nat) → d = .pel id z.toNat n 0 → Does P s Z w ρ o d := fun R id sz xs hr hv hn' hz hd => by
  obtain ⟨hv1,_⟩ := hv
  obtain ⟨a,cap,h1,h2,h3⟩ := hr.slice
  obtain ⟨b,rfl⟩ := h3 (by omega)
  subst hd
  refine key b 0 xs.length cap hz (by rw [hv1,h1]) ⟨b,_,cap,h1,by simp⟩
 cases ex <;> simp only [reduceCtorEq] at hq
 ·rename_i sz xs
  simp only [zA,Prod.mk.injEq] at hq
  obtain ⟨rfl,rfl⟩ := hq
  obtain ⟨rfl,hz⟩ := hp
  obtain ⟨a,cap,h1,h2,h3⟩ := hx.rows_inv
  obtain ⟨b,off,rfl,h4⟩ := h3 z.toNat (by omega)
  exact key b off _ cap hz h1 h4
 ·rename_i id
  split at hq
  ·rename_i sz xs hh
   simp only [zA,Prod.mk.injEq] at hq
   obtain ⟨rfl,rfl⟩ := hq
   exact own _ id sz xs (hk.ob _ _ hh) hx hp.1 hp.2 rfl
  ·rename_i sz xs hh
   simp only [zA,Prod.mk.injEq] at hq
   obtain ⟨rfl,rfl⟩ := hq
   exact own _ id sz xs (hk.ob _ _ hh) hx hp.1 hp.2 rfl
  ·cases hq
theorem part_sound {t : TypeId} {ag : Bool} {n off : Nat} {ds : List D} {vs : Array Value} {p : Prop} {d : D} (h1 : agT P t = some ag) (h2 : szT P t = some n) (hl : vs.size = ds.length)
  (hc : ∀ j x,ds[j]? = some x → VC s Z x (vs.getD j undef)) (ht : takeD ag n (ds.drop off) = some (p,d)) (hp : p) : ∃ u,VR s Z d u ∧ ∀ w',(part t vs off).run P w' = .ok u w' := by
 obtain ⟨td,hu,hrow⟩ := agT_some h1
 unfold takeD at ht
 cases ag with
 | true =>
  simp only [if_true,zA,Prod.mk.injEq,List.length_drop] at ht
  obtain ⟨rfl,rfl⟩ := ht
  refine ⟨.agg (vs.extract off (off + n)),⟨_,rfl,by simp;omega,fun j x hx => ?_⟩,fun w' => ?_⟩
  ·rw [List.getElem?_take] at hx
   split at hx
   ·rename_i hj
    rw [List.getElem?_drop] at hx
    have := hc _ _ hx
    have hlt : off + j < vs.size := by rw [hl];exact (zB.1 hx).1
    have e : (vs.extract off (off + n)).getD j undef = vs.getD (off + j) undef := by
     rw [Array.getD_eq_getD_getElem?,Array.getD_eq_getD_getElem?,Array.getElem?_extract,if_pos (by omega)]
    rw [e];exact this
   ·cases hx
  ·simp only [part,Sem.run_bind,run_isAgg' hu,hrow,Result.andThen_ok,if_true,run_sizeOf' h2,Sem.run_pure]
 | false =>
  simp only [Bool.false_eq_true,if_false,zA,Prod.mk.injEq,List.length_drop] at ht
  obtain ⟨rfl,rfl⟩ := ht
  have hlt : off < ds.length := by omega
  have hx : ds[off]? = some ((ds.drop off).headD .any) := by
   rw [List.headD_eq_head?_getD,List.head?_drop,zE hlt];rfl
  refine ⟨vs.getD off undef,VR.of_vc (hc _ _ hx),fun w' => ?_⟩
  have hlt' : off < vs.size := by omega
  simp only [part,Sem.run_bind,run_isAgg' hu,hrow,Result.andThen_ok,Bool.false_eq_true,if_false,Array.getElem?_eq_getElem hlt',Sem.run_pure]
  simp [Array.getD,hlt']
theorem does_fld {t : TypeId} {x : Operand} {i : Nat} (ho : o.op = .field t x i) {fs : Array Field} {f : Field} {ag : Bool} {n : Nat} (ht : P.underlying t = some (.struct fs)) (hf : fs[i]? = some f) (ha : agT P f.type = some ag) (hn : szT P f.type = some n)
  {X : Opd} (hx : VR s Z (ev X) (ρ x)) {p : Prop} {d : D} (hq : qv ev H (.fld ag f.offset n X) = some (p,d)) (hp : p) : Does P s Z w ρ o d := by
 simp only [qv] at hq
 generalize ev X = e at *
 cases e <;> simp only [reduceCtorEq] at hq
 obtain ⟨vs,hv,hl,hc⟩ := hx.agg_inv
 obtain ⟨u,hu,hr⟩ := part_sound ha hn hl hc hq hp
 refine ⟨u,hu,fun w' _ => ?_⟩
 unfold execOp;rw [ho]
 simp only [Instr.field,Sem.run_bind,run_underlying ht,Result.andThen_ok,hf,hv,asAgg,Sem.run_pure,hr w']
theorem does_ida {t e : TypeId} {x i : Operand} {len n : Nat} {ag : Bool} (ho : o.op = .index t x i) (ht : P.underlying t = some (.array len e)) (ha : agT P e = some ag) (hn : szT P e = some n)
  {X I : Opd} (hx : VR s Z (ev X) (ρ x)) (hi : VR s Z (ev I) (ρ i)) {p : Prop} {d : D} (hq : qv ev H (.ida ag len n X I) = some (p,d)) (hp : p) : Does P s Z w ρ o d := by
 simp only [qv] at hq
 generalize ev X = ex at *
 generalize ev I = ei at *
 cases ei <;> simp only [reduceCtorEq] at hq
 rename_i k z
 have hi := hi.int_inv
 cases ex <;> simp only [reduceCtorEq] at hq
 split at hq <;> simp only [zA,Prod.mk.injEq,reduceCtorEq] at hq
 rename_i p' d' htk
 obtain ⟨rfl,rfl⟩ := hq
 obtain ⟨hz,hp'⟩ := hp
 obtain ⟨vs,hv,hl,hc⟩ := hx.agg_inv
 obtain ⟨u,hu,hr⟩ := part_sound ha hn hl hc htk hp'
 refine ⟨u,hu,fun w' _ => ?_⟩
 unfold execOp;rw [ho]
 simp only [Instr.index,Sem.run_bind,run_underlying ht,Result.andThen_ok,hi,asIntOf,hv,Sem.run_pure,Sem.run_ite,run_sizeOf' hn,hz,and_self,if_true,hr w']
theorem does_cst {c : Call} (ho : o.op = .call c) (hc : c.callee = .builtin .len) {x : Operand} {t : TypeId} (ha : c.args.toList = [x]) (hat : c.argTypes.toList = [t]) {n : Nat}
  (ht : (∃ e,P.underlying t = some (.array n e)) ∨ ∃ e r,P.underlying t = some (.pointer r) ∧ P.underlying r = some (.array n e)) : Does P s Z w ρ o (.int .i64 n) := by
 refine ⟨_,VR.int_mk _ _,fun w' _ => ?_⟩
 obtain ⟨cal,ars,ats⟩ := c
 obtain ⟨ars⟩ := ars
 obtain ⟨ats⟩ := ats
 simp only at ha hat hc
 subst ha hat hc
 unfold execOp;rw [ho]
 rcases ht with ⟨e,ht⟩ | ⟨e,r,ht,hr⟩
 ·simp [resolve,invoke,builtin,Builtin.len_,run_underlying ht,goInt]
 ·simp [resolve,invoke,builtin,Builtin.len_,run_underlying ht,run_underlying hr,goInt]
theorem does_len {c : Call} (ho : o.op = .call c) (hc : c.callee = .builtin .len) {x : Operand} {t e : TypeId} (ha : c.args.toList = [x]) (hat : c.argTypes.toList = [t]) (ht : P.underlying t = some (.slice e)) (hk : Know s Z H w)
  {X : Opd} (hx : VR s Z (ev X) (ρ x)) {p : Prop} {d : D} (hq : qv ev H (.len X) = some (p,d)) : Does P s Z w ρ o d := by
 obtain ⟨cal,ars,ats⟩ := c
 obtain ⟨ars⟩ := ars
 obtain ⟨ats⟩ := ats
 simp only at ha hat hc
 subst ha hat hc
 have key : ∀ a n cap,ρ x = .slice a n cap → d = .int .i64 n → Does P s Z w ρ o d := fun a n cap h1 h2 => ⟨_,h2 ▸ VR.int_mk _ _,fun w' _ => by
  unfold execOp;rw [ho]
  simp [resolve,invoke,builtin,Builtin.len_,run_underlying ht,goInt,h1]⟩
 simp only [qv] at hq
 generalize ev X = ex at *
 cases ex <;> simp only [reduceCtorEq] at hq
 ·simp only [zA,Prod.mk.injEq] at hq
  generalize hv : ρ x = v at hx
  cases hx with | nil0 a => exact key a 0 0 hv hq.2.symm
 ·simp only [zA,Prod.mk.injEq] at hq
  obtain ⟨a,cap,h1,_⟩ := hx.rows_inv
  exact key a _ cap h1 hq.2.symm
 ·split at hq
  ·rename_i sz xs hh
   simp only [zA,Prod.mk.injEq] at hq
   obtain ⟨a,cap,h1,_⟩ := RowOk.slice (hk.ob _ _ hh)
   exact key a _ cap (by rw [hx.1,h1]) hq.2.symm
  ·rename_i sz xs hh
   simp only [zA,Prod.mk.injEq] at hq
   obtain ⟨a,cap,h1,_⟩ := RowOk.slice (hk.ob _ _ hh)
   exact key a _ cap (by rw [hx.1,h1]) hq.2.symm
  ·cases hq
 ·simp only [zA,Prod.mk.injEq] at hq
  obtain ⟨b,n',c',o',_,h1,_⟩ := hx
  exact key _ _ _ h1 hq.2.symm
theorem does_mnx {c : Call} (mx : Bool) (ho : o.op = .call c) (hc : c.callee = .builtin (if mx then .max else .min)) {x y : Operand} (ha : c.args.toList = [x,y]) {X Y : Opd} (hx : VR s Z (ev X) (ρ x)) (hy : VR s Z (ev Y) (ρ y)) {p : Prop} {d : D}
  (hq : qv ev H (if mx then .mx X Y else .mn X Y) = some (p,d)) : Does P s Z w ρ o d := by
 obtain ⟨cal,ars,ats⟩ := c
 obtain ⟨ars⟩ := ars
 simp only at ha hc
 subst ha hc
 cases mx
 ·simp only [qv,Bool.false_eq_true,if_false] at hq
  generalize ev X = ex at *
  generalize ev Y = ey at *
  cases ex <;> try (simp only [reduceCtorEq] at hq;done)
  cases ey <;> simp only [zA,Prod.mk.injEq,reduceCtorEq] at hq
  obtain ⟨_,rfl⟩ := hq
  refine ⟨_,VR.int_mk _ _,fun w' _ => ?_⟩
  unfold execOp;rw [ho]
  simp [resolve,invoke,builtin,Builtin.min_,Builtin.min2,hx.int_inv,hy.int_inv]
 ·simp only [qv,if_true] at hq
  generalize ev X = ex at *
  generalize ev Y = ey at *
  cases ex <;> try (simp only [reduceCtorEq] at hq;done)
  cases ey <;> simp only [zA,Prod.mk.injEq,reduceCtorEq] at hq
  obtain ⟨_,rfl⟩ := hq
  refine ⟨_,VR.int_mk _ _,fun w' _ => ?_⟩
  unfold execOp;rw [ho]
  simp [resolve,invoke,builtin,Builtin.max_,Builtin.max2,hx.int_inv,hy.int_inv]
end
section
variable {P : Program} {s : Nat → Value} {Z : Cells} {H : List (Nat × Ob)} {w : World} {ρ : Operand → Value} {ev : Opd → D} {o : Oper}
def Scal : Kd → Value → Value → Bool → Prop
 | .i,v,u,e => ∃ k a b,v = .int k a ∧ u = .int k b ∧ e = decide (a = b)
 | .b,v,u,e => ∃ a b,v = .bool a ∧ u = .bool b ∧ e = decide (a = b)
 | .s,v,u,e => ∃ a b,v = .string a ∧ u = .string b ∧ e = decide (a.data = b.data)
def Scals : List Kd → List Value → List Value → Bool → Prop
 | [],[],[],e => e = true
 | k :: ks,v :: vs,u :: us,e => ∃ a b,Scal k v u a ∧ Scals ks vs us b ∧ e = (a && b)
 | _,_,_,_ => False
theorem Scals.split : ∀ (ks ls : List Kd) (vs us : List Value) (e : Bool),Scals (ks ++ ls) vs us e → ∃ a b,Scals ks (vs.take ks.length) (us.take ks.length) a ∧ Scals ls (vs.drop ks.length) (us.drop ks.length) b ∧ e = (a && b)
 | [],ls,vs,us,e,h => ⟨true,e,rfl,h,by simp⟩
 | k :: ks,ls,v :: vs,u :: us,e,h => by
  obtain ⟨a,b,h1,h2,rfl⟩ := h
  obtain ⟨a',b',h3,h4,rfl⟩ := Scals.split ks ls vs us b h2
  exact ⟨a && a',b',⟨a,a',h1,h3,rfl⟩,h4,by rw [Bool.and_assoc]⟩
 | _ :: _,_,[],_,_,h => h.elim
 | _ :: _,_,_ :: _,[],_,h => h.elim
theorem Scals.len : ∀ (ks : List Kd) (vs us : List Value) (e : Bool),Scals ks vs us e → vs.length = ks.length ∧ us.length = ks.length
 | [],[],[],_,_ => ⟨rfl,rfl⟩
 | _ :: ks,_ :: vs,_ :: us,_,⟨_,b,_,h,_⟩ => by have := Scals.len ks vs us b h;simp [this]
 | [],_ :: _,_,_,h => h.elim
 | [],[],_ :: _,_,h => h.elim
 | _ :: _,[],_,_,h => h.elim
 | _ :: _,_ :: _,[],_,h => h.elim
theorem deqs_scals : ∀ (ks : List Kd) (ds es : List D) (vs us : List Value) (p : Prop) (b : Bool),deqs ks ds es = some (p,b) → p → vs.length = ds.length → us.length = es.length →
  (∀ j x,ds[j]? = some x → VC s Z x (vs.getD j undef)) → (∀ j x,es[j]? = some x → VC s Z x (us.getD j undef)) → Scals ks vs us b
 | [],[],[],[],[],p,b,h,_,_,_,_,_ => by simp only [deqs,zA,Prod.mk.injEq] at h;exact h.2.symm
 | k :: ks,d :: ds,e :: es,v :: vs,u :: us,p,b,h,hp,hl,hm,h1,h2 => by
  simp only [deqs] at h
  split at h <;> simp only [zA,Prod.mk.injEq,reduceCtorEq] at h
  rename_i p1 b1 p2 b2 hd hr
  obtain ⟨rfl,rfl⟩ := h
  refine ⟨b1,b2,?_,deqs_scals ks ds es vs us p2 b2 hr hp.2 (by simpa using hl) (by simpa using hm) (fun j x hx => by simpa using h1 (j + 1) x (by simpa using hx)) (fun j x hx => by simpa using h2 (j + 1) x (by simpa using hx)),rfl⟩
  have g1 := h1 0 d rfl
  have g2 := h2 0 e rfl
  simp only [List.getD_cons_zero] at g1 g2
  cases k <;> cases d <;> simp only [deq,reduceCtorEq] at hd <;> cases e <;> simp only [zA,Prod.mk.injEq,reduceCtorEq] at hd
  ·obtain ⟨rfl,rfl⟩ := hd
   cases g1;cases g2
   have := hp.1
   subst this
   exact ⟨_,_,_,rfl,rfl,rfl⟩
  ·obtain ⟨_,rfl⟩ := hd
   cases g1;cases g2
   exact ⟨_,_,rfl,rfl,rfl⟩
  ·obtain ⟨_,rfl⟩ := hd
   cases g1;cases g2
   exact ⟨_,_,rfl,rfl,rfl⟩
 | [],_ :: _,_,_,_,_,_,h,_,_,_,_,_ => by simp [deqs] at h
 | [],[],_ :: _,_,_,_,_,h,_,_,_,_,_ => by simp [deqs] at h
 | _ :: _,[],_,_,_,_,_,h,_,_,_,_,_ => by simp [deqs] at h
 | _ :: _,_ :: _,[],_,_,_,_,h,_,_,_,_,_ => by simp [deqs] at h
 | [],[],[],_ :: _,_,_,_,_,_,hl,_,_,_ => by simp at hl
 | [],[],[],[],_ :: _,_,_,_,_,_,hm,_,_ => by simp at hm
 | _ :: _,_ :: _,_ :: _,[],_,_,_,_,_,hl,_,_,_ => by simp at hl
 | _ :: _,_ :: _,_ :: _,_ :: _,[],_,_,_,_,_,hm,_,_ => by simp at hm
def packV (ag : Bool) (vs : List Value) : Value := if ag then .agg vs.toArray else vs.headD undef
theorem toList_beq (a b : ByteArray) : (a.toList == b.toList) = decide (a.data = b.data) := by
 rw [ByteArray.toList_eq,ByteArray.toList_eq]
 obtain ⟨⟨x⟩⟩ := a
 obtain ⟨⟨y⟩⟩ := b
 by_cases h : x = y
 ·simp [h]
 ·simp [h]
theorem part_pack {t : TypeId} {ag : Bool} {n off : Nat} (h1 : agT P t = some ag) (h2 : szT P t = some n) (vs : List Value) (h : off + n ≤ vs.length) (h0 : ag = false → n = 1) :
  (part t vs.toArray off).run P w = .ok (packV ag ((vs.drop off).take n)) w := by
 obtain ⟨td,hu,hrow⟩ := agT_some h1
 cases ag with
 | true =>
  simp only [part,Sem.run_bind,run_isAgg' hu,hrow,Result.andThen_ok,if_true,run_sizeOf' h2,Sem.run_pure,packV]
  simp
 | false =>
  obtain rfl := h0 rfl
  have hlt : off < vs.length := by omega
  simp only [part,Sem.run_bind,run_isAgg' hu,hrow,Result.andThen_ok,Bool.false_eq_true,if_false,packV]
  rw [List.getElem?_toArray,zE hlt,List.drop_eq_getElem_cons hlt]
  rfl
theorem kinds_eq (P : Program) : ∀ (d : Nat) (t : TypeId) (ks : List Kd),kindsT P d t = some ks → ∃ ag,agT P t = some ag ∧ (ag = false → ks.length = 1) ∧ ∀ (m : Nat) (vs us : List Value) (e : Bool) (w : World),Scals ks vs us e →
  (Op.equalIn (m + d) t (packV ag vs) (packV ag us)).run P w = .ok e w
 | 0,_,_,h => by simp [kindsT] at h
 | d + 1,t,ks,h => by
  have one : ∀ (k : Kd) (vs us : List Value) (e : Bool),Scals [k] vs us e → ∃ v u,vs = [v] ∧ us = [u] ∧ Scal k v u e := fun k vs us e hs => by
   have hl := hs.len
   match vs,us,hl with
   | [v],[u],_ =>
    obtain ⟨a,b,h1,h2,rfl⟩ := hs
    have h2' : b = true := h2
    subst h2'
    exact ⟨v,u,rfl,rfl,by simpa using h1⟩
  have nag : ∀ td,P.underlying t = some td → td.isRow = false → agT P t = some false := fun td htd hr => by
   unfold agT;rw [htd];cases td <;> first | rfl | (cases hr;done)
  simp only [kindsT] at h
  split at h
  ·rename_i k ht
   cases h
   refine ⟨false,nag _ ht rfl,fun _ => rfl,fun m vs us e w hs => ?_⟩
   obtain ⟨v,u,rfl,rfl,k,a,b,rfl,rfl,rfl⟩ := one _ _ _ _ hs
   exact run_equalIn_int w (m + d) t k _ a b ht
  ·rename_i ht
   cases h
   refine ⟨false,nag _ ht rfl,fun _ => rfl,fun m vs us e w hs => ?_⟩
   obtain ⟨v,u,rfl,rfl,a,b,rfl,rfl,rfl⟩ := one _ _ _ _ hs
   exact run_equalIn_bool w (m + d) t a b ht
  ·rename_i ht
   cases h
   refine ⟨false,nag _ ht rfl,fun _ => rfl,fun m vs us e w hs => ?_⟩
   obtain ⟨v,u,rfl,rfl,a,b,rfl,rfl,rfl⟩ := one _ _ _ _ hs
   have := run_equalIn_string w (m + d) t a b ht
   rw [toList_beq] at this
   exact this
  ·rename_i fs ht
   split at h
   ·cases h
   rename_i hst
   have hag : agT P t = some true := by unfold agT;rw [ht];rfl
   refine ⟨true,hag,(fun h => by cases h),fun m vs us e w hs => ?_⟩
   have hf : P.fieldsOf t = fs := by unfold Program.fieldsOf;rw [ht]
   have hr := run_equalIn_struct (P := P) w (m + d) t vs.toArray us.toArray (by rw [hf];exact ht) (by simpa using hst)
   simp only [packV,if_true]
   rw [show m + (d + 1) = (m + d) + 1 from rfl,hr,hf]
   have key : ∀ (fl : List Field) (off : Nat) (ks : List Kd) (e : Bool),kindsF P (kindsT P d) off fl = some ks → off + ks.length = vs.length → off + ks.length = us.length → Scals ks (vs.drop off) (us.drop off) e →
     (Op.eqFields (m + d) vs.toArray us.toArray fl).run P w = .ok e w := by
    intro fl
    induction fl with
    | nil =>
     intro off ks e hk _ _ hs
     simp only [kindsF,zA] at hk
     subst hk
     have hl := hs.len
     have h1 : vs.drop off = [] := List.eq_nil_of_length_eq_zero (by simpa using hl.1)
     have h2 : us.drop off = [] := List.eq_nil_of_length_eq_zero (by simpa using hl.2)
     rw [h1,h2] at hs
     have : e = true := hs
     subst this
     simp [Op.eqFields]
    | cons f fl ih =>
     intro off ks e hk hlv hlu hs
     simp only [kindsF] at hk
     split at hk
     case isFalse => cases hk
     rename_i hnm
     obtain ⟨hnm,hoff⟩ := hnm
     split at hk
     case h_2 => cases hk
     rename_i k1 ag n hK ha hn
     split at hk
     case isFalse => cases hk
     rename_i hkl
     obtain ⟨ag',ha',h1,hrun⟩ := kinds_eq P d f.type k1 hK
     obtain rfl : ag' = ag := Option.some.inj (ha'.symm.trans ha)
     cases hkf : kindsF P (kindsT P d) (off + n) fl with
     | none => rw [hkf] at hk;cases hk
     | some k2 =>
      rw [hkf] at hk
      simp only [Option.map_some,zA] at hk
      subst hk
      obtain ⟨a,b,g1,g2,rfl⟩ := Scals.split k1 k2 _ _ _ hs
      rw [hkl] at g1 g2
      simp only [List.length_append,hkl] at hlv hlu
      have q1 := part_pack (P := P) (w := w) (off := off) ha hn vs (by omega) (fun h => by rw [← hkl];exact h1 h)
      have q2 := part_pack (P := P) (w := w) (off := off) ha hn us (by omega) (fun h => by rw [← hkl];exact h1 h)
      have q3 := hrun m _ _ a w g1
      rw [List.drop_drop,List.drop_drop] at g2
      have q4 := ih (off + n) k2 b hkf (by omega) (by omega) g2
      simp only [Op.eqFields,hnm,ne_eq,not_false_eq_true,if_true,hoff,Sem.run_bind,q1,q2,q3,Result.andThen_ok,Sem.run_ite]
      cases a
      ·simp
      ·simp [q4]
   have hl := hs.len
   exact key fs.toList 0 ks e h (by omega) (by omega) (by simpa using hs)
  ·cases h
theorem does_eqa {t t' : TypeId} {x y : Operand} (ne : Bool) (ho : o.op = .binOp (if ne then .neq else .eql) t x y t') {ks : List Kd} (hks : kindsT P 9 t = some ks) (hst : ∃ fs,P.underlying t = some (.struct fs)) (hg : P.eqGuardType P.depth t = false)
  {X Y : Opd} (hx : VR s Z (ev X) (ρ x)) (hy : VR s Z (ev Y) (ρ y)) {p : Prop} {d : D}
  (hq : qv ev H (.eqa ne ks X Y) = some (p,d)) (hp : p) : Does P s Z w ρ o d := by
 simp only [qv] at hq
 generalize ev X = e at *
 generalize ev Y = f at *
 cases e <;> try (simp only [reduceCtorEq] at hq;done)
 cases f <;> try (simp only [reduceCtorEq] at hq;done)
 rename_i ds es
 simp only at hq
 split at hq <;> simp only [zA,Prod.mk.injEq,reduceCtorEq] at hq
 rename_i q b hd
 obtain ⟨rfl,rfl⟩ := hq
 obtain ⟨vs,hv,hl,hc⟩ := hx.agg_inv
 obtain ⟨us,hu,hm,hc'⟩ := hy.agg_inv
 obtain ⟨vs⟩ := vs
 obtain ⟨us⟩ := us
 have hsc := deqs_scals (s := s) (Z := Z) ks ds es vs us _ _ hd hp (by simpa using hl) (by simpa using hm) (fun j x hx => by simpa using hc j x hx) (fun j x hx => by simpa using hc' j x hx)
 obtain ⟨ag,hag,_,hrun⟩ := kinds_eq P 9 t ks hks
 obtain ⟨fs,hfs⟩ := hst
 have : ag = true := by
  unfold agT at hag;rw [hfs] at hag;simpa using hag.symm
 subst this
 refine ⟨_,VR.bool_mk _,fun w' _ => ?_⟩
 have hr := hrun 9991 vs us b w' hsc
 simp only [packV,if_true] at hr
 unfold execOp;rw [ho]
 have hgd := fun op => run_eqGuard_agg (P := P) w' op t x y vs.toArray us.toArray hg
 cases ne
 ·simp [hv,hu,hgd,run_eql_struct,hr]
 ·simp [hv,hu,hgd,run_neq_struct,hr]
theorem ptrIds_get : ∀ (ds : List D) (ids : List Nat),ptrIds ds = some ids → ids.length = ds.length ∧ ∀ j id : Nat,ids[j]? = some id → ds[j]? = some (D.ptr id 0)
 | [],ids,h => by
  simp only [ptrIds,zA] at h
  subst h
  exact ⟨rfl,fun j id hj => by simp at hj⟩
 | d :: ds,ids,h => by
  unfold ptrIds at h
  split at h
  ·rename_i heq
   cases heq
  ·rename_i id ds' heq
   simp only [List.cons.injEq] at heq
   obtain ⟨rfl,rfl⟩ := heq
   split at h
   ·rename_i l hl
    simp only [zA] at h
    subst h
    obtain ⟨h1,h2⟩ := ptrIds_get _ _ hl
    refine ⟨by simp [h1],fun j id' hj => ?_⟩
    cases j with
    | zero => simp at hj;subst hj;rfl
    | succ j => simpa using h2 j id' (by simpa using hj)
   ·cases h
  ·cases h
theorem does_mkfn {f : FuncId} {l cs : Array Operand} (ho : o.op = .makeFunc (.func f) l cs) (hl : l.size = 0) {ys : List Opd} (hys : ys.length = cs.size) (hev : ∀ (j : Nat) (y : Opd),ys[j]? = some y → ∃ x,cs[j]? = some x ∧ VR s Z (ev y) (ρ x)) {p : Prop} {d : D}
  (hq : qv ev H (.mkfn f ys) = some (p,d)) : Does P s Z w ρ o d := by
 have hl' : l = #[] := by apply Array.eq_empty_of_size_eq_zero hl
 subst hl'
 simp only [qv] at hq
 split at hq
 case isFalse =>
  split at hq <;> simp only [zA,Prod.mk.injEq,reduceCtorEq] at hq
  rename_i ids hids
  obtain ⟨_,rfl⟩ := hq
  have hp := ptrIds_get _ _ hids
  refine ⟨.func (.func f) #[] (cs.map ρ),⟨cs.map ρ,rfl,by rw [hp.1];simp [hys],fun j id hj => ?_⟩,fun w' _ => ?_⟩
  ·have h1 := hp.2 j id hj
   rw [List.getElem?_map] at h1
   cases hy : ys[j]? with
   | none => rw [hy] at h1;cases h1
   | some y =>
    rw [hy] at h1
    simp only [Option.map_some,zA] at h1
    obtain ⟨x,hx,hv⟩ := hev j y hy
    rw [h1] at hv
    obtain ⟨b,h2,h3⟩ := hv
    have : (cs.map ρ).getD j undef = ρ x := by rw [Array.getD_eq_getD_getElem?,Array.getElem?_map,hx];rfl
    rw [this]
    exact ⟨b,h2,h3⟩
  ·unfold execOp;rw [ho]
   simp [Instr.makeFunc]
 simp only [zA,Prod.mk.injEq] at hq
 rename_i hall
 obtain ⟨_,rfl⟩ := hq
 refine ⟨.func (.func f) #[] (cs.map ρ),VT.fn f _ _ (by simp [hys]) (fun j d hd => ?_),fun w' _ => ?_⟩
 ·rw [List.getElem?_map] at hd
  cases hy : ys[j]? with
  | none => rw [hy] at hd;cases hd
  | some y =>
   rw [hy] at hd
   simp only [Option.map_some,zA] at hd
   subst hd
   obtain ⟨x,hx,hv⟩ := hev j y hy
   have ht : isT (ev y) = true := List.all_eq_true.1 hall _ (List.mem_map.2 ⟨y,zD hy,rfl⟩)
   have : (cs.map ρ).getD j undef = ρ x := by rw [Array.getD_eq_getD_getElem?,Array.getElem?_map,hx];rfl
   rw [this]
   exact VR.vt hv ht (fun h => by rw [h] at ht;cases ht)
 ·unfold execOp;rw [ho]
  simp [Instr.makeFunc]
end
section
variable {P : Program} {s : Nat → Value} {Z : Cells} {H : List (Nat × Ob)} {w : World} {ρ : Operand → Value} {ev : Opd → D} {o : Oper}
theorem sliceT_some {t e : TypeId} (h : sliceT P t = some e) : P.underlying t = some (.slice e) := by
 unfold sliceT at h
 split at h
 ·rename_i e' he;cases h;exact he
 ·cases h
theorem bound_run {x : Option Operand} {X : Option Opd} (hev : ∀ x y,opdC x = some y → VR s Z (ev y) (ρ x)) (hX : optC x = some X) {dflt : Nat} {p : Prop} {n : Nat} (hb : boundD X ev dflt = some (p,n)) (hp : p) :
  (x = none ∧ X = none ∧ n = dflt) ∨ ∃ y k z,x = some y ∧ X.isSome = true ∧ ρ y = .int k z ∧ 0 ≤ z ∧ n = z.toNat := by
 cases x with
 | none =>
  simp only [optC,zA] at hX
  subst hX
  simp only [boundD,zA,Prod.mk.injEq] at hb
  exact .inl ⟨rfl,rfl,hb.2.symm⟩
 | some y =>
  simp only [optC] at hX
  cases hy : opdC y with
  | none => rw [hy] at hX;cases hX
  | some Y =>
   rw [hy] at hX
   simp only [Option.map_some,zA] at hX
   subst hX
   have hv := hev y Y hy
   simp only [boundD] at hb
   generalize ev Y = e at *
   cases e <;> simp only [zA,Prod.mk.injEq,reduceCtorEq] at hb
   obtain ⟨rfl,rfl⟩ := hb
   exact .inr ⟨y,_,_,rfl,rfl,hv.int_inv,hp,rfl⟩
theorem run_bounds {len cap l h m : Nat} {lo hi mx : Option Operand} (hlo : (lo = none ∧ l = 0) ∨ ∃ y k z,lo = some y ∧ ρ y = .int k z ∧ 0 ≤ z ∧ l = z.toNat) (hhi : (hi = none ∧ h = len) ∨ ∃ y k z,hi = some y ∧ ρ y = .int k z ∧ 0 ≤ z ∧ h = z.toNat)
  (hmx : (mx = none ∧ m = cap) ∨ ∃ y k z,mx = some y ∧ ρ y = .int k z ∧ 0 ≤ z ∧ m = z.toNat) (hmh : mx.isSome = true → hi.isSome = true) (h1 : l ≤ h) (h2 : h ≤ m) (h3 : m ≤ cap) (w : World) :
  (Instr.sliceBounds true len cap (lo.map ρ) (hi.map ρ) (mx.map ρ)).run P w = .ok (l,h,m) w := by
 rcases hmx with ⟨rfl,rfl⟩ | ⟨y3,k3,z3,rfl,e3,q3,rfl⟩
 ·rcases hhi with ⟨rfl,rfl⟩ | ⟨y2,k2,z2,rfl,e2,q2,rfl⟩
  ·rcases hlo with ⟨rfl,rfl⟩ | ⟨y1,k1,z1,rfl,e1,q1,rfl⟩
   ·simp [Instr.sliceBounds]
   ·have r1 := fun c => run_sliceBound (P := P) w k1 z1 h c q1 (by omega)
    simp [Instr.sliceBounds,e1,r1]
  ·have r2 := fun c => run_sliceBound (P := P) w k2 z2 m c q2 (by omega)
   rcases hlo with ⟨rfl,rfl⟩ | ⟨y1,k1,z1,rfl,e1,q1,rfl⟩
   ·simp [Instr.sliceBounds,e2,r2]
   ·have r1 := fun c => run_sliceBound (P := P) w k1 z1 z2.toNat c q1 (by omega)
    simp [Instr.sliceBounds,e1,r1,e2,r2]
 ·rcases hhi with ⟨rfl,rfl⟩ | ⟨y2,k2,z2,rfl,e2,q2,rfl⟩
  ·simp at hmh
  ·have r3 := fun c => run_sliceBound (P := P) w k3 z3 cap c q3 (by omega)
   have r2 := fun c => run_sliceBound (P := P) w k2 z2 z3.toNat c q2 (by omega)
   rcases hlo with ⟨rfl,rfl⟩ | ⟨y1,k1,z1,rfl,e1,q1,rfl⟩
   ·simp [Instr.sliceBounds,e2,r2,e3,r3]
   ·have r1 := fun c => run_sliceBound (P := P) w k1 z1 z2.toNat c q1 (by omega)
    simp [Instr.sliceBounds,e1,r1,e2,r2,e3,r3]
theorem does_slc {t e : TypeId} {x : Operand} {lo hi mx : Option Operand} {n : Nat} (ho : o.op = .slice t x lo hi mx) (ht : sliceT P t = some e) (hn : szT P e = some n) (hev : ∀ x y,opdC x = some y → VR s Z (ev y) (ρ x)) (hk : Know s Z H w)
  {X : Opd} {LO HI MX : Option Opd} (hx : VR s Z (ev X) (ρ x)) (hlo : optC lo = some LO) (hhi : optC hi = some HI) (hmx : optC mx = some MX) (hmh : mx.isSome = true → hi.isSome = true) {p : Prop} {d : D}
  (hq : qv ev H (.slc n X LO HI MX) = some (p,d)) (hp : p) : Does P s Z w ρ o d := by
 have hu := sliceT_some ht
 have start : ∀ (a : Option Addr) (len cap l h m : Nat) (w' : World),ρ x = .slice a len cap → (Instr.sliceBounds true len cap (lo.map ρ) (hi.map ρ) (mx.map ρ)).run P w' = .ok (l,h,m) w' →
   (execOp ρ o).run P w' = .ok (.value (.slice (if m = l then a else a.map (·.add (l * n))) (h - l) (m - l))) w' := fun a len cap l h m w' h1 h2 => by
  unfold execOp;rw [ho]
  simp only [Instr.sliceAt,Instr.slice,Sem.run_bind,run_underlying hu,Result.andThen_ok,h1,h2,run_sizeOf' hn,Sem.run_pure]
 simp only [qv] at hq
 generalize hX : ev X = ex at *
 cases ex <;> simp only [reduceCtorEq] at hq
 case own id =>
  split at hq
  case h_2 => cases hq
  rename_i sz' xs hh
  split at hq
  case h_2 => cases hq
  rename_i p1 m p2 l p3 h hb1 hb2 hb3
  simp only [zA,Prod.mk.injEq] at hq
  obtain ⟨rfl,rfl⟩ := hq
  obtain ⟨⟨hp1,hp2,hp3⟩,hlh,hhm,hmc⟩ := hp
  have g1 := bound_run hev hmx hb1 hp1
  have g2 := bound_run hev hlo hb2 hp2
  have g3 := bound_run hev hhi hb3 hp3
  obtain ⟨qa,cap,hs1,hs2,_⟩ := RowOk.slice (hk.ob _ _ hh)
  have hv0 : ρ x = .slice qa xs.length cap := hx.1.trans hs1
  have g2' : (lo = none ∧ l = 0) ∨ ∃ y k z,lo = some y ∧ ρ y = .int k z ∧ 0 ≤ z ∧ l = z.toNat := by
   rcases g2 with ⟨h1,h2,h3⟩ | ⟨y,k,z,h1,_,h2,h3,h4⟩
   ·exact .inl ⟨h1,h3⟩
   ·exact .inr ⟨y,k,z,h1,h2,h3,h4⟩
  have g3' : (hi = none ∧ h = xs.length) ∨ ∃ y k z,hi = some y ∧ ρ y = .int k z ∧ 0 ≤ z ∧ h = z.toNat := by
   rcases g3 with ⟨h1,h2,h3⟩ | ⟨y,k,z,h1,_,h2,h3,h4⟩
   ·exact .inl ⟨h1,h3⟩
   ·exact .inr ⟨y,k,z,h1,h2,h3,h4⟩
  rcases g1 with ⟨h1,h2,h3⟩ | ⟨y,k,z,h1,_,h2,h3,h4⟩
  ·exact ⟨_,trivial,fun w' _ => start _ _ cap l h cap w' hv0 (run_bounds g2' g3' (.inl ⟨h1,rfl⟩) hmh hlh (by omega) (Nat.le_refl _) w')⟩
  ·exact ⟨_,trivial,fun w' _ => start _ _ cap l h m w' hv0 (run_bounds g2' g3' (.inr ⟨y,k,z,h1,h2,h3,h4⟩) hmh hlh hhm (by omega) w')⟩
 case sl id sz' off len cap =>
  split at hq
  case h_2 => cases hq
  rename_i p1 m p2 l p3 h hb1 hb2 hb3
  simp only [zA,Prod.mk.injEq] at hq
  obtain ⟨rfl,rfl⟩ := hq
  obtain ⟨⟨hp1,hp2,hp3⟩,rfl,hlh,hhm,hmc⟩ := hp
  have g1 := bound_run hev hmx hb1 hp1
  have g2 := bound_run hev hlo hb2 hp2
  have g3 := bound_run hev hhi hb3 hp3
  obtain ⟨b,nn,c,oo,hs1,hs2,hs3,hs4,hs5⟩ := hx
  have g1' : (mx = none ∧ m = cap) ∨ ∃ y k z,mx = some y ∧ ρ y = .int k z ∧ 0 ≤ z ∧ m = z.toNat := by
   rcases g1 with ⟨h1,h2,h3⟩ | ⟨y,k,z,h1,_,h2,h3,h4⟩
   ·exact .inl ⟨h1,h3⟩
   ·exact .inr ⟨y,k,z,h1,h2,h3,h4⟩
  have g2' : (lo = none ∧ l = 0) ∨ ∃ y k z,lo = some y ∧ ρ y = .int k z ∧ 0 ≤ z ∧ l = z.toNat := by
   rcases g2 with ⟨h1,h2,h3⟩ | ⟨y,k,z,h1,_,h2,h3,h4⟩
   ·exact .inl ⟨h1,h3⟩
   ·exact .inr ⟨y,k,z,h1,h2,h3,h4⟩
  have g3' : (hi = none ∧ h = len) ∨ ∃ y k z,hi = some y ∧ ρ y = .int k z ∧ 0 ≤ z ∧ h = z.toNat := by
   rcases g3 with ⟨h1,h2,h3⟩ | ⟨y,k,z,h1,_,h2,h3,h4⟩
   ·exact .inl ⟨h1,h3⟩
   ·exact .inr ⟨y,k,z,h1,h2,h3,h4⟩
  refine ⟨_,?_,fun w' _ => start _ len cap l h m w' hs2 (run_bounds g2' g3' g1' hmh hlh hhm hmc w')⟩
  by_cases hml : m = l
  ·rw [if_pos hml]
   exact ⟨b,nn,c,oo,hs1,rfl,fun h0 => by omega,by omega,by omega⟩
  ·rw [if_neg hml]
   have ho := hs3 (by omega)
   exact ⟨b,nn,c,oo + l * n,hs1,by rw [Option.map_some,add_mid'],fun _ => by rw [ho,Nat.add_mul],by omega,by omega⟩
 rename_i sz xs
 split at hq
 case h_2 => cases hq
 rename_i p1 m p2 l p3 h hb1 hb2 hb3
 have hmxs : MX.isSome = mx.isSome := by
  cases mx with
  | none => simp only [optC,zA] at hmx;subst hmx;rfl
  | some y =>
   simp only [optC] at hmx
   cases hy : opdC y with
   | none => rw [hy] at hmx;cases hmx
   | some Y => rw [hy] at hmx;simp only [Option.map_some,zA] at hmx;subst hmx;rfl
 generalize hv : ρ x = v at hx
 split at hq <;> simp only [zA,Prod.mk.injEq] at hq <;> obtain ⟨rfl,rfl⟩ := hq
 ·rename_i hm0
  simp only [Bool.and_eq_true,beq_iff_eq] at hm0
  obtain ⟨hm0,rfl⟩ := hm0
  obtain ⟨⟨hp1,hp2,hp3⟩,rfl,rfl⟩ := hp
  have g1 := bound_run hev hmx hb1 hp1
  have g2 := bound_run hev hlo hb2 hp2
  have g3 := bound_run hev hhi hb3 hp3
  have g1' : (mx = none ∧ 0 = (0 : Nat)) ∨ ∃ y k z,mx = some y ∧ ρ y = .int k z ∧ 0 ≤ z ∧ 0 = z.toNat := by
   rcases g1 with ⟨h1,h2,_⟩ | ⟨y,k,z,h1,_,h2,h3,h4⟩
   ·rw [h2] at hm0;cases hm0
   ·exact .inr ⟨y,k,z,h1,h2,h3,h4⟩
  have g2' : (lo = none ∧ 0 = (0 : Nat)) ∨ ∃ y k z,lo = some y ∧ ρ y = .int k z ∧ 0 ≤ z ∧ 0 = z.toNat := by
   rcases g2 with ⟨h1,h2,h3⟩ | ⟨y,k,z,h1,_,h2,h3,h4⟩
   ·exact .inl ⟨h1,h3⟩
   ·exact .inr ⟨y,k,z,h1,h2,h3,h4⟩
  have hxx := hx
  obtain ⟨a,cap,rfl,hcap,_⟩ := VR.rows_inv hxx
  have g3' : (hi = none ∧ 0 = xs.length) ∨ ∃ y k z,hi = some y ∧ ρ y = .int k z ∧ 0 ≤ z ∧ 0 = z.toNat := by
   rcases g3 with ⟨h1,h2,h3⟩ | ⟨y,k,z,h1,_,h2,h3,h4⟩
   ·exact .inl ⟨h1,h3⟩
   ·exact .inr ⟨y,k,z,h1,h2,h3,h4⟩
  have g1'' : (mx = none ∧ 0 = cap) ∨ ∃ y k z,mx = some y ∧ ρ y = .int k z ∧ 0 ≤ z ∧ 0 = z.toNat := by
   rcases g1' with ⟨h1,_⟩ | h1
   ·rw [hmxs,h1] at hm0;cases hm0
   ·exact .inr h1
  refine ⟨.slice a 0 0,VT.nil0 a,fun w' _ => ?_⟩
  have := start a _ cap 0 0 0 w' hv (run_bounds g2' g3' g1'' hmh (Nat.le_refl _) (Nat.le_refl _) (Nat.zero_le _) w')
  simpa using this
 ·obtain ⟨⟨hp1,hp2,hp3⟩,rfl,hlh,hhm,hml⟩ := hp
  have g1 := bound_run hev hmx hb1 hp1
  have g2 := bound_run hev hlo hb2 hp2
  have g3 := bound_run hev hhi hb3 hp3
  have g2' : (lo = none ∧ l = 0) ∨ ∃ y k z,lo = some y ∧ ρ y = .int k z ∧ 0 ≤ z ∧ l = z.toNat := by
   rcases g2 with ⟨h1,h2,h3⟩ | ⟨y,k,z,h1,_,h2,h3,h4⟩
   ·exact .inl ⟨h1,h3⟩
   ·exact .inr ⟨y,k,z,h1,h2,h3,h4⟩
  have g3' : (hi = none ∧ h = xs.length) ∨ ∃ y k z,hi = some y ∧ ρ y = .int k z ∧ 0 ≤ z ∧ h = z.toNat := by
   rcases g3 with ⟨h1,h2,h3⟩ | ⟨y,k,z,h1,_,h2,h3,h4⟩
   ·exact .inl ⟨h1,h3⟩
   ·exact .inr ⟨y,k,z,h1,h2,h3,h4⟩
  have bounds : ∀ cap,xs.length ≤ cap → ∃ M,h ≤ M ∧ M ≤ cap ∧ ∀ w',(Instr.sliceBounds true xs.length cap (lo.map ρ) (hi.map ρ) (mx.map ρ)).run P w' = .ok (l,h,M) w' := fun cap hcap => by
   rcases g1 with ⟨h1,h2,h3⟩ | ⟨y,k,z,h1,_,h2,h3,h4⟩
   ·exact ⟨cap,by omega,Nat.le_refl _,run_bounds g2' g3' (.inl ⟨h1,rfl⟩) hmh hlh (by omega) (Nat.le_refl _)⟩
   ·exact ⟨m,hhm,by omega,run_bounds g2' g3' (.inr ⟨y,k,z,h1,h2,h3,h4⟩) hmh hlh hhm (by omega)⟩
  have hxx := hx
  obtain ⟨a,cap,rfl,hcap,_⟩ := VR.rows_inv hxx
  obtain ⟨M,hM1,hM2,hrun⟩ := bounds cap hcap
  refine ⟨_,?_,fun w' _ => start a _ cap l h M w' hv (hrun w')⟩
  have hlen : ((xs.take h).drop l).length = h - l := by rw [List.length_drop,List.length_take];omega
  cases hx with
  | rnil _ a cap =>
   simp only [List.length_nil] at hml
   have : l = 0 := by omega
   subst this
   have : h = 0 := by omega
   subst this
   simp only [List.take_nil,List.drop_nil,Nat.sub_self,Nat.sub_zero]
   exact VT.rnil n _ _
  | rows _ _ b off cap c hc h1 h2 =>
   by_cases hMl : M = l
   ·rw [if_pos hMl]
    have hh : h = l := by omega
    have e1 : (xs.take h).drop l = [] := List.eq_nil_of_length_eq_zero (by omega)
    rw [e1,show h - l = ([] : List (List D)).length by simp;omega]
    exact VT.rows n [] b off (M - l) c (by simp) (fun i row j d hi => by simp at hi) (fun i row j d hi => by simp at hi)
   ·rw [if_neg hMl,Option.map_some,add_mid',show h - l = ((xs.take h).drop l).length from hlen.symm]
    have hget : ∀ (i : Nat) (row : List D),((xs.take h).drop l)[i]? = some row → xs[l + i]? = some row := fun i row hi => by
     rw [List.getElem?_drop,List.getElem?_take] at hi
     split at hi
     ·exact hi
     ·cases hi
    refine VT.rows n _ b (off + l * n) (M - l) (fun i j => c (l + i) j) (by omega) (fun i row j d hi hj => ?_) (fun i row j d hi hj => h2 _ row j d (hget i row hi) hj)
    have := h1 _ row j d (hget i row hi) hj
    rwa [show off + (l + i) * n + j = off + l * n + i * n + j by rw [Nat.add_mul];omega] at this
theorem VR.cells {d : D} {v : Value} (h : VR s Z d v) (h0 : 0 < d.cells.length) : v.cells.size = d.cells.length ∧ ∀ j x,d.cells[j]? = some x → VC s Z x (v.cells.getD j undef) := by
 have one : VC s Z d v → d.cells = [d] → v.cells.size = d.cells.length ∧ ∀ j x,d.cells[j]? = some x → VC s Z x (v.cells.getD j undef) := fun hc hd => by
  have h1 := hc.one
  have hcs : v.cells = #[v] := by cases v <;> first | rfl | (cases h1;done)
  rw [hcs,hd]
  refine ⟨rfl,fun j x hx => ?_⟩
  cases j with
  | zero => simp at hx;subst hx;exact hc
  | succ j => simp at hx
 cases d with
 | agg ds =>
  obtain ⟨vs,rfl,hl,hc⟩ := h
  exact ⟨hl,hc⟩
 | any => simp [D.cells] at h0
 | tup _ => simp [D.cells] at h0
 | opt _ _ => simp [D.cells] at h0
 | _ => exact one h rfl
theorem splice_fold (off : Nat) : ∀ (l : List Value) (k : Nat) (cs : Array Value),off + k + l.length ≤ cs.size →
  ((l.zipIdx k).foldl (fun cs (p : Value × Nat) => cs.setIfInBounds (off + p.2) p.1) cs).size = cs.size ∧
  ∀ j,((l.zipIdx k).foldl (fun cs (p : Value × Nat) => cs.setIfInBounds (off + p.2) p.1) cs).getD j undef = if off + k ≤ j ∧ j < off + k + l.length then l.getD (j - off - k) undef else cs.getD j undef
 | [],k,cs,_ => ⟨rfl,fun j => by rw [if_neg (by simp)];rfl⟩
 | v :: l,k,cs,h => by
  simp only [List.length_cons] at h
  have ih := splice_fold off l (k + 1) (cs.setIfInBounds (off + k) v) (by simp;omega)
  simp only [List.zipIdx_cons,List.foldl_cons]
  refine ⟨by rw [ih.1];simp,fun j => ?_⟩
  rw [ih.2 j]
  by_cases h1 : off + (k + 1) ≤ j ∧ j < off + (k + 1) + l.length
  ·rw [if_pos h1,if_pos (by simp only [List.length_cons];omega),show j - off - k = (j - off - (k + 1)) + 1 by omega,List.getD_cons_succ]
  ·rw [if_neg h1]
   by_cases h2 : j = off + k
   ·subst h2
    rw [if_pos (by simp only [List.length_cons];omega),show off + k - off - k = 0 by omega,List.getD_cons_zero]
    have : off + k < cs.size := by omega
    simp [Array.getD,this]
   ·rw [if_neg (by simp only [List.length_cons];omega)]
    rw [Array.getD_eq_getD_getElem?,Array.getD_eq_getD_getElem?,Array.getElem?_setIfInBounds,if_neg (fun h => h2 h.symm)]
theorem fill_sound {place : Nat → Option (Nat × Nat)} : ∀ (ps : List (Nat × Value)) (qs : List (Nat × Nat × D)) (cells : Array Value) (z ds : List D),ps.length = qs.length →
  (∀ (j : Nat) (p : Nat × Value) (q : Nat × Nat × D),ps[j]? = some p → qs[j]? = some q → place p.1 = some (q.1,q.2.1) ∧ VR s Z q.2.2 p.2) →
  cells.size = z.length → (∀ j x,z[j]? = some x → VC s Z x (cells.getD j undef)) → fillD z qs = some ds →
  ∃ cs,Instr.fill place cells ps = some cs ∧ cs.size = ds.length ∧ ∀ j x,ds[j]? = some x → VC s Z x (cs.getD j undef)
 | [],[],cells,z,ds,_,_,hl,hc,hf => by
  simp only [fillD,zA] at hf
  subst hf
  exact ⟨cells,rfl,hl,hc⟩
 | (i,v) :: ps,(off,n,d) :: qs,cells,z,ds,hlen,hpq,hl,hc,hf => by
  simp only [fillD] at hf
  split at hf
  case isFalse => cases hf
  rename_i hcond
  obtain ⟨h1,h2,h3⟩ := hcond
  obtain ⟨hpl,hv⟩ := hpq 0 (i,v) (off,n,d) rfl rfl
  simp only at hpl hv
  obtain ⟨hcs,hcc⟩ := hv.cells (by omega)
  have hsp := splice_fold off v.cells.toList 0 cells (by simp;omega)
  simp only [Array.length_toList,Nat.add_zero] at hsp
  have e : v.cells.zipIdx.foldl (fun cs (p : Value × Nat) => cs.setIfInBounds (off + p.2) p.1) cells = (v.cells.toList.zipIdx 0).foldl (fun cs (p : Value × Nat) => cs.setIfInBounds (off + p.2) p.1) cells := by
   rw [← Array.foldl_toList,Array.toList_zipIdx]
  have ih := fill_sound (place := place) ps qs (v.cells.zipIdx.foldl (fun cs (p : Value × Nat) => cs.setIfInBounds (off + p.2) p.1) cells) (z.take off ++ d.cells ++ z.drop (off + n)) ds (by simpa using hlen)
   (fun j p q hp hq => hpq (j + 1) p q (by simpa using hp) (by simpa using hq)) (by rw [e,hsp.1];simp [h1,List.length_take];omega) (fun j x hx => ?_) hf
  ·obtain ⟨cs,hcs1,hcs2⟩ := ih
   refine ⟨cs,?_,hcs2⟩
   simp only [Instr.fill,hpl]
   rw [if_neg (by simp;omega)]
   exact hcs1
  ·rw [e,hsp.2 j]
   rw [List.append_assoc] at hx
   by_cases hj : off ≤ j ∧ j < off + v.cells.size
   ·rw [if_pos hj,show j - off - 0 = j - off by omega]
    rw [List.getElem?_append_right (by simp;omega),List.length_take,Nat.min_eq_left (by omega),List.getElem?_append_left (by omega)] at hx
    have := hcc _ _ hx
    simpa [Array.getD_eq_getD_getElem?,zC] using this
   ·rw [if_neg hj]
    refine hc j x ?_
    by_cases hj2 : j < off
    ·rw [List.getElem?_append_left (by simp;omega),List.getElem?_take,if_pos hj2] at hx;exact hx
    ·rw [List.getElem?_append_right (by simp;omega),List.length_take,Nat.min_eq_left (by omega),List.getElem?_append_right (by omega),List.getElem?_drop] at hx
     rwa [show off + n + (j - off - d.cells.length) = j by omega] at hx
 | [],_ :: _,_,_,_,h,_,_,_,_ => by simp at h
 | _ :: _,[],_,_,_,h,_,_,_,_ => by simp at h
theorem cellD_sound {v : Value} {d : D} (h : cellD v = some d) : VC s Z d v := by
 unfold cellD at h
 split at h <;> (try simp only [zA,reduceCtorEq] at h) <;> (try subst h)
 ·exact VT.int _ _
 ·exact VT.bool _
 ·exact VT.str _
 ·exact VT.nilp
 ·exact VT.nil0 _
 ·split at h
  ·rename_i f l r hlr
   simp only [zA] at h
   subst h
   obtain ⟨h1,h2⟩ := hlr
   have e1 : l = #[] := Array.eq_empty_of_size_eq_zero h1
   have e2 : r = #[] := Array.eq_empty_of_size_eq_zero h2
   subst e1 e2
   exact VT.fn _ [] #[] rfl (fun j d hd => by simp at hd)
  ·cases h
theorem cellsD_sound : ∀ (vs : List Value) (ds : List D),cellsD vs = some ds → vs.length = ds.length ∧ ∀ j x,ds[j]? = some x → VC s Z x (vs.getD j undef)
 | [],ds,h => by simp only [cellsD,zA] at h;subst h;exact ⟨rfl,fun j x hx => by simp at hx⟩
 | v :: vs,ds,h => by
  simp only [cellsD] at h
  split at h <;> simp only [zA,reduceCtorEq] at h
  rename_i d ds' h1 h2
  subst h
  obtain ⟨g1,g2⟩ := cellsD_sound vs ds' h2
  refine ⟨by simp [g1],fun j x hx => ?_⟩
  cases j with
  | zero => simp at hx;subst hx;exact cellD_sound h1
  | succ j => simpa using g2 j x (by simpa using hx)
theorem zeroT_sound {t : TypeId} {z : List D} (h : zeroT P t = some z) : ∃ i v,P.info? t = some i ∧ i.zero = some v ∧ i.size = z.length ∧ v.cells.size = z.length ∧ ∀ j x,z[j]? = some x → VC s Z x (v.cells.getD j undef) := by
 unfold zeroT at h
 split at h
 case h_2 => cases h
 rename_i i hi
 split at h
 case h_2 => cases h
 rename_i v hv
 split at h
 case isFalse => cases h
 rename_i hs
 obtain ⟨h1,h2⟩ := cellsD_sound (s := s) (Z := Z) _ _ h
 simp only [Array.length_toList] at h1
 exact ⟨i,v,hi,hv,by omega,h1,fun j x hx => by simpa [Array.getD_eq_getD_getElem?,zC] using h2 j x hx⟩
theorem partsC_sound {t : TypeId} (hev : ∀ x y,opdC x = some y → VR s Z (ev y) (ρ x)) : ∀ (ps : List (Nat × Operand)) (qs : List (Nat × Nat × Opd)),partsC P t ps = some qs →
  ps.length = qs.length ∧ ∀ (j : Nat) (p : Nat × Operand) (q : Nat × Nat × Opd),ps[j]? = some p → qs[j]? = some q → placeT P t p.1 = some (q.1,q.2.1) ∧ VR s Z (ev q.2.2) (ρ p.2)
 | [],qs,h => by simp only [partsC,zA] at h;subst h;exact ⟨rfl,fun j p q hp => by simp at hp⟩
 | (i,x) :: ps,qs,h => by
  simp only [partsC] at h
  split at h <;> simp only [zA,reduceCtorEq] at h
  rename_i off n y ys h1 h2 h3
  subst h
  obtain ⟨g1,g2⟩ := partsC_sound hev ps ys h3
  refine ⟨by simp [g1],fun j p q hp hq => ?_⟩
  cases j with
  | zero => simp at hp hq;subst hp hq;exact ⟨h1,hev x y h2⟩
  | succ j => exact g2 j p q (by simpa using hp) (by simpa using hq)
theorem run_places' (fs : List Field) (h : ∀ f ∈ fs,(szT P f.type).isSome = true) (w : World) : (fs.mapM (m := Sem) fun f => do pure (f.offset,← sizeOf f.type)).run P w = .ok (fs.map fun f => (f.offset,(szT P f.type).getD 0)) w := by
 induction fs with
 | nil => rfl
 | cons f fs ih =>
  obtain ⟨n,hn⟩ := Option.isSome_iff_exists.1 (h f (by simp))
  simp only [List.mapM_cons,Sem.run_bind,run_sizeOf' hn,Result.andThen_ok,Sem.run_pure,ih fun g hg => h g (by simp [hg]),List.map_cons,hn,Option.getD_some]
theorem does_build {t : TypeId} {ps : Array (Nat × Operand)} (ho : o.op = .build t ps) (hev : ∀ x y,opdC x = some y → VR s Z (ev y) (ρ x)) {z : List D} {qs : List (Nat × Nat × Opd)} (hz : zeroT P t = some z) (hps : partsC P t ps.toList = some qs)
  (ht : (∃ fs,P.underlying t = some (.struct fs) ∧ ∀ f ∈ fs.toList,(szT P f.type).isSome = true) ∨ ∃ n e m,P.underlying t = some (.array n e) ∧ szT P e = some m) {p : Prop} {d : D}
  (hq : qv ev H (.build z qs) = some (p,d)) : Does P s Z w ρ o d := by
 simp only [qv] at hq
 split at hq <;> simp only [zA,Prod.mk.injEq,reduceCtorEq] at hq
 rename_i ds hds
 obtain ⟨_,rfl⟩ := hq
 obtain ⟨i,v,hi,hv,hsz,hvc,hcc⟩ := zeroT_sound (s := s) (Z := Z) hz
 obtain ⟨hl,hpq⟩ := partsC_sound (P := P) (t := t) hev ps.toList qs hps
 have fill : ∀ place : Nat → Option (Nat × Nat),(∀ i r,placeT P t i = some r → place i = some r) → ∃ cs,Instr.fill place v.cells (ps.toList.map fun q => (q.1,ρ q.2)) = some cs ∧ cs.size = ds.length ∧ ∀ j x,ds[j]? = some x → VC s Z x (cs.getD j undef) := fun place hpl =>
  fill_sound (s := s) (Z := Z) (place := place) (ps.toList.map fun q => (q.1,ρ q.2)) (qs.map fun q => (q.1,q.2.1,ev q.2.2)) v.cells z ds (by simpa using hl)
  (fun j p q hp hq => by
   rw [List.getElem?_map] at hp hq
   cases hp' : ps.toList[j]? with
   | none => rw [hp'] at hp;cases hp
   | some p' =>
    cases hq' : qs[j]? with
    | none => rw [hq'] at hq;cases hq
    | some q' =>
     rw [hp'] at hp;rw [hq'] at hq
     simp only [Option.map_some,zA] at hp hq
     subst hp hq
     obtain ⟨g1,g2⟩ := hpq j p' q' hp' hq'
     exact ⟨hpl _ _ g1,g2⟩) hvc hcc hds
 have hpl : (ps.map fun q => (q.1,ρ q.2)).toList = ps.toList.map fun q => (q.1,ρ q.2) := by simp
 rcases ht with ⟨fs,ht,hfs⟩ | ⟨n,e,m,ht,hm⟩
 ·obtain ⟨cs,hcs,hcl,hcv⟩ := fill (fun i => (fs.toList.map fun f => (f.offset,(szT P f.type).getD 0)).toArray[i]?) fun i r hr => by
   unfold placeT at hr
   rw [ht] at hr
   simp only at hr
   split at hr
   case isFalse => cases hr
   split at hr
   case h_2 => cases hr
   rename_i f hf
   cases hs : szT P f.type with
   | none => rw [hs] at hr;cases hr
   | some n =>
    rw [hs] at hr
    simp only [Option.map_some,zA] at hr
    have : fs.toList[i]? = some f := by simpa using hf
    rw [List.getElem?_toArray,List.getElem?_map,this,Option.map_some,hs,← hr];rfl
  refine ⟨.agg cs,⟨cs,rfl,hcl,hcv⟩,fun w' _ => ?_⟩
  unfold execOp;rw [ho]
  have hzr : (zeroValue t).run P w' = .ok v w' := by simp [zeroValue,typeInfo,hi,hv]
  have hp : (fs.mapM (m := Sem) fun f => do pure (f.offset,← sizeOf f.type)).run P w' = .ok (fs.toList.map fun f => (f.offset,(szT P f.type).getD 0)).toArray w' := by
   rw [Array.mapM_eq_mapM_toList,Sem.run_map,run_places' fs.toList hfs,Result.andThen_ok]
  simp only [Instr.build,Sem.run_bind,hzr,run_underlying ht,Result.andThen_ok,hp,hpl,hcs,Sem.run_pure]
 ·obtain ⟨cs,hcs,hcl,hcv⟩ := fill (fun i => some (i * m,m)) fun i r hr => by
   unfold placeT at hr
   rw [ht] at hr
   simp only [hm,Option.map_some] at hr
   exact hr
  refine ⟨.agg cs,⟨cs,rfl,hcl,hcv⟩,fun w' _ => ?_⟩
  unfold execOp;rw [ho]
  have hzr : (zeroValue t).run P w' = .ok v w' := by simp [zeroValue,typeInfo,hi,hv]
  simp only [Instr.build,Sem.run_bind,hzr,run_underlying ht,run_sizeOf' hm,Result.andThen_ok,hpl,hcs,Sem.run_pure]
theorem opdsC_sound (hev : ∀ x y,opdC x = some y → VR s Z (ev y) (ρ x)) : ∀ (xs : List Operand) (ys : List Opd),opdsC xs = some ys → ys.length = xs.length ∧ ∀ (j : Nat) (y : Opd),ys[j]? = some y → ∃ x,xs[j]? = some x ∧ VR s Z (ev y) (ρ x)
 | [],ys,h => by simp only [opdsC,zA] at h;subst h;exact ⟨rfl,fun j y hy => by simp at hy⟩
 | x :: xs,ys,h => by
  simp only [opdsC] at h
  split at h <;> simp only [zA,reduceCtorEq] at h
  rename_i y ys' h1 h2
  subst h
  obtain ⟨g1,g2⟩ := opdsC_sound hev xs ys' h2
  refine ⟨by simp [g1],fun j z hz => ?_⟩
  cases j with
  | zero => simp at hz;subst hz;exact ⟨x,rfl,hev x y h1⟩
  | succ j => obtain ⟨a,b,c⟩ := g2 j z (by simpa using hz);exact ⟨a,by simpa using b,c⟩
end
section
variable {P : Program} {s : Nat → Value} {Z : Cells} {H : List (Nat × Ob)} {w : World} {ρ : Operand → Value} {ev : Opd → D} {o : Oper}
theorem eqC_sound {t t' : TypeId} {x y : Operand} (ne : Bool) (ho : o.op = .binOp (if ne then .neq else .eql) t x y t') {X Y : Opd} (hx : VR s Z (ev X) (ρ x)) (hy : VR s Z (ev Y) (ρ y)) {ao : AOp} (hc : eqC P t ne X Y = some ao)
  {p : Prop} {d : D} (hq : qv ev H ao = some (p,d)) (hp : p) : Does P s Z w ρ o d := by
 unfold eqC at hc
 split at hc
 ·simp only [zA] at hc;subst hc
  exact does_bin ho hx hy hq hp
 ·simp only [zA] at hc;subst hc
  exact does_bin ho hx hy hq hp
 ·rename_i ht
  simp only [zA] at hc;subst hc
  exact does_eqb ne ho ht hx hy hq
 ·rename_i e ht
  split at hc <;> simp only [zA,reduceCtorEq] at hc
  subst hc
  exact does_eqp ne ho ht hx hy hq hp
 ·split at hc <;> simp only [zA,reduceCtorEq] at hc
  subst hc
  cases hq
 ·rename_i fs ht
  split at hc
  ·cases hc
  rename_i hg
  cases hk : kindsT P 9 t with
  | none => rw [hk] at hc;cases hc
  | some ks =>
   rw [hk] at hc
   simp only [Option.map_some,zA] at hc
   subst hc
   exact does_eqa ne ho hk ⟨fs,ht⟩ (by simpa using hg) hx hy hq hp
 ·cases hc
theorem optC_isSome {x : Option Operand} {X : Option Opd} (h : optC x = some X) : X.isSome = x.isSome := by
 cases x with
 | none => simp only [optC,zA] at h;subst h;rfl
 | some y =>
  simp only [optC] at h
  cases hy : opdC y with
  | none => rw [hy] at h;cases h
  | some Y => rw [hy] at h;simp only [Option.map_some,zA] at h;subst h;rfl
theorem list_two {α : Type} {l : List α} (h : l.length = 2) : ∃ x y,l = [x,y] := by
 match l,h with
 | [x,y],_ => exact ⟨x,y,rfl⟩
theorem qv_sound (hk : Know s Z H w) (hev : ∀ x y,opdC x = some y → VR s Z (ev y) (ρ x)) {ao : AOp} (hc : cop P o.op = some ao) {p : Prop} {d : D} (hq : qv ev H ao = some (p,d)) (hp : p) : Does P s Z w ρ o d := by
 cases ho : o.op with
 | move x =>
  rw [ho] at hc
  simp only [cop] at hc
  cases hx : opdC x with
  | none => rw [hx] at hc;cases hc
  | some y =>
   rw [hx] at hc;simp only [Option.map_some,zA] at hc;subst hc
   simp only [qv,zA,Prod.mk.injEq] at hq
   obtain ⟨_,rfl⟩ := hq
   exact does_mov (.inl ho) (hev x y hx)
 | assign x =>
  rw [ho] at hc
  simp only [cop] at hc
  cases hx : opdC x with
  | none => rw [hx] at hc;cases hc
  | some y =>
   rw [hx] at hc;simp only [Option.map_some,zA] at hc;subst hc
   simp only [qv,zA,Prod.mk.injEq] at hq
   obtain ⟨_,rfl⟩ := hq
   exact does_mov (.inr ho) (hev x y hx)
 | pick c a b =>
  rw [ho] at hc
  simp only [cop] at hc
  split at hc <;> simp only [zA,reduceCtorEq] at hc
  subst hc
  cases hq
 | alloc t => rw [ho] at hc;simp only [cop] at hc;cases hz : zeroT P t <;> rw [hz] at hc <;> simp only [Option.map_none,Option.map_some,zA,reduceCtorEq] at hc;subst hc;cases hq
 | box t x => rw [ho] at hc;simp only [cop] at hc;cases hz : opdC x <;> rw [hz] at hc <;> simp only [Option.map_none,Option.map_some,zA,reduceCtorEq] at hc;subst hc;cases hq
 | build t ps =>
  rw [ho] at hc
  simp only [cop] at hc
  split at hc
  case h_2 => cases hc
  rename_i z qs hz hqs
  split at hc <;> simp only [zA,reduceCtorEq] at hc
  rename_i hb
  subst hc
  refine does_build ho hev hz hqs ?_ hq
  unfold buildT at hb
  split at hb
  ·rename_i fs ht;exact .inl ⟨fs,ht,fun f hf => List.all_eq_true.1 hb f hf⟩
  ·rename_i n e ht
   obtain ⟨m,hm⟩ := Option.isSome_iff_exists.1 hb
   exact .inr ⟨n,e,m,ht,hm⟩
  ·cases hb
 | load t x =>
  rw [ho] at hc
  simp only [cop] at hc
  split at hc <;> simp only [zA,reduceCtorEq] at hc
  rename_i a n y h1 h2 h3
  subst hc
  exact does_load ho h1 h2 hk (hev x y h3) hq hp
 | nilCheck x =>
  rw [ho] at hc
  simp only [cop] at hc
  cases hx : opdC x with
  | none => rw [hx] at hc;cases hc
  | some y =>
   rw [hx] at hc;simp only [Option.map_some,zA] at hc;subst hc
   exact does_nchk ho (hev x y hx) hq
 | binOp op t x y t' =>
  rw [ho] at hc
  simp only [cop] at hc
  split at hc
  case h_2 => cases hc
  rename_i X Y hX hY
  have hx := hev x X hX
  have hy := hev y Y hY
  cases op <;> simp only [zA] at hc
  case eql => exact eqC_sound false ho hx hy hc hq hp
  case neq => exact eqC_sound true ho hx hy hc hq hp
  all_goals
   subst hc
   exact does_bin ho hx hy hq hp
 | unOp op t x =>
  rw [ho] at hc
  simp only [cop] at hc
  cases op <;> simp only [reduceCtorEq] at hc
  ·cases hx : opdC x with
   | none => rw [hx] at hc;cases hc
   | some y =>
    rw [hx] at hc;simp only [Option.map_some,zA] at hc;subst hc
    first | exact does_not ho (hev x y hx) hq | exact does_neg ho (hev x y hx) hq hp
  ·cases hx : opdC x with
   | none => rw [hx] at hc;cases hc
   | some y =>
    rw [hx] at hc;simp only [Option.map_some,zA] at hc;subst hc
    first | exact does_not ho (hev x y hx) hq | exact does_neg ho (hev x y hx) hq hp
 | convert u t x =>
  rw [ho] at hc
  simp only [cop] at hc
  split at hc
  case h_2 => cases hc
  rename_i k td ht hu
  cases hx : opdC x with
  | none => rw [hx] at hc;cases hc
  | some y =>
   rw [hx] at hc;simp only [Option.map_some,zA] at hc;subst hc
   exact does_conv ho ht (hev x y hx) (by rw [hu];rfl) hq hp
 | makeFunc fn l cs =>
  rw [ho] at hc
  simp only [cop] at hc
  cases fn with
  | func f =>
   simp only at hc
   split at hc
   case isFalse => cases hc
   rename_i hl
   cases hys : opdsC cs.toList with
   | none => rw [hys] at hc;cases hc
   | some ys =>
    rw [hys] at hc;simp only [Option.map_some,zA] at hc;subst hc
    obtain ⟨g1,g2⟩ := opdsC_sound hev _ _ hys
    exact does_mkfn ho hl (by simpa using g1) (fun j y hy => by obtain ⟨x,hx,hv⟩ := g2 j y hy;exact ⟨x,by simpa using hx,hv⟩) hq
  | _ => cases hc
 | slice t x lo hi mx =>
  rw [ho] at hc
  simp only [cop] at hc
  split at hc
  case h_2 => cases hc
  rename_i e he
  split at hc
  case h_2 => cases hc
  rename_i n X LO HI MX hn hX hLO hHI hMX
  split at hc
  ·cases hc
  rename_i hmh
  simp only [zA] at hc
  subst hc
  exact does_slc ho he hn hev hk (hev x X hX) hLO hHI hMX (fun h => by
   rw [← optC_isSome hMX] at h;rw [← optC_isSome hHI]
   simp only [h,Bool.true_and,Bool.not_eq_true',Bool.not_eq_false] at hmh;exact hmh) hq hp
 | fieldAddr t x i =>
  rw [ho] at hc
  simp only [cop] at hc
  split at hc
  case h_2 => cases hc
  rename_i fs ht
  split at hc
  case h_2 => cases hc
  rename_i f hf
  split at hc
  case h_2 => cases hc
  rename_i n X hn hX
  split at hc
  case isFalse => cases hc
  rename_i h0
  simp only [zA] at hc
  subst hc
  exact does_fad ho ht hf hn h0 (hev x X hX) hq
 | field t x i =>
  rw [ho] at hc
  simp only [cop] at hc
  split at hc
  case h_2 => cases hc
  rename_i fs ht
  split at hc
  case h_2 => cases hc
  rename_i f hf
  split at hc
  case h_2 => cases hc
  rename_i a n X ha hn hX
  simp only [zA] at hc
  subst hc
  exact does_fld ho ht hf ha hn (hev x X hX) hq hp
 | indexAddr t x i =>
  rw [ho] at hc
  simp only [cop] at hc
  split at hc
  ·rename_i e X I ht hX hI
   cases hn : szT P e with
   | none => rw [hn] at hc;cases hc
   | some n =>
    rw [hn] at hc;simp only [Option.map_some,zA] at hc;subst hc
    exact does_iads ho ht hn hk (hev x X hX) (hev i I hI) hq hp
  ·rename_i len e X I ht hX hI
   cases hn : szT P e with
   | none => rw [hn] at hc;cases hc
   | some n =>
    rw [hn] at hc;simp only [Option.map_some,zA] at hc;subst hc
    exact does_iada ho ht hn (hev x X hX) (hev i I hI) hq hp
  ·cases hc
 | index t x i =>
  rw [ho] at hc
  simp only [cop] at hc
  split at hc
  case h_2 => cases hc
  rename_i len e X I ht hX hI
  split at hc
  case h_2 => cases hc
  rename_i a n ha hn
  simp only [zA] at hc
  subst hc
  exact does_ida ho ht ha hn (hev x X hX) (hev i I hI) hq hp
 | extract x i =>
  rw [ho] at hc
  simp only [cop] at hc
  cases hx : opdC x with
  | none => rw [hx] at hc;cases hc
  | some y =>
   rw [hx] at hc;simp only [Option.map_some,zA] at hc;subst hc
   exact does_ext ho (hev x y hx) hq hp
 | store t x y =>
  rw [ho] at hc
  simp only [cop] at hc
  split at hc <;> simp only [zA,reduceCtorEq] at hc
  subst hc
  cases hq
 | buildSlice t n ps =>
  rw [ho] at hc
  simp only [cop] at hc
  split at hc
  case h_2 => cases hc
  split at hc
  case h_2 => cases hc
  split at hc <;> simp only [zA,reduceCtorEq] at hc
  subst hc
  cases hq
 | makeSlice t l c =>
  rw [ho] at hc
  simp only [cop] at hc
  split at hc
  case h_2 => cases hc
  split at hc
  case h_2 => cases hc
  split at hc <;> simp only [zA,reduceCtorEq] at hc
  subst hc
  cases hq
 | call c =>
  rw [ho] at hc
  simp only [cop] at hc
  split at hc
  ·split at hc <;> simp only [zA,reduceCtorEq] at hc
   ·subst hc;cases hq
   ·subst hc;cases hq
  ·rename_i b hcal
   split at hc
   ·rename_i X t h1 h2
    obtain ⟨g1,g2⟩ := opdsC_sound hev _ _ h1
    have hone : ∃ x,c.args.toList = [x] := by
     have : c.args.toList.length = 1 := by simpa using g1.symm
     exact List.length_eq_one_iff.1 this
    obtain ⟨x,hx⟩ := hone
    obtain ⟨x',hx',hv⟩ := g2 0 X rfl
    rw [hx] at hx'
    simp at hx'
    subst hx'
    split at hc
    ·rename_i e ht
     simp only [zA] at hc;subst hc
     exact does_len ho hcal hx h2 ht hk hv hq
    ·rename_i n e ht
     simp only [zA] at hc;subst hc
     simp only [qv,zA,Prod.mk.injEq] at hq
     obtain ⟨_,rfl⟩ := hq
     exact does_cst ho hcal hx h2 (.inl ⟨e,ht⟩)
    ·rename_i a ht
     split at hc <;> simp only [zA,reduceCtorEq] at hc
     rename_i n e hr
     subst hc
     simp only [qv,zA,Prod.mk.injEq] at hq
     obtain ⟨_,rfl⟩ := hq
     exact does_cst ho hcal hx h2 (.inr ⟨e,a,ht,hr⟩)
    ·cases hc
   ·rename_i X Y h1
    simp only [zA] at hc;subst hc
    obtain ⟨g1,g2⟩ := opdsC_sound hev _ _ h1
    have htwo : ∃ x y,c.args.toList = [x,y] := by
     have : c.args.toList.length = 2 := by simpa using g1.symm
     exact list_two this
    obtain ⟨x,y,hxy⟩ := htwo
    obtain ⟨x',hx',hv⟩ := g2 0 X rfl
    obtain ⟨y',hy',hv'⟩ := g2 1 Y rfl
    rw [hxy] at hx' hy'
    simp at hx' hy'
    subst hx' hy'
    exact does_mnx false ho hcal hxy hv hv' hq
   ·rename_i X Y h1
    simp only [zA] at hc;subst hc
    obtain ⟨g1,g2⟩ := opdsC_sound hev _ _ h1
    have htwo : ∃ x y,c.args.toList = [x,y] := by
     have : c.args.toList.length = 2 := by simpa using g1.symm
     exact list_two this
    obtain ⟨x,y,hxy⟩ := htwo
    obtain ⟨x',hx',hv⟩ := g2 0 X rfl
    obtain ⟨y',hy',hv'⟩ := g2 1 Y rfl
    rw [hxy] at hx' hy'
    simp at hx' hy'
    subst hx' hy'
    exact does_mnx true ho hcal hxy hv hv' hq
   ·split at hc
    case isFalse => cases hc
    split at hc
    case h_2 => cases hc
    split at hc
    case h_2 => cases hc
    split at hc <;> simp only [zA,reduceCtorEq] at hc
    subst hc
    cases hq
   ·cases hc
  ·cases hc
 | _ => rw [ho] at hc;cases hc
end
theorem VT.mono {Z Z' : Cells} (hz : ∀ b o v,Z b o = some v → Z' b o = some v) {d : D} {v : Value} (h : VT Z d v) : VT Z' d v := by
 induction h with
 | int => exact VT.int _ _
 | bool => exact VT.bool _
 | str => exact VT.str _
 | nilp => exact VT.nilp
 | any v h => exact VT.any v h
 | nil0 a => exact VT.nil0 a
 | rnil sz a cap => exact VT.rnil sz a cap
 | rows sz xs b off cap c h1 h2 _ ih => exact VT.rows sz xs b off cap c h1 (fun i row j d hi hj => ⟨(h2 i row j d hi hj).1,hz _ _ _ (h2 i row j d hi hj).2⟩) ih
 | pc ds b off c h1 _ ih => exact VT.pc ds b off c (fun j d hj => hz _ _ _ (h1 j d hj)) ih
 | fn f cs vs h1 _ ih => exact VT.fn f cs vs h1 ih
section
variable {s s' : Nat → Value} {Z Z' : Cells} {n : Nat}
theorem VC.mono (hz : ∀ b o v,Z b o = some v → Z' b o = some v) (hs : ∀ id,id < n → s' id = s id) {d : D} {v : Value} (hl : LtC n d) (h : VC s Z d v) : VC s' Z' d v := by
 cases d with
 | own id => obtain ⟨h1,h2⟩ := h;exact ⟨by rw [hs id hl];exact h1,h2⟩
 | ptr id j => obtain ⟨b,h1,h2⟩ := h;exact ⟨b,by rw [hs id hl];exact h1,h2⟩
 | pel id i sz j => obtain ⟨b,m,c,h1,h2⟩ := h;exact ⟨b,m,c,by rw [hs id hl];exact h1,h2⟩
 | sl id sz off len cap => obtain ⟨b,m,c,q,h1,h2⟩ := h;exact ⟨b,m,c,q,by rw [hs id hl];exact h1,h2⟩
 | clo f ids =>
  obtain ⟨vs,h1,h2,h3⟩ := h
  exact ⟨vs,h1,h2,fun j id hj => by
   obtain ⟨b,g1,g2⟩ := h3 j id hj
   exact ⟨b,by rw [hs id (hl id (zD hj))];exact g1,g2⟩⟩
 | _ => exact VT.mono hz h
theorem VV.mono (hz : ∀ b o v,Z b o = some v → Z' b o = some v) (hs : ∀ id,id < n → s' id = s id) {d : D} {v : Value} (hl : LtV n d) (h : VV s Z d v) : VV s' Z' d v := by
 cases d with
 | agg ds => obtain ⟨vs,h1,h2,h3⟩ := h;exact ⟨vs,h1,h2,fun j x hx => VC.mono hz hs (hl x (zD hx)) (h3 j x hx)⟩
 | _ => simp only [VV,LtV] at h hl ⊢;exact VC.mono hz hs hl h
theorem VR.mono (hz : ∀ b o v,Z b o = some v → Z' b o = some v) (hs : ∀ id,id < n → s' id = s id) {d : D} {v : Value} (hl : LtR n d) (h : VR s Z d v) : VR s' Z' d v := by
 cases d with
 | tup ds => obtain ⟨vs,h1,h2,h3⟩ := h;exact ⟨vs,h1,h2,fun j x hx => VV.mono hz hs (hl x (zD hx)) (h3 j x hx)⟩
 | any => trivial
 | _ => simp only [VR,LtR] at h hl ⊢;exact VV.mono hz hs hl h
theorem VS.mono (hz : ∀ b o v,Z b o = some v → Z' b o = some v) (hs : ∀ id,id < n → s' id = s id) {d : D} {v : Value} (hl : LtS n d) (h : VS s Z d v) : VS s' Z' d v := by
 cases d with
 | opt g d => simp only [VS,LtS] at h hl ⊢;exact ⟨fun hg => VR.mono hz hs (hl hg) (h.1 hg),h.2⟩
 | _ => simp only [VS,LtS] at h hl ⊢;exact VR.mono hz hs hl h
theorem RowOk.mono {R R' : D → Value → Prop} {w w' : World} {sz : Nat} {xs : List (List D)} {v : Value} (h : RowOk R w sz xs v) (hb : ∀ k,blk v = some k → w'.heap[k]? = w.heap[k]?) (hR : ∀ row ∈ xs,∀ d ∈ row,∀ u,R d u → R' d u) : RowOk R' w' sz xs v := by
 obtain ⟨h1,h2,h3⟩ := h
 refine ⟨h1,h2,?_⟩
 rcases h3 with h3 | ⟨g,cap,cur,e,rfl,hg,hcap,hm,hs,hc⟩
 ·exact .inl h3
 ·by_cases hcap0 : cap = 0
  ·have : xs = [] := List.eq_nil_of_length_eq_zero (by omega)
   subst this
   subst hcap0
   exact .inl ⟨rfl,_,rfl⟩
  ·refine .inr ⟨g,cap,cur,e,rfl,?_,hcap,hm,hs,fun i row j d hi hj => hR row (zD hi) d (zD hj) _ (hc i row j d hi hj)⟩
   rw [hb g (by simp [blk,hcap0])];exact hg
theorem BlkOk.mono {R R' : D → Value → Prop} {w w' : World} {sz : Nat} {xs : List (List D)} {v : Value} (h : BlkOk R w sz xs v) (hb : ∀ k,blk v = some k → w'.heap[k]? = w.heap[k]?) (hR : ∀ row ∈ xs,∀ d ∈ row,∀ u,R d u → R' d u) : BlkOk R' w' sz xs v := by
 obtain ⟨h1,h2,g,n,cur,e,rfl,hg,h0,hm,hs,hc⟩ := h
 refine ⟨h1,h2,g,n,cur,e,rfl,?_,h0,hm,hs,fun i row j d hi hj hd => hR row (zD hi) d (zD hj) _ (hc i row j d hi hj hd)⟩
 rw [hb g (by simp only [blk];rw [if_neg (by omega)])];exact hg
theorem BlkOk.blk {R : D → Value → Prop} {w : World} {sz : Nat} {xs : List (List D)} {v : Value} (h : BlkOk R w sz xs v) : ∃ g n,v = .slice (some ⟨g,0,none⟩) n xs.length ∧ blk v = some g ∧ g < w.heap.size := by
 obtain ⟨h1,h2,g,n,cur,e,rfl,hg,h0,_⟩ := h
 exact ⟨g,n,rfl,by simp only [Go.Proofs.YtbhcfldafpndbaaDoor.blk];rw [if_neg (by omega)],(Array.getElem?_eq_some_iff.1 hg).1⟩
theorem ObOk.mono {w w' : World} (hz : ∀ b o v,Z b o = some v → Z' b o = some v) (hs : ∀ id,id < n → s' id = s id) {ob : Ob} {v : Value} (hl : LtO n ob) (h : ObOk s Z w ob v) (hb : ∀ k,blk v = some k → w'.heap[k]? = w.heap[k]?) : ObOk s' Z' w' ob v := by
 cases ob with
 | cells ds =>
  obtain ⟨b,T,cs,rfl,h1,h2,h3⟩ := h
  exact ⟨b,T,cs,rfl,by rw [hb b rfl];exact h1,h2,fun j x hx => VC.mono hz hs (hl x (zD hx)) (h3 j x hx)⟩
 | row sz xs => exact RowOk.mono h hb (fun _ _ _ _ _ => VT.mono hz)
 | mp bare es ck => obtain ⟨b,rfl,h1⟩ := h;exact ⟨b,rfl,by rw [hb b rfl];exact h1⟩
 | it m since seen last => obtain ⟨b,mb,rfl,h1,h2⟩ := h;exact ⟨b,mb,rfl,by rw [hs m hl];exact h1,by rw [hb b rfl];exact h2⟩
 | rowd sz xs => exact RowOk.mono h hb (fun row hr d hd _ => VC.mono hz hs (hl row hr d hd))
 | blk sz xs => exact BlkOk.mono h hb (fun row hr d hd _ => VC.mono hz hs (hl row hr d hd))
theorem ObOk.lt {w : World} {ob : Ob} {v : Value} (h : ObOk s Z w ob v) : ∀ k,blk v = some k → k < w.heap.size := by
 have row : ∀ (R : D → Value → Prop) sz xs,RowOk R w sz xs v → ∀ k,blk v = some k → k < w.heap.size := fun R sz xs h k hk => by
  rcases h.2.2 with ⟨_,a,rfl⟩ | ⟨g,cap,cur,e,rfl,hg,_⟩
  ·cases a <;> simp [blk] at hk
  ·simp only [blk] at hk
   split at hk
   ·cases hk
   ·cases hk;exact (Array.getElem?_eq_some_iff.1 hg).1
 cases ob with
 | cells ds =>
  obtain ⟨b,T,cs,rfl,h1,_⟩ := h
  intro k hk
  cases hk
  exact (Array.getElem?_eq_some_iff.1 h1).1
 | row sz xs => exact row _ sz xs h
 | mp bare es ck => obtain ⟨b,rfl,h1⟩ := h;intro k hk;cases hk;exact (Array.getElem?_eq_some_iff.1 h1).1
 | it m since seen last => obtain ⟨b,mb,rfl,h1,h2⟩ := h;intro k hk;cases hk;exact (Array.getElem?_eq_some_iff.1 h2).1
 | rowd sz xs => exact row _ sz xs h
 | blk sz xs =>
  obtain ⟨g,n,rfl,hg,hlt⟩ := BlkOk.blk h
  intro k hk
  rw [hg] at hk;cases hk;exact hlt
end
theorem Fr.refl (F : Nat → Prop) (w : World) : Fr F w w := ⟨rfl,rfl,rfl,Nat.le_refl _,fun _ _ _ => rfl⟩
theorem Fr.below {F : Nat → Prop} {w0 w w' : World} (h : Fr F w0 w) (hb : Below w.heap.size w w') : Fr F w0 w' :=
 ⟨hb.os.trans h.os,hb.tape.trans h.tape,hb.output.trans h.output,Nat.le_trans h.size hb.size,fun k hk hf => (hb.block k (Nat.lt_of_lt_of_le hk h.size)).trans (h.block k hk hf)⟩
theorem Fr.only {F : Nat → Prop} {w0 w w' : World} {k : Nat} (h : Fr F w0 w) (ho : Only k w w') (hk : w0.heap.size ≤ k ∨ F k) : Fr F w0 w' :=
 ⟨ho.os.trans h.os,ho.tape.trans h.tape,ho.output.trans h.output,by rw [ho.size];exact h.size,fun j hj hf => (ho.block j (by
  rintro rfl
  rcases hk with hk | hk
  ·omega
  ·exact hf hk)).trans (h.block j hj hf)⟩
def upd (s : Nat → Value) (id : Nat) (v : Value) : Nat → Value := fun k => if k = id then v else s k
theorem upd_same (s : Nat → Value) (id : Nat) (v : Value) : upd s id v id = v := if_pos rfl
theorem upd_lt (s : Nat → Value) (n : Nat) (v : Value) : ∀ id,id < n → upd s n v id = s id := fun id h => if_neg (by omega)
theorem LtC.mono {n m : Nat} (h : n ≤ m) {d : D} (hl : LtC n d) : LtC m d := by
 cases d with
 | clo f ids => exact fun id hid => Nat.lt_of_lt_of_le (hl id hid) h
 | _ => simp only [LtC] at hl ⊢ <;> omega
theorem LtV.mono {n m : Nat} (h : n ≤ m) {d : D} (hl : LtV n d) : LtV m d := by
 cases d with
 | agg ds => exact fun x hx => LtC.mono h (hl x hx)
 | _ => simp only [LtV] at hl ⊢;exact LtC.mono h hl
theorem LtR.mono {n m : Nat} (h : n ≤ m) {d : D} (hl : LtR n d) : LtR m d := by
 cases d with
 | tup ds => exact fun x hx => LtV.mono h (hl x hx)
 | _ => simp only [LtR] at hl ⊢;exact LtV.mono h hl
theorem LtS.mono {n m : Nat} (h : n ≤ m) {d : D} (hl : LtS n d) : LtS m d := by
 cases d with
 | opt g d => exact fun hg => LtR.mono h (hl hg)
 | _ => simp only [LtS] at hl ⊢;exact LtR.mono h hl
theorem LtO.mono {n m : Nat} (h : n ≤ m) {ob : Ob} (hl : LtO n ob) : LtO m ob := by
 cases ob with
 | cells ds => exact fun x hx => LtC.mono h (hl x hx)
 | row sz xs => trivial
 | mp bare es ck => trivial
 | it m since seen last => exact Nat.lt_of_lt_of_le hl h
 | rowd sz xs => exact fun r hr x hx => LtC.mono h (hl r hr x hx)
 | blk sz xs => exact fun r hr x hx => LtC.mono h (hl r hr x hx)
structure Zx (Z Z' : Cells) (w w' : World) : Prop where
 old : ∀ b o v,Z b o = some v → Z' b o = some v
 new : ∀ b o v,Z' b o = some v → Z b o = some v ∨ w.heap.size ≤ b
 ok : ∀ b o v,Z' b o = some v → w'.cell? ⟨b,o,none⟩ = some v
theorem Zx.refl {Z : Cells} {w w' : World} (h : ∀ b o v,Z b o = some v → w.cell? ⟨b,o,none⟩ = some v) (hb : Below w.heap.size w w') : Zx Z Z w w' :=
 ⟨fun _ _ _ h => h,fun _ _ _ h => .inl h,fun b o v hz => by
  have := h b o v hz
  rw [hb.cell (p := ⟨b,o,none⟩) (World.block_lt_of_cell? w _ this)];exact this⟩
section
variable {B : Base} {w w' : World} {s : Nat → Value} {Z Z' : Cells} {H : List (Nat × Ob)} {nx : Nat}
theorem RelH.know (h : RelH B s Z H nx w) : Know s Z H w := ⟨h.ob,h.zok⟩
theorem RelH.call (h : RelH B s Z H nx w) (hb : Below w.heap.size w w') (hz : Zx Z Z' w w') : RelH B s Z' H nx w' where
  ob id ob hh := (h.ob id ob hh).mono hz.old (fun _ _ => rfl) (h.lt id ob hh).2 fun k hk => hb.block k ((h.ob id ob hh).lt k hk)
  lt := h.lt
  apart := h.apart
  zok := hz.ok
  zap id ob b o hh hb' := by
    have h1 := (h.ob id ob hh).lt b hb'
    cases hq : Z' b o with
    | none => rfl
    | some v => rcases hz.new b o v hq with h2 | h2
                · rw [h.zap id ob b o hh hb'] at h2; cases h2
                · omega
  mine := h.mine
  fr := h.fr.below hb
  n0 := h.n0
  bs := h.bs
  bz b o v hv := hz.old b o v (h.bz b o v hv)
  bn b o v hv := by
    rcases hz.new b o v hv with h1 | h1
    · exact h.bn b o v h1
    · exact .inr (.inl (Nat.le_trans h.fr.size h1))
theorem RelH.new (h : RelH B s Z H nx w) (hb : Below w.heap.size w w') {v : Value} {ob : Ob} (ho : ObOk (upd s nx v) Z w' ob v) (hl : LtO (nx + 1) ob) (hv : ∀ k,blk v = some k → w.heap.size ≤ k) : RelH B (upd s nx v) Z (eput H nx ob) (nx + 1) w' where
 ob id ob' hh := by
  rw [hget_eput] at hh
  split at hh
  ·rename_i e;subst e;cases hh;rw [upd_same];exact ho
  ·have h1 := (h.lt id ob' hh).1
   rw [upd_lt _ _ _ _ h1]
   exact (h.ob id ob' hh).mono (fun _ _ _ h => h) (upd_lt s nx v) (h.lt id ob' hh).2 fun k hk => hb.block k ((h.ob id ob' hh).lt k hk)
 lt id ob' hh := by
  rw [hget_eput] at hh
  split at hh
  ·rename_i e;subst e;cases hh;exact ⟨by omega,hl⟩
  ·have := h.lt id ob' hh;exact ⟨by omega,this.2.mono (by omega)⟩
 apart id id' ob ob' b hh hh' hne hb1 := by
  rw [hget_eput] at hh hh'
  split at hh
  ·rename_i e;subst e
   rw [if_neg (fun h => hne h.symm)] at hh'
   rw [upd_same] at hb1
   have h1 := (h.lt id' ob' hh').1
   rw [upd_lt _ _ _ _ h1]
   intro hb2
   have := (h.ob id' ob' hh').lt b hb2
   have := hv b hb1
   omega
  ·have h1 := (h.lt id ob hh).1
   rw [upd_lt _ _ _ _ h1] at hb1
   split at hh'
   ·rename_i e;subst e
    rw [upd_same]
    intro hb2
    have := (h.ob id ob hh).lt b hb1
    have := hv b hb2
    omega
   ·have h2 := (h.lt id' ob' hh').1
    rw [upd_lt _ _ _ _ h2]
    exact h.apart id id' ob ob' b hh hh' hne hb1
 zok b o u hz := by
  have := h.zok b o u hz
  rw [hb.cell (p := ⟨b,o,none⟩) (World.block_lt_of_cell? w _ this)];exact this
 zap id ob' b o hh hb1 := by
  rw [hget_eput] at hh
  split at hh
  ·rename_i e;subst e
   rw [upd_same] at hb1
   cases hq : Z b o with
   | none => rfl
   | some u =>
    have h1 := World.block_lt_of_cell? w _ (h.zok b o u hq)
    have := hv b hb1
    simp only at h1
    omega
  ·have h1 := (h.lt id ob' hh).1
   rw [upd_lt _ _ _ _ h1] at hb1
   exact h.zap id ob' b o hh hb1
 mine id ob' b hh hb1 := by
  rw [hget_eput] at hh
  split at hh
  ·rename_i e;subst e
   rw [upd_same] at hb1
   exact .inl (Nat.le_trans h.fr.size (hv b hb1))
  ·have h1 := (h.lt id ob' hh).1
   rw [upd_lt _ _ _ _ h1] at hb1
   exact h.mine id ob' b hh hb1
 fr := h.fr.below hb
 n0 := by have := h.n0;omega
 bs id hi := by rw [upd_lt _ _ _ _ (Nat.lt_of_lt_of_le hi h.n0)];exact h.bs id hi
 bz := h.bz
 bn := h.bn
theorem RelH.write (h : RelH B s Z H nx w) {id : Nat} {ob ob' : Ob} {k : Nat} (hh : hget H id = some ob) (hk : blk (s id) = some k) (ho : Only k w w') (hn : ObOk s Z w' ob' (s id)) (hl : LtO nx ob') : RelH B s Z (eput H id ob') nx w' where
  ob i o hi := by
    rw [hget_eput] at hi
    split at hi
    · rename_i e; subst e; cases hi; exact hn
    · rename_i e
      exact (h.ob i o hi).mono (fun _ _ _ h => h) (fun _ _ => rfl) (h.lt i o hi).2 fun j hj => ho.block j (by
        rintro rfl; exact h.apart i id o ob j hi hh e hj hk)
  lt i o hi := by
    rw [hget_eput] at hi
    split at hi
    · rename_i e; subst e; cases hi; exact ⟨(h.lt i ob hh).1, hl⟩
    · exact h.lt i o hi
  apart i j o o' b hi hj hne hb := by
    rw [hget_eput] at hi hj
    have g1 : ∃ q, hget H i = some q := by split at hi; · rename_i e; subst e; exact ⟨_, hh⟩
                                           · exact ⟨_, hi⟩
    have g2 : ∃ q, hget H j = some q := by split at hj; · rename_i e; subst e; exact ⟨_, hh⟩
                                           · exact ⟨_, hj⟩
    obtain ⟨q, hq⟩ := g1
    obtain ⟨r, hr⟩ := g2
    exact h.apart i j q r b hq hr hne hb
  zok b o u hz := by
    have h1 := h.zok b o u hz
    rw [World.cell?_of_block (w := w) (a := ⟨b, o, none⟩) (ho.block b (by rintro rfl; rw [h.zap id ob b o hh hk] at hz; cases hz))]
    exact h1
  zap i o b p hi hb := by
    rw [hget_eput] at hi
    split at hi
    · rename_i e; subst e; exact h.zap i ob b p hh hb
    · exact h.zap i o b p hi hb
  mine i o b hi hb := by
    rw [hget_eput] at hi
    split at hi
    · rename_i e; subst e; exact h.mine i ob b hh hb
    · exact h.mine i o b hi hb
  fr := h.fr.only ho (h.mine id ob k hh hk)
  n0 := h.n0
  bs := h.bs
  bz := h.bz
  bn := h.bn
theorem RelH.move (h : RelH B s Z H nx w) {id : Nat} {ob ob' : Ob} {v : Value} (hh : hget H id = some ob) (hg : w.grownBy w' (blk (s id))) (hn : ObOk (upd s nx v) Z w' ob' v) (hl : LtO (nx + 1) ob')
  (hv : ∀ k,blk v = some k → w.heap.size ≤ k ∨ blk (s id) = some k) : RelH B (upd s nx v) Z (eput (herase H id) nx ob') (nx + 1) w' := by
 have old : ∀ i o,hget (eput (herase H id) nx ob') i = some o → (i = nx ∧ o = ob') ∨ (i ≠ nx ∧ i ≠ id ∧ hget H i = some o) := fun i o hi => by
  rw [hget_eput] at hi
  split at hi
  ·rename_i e;cases hi;exact .inl ⟨e,rfl⟩
  ·rename_i e
   rw [hget_herase] at hi
   split at hi
   ·cases hi
   ·rename_i e';exact .inr ⟨e,e',hi⟩
 have away : ∀ i o,i ≠ id → hget H i = some o → ∀ j,blk (s i) = some j → w'.heap[j]? = w.heap[j]? := fun i o hne hi j hj =>
  hg.block j ((h.ob i o hi).lt j hj) (by intro e;exact h.apart i id o ob j hi hh hne hj e.symm)
 constructor
 ·intro i o hi
  rcases old i o hi with ⟨rfl,rfl⟩ | ⟨h1,h2,h3⟩
  ·rw [upd_same];exact hn
  ·rw [upd_lt _ _ _ _ (h.lt i o h3).1]
   exact (h.ob i o h3).mono (fun _ _ _ h => h) (upd_lt s nx v) (h.lt i o h3).2 (away i o h2 h3)
 ·intro i o hi
  rcases old i o hi with ⟨rfl,rfl⟩ | ⟨h1,h2,h3⟩
  ·exact ⟨by omega,hl⟩
  ·have := h.lt i o h3;exact ⟨by omega,this.2.mono (by omega)⟩
 ·intro i j o o' b hi hj hne hb
  rcases old i o hi with ⟨rfl,rfl⟩ | ⟨h1,h2,h3⟩
  ·rcases old j o' hj with ⟨rfl,rfl⟩ | ⟨g1,g2,g3⟩
   ·exact absurd rfl hne
   ·rw [upd_same] at hb
    rw [upd_lt _ _ _ _ (h.lt j o' g3).1]
    intro hb2
    rcases hv b hb with h4 | h4
    ·have := (h.ob j o' g3).lt b hb2;omega
    ·exact h.apart j id o' ob b g3 hh g2 hb2 h4
  ·rw [upd_lt _ _ _ _ (h.lt i o h3).1] at hb
   rcases old j o' hj with ⟨rfl,rfl⟩ | ⟨g1,g2,g3⟩
   ·rw [upd_same]
    intro hb2
    rcases hv b hb2 with h4 | h4
    ·have := (h.ob i o h3).lt b hb;omega
    ·exact h.apart i id o ob b h3 hh h2 hb h4
   ·rw [upd_lt _ _ _ _ (h.lt j o' g3).1]
    exact h.apart i j o o' b h3 g3 hne hb
 ·intro b o u hz
  have h1 := h.zok b o u hz
  rw [World.cell?_of_block (w := w) (a := ⟨b,o,none⟩) (hg.block b (World.block_lt_of_cell? w _ h1) (by intro e;rw [h.zap id ob b o hh e.symm] at hz;cases hz))]
  exact h1
 ·intro i o b p hi hb
  rcases old i o hi with ⟨rfl,rfl⟩ | ⟨h1,h2,h3⟩
  ·rw [upd_same] at hb
   rcases hv b hb with h4 | h4
   ·cases hq : Z b p with
    | none => rfl
    | some u => have := World.block_lt_of_cell? w _ (h.zok b p u hq);simp only at this;omega
   ·exact h.zap id ob b p hh h4
  ·rw [upd_lt _ _ _ _ (h.lt i o h3).1] at hb
   exact h.zap i o b p h3 hb
 ·intro i o b hi hb
  rcases old i o hi with ⟨rfl,rfl⟩ | ⟨h1,h2,h3⟩
  ·rw [upd_same] at hb
   rcases hv b hb with h4 | h4
   ·exact .inl (Nat.le_trans h.fr.size h4)
   ·exact h.mine id ob b hh h4
  ·rw [upd_lt _ _ _ _ (h.lt i o h3).1] at hb
   exact h.mine i o b h3 hb
 ·refine ⟨hg.os.trans h.fr.os,hg.tape.trans h.fr.tape,hg.output.trans h.fr.output,Nat.le_trans h.fr.size hg.size,fun k hk hf => ?_⟩
  rw [hg.block k (Nat.lt_of_lt_of_le hk h.fr.size) (by
   intro e
   rcases h.mine id ob k hh e.symm with h4 | h4
   ·omega
   ·exact hf h4)]
  exact h.fr.block k hk hf
 ·have := h.n0;omega
 ·intro i hi;rw [upd_lt _ _ _ _ (Nat.lt_of_lt_of_le hi h.n0)];exact h.bs i hi
 ·exact h.bz
 ·exact h.bn
end
section
variable {P : Program} {B : Base} {w : World} {s : Nat → Value} {Z : Cells} {H : List (Nat × Ob)} {nx : Nat}
theorem RelH.cells (h : RelH B s Z H nx w) (cs : Array Value) (T : TypeId) (ds : List D) (hl : cs.size = ds.length) (hc : ∀ j x,ds[j]? = some x → VC s Z x (cs.getD j undef)) (hn : ∀ d ∈ ds,LtC nx d) :
  RelH B (upd s nx (.pointer (some ⟨w.heap.size,0,none⟩))) Z (eput H nx (.cells ds)) (nx + 1) (w.alloc (.cells cs T)) := by
 refine h.new ((Below.refl _ _).alloc (Nat.le_refl _) _) ⟨w.heap.size,T,cs,rfl,heap_alloc_new w _,hl,fun j x hx => ?_⟩ (fun d hd => (hn d hd).mono (by omega)) (fun k hk => by cases hk;exact Nat.le_refl _)
 exact VC.mono (fun _ _ _ h => h) (upd_lt s nx _) (hn x (zD hx)) (hc j x hx)
theorem VC.new (s : Nat → Value) (Z : Cells) (nx b : Nat) : VC (upd s nx (.pointer (some ⟨b,0,none⟩))) Z (.ptr nx 0) (.pointer (some ⟨b,0,none⟩)) := ⟨b,upd_same _ _ _,rfl⟩
theorem run_alloc {t : TypeId} {i : TypeInfo} {v : Value} (hi : P.info? t = some i) (hv : i.zero = some v) : (Instr.alloc t true (.tuple #[])).run P w = .ok (.pointer (some ⟨w.heap.size,0,none⟩)) (w.alloc (.cells v.cells t)) := by
 simp [Instr.alloc,zeroValue,typeInfo,hi,hv,newVar,newRow]
theorem run_box {t : TypeId} {v : Value} : (Instr.box t v).run P w = .ok (.pointer (some ⟨w.heap.size,0,none⟩)) (w.alloc (.cells v.cells t)) := by
 simp [Instr.box,newVar,newRow]
theorem cellD_lt {v : Value} {d : D} (h : cellD v = some d) : LtC 0 d := by
 unfold cellD at h
 split at h <;> (try simp only [zA,reduceCtorEq] at h) <;> (try subst h) <;> (try trivial)
 split at h
 ·simp only [zA] at h;subst h;trivial
 ·cases h
theorem cellsD_lt : ∀ (vs : List Value) (ds : List D),cellsD vs = some ds → ∀ d ∈ ds,LtC 0 d
 | [],ds,h => by simp only [cellsD,zA] at h;subst h;intro d hd;cases hd
 | v :: vs,ds,h => by
  simp only [cellsD] at h
  split at h <;> simp only [zA,reduceCtorEq] at h
  rename_i d ds' h1 h2
  subst h
  intro x hx
  rcases List.mem_cons.1 hx with rfl | hx
  ·exact cellD_lt h1
  ·exact cellsD_lt vs ds' h2 x hx
theorem cellD_isT {v : Value} {d : D} (h : cellD v = some d) : isT d = true := by
 unfold cellD at h
 split at h <;> (try split at h) <;> simp only [zA,reduceCtorEq] at h <;> subst h <;> rfl
theorem cellsD_isT : ∀ (vs : List Value) (ds : List D),cellsD vs = some ds → ∀ d ∈ ds,isT d = true
 | [],ds,h => by
  simp only [cellsD,zA] at h
  subst h
  exact fun d hd => by cases hd
 | v :: vs,ds,h => by
  simp only [cellsD] at h
  split at h
  ·rename_i d es h1 h2
   simp only [zA] at h
   subst h
   intro x hx
   rcases List.mem_cons.1 hx with rfl | hx
   ·exact cellD_isT h1
   ·exact cellsD_isT vs es h2 x hx
  ·cases h
theorem zeroT_isT {P : Program} {t : TypeId} {z : List D} (h : zeroT P t = some z) : ∀ d ∈ z,isT d = true := by
 unfold zeroT at h
 split at h
 ·split at h
  ·split at h
   ·exact cellsD_isT _ _ h
   ·cases h
  ·cases h
 ·cases h
theorem zeroT_lt {t : TypeId} {z : List D} (h : zeroT P t = some z) : ∀ d ∈ z,LtC 0 d := by
 unfold zeroT at h
 split at h
 case h_2 => cases h
 split at h
 case h_2 => cases h
 split at h
 case isFalse => cases h
 exact cellsD_lt _ _ h
theorem LtR.cells {n : Nat} {d : D} (h : LtR n d) : ∀ x ∈ d.cells,LtC n x := by
 cases d with
 | agg ds => exact h
 | any => intro x hx;cases hx
 | tup _ => intro x hx;cases hx
 | opt _ _ => intro x hx;cases hx
 | _ => intro x hx;simp only [D.cells,List.mem_singleton] at hx;subst hx;exact h
theorem heap_setCells (b : Nat) (T : TypeId) : ∀ (vs : List Value) (o : Nat) (w : World) (cs : Array Value),w.heap[b]? = some (.cells cs T (0,0)) → o + vs.length ≤ cs.size →
  ∃ cs',(w.setCells b o vs).heap[b]? = some (.cells cs' T (0,0)) ∧ cs'.size = cs.size ∧ ∀ j,cs'.getD j undef = if o ≤ j ∧ j < o + vs.length then vs.getD (j - o) undef else cs.getD j undef
 | [],o,w,cs,h,_ => ⟨cs,h,rfl,fun j => by rw [if_neg (by simp)]⟩
 | v :: vs,o,w,cs,h,hl => by
  simp only [List.length_cons] at hl
  obtain ⟨cs',h1,h2,h3⟩ := heap_setCells b T vs (o + 1) (w.setCell ⟨b,o,none⟩ v) (cs.setIfInBounds o v) (heap_setCell_same w b o cs T v h) (by simp;omega)
  refine ⟨cs',h1,by simpa using h2,fun j => ?_⟩
  rw [h3 j]
  by_cases hj : o + 1 ≤ j ∧ j < o + 1 + vs.length
  ·rw [if_pos hj,if_pos (by simp only [List.length_cons];omega),show j - o = (j - (o + 1)) + 1 by omega,List.getD_cons_succ]
  ·rw [if_neg hj]
   by_cases hjo : j = o
   ·subst hjo
    rw [if_pos (by simp only [List.length_cons];omega),Nat.sub_self,List.getD_cons_zero]
    have : j < cs.size := by omega
    simp [Array.getD,this]
   ·rw [if_neg (by simp only [List.length_cons];omega),Array.getD_eq_getD_getElem?,Array.getD_eq_getD_getElem?,Array.getElem?_setIfInBounds,if_neg (fun h => hjo h.symm)]
theorem storeAt_run {t : TypeId} {n b o : Nat} {v : Value} {cs : Array Value} {T : TypeId} (hn : szT P t = some n) (hv : v.cells.size = n) (h1 : ∀ j,j < n → (v.cells.getD j undef).oneCell' = true) (hb : w.heap[b]? = some (.cells cs T (0,0))) (hl : o + n ≤ cs.size) :
  (Instr.storeAt t (.pointer (some ⟨b,o,none⟩)) v).run P w = .ok () (w.setCells b o v.cells.toList) := by
 have ht : w.there b o v.cells.size := fun j hj => by
  refine ⟨?_,frozen_of_row w b _ cs T hb⟩
  rw [cell_of_row w b _ cs T (0,0) hb]
  simp;omega
 have h2 : v.cells.all (·.oneCell') = true := by
  rw [Array.all_eq_true]
  intro j hj
  have := h1 j (by omega)
  rwa [Array.getD_eq_getD_getElem?,Array.getElem?_eq_getElem hj,Option.getD_some] at this
 have := run_storeAt_mid (P := P) w b o t v.cells ht (by unfold szT at hn;rw [hn,hv]) h2
 have e : (Instr.storeAt t (.pointer (some ⟨b,o,none⟩)) v) = (Instr.storeAt t (.pointer (some ⟨b,o,none⟩)) (.agg v.cells)) := rfl
 rw [e];exact this
def splice (ds : List D) (j : Nat) (es : List D) : List D := ds.take j ++ es ++ ds.drop (j + es.length)
theorem splice_get {ds es : List D} {j : Nat} (h : j + es.length ≤ ds.length) (k : Nat) : (splice ds j es)[k]? = if j ≤ k ∧ k < j + es.length then es[k - j]? else ds[k]? := by
 unfold splice
 rw [List.append_assoc]
 by_cases h1 : k < j
 ·rw [if_neg (by omega),List.getElem?_append_left (by simp;omega),List.getElem?_take,if_pos h1]
 ·rw [List.getElem?_append_right (by simp;omega),List.length_take,Nat.min_eq_left (by omega)]
  by_cases h2 : k < j + es.length
  ·rw [if_pos (by omega),List.getElem?_append_left (by omega)]
  ·rw [if_neg (by omega),List.getElem?_append_right (by omega),List.getElem?_drop]
   congr 1;omega
theorem splice_length {ds es : List D} {j : Nat} (h : j + es.length ≤ ds.length) : (splice ds j es).length = ds.length := by
 unfold splice;simp;omega
theorem splice_mem {ds es : List D} {j : Nat} {d : D} (h : d ∈ splice ds j es) : d ∈ ds ∨ d ∈ es := by
 unfold splice at h
 rcases List.mem_append.1 h with h | h
 ·rcases List.mem_append.1 h with h | h
  ·exact .inl (List.mem_of_mem_take h)
  ·exact .inr h
 ·exact .inl (List.mem_of_mem_drop h)
theorem store_cells (h : RelH B s Z H nx w) {t : TypeId} {n id j : Nat} {ds : List D} {pv v : Value} {d : D} (hn : szT P t = some n) (hp : VR s Z (.ptr id j) pv) (hh : hget H id = some (.cells ds)) (hv : VR s Z d v) (hd : LtR nx d) (hlen : d.cells.length = n) (h0 : 0 < n) (hj : j + n ≤ ds.length) :
  ∃ w',(Instr.storeAt t pv v).run P w = .ok () w' ∧ RelH B s Z (eput H id (.cells (splice ds j d.cells))) nx w' := by
 obtain ⟨b,hs,rfl⟩ := hp
 obtain ⟨b',T,cs,hs',hb,hcl,hcc⟩ := h.ob _ _ hh
 rw [hs] at hs'
 injection hs' with e;injection e with e;injection e with e _;subst e
 obtain ⟨hc1,hc2⟩ := hv.cells (by omega)
 have hone : ∀ k,k < n → (v.cells.getD k undef).oneCell' = true := fun k hk => by
  have hx : d.cells[k]? = some d.cells[k] := zE (by omega)
  exact (hc2 k _ hx).one
 have hrun := storeAt_run (P := P) hn (by omega) hone hb (o := j) (by omega)
 refine ⟨_,hrun,?_⟩
 obtain ⟨cs',g1,g2,g3⟩ := heap_setCells b T v.cells.toList j w cs hb (by simp;omega)
 refine h.write hh (by rw [hs];rfl) (Only.setCells b _ j w) ⟨b,T,cs',by rw [hs],g1,by rw [g2,splice_length (by omega),hcl],fun k x hx => ?_⟩ (fun x hx => ?_)
 ·rw [splice_get (by omega)] at hx
  rw [g3 k]
  simp only [Array.length_toList]
  split at hx
  ·rename_i hk
   rw [if_pos (by omega)]
   have := hc2 _ _ hx
   simpa [Array.getD_eq_getD_getElem?,zC] using this
  ·rename_i hk
   rw [if_neg (by omega)]
   exact hcc k x hx
 ·rcases splice_mem hx with hx | hx
  ·exact (h.lt _ _ hh).2 x hx
  ·exact hd.cells x hx
theorem store_row {sz : Nat} {R : D → Value → Prop} (mk : List (List D) → Ob) (hob : ∀ w xs v,ObOk s Z w (mk xs) v = RowOk R w sz xs v) (h : RelH B s Z H nx w) {t : TypeId} {n id i j : Nat} {xs : List (List D)} {pv v : Value} {d : D} (hn : szT P t = some n)
  (hp : VR s Z (.pel id i sz j) pv) (hh : hget H id = some (mk xs)) (hv : VR s Z d v) (hR : ∀ x ∈ d.cells,∀ u,VC s Z x u → R x u) (hlen : d.cells.length = n) (h0 : 0 < n) (hi : i < xs.length) (hj : j + n ≤ sz)
  (hlt : LtO nx (mk (xs.set i (splice (xs.getD i []) j d.cells)))) :
  ∃ w',(Instr.storeAt t pv v).run P w = .ok () w' ∧ RelH B s Z (eput H id (mk (xs.set i (splice (xs.getD i []) j d.cells)))) nx w' := by
 obtain ⟨b,m,c,hs,rfl⟩ := hp
 have ho := h.ob _ _ hh
 rw [hob,hs] at ho
 obtain ⟨hsz,hrow,ho⟩ := ho
 rcases ho with ⟨rfl,_⟩ | ⟨g,cap,cur,e,hvv,hg,hcap,hm,hcs,hcc⟩
 ·simp at hi
 injection hvv with e1 e2 e3
 injection e1 with e1;injection e1 with e1;subst e1
 have hx : xs[i]? = some (xs.getD i []) := by rw [zC,zE hi];rfl
 have hrl : (xs.getD i []).length = sz := hrow _ (zD hx)
 obtain ⟨hc1,hc2⟩ := hv.cells (by omega)
 have hone : ∀ k,k < n → (v.cells.getD k undef).oneCell' = true := fun k hk => by
  have hx : d.cells[k]? = some d.cells[k] := zE (by omega)
  exact (hc2 k _ hx).one
 have hle : i * sz + sz ≤ cap * sz := by
  have : (i + 1) * sz ≤ cap * sz := Nat.mul_le_mul_right _ (by omega)
  rwa [Nat.add_mul,Nat.one_mul] at this
 have hrun := storeAt_run (P := P) hn (by omega) hone hg (o := i * sz + j) (by omega)
 refine ⟨_,hrun,?_⟩
 obtain ⟨cs',g1,g2,g3⟩ := heap_setCells b e v.cells.toList (i * sz + j) w cur hg (by simp;omega)
 have hbk : blk (s id) = some b := by
  rw [hs]
  simp only [blk]
  rw [if_neg (by rw [e3];omega)]
 refine h.write hh hbk (Only.setCells b _ _ w) ?_ hlt
 rw [hob]
 refine ⟨hsz,fun row hr => ?_,.inr ⟨b,cap,cs',e,by rw [hs,e2,e3,List.length_set],g1,by rw [List.length_set];exact hcap,hm,by rw [g2,hcs],fun k row l x hk hl => ?_⟩⟩
 ·rcases List.mem_or_eq_of_mem_set hr with hr | rfl
  ·exact hrow _ hr
  ·rw [splice_length (by omega),hrl]
 ·rw [g3]
  simp only [Array.length_toList]
  rw [List.getElem?_set] at hk
  have hll : l < sz := by
   split at hk
   ·simp only [hi,if_true,zA] at hk
    subst hk
    have := (zB.1 hl).1
    rwa [splice_length (by omega),hrl] at this
   ·have := (zB.1 hl).1
    rwa [hrow _ (zD hk)] at this
  split at hk
  ·rename_i hik
   subst hik
   simp only [hi,if_true,zA] at hk
   subst hk
   rw [splice_get (by omega)] at hl
   split at hl
   ·rename_i hlj
    rw [if_pos (by omega)]
    have := hc2 _ _ hl
    rw [show i * sz + l - (i * sz + j) = l - j by omega]
    exact hR x (zD hl) _ (by simpa [Array.getD_eq_getD_getElem?,zC] using this)
   ·rw [if_neg (by omega)]
    exact hcc i _ l x hx hl
  ·rename_i hik
   have hne : ¬ (i * sz + j ≤ k * sz + l ∧ k * sz + l < i * sz + j + v.cells.size) := by
    rcases Nat.lt_or_gt_of_ne hik with h1 | h1
    ·have : (i + 1) * sz ≤ k * sz := Nat.mul_le_mul_right _ h1
     rw [Nat.add_mul,Nat.one_mul] at this
     omega
    ·have : (k + 1) * sz ≤ i * sz := Nat.mul_le_mul_right _ h1
     rw [Nat.add_mul,Nat.one_mul] at this
     omega
   rw [if_neg hne]
   exact hcc k row l x hk hl
end
def slD (H : List (Nat × Ob)) (d : D) : Option (Bool × Nat × List (List D)) :=
 match d with
 | .nil0 => some (true,0,[])
 | .rows sz xs => some (true,sz,xs)
 | .own id => match hget H id with
  | some (.row sz xs) => some (true,sz,xs)
  | some (.rowd sz xs) => some (false,sz,xs)
  | _ => none
 | _ => none
section
variable {P : Program} {F : Nat → Prop} {w0 w : World} {s : Nat → Value} {Z : Cells} {H : List (Nat × Ob)} {nx : Nat}
def SlAt (R : D → Value → Prop) (w : World) (sz : Nat) (xs : List (List D)) (v : Value) : Prop :=
 ∃ a cap,v = .slice a xs.length cap ∧ xs.length ≤ cap ∧ (0 < xs.length → ∃ b off,a = some ⟨b,off,none⟩ ∧ ∀ i row j d,xs[i]? = some row → row[j]? = some d → ∃ u,w.cell? ⟨b,off + i * sz + j,none⟩ = some u ∧ R d u)
theorem RowOk.at {R : D → Value → Prop} {sz : Nat} {xs : List (List D)} {v : Value} (h : RowOk R w sz xs v) : SlAt R w sz xs v := by
 obtain ⟨hsz,hrow,h⟩ := h
 rcases h with ⟨rfl,a,rfl⟩ | ⟨g,cap,cur,e,rfl,hg,hcap,hm,hs,hc⟩
 ·exact ⟨a,0,rfl,Nat.le_refl _,fun h => by simp at h⟩
 ·refine ⟨_,cap,rfl,hcap,fun _ => ⟨g,0,rfl,fun i row j d hi hj => ⟨cur.getD (i * sz + j) undef,?_,hc i row j d hi hj⟩⟩⟩
  have hil : i < xs.length := (zB.1 hi).1
  have hjl : j < sz := by
   have := (zB.1 hj).1
   rwa [hrow _ (zD hi)] at this
  have hlt : i * sz + j < cur.size := by
   rw [hs]
   have : (i + 1) * sz ≤ cap * sz := Nat.mul_le_mul_right _ (by omega)
   rw [Nat.add_mul] at this;omega
  rw [Nat.zero_add,cell_of_row w g _ cur e (0,0) hg]
  simp [hlt]
theorem slD_at (hk : Know s Z H w) {d : D} {v : Value} (hv : VR s Z d v) {t : Bool} {sz : Nat} {xs : List (List D)} (h : slD H d = some (t,sz,xs)) : SlAt (if t then VT Z else VC s Z) w sz xs v := by
 cases d <;> simp only [slD,zA,Prod.mk.injEq,reduceCtorEq] at h
 ·obtain ⟨rfl,rfl,rfl⟩ := h
  cases hv with | nil0 a => exact ⟨a,0,rfl,Nat.le_refl _,fun h => by simp at h⟩
 ·obtain ⟨rfl,rfl,rfl⟩ := h
  simp only [if_true]
  cases hv with
  | rnil _ a cap => exact ⟨a,cap,rfl,Nat.zero_le _,fun h => by simp at h⟩
  | rows _ _ b off cap c hcap h1 h2 => exact ⟨_,cap,rfl,hcap,fun _ => ⟨b,off,rfl,fun i row j d hi hj => ⟨c i j,hk.zok _ _ _ (h1 i row j d hi hj).2,h2 i row j d hi hj⟩⟩⟩
 ·split at h <;> simp only [zA,Prod.mk.injEq,reduceCtorEq] at h
  ·rename_i sz' xs' hh
   obtain ⟨rfl,rfl,rfl⟩ := h
   have ho := hk.ob _ _ hh
   rw [hv.1]
   simp only [if_true]
   exact RowOk.at ho
  ·rename_i sz' xs' hh
   obtain ⟨rfl,rfl,rfl⟩ := h
   have ho := hk.ob _ _ hh
   rw [hv.1]
   exact RowOk.at ho
theorem SlAt.news {R : D → Value → Prop} {sz : Nat} {xs : List (List D)} {b off : Nat} (hrow : ∀ row ∈ xs,row.length = sz)
  (h : ∀ i row j d,xs[i]? = some row → row[j]? = some d → ∃ u,w.cell? ⟨b,off + i * sz + j,none⟩ = some u ∧ R d u) :
  ∃ news : List Value,news.length = xs.length * sz ∧ w.rangeAt b off news ∧ ∀ i row j d,xs[i]? = some row → row[j]? = some d → R d (news.getD (i * sz + j) undef) := by
 refine ⟨(List.range (xs.length * sz)).map fun k => (w.cell? ⟨b,off + k,none⟩).getD undef,by simp,fun k v hv => ?_,fun i row j d hi hj => ?_⟩
 ·rw [List.getElem?_map] at hv
  have hk : k < xs.length * sz := by
   rcases Nat.lt_or_ge k (xs.length * sz) with h1 | h1
   ·exact h1
   ·rw [List.getElem?_eq_none (by simpa using h1)] at hv;cases hv
  rw [List.getElem?_range hk,Option.map_some,zA] at hv
  have hsz : 0 < sz := by
   rcases Nat.eq_zero_or_pos sz with h0 | h0
   ·rw [h0] at hk;simp at hk
   ·exact h0
  have hi : k / sz < xs.length := Nat.div_lt_of_lt_mul (by rwa [Nat.mul_comm] at hk)
  have hj : k % sz < sz := Nat.mod_lt _ hsz
  have hx : xs[k / sz]? = some xs[k / sz] := zE hi
  have hy : xs[k / sz][k % sz]? = some (xs[k / sz][k % sz]'(by rw [hrow _ (List.getElem_mem hi)];exact hj)) := zE _
  obtain ⟨u,h1,_⟩ := h _ _ _ _ hx hy
  have hdm := Nat.div_add_mod k sz
  rw [show off + k / sz * sz + k % sz = off + k by rw [Nat.mul_comm];omega] at h1
  rw [h1] at hv ⊢
  rw [← hv];rfl
 ·obtain ⟨u,h1,h2⟩ := h i row j d hi hj
  have hil : i < xs.length := (zB.1 hi).1
  have hjl : j < sz := by
   have := (zB.1 hj).1
   rwa [hrow _ (zD hi)] at this
  have hlt : i * sz + j < xs.length * sz := by
   have : (i + 1) * sz ≤ xs.length * sz := Nat.mul_le_mul_right _ hil
   rw [Nat.add_mul] at this;omega
  rw [zC,List.getElem?_map,List.getElem?_range hlt,Option.map_some,Option.getD_some,← Nat.add_assoc,h1]
  exact h2
theorem app_get {R : D → Value → Prop} {sz : Nat} {xs ys : List (List D)} {olds news : List Value} (hx : ∀ row ∈ xs,row.length = sz) (ho : olds.length = xs.length * sz)
  (h1 : ∀ i row j d,xs[i]? = some row → row[j]? = some d → R d (olds.getD (i * sz + j) undef)) (h2 : ∀ i row j d,ys[i]? = some row → row[j]? = some d → R d (news.getD (i * sz + j) undef)) :
  ∀ i row j d,(xs ++ ys)[i]? = some row → row[j]? = some d → R d ((olds ++ news).getD (i * sz + j) undef) := by
 intro i row j d hi hj
 by_cases hil : i < xs.length
 ·rw [List.getElem?_append_left hil] at hi
  have hjl : j < sz := by
   have := (zB.1 hj).1
   rwa [hx _ (zD hi)] at this
  have hlt : i * sz + j < olds.length := by
   rw [ho]
   have : (i + 1) * sz ≤ xs.length * sz := Nat.mul_le_mul_right _ hil
   rw [Nat.add_mul] at this;omega
  rw [zC,List.getElem?_append_left hlt,← zC]
  exact h1 i row j d hi hj
 ·rw [List.getElem?_append_right (by omega)] at hi
  have hge : olds.length ≤ i * sz + j := by
   rw [ho]
   have : xs.length * sz ≤ i * sz := Nat.mul_le_mul_right _ (by omega)
   omega
  rw [zC,List.getElem?_append_right hge,← zC,ho]
  have := h2 _ row j d hi hj
  rwa [show i * sz + j - xs.length * sz = (i - xs.length) * sz + j by
   rw [Nat.sub_mul]
   have : xs.length * sz ≤ i * sz := Nat.mul_le_mul_right _ (by omega)
   omega]
theorem append_run {R R1 R2 : D → Value → Prop} {t ty e : TypeId} {i : TypeInfo} {z : Value} (ht : P.underlying t = some (.slice e)) (hi : P.info? e = some i) (hz : i.zero = some z) (hzs : z.cells.size = i.size) (hsz : 0 < i.size) (hby : 0 < i.bytes)
    {xs ys : List (List D)} {v u : Value} (hR1 : ∀ d q, R1 d q → R d q) (hR2 : ∀ d q, R2 d q → R d q) (hR : ∀ d q, R d q → q.oneCell' = true)
    (hx : (xs = [] ∧ ∃ a, v = .slice a 0 0) ∨ RowOk R1 w i.size xs v) (hy : SlAt R2 w i.size ys u) (hrow : ∀ row ∈ ys, row.length = i.size) (hlen : (xs.length + ys.length) * i.bytes ≤ 140737488355328) :
    ∃ v' w', (Builtin.append_ #[t, t] ty #[v, u]).run P w = .ok v' w' ∧ w.grownBy w' (blk v) ∧ RowOk R w' i.size (xs ++ ys) v' ∧ (∀ k, blk v' = some k → w.heap.size ≤ k ∨ blk v = some k) ∧ ∃ a n c, v' = .slice a n c := by
  have hxr : (∀ row ∈ xs, row.length = i.size) ∧ ((xs = [] ∧ ∃ a, v = .slice a 0 0) ∨ ∃ g cap cur e', v = .slice (some ⟨g, 0, none⟩) xs.length cap ∧ w.heap[g]? = some (.cells cur e' (0, 0)) ∧ xs.length ≤ cap ∧ cap ≤ maxLen ∧ cur.size = cap * i.size ∧ ∀ k row j d, xs[k]? = some row → row[j]? = some d → R1 d (cur.getD (k * i.size + j) undef)) := by
    rcases hx with ⟨rfl, h⟩ | ⟨_, h1, h2⟩
    · exact ⟨(fun row hr => by cases hr), .inl ⟨rfl, h⟩⟩
    · exact ⟨h1, h2⟩
  obtain ⟨hxrow, hxv⟩ := hxr
  have hall : ∀ row ∈ xs ++ ys, row.length = i.size := fun row hr => by
    rcases List.mem_append.1 hr with h | h
    · exact hxrow row h
    · exact hrow row h
  have hbig : xs.length + ys.length ≤ 140737488355328 := Nat.le_trans (Nat.le_mul_of_pos_right _ hby) hlen
  obtain ⟨ay, cy, rfl, hcy, hya⟩ := hy
  have src : ∃ news : List Value, Src P i.size t (.slice ay ys.length cy) ys.length news w ∧ ∀ k row j d, ys[k]? = some row → row[j]? = some d → R d (news.getD (k * i.size + j) undef) := by
    rcases Nat.eq_zero_or_pos ys.length with h0 | h0
    · have hyn : ys = [] := List.eq_nil_of_length_eq_zero h0
      subst hyn
      refine ⟨[], ?_, fun k row j d hk => by simp at hk⟩
      cases ay with
      | none => exact Src.ofNil w ht cy
      | some ad => exact Src.ofSlice w ht ad 0 cy [] (by simp) (fun j u hu => by simp at hu) (fun u hu => by cases hu)
    · obtain ⟨b, off, rfl, hc⟩ := hya h0
      obtain ⟨news, h1, h2, h3⟩ := SlAt.news hrow hc
      refine ⟨news, Src.ofSlice w ht ⟨b, off, none⟩ ys.length cy news h1 (fun j u hu => by rw [add_mid']; exact h2 j u hu) (fun u hu => ?_), fun k row j d hk hj => hR2 _ _ (h3 k row j d hk hj)⟩
      obtain ⟨k, hk⟩ := zF hu
      have hkl : k < ys.length * i.size := by rw [← h1]; exact (zB.1 hk).1
      have hi' : k / i.size < ys.length := Nat.div_lt_of_lt_mul (by rwa [Nat.mul_comm] at hkl)
      have hx : ys[k / i.size]? = some ys[k / i.size] := zE hi'
      have hj' : k % i.size < ys[k / i.size].length := by rw [hrow _ (List.getElem_mem hi')]; exact Nat.mod_lt _ hsz
      have := h3 _ _ _ _ hx (zE hj')
      have hdm := Nat.div_add_mod k i.size
      rw [show k / i.size * i.size + k % i.size = k by rw [Nat.mul_comm]; omega, zC, hk, Option.getD_some] at this
      exact hR _ _ (hR2 _ _ this)
  obtain ⟨news, hsrc, hnews⟩ := src
  have hnl := hsrc.newsLen
  have grow : ∀ (base : Option Addr) (cap : Nat) (olds : List Value), cap < xs.length + ys.length → olds.length = xs.length * i.size → (Builtin.firstCells i.size xs.length (.slice base xs.length cap)).run P w.drew = .ok olds.toArray w.drew →
      (∀ k row j d, xs[k]? = some row → row[j]? = some d → R d (olds.getD (k * i.size + j) undef)) → v = .slice base xs.length cap →
      ∃ v' w', (Builtin.append_ #[t, t] ty #[v, .slice ay ys.length cy]).run P w = .ok v' w' ∧ w.grownBy w' (blk v) ∧ RowOk R w' i.size (xs ++ ys) v' ∧ (∀ k, blk v' = some k → w.heap.size ≤ k ∨ blk v = some k) ∧ ∃ a n c, v' = .slice a n c := by
    intro base cap olds hcap hol hold hget hv
    have hr := run_append_grow_src (P := P) w t t ty e i z ht hi hz base xs.length cap olds hold (.slice ay ys.length cy) ys.length news hsrc hcap (by omega) (growslice_fits hcap hlen)
    rw [hv]
    refine ⟨_, _, hr, ⟨rfl, rfl, rfl, by simp, fun k hk _ => Below.heap_alloc w.drew _ k hk⟩, ⟨hsz, hall, .inr ⟨w.heap.size, _, _, e, by rw [List.length_append], heap_alloc_new w.drew _, by rw [List.length_append]; exact grownCap_ge .., grownCap_le_maxLen _ _ _ _ (by unfold maxLen; omega), ?_, ?_⟩⟩, ?_, _, _, _, rfl⟩
    · have := grownCap_ge w (xs.length + ys.length) cap e
      simp only [Array.size_append, List.size_toArray, List.length_append, size_zeroCells, hzs, hol, hnl, ← Nat.add_mul]
      congr 1; omega
    · intro k row j d hk hj
      have h1 := app_get (R := R) hxrow hol hget hnews k row j d hk hj
      have hkl : k < xs.length + ys.length := by have := (zB.1 hk).1; rwa [List.length_append] at this
      have hjl : j < i.size := by have := (zB.1 hj).1; rwa [hall _ (zD hk)] at this
      have hlt : k * i.size + j < (olds ++ news).length := by
        rw [List.length_append, hol, hnl, ← Nat.add_mul]
        have : (k + 1) * i.size ≤ (xs.length + ys.length) * i.size := Nat.mul_le_mul_right _ hkl
        rw [Nat.add_mul, Nat.one_mul] at this; omega
      rw [Array.getD_eq_getD_getElem?, Array.getElem?_append_left (by simpa using hlt)]
      rw [zC] at h1
      rw [← Array.getElem?_toList]
      simpa using h1
    · intro k hk
      simp only [blk] at hk
      split at hk
      · cases hk
      · cases hk; exact .inl (Nat.le_refl _)
  rcases hxv with ⟨rfl, a, rfl⟩ | ⟨g, cap, cur, e', rfl, hg, hcap, hm, hcs, hcc⟩
  · rcases Nat.eq_zero_or_pos ys.length with h0 | h0
    · have hyn : ys = [] := List.eq_nil_of_length_eq_zero h0
      subst hyn
      have hn0 : news = [] := List.eq_nil_of_length_eq_zero (by simpa using hnl)
      subst hn0
      refine ⟨.slice a 0 0, w, ?_, ⟨rfl, rfl, rfl, Nat.le_refl _, fun _ _ _ => rfl⟩, ⟨hsz, hall, .inl ⟨rfl, a, rfl⟩⟩, fun k hk => .inr hk, _, _, _, rfl⟩
      have hc := hsrc.cells
      simp only [List.length_nil] at hc
      cases a with
      | none => simp [Builtin.append_, run_underlying ht, sizeOf, typeInfo, hi, Builtin.lenOf, hc]
      | some ad => simp [Builtin.append_, run_underlying ht, sizeOf, typeInfo, hi, Builtin.lenOf, hc, storeCells]
    · refine grow a 0 [] (by simpa using h0) (by simp) ?_ (fun k row j d hk => by simp at hk) rfl
      cases a with
      | none => exact run_firstCells_none w.drew i.size 0 0 0
      | some ad => exact run_firstCells_some w.drew i.size 0 ad 0 0 [] (by simp) (fun j v hv => by simp at hv)
  · have hcells : ∀ k, k < cur.size → w.cell? ⟨g, k, none⟩ = some (cur.getD k undef) := fun k hk => by
      rw [cell_of_row w g k cur e' (0, 0) hg]; simp [hk]
    have hxc : xs.length * i.size ≤ cur.size := by rw [hcs]; exact Nat.mul_le_mul_right _ hcap
    by_cases hroom : xs.length + ys.length ≤ cap
    · have hfit : xs.length * i.size + news.length ≤ cur.size := by rw [hnl, hcs, ← Nat.add_mul]; exact Nat.mul_le_mul_right _ hroom
      have hr := run_append_room_src (P := P) w t t ty e i ht hi g 0 xs.length cap (.slice ay ys.length cy) ys.length news hsrc hroom
        (fun j hj => by rw [Nat.zero_add, hcells _ (by omega)]; rfl) (fun j hj => frozen_of_row w g _ cur e' hg)
      simp only [Nat.zero_add] at hr
      obtain ⟨cs', g1, g2, g3⟩ := heap_setCells g e' news (xs.length * i.size) w cur hg hfit
      have ho := Only.setCells g news (xs.length * i.size) w
      refine ⟨_, _, hr, ⟨ho.os, ho.tape, ho.output, by rw [ho.size]; exact Nat.le_refl _, fun k hk hne => ?_⟩, ⟨hsz, hall, .inr ⟨g, cap, cs', e', by rw [List.length_append], g1, by rw [List.length_append]; exact hroom, hm, by rw [g2, hcs], ?_⟩⟩, ?_, _, _, _, rfl⟩
      · by_cases hkg : k = g
        · subst hkg
          simp only [blk] at hne
          by_cases hcap0 : cap = 0
          · have h1 : news = [] := List.eq_nil_of_length_eq_zero (by rw [hnl]; have : ys.length = 0 := by omega
                                                                     rw [this, Nat.zero_mul])
            subst h1
            rfl
          · rw [if_neg hcap0] at hne; exact absurd rfl hne
        · exact ho.block k hkg
      · intro k row j d hk hj
        have h1 := app_get (R := R) (olds := cur.toList.take (xs.length * i.size)) hxrow (by simp; omega) (fun k row j d hk hj => by
          have hkl : k < xs.length := (zB.1 hk).1
          have hjl : j < i.size := by have := (zB.1 hj).1; rwa [hxrow _ (zD hk)] at this
          have hlt : k * i.size + j < xs.length * i.size := by
            have : (k + 1) * i.size ≤ xs.length * i.size := Nat.mul_le_mul_right _ hkl
            rw [Nat.add_mul, Nat.one_mul] at this; omega
          have := hR1 _ _ (hcc k row j d hk hj)
          rw [zC, List.getElem?_take, if_pos hlt]
          simpa [Array.getD_eq_getD_getElem?] using this) hnews k row j d hk hj
        rw [g3]
        split
        · rename_i hin
          rw [zC, List.getElem?_append_right (by simp; omega)] at h1
          rw [zC]
          simpa [Nat.min_eq_left hxc] using h1
        · rename_i hin
          have hkl : k < xs.length + ys.length := by have := (zB.1 hk).1; rwa [List.length_append] at this
          have hjl : j < i.size := by have := (zB.1 hj).1; rwa [hall _ (zD hk)] at this
          have hlt : k * i.size + j < xs.length * i.size := by
            have h2 : (k + 1) * i.size ≤ (xs.length + ys.length) * i.size := Nat.mul_le_mul_right _ hkl
            rw [Nat.add_mul, Nat.one_mul, Nat.add_mul] at h2
            omega
          rw [zC, List.getElem?_append_left (by simp; omega), List.getElem?_take, if_pos hlt] at h1
          simpa [Array.getD_eq_getD_getElem?] using h1
      · intro k hk
        simp only [blk] at hk ⊢
        exact .inr hk
    · refine grow (some ⟨g, 0, none⟩) cap (cur.toList.take (xs.length * i.size)) (by omega) (by simp; omega) ?_ (fun k row j d hk hj => ?_) rfl
      · refine run_firstCells_some w.drew i.size xs.length ⟨g, 0, none⟩ xs.length cap _ (by simp; omega) (fun j v hv => ?_)
        rw [List.getElem?_take] at hv
        split at hv
        · rw [add_mid', Nat.zero_add]
          have := cell_of_row w g j cur e' (0, 0) hg
          rw [World.cell?_drew, this]
          simpa using hv
        · cases hv
      · have hkl : k < xs.length := (zB.1 hk).1
        have hjl : j < i.size := by have := (zB.1 hj).1; rwa [hxrow _ (zD hk)] at this
        have hlt : k * i.size + j < xs.length * i.size := by
          have : (k + 1) * i.size ≤ xs.length * i.size := Nat.mul_le_mul_right _ hkl
          rw [Nat.add_mul, Nat.one_mul] at this; omega
        have := hR1 _ _ (hcc k row j d hk hj)
        rw [zC, List.getElem?_take, if_pos hlt]
        simpa [Array.getD_eq_getD_getElem?] using this
end
def chunks (sz : Nat) : Nat → List D → List (List D)
 | 0,_ => []
 | k + 1,ds => ds.take sz :: chunks sz k (ds.drop sz)
theorem chunks_length (sz : Nat) : ∀ (k : Nat) (ds : List D),(chunks sz k ds).length = k
 | 0,_ => rfl
 | k + 1,ds => by simp [chunks,chunks_length sz k]
theorem chunks_get (sz : Nat) : ∀ (k : Nat) (ds : List D) (i : Nat) (row : List D),(chunks sz k ds)[i]? = some row → row = (ds.drop (i * sz)).take sz ∧ i < k
 | 0,_,i,row,h => by simp [chunks] at h
 | k + 1,ds,0,row,h => by simp [chunks] at h;simp [h]
 | k + 1,ds,i + 1,row,h => by
  simp only [chunks,List.getElem?_cons_succ] at h
  obtain ⟨h1,h2⟩ := chunks_get sz k _ i row h
  rw [List.drop_drop] at h1
  exact ⟨by rw [h1,show sz + i * sz = (i + 1) * sz by rw [Nat.add_mul];omega],by omega⟩
theorem flat_get {z : List D} (h0 : 0 < z.length) : ∀ (k j : Nat),(List.replicate k z).flatten[j]? = if j < k * z.length then z[j % z.length]? else none
 | 0,j => by simp
 | k + 1,j => by
  rw [List.replicate_succ,List.flatten_cons]
  by_cases hj : j < z.length
  ·rw [List.getElem?_append_left hj,if_pos (by rw [Nat.add_mul];omega),Nat.mod_eq_of_lt hj]
  ·rw [List.getElem?_append_right (by omega),flat_get h0 k]
   have e : (j - z.length) % z.length = j % z.length := by
    conv => rhs;rw [show j = (j - z.length) + z.length by omega,Nat.add_mod_right]
   rw [e]
   by_cases h : j < (k + 1) * z.length
   ·rw [if_pos h,if_pos (by rw [Nat.add_mul] at h;omega)]
   ·rw [if_neg h,if_neg (by rw [Nat.add_mul] at h;omega)]
section
variable {P : Program} {F : Nat → Prop} {w0 w : World} {s : Nat → Value} {Z : Cells} {H : List (Nat × Ob)} {nx : Nat} {ρ : Operand → Value} {ev : Opd → D}
theorem rowOk_of_cells {R : D → Value → Prop} {w : World} {b k sz : Nat} {e : TypeId} {cs : Array Value} {ds : List D} (hsz : 0 < sz) (hb : w.heap[b]? = some (.cells cs e (0,0))) (hl : cs.size = ds.length) (hk : ds.length = k * sz) (hm : k ≤ maxLen)
  (hc : ∀ j x,ds[j]? = some x → R x (cs.getD j undef)) : RowOk R w sz (chunks sz k ds) (.slice (some ⟨b,0,none⟩) k k) := by
 refine ⟨hsz,fun row hr => ?_,.inr ⟨b,k,cs,e,by rw [chunks_length],hb,by rw [chunks_length];exact Nat.le_refl _,hm,by omega,fun i row j d hi hj => ?_⟩⟩
 ·obtain ⟨i,hi⟩ := zF hr
  obtain ⟨rfl,hik⟩ := chunks_get sz k ds i row hi
  have : (i + 1) * sz ≤ k * sz := Nat.mul_le_mul_right _ hik
  rw [Nat.add_mul] at this
  simp;omega
 ·obtain ⟨rfl,hik⟩ := chunks_get sz k ds i row hi
  rw [List.getElem?_take] at hj
  split at hj
  ·rw [List.getElem?_drop] at hj;exact hc _ _ hj
  ·cases hj
theorem bpartsC_sound (hev : ∀ x y,opdC x = some y → VR s Z (ev y) (ρ x)) : ∀ (ps : List (Nat × Operand)) (qs : List (Nat × Opd)),bpartsC ps = some qs →
  ps.length = qs.length ∧ ∀ (j : Nat) (p : Nat × Operand) (q : Nat × Opd),ps[j]? = some p → qs[j]? = some q → p.1 = q.1 ∧ VR s Z (ev q.2) (ρ p.2)
 | [],qs,h => by simp only [bpartsC,zA] at h;subst h;exact ⟨rfl,fun j p q hp => by simp at hp⟩
 | (i,x) :: ps,qs,h => by
  simp only [bpartsC] at h
  split at h <;> simp only [zA,reduceCtorEq] at h
  rename_i y ys h1 h2
  subst h
  obtain ⟨g1,g2⟩ := bpartsC_sound hev ps ys h2
  refine ⟨by simp [g1],fun j p q hp hq => ?_⟩
  cases j with
  | zero => simp at hp hq;subst hp hq;exact ⟨rfl,hev x y h1⟩
  | succ j => exact g2 j p q (by simpa using hp) (by simpa using hq)
theorem bslice_run {t e : TypeId} {n len : Nat} {ps : Array (Nat × Operand)} (ht : sliceT P t = some e) (hn : szT P e = some n) (h0 : 0 < n) (hbig : len * n ≤ 16777216) (hev : ∀ x y,opdC x = some y → VR s Z (ev y) (ρ x)) {z : List D} {qs : List (Nat × Opd)}
  (hz : zeroT P e = some z) (hps : bpartsC ps.toList = some qs) {ds : List D} (hf : fillD (List.replicate len z).flatten (qs.map fun q => (q.1 * n,n,ev q.2)) = some ds) :
  ∃ cs : Array Value,(Instr.buildSlice t len (ps.map fun q => (q.1,ρ q.2))).run P w = .ok (.slice (some ⟨w.heap.size,0,none⟩) len len) (w.alloc (.cells cs e)) ∧ cs.size = ds.length ∧ ∀ j x,ds[j]? = some x → VC s Z x (cs.getD j undef) := by
 obtain ⟨i,v,hi,hv,hsz,hvc,hcc⟩ := zeroT_sound (s := s) (Z := Z) hz
 have hin : i.size = n := by unfold szT at hn;rw [hi] at hn;simpa using hn
 have hzn : z.length = n := by omega
 obtain ⟨hl,hpq⟩ := bpartsC_sound (s := s) (Z := Z) (ρ := ρ) (ev := ev) hev ps.toList qs hps
 have hu := sliceT_some ht
 have hvn : v.cells.size = n := by omega
 have zero : ∃ A : Array Value,(if len * n = 0 then #[] else v.cells) = A ∧ ((Array.range (len * n)).map fun k => A[k % A.size]!).size = ((List.replicate len z).flatten).length ∧
   ∀ j x,((List.replicate len z).flatten)[j]? = some x → VC s Z x (((Array.range (len * n)).map fun k => A[k % A.size]!).getD j undef) := by
  refine ⟨_,rfl,by simp [hzn],fun j x hx => ?_⟩
  rw [flat_get (by omega),hzn] at hx
  split at hx
  ·rename_i hj
   rw [if_neg (by omega)]
   have h1 := hcc _ _ hx
   rw [Array.getD_eq_getD_getElem?,Array.getElem?_map,Array.getElem?_range,if_pos hj,Option.map_some,Option.getD_some,hvn]
   have hlt : j % n < v.cells.size := by rw [hvn];exact Nat.mod_lt _ h0
   rw [Array.getD_eq_getD_getElem?,Array.getElem?_eq_getElem hlt,Option.getD_some] at h1
   rwa [getElem!_pos v.cells (j % n) hlt]
  ·cases hx
 obtain ⟨A,hA,hA1,hA2⟩ := zero
 obtain ⟨cs,hcs,hcl,hcv⟩ := fill_sound (s := s) (Z := Z) (place := fun i => some (i * n,n)) (ps.toList.map fun q => (q.1,ρ q.2)) (qs.map fun q => (q.1 * n,n,ev q.2)) ((Array.range (len * n)).map fun k => A[k % A.size]!) _ ds (by simpa using hl)
  (fun j p q hp hq => by
   rw [List.getElem?_map] at hp hq
   cases hp' : ps.toList[j]? with
   | none => rw [hp'] at hp;cases hp
   | some p' =>
    cases hq' : qs[j]? with
    | none => rw [hq'] at hq;cases hq
    | some q' =>
     rw [hp'] at hp;rw [hq'] at hq
     simp only [Option.map_some,zA] at hp hq
     subst hp hq
     obtain ⟨g1,g2⟩ := hpq j p' q' hp' hq'
     exact ⟨by simp [g1],g2⟩) hA1 hA2 hf
 refine ⟨cs,?_,hcl,hcv⟩
 have hzr : (zeroValue e).run P w = .ok v w := by simp [zeroValue,typeInfo,hi,hv]
 have hpl : (ps.map fun q => (q.1,ρ q.2)).toList = ps.toList.map fun q => (q.1,ρ q.2) := by simp
 have hb' : ¬ (len * n > 16777216) := by omega
 simp only [Instr.buildSlice,Sem.run_bind,run_underlying hu,run_sizeOf' hn,Result.andThen_ok,hpl]
 rw [if_neg (by simpa using hb')]
 by_cases hz0 : len * n = 0
 ·rw [if_pos hz0] at hA
  subst hA
  rw [if_pos hz0]
  simp only [Sem.run_bind,Sem.run_pure,Result.andThen_ok,hcs,newRow,run_newObj_alloc]
 ·rw [if_neg hz0] at hA
  subst hA
  rw [if_neg hz0]
  simp only [Sem.run_bind,hzr,Sem.run_pure,Result.andThen_ok,hcs,newRow,run_newObj_alloc]
theorem make_run {t e : TypeId} (ht : sliceT P t = some e) {i : TypeInfo} (hi : P.info? e = some i) {z : List D} (hz : zeroT P e = some z) (h0 : 0 < i.size) {kl kc : IntKind} {l c : Int} (hl : 0 ≤ l) (hlc : l ≤ c) (hb : (i.bytes : Int) * c ≤ 281474976710656) (h63 : c ≤ 9223372036854775807) :
  ∃ cs : Array Value,(Instr.makeSlice t (.int kl l) (.int kc c)).run P w = .ok (.slice (some ⟨w.heap.size,0,none⟩) l.toNat c.toNat) (w.alloc (.cells cs e)) ∧ z.length = i.size ∧
   (∀ w' : World,w'.heap[w.heap.size]? = some (.cells cs e (0,0)) → RowOk (VT Z) w' i.size (List.replicate l.toNat z) (.slice (some ⟨w.heap.size,0,none⟩) l.toNat c.toNat)) := by
 obtain ⟨i',v,hi',hv,hsz,hvc,hcc⟩ := zeroT_sound (s := fun _ => undef) (Z := Z) hz
 obtain rfl : i' = i := Option.some.inj (hi'.symm.trans hi)
 refine ⟨_,run_make w t e i' v (sliceT_some ht) hi hv kl kc l c hl hlc hb h63,hsz.symm,fun w' hw => ?_⟩
 have hzT : ∀ j x,z[j]? = some x → VT Z x (v.cells.getD j undef) := fun j x hx => by
  have h1 := hcc j x hx
  exact VC.vt h1 (zeroT_isT hz x (zD hx))
 refine ⟨h0,fun row hr => by rw [List.eq_of_mem_replicate hr];omega,.inr ⟨w.heap.size,c.toNat,_,e,by simp,hw,by simp;omega,by unfold maxLen;omega,by rw [size_madeCells],fun k row j d hk hj => ?_⟩⟩
 have hrow : row = z := List.eq_of_mem_replicate (zD hk)
 subst hrow
 have hkl : k < l.toNat := by simpa using (zB.1 hk).1
 have hjl : j < i'.size := by have := (zB.1 hj).1;omega
 have hlt : k * i'.size + j < c.toNat * i'.size := by
  have : (k + 1) * i'.size ≤ c.toNat * i'.size := Nat.mul_le_mul_right _ (by omega)
  rw [Nat.add_mul,Nat.one_mul] at this;omega
 have h1 := hzT j d hj
 have hjv : j < v.cells.size := by omega
 unfold madeCells
 rw [Array.getD_eq_getD_getElem?,Array.getElem?_map,Array.getElem?_range,if_pos hlt,Option.map_some,Option.getD_some]
 have hm : (k * i'.size + j) % v.cells.size = j := by
  rw [show v.cells.size = i'.size by omega,Nat.mul_comm,Nat.mul_add_mod,Nat.mod_eq_of_lt hjl]
 rw [hm,getElem!_pos v.cells j hjv]
 rwa [Array.getD_eq_getD_getElem?,Array.getElem?_eq_getElem hjv,Option.getD_some] at h1
end
def s0 : Nat → Value := fun _ => undef
def callable (P : Program) (f : FuncId) : Bool :=
 match P.funcs[f]? with
 | some fn => fn.body.isSome && !(fn.name == "runtime.NumGoroutine")
 | none => false
def PF (P : Program) (f : FuncId) (ds : List D) (d : D) : Prop :=
 callable P f = true ∧ ∀ (Z : Cells) (w : World) (vs : Array Value),(∀ b o v,Z b o = some v → w.cell? ⟨b,o,none⟩ = some v) → vs.size = ds.length → (∀ j x,ds[j]? = some x → VV s0 Z x (vs.getD j undef)) →
  Calls P f vs w fun e w' => ∃ v Z',e = .returned v ∧ VR s0 Z' d v ∧ Zx Z Z' w w' ∧ Below w.heap.size w w'
def PFn (P : Program) (f : FuncId) (ds : List D) (d : D) : Prop :=
 callable P f = true ∧ ∀ (Z : Cells) (w : World) (vs : Array Value),(∀ b o v,Z b o = some v → w.cell? ⟨b,o,none⟩ = some v) → vs.size = ds.length → (∀ j x,ds[j]? = some x → VV s0 Z x (vs.getD j undef)) →
  Calls P f vs w fun e w' => ∃ v Zn,e = .returned v ∧ VR s0 Zn d v ∧ (∀ b o u,Zn b o = some u → w.heap.size ≤ b ∧ w'.cell? ⟨b,o,none⟩ = some u) ∧ Below w.heap.size w w'
def HF (P : Program) (f : FuncId) (ds : List D) (H : List (Nat × Ob)) (nx : Nat) (R : D → List (Nat × Ob) → Nat → Prop) : Prop :=
 callable P f = true ∧ ∀ (F : Nat → Prop) (s : Nat → Value) (Z : Cells) (w : World) (vs : Array Value),RelH ⟨0,F,w,nx,s,Z⟩ s Z H nx w → vs.size = ds.length → (∀ j x,ds[j]? = some x → VV s Z x (vs.getD j undef)) →
  Calls P f vs w fun e w' => ∃ v d H' nx' s' Z',e = .returned v ∧ VR s' Z' d v ∧ LtR nx' d ∧ RelH ⟨0,F,w,nx,s,Z⟩ s' Z' H' nx' w' ∧ R d H' nx'
theorem VC.of0 {s : Nat → Value} {Z : Cells} {d : D} {v : Value} (h : VC s0 Z d v) : VC s Z d v ∧ LtC 0 d := by
 cases d with
 | own id => obtain ⟨h1,⟨_,_,_,h2⟩ | ⟨_,h2⟩⟩ := h <;> (rw [h2] at h1;cases h1)
 | ptr id j => obtain ⟨b,h1,_⟩ := h;cases h1
 | pel id i sz j => obtain ⟨b,_,_,h1,_⟩ := h;cases h1
 | sl id sz off len cap => obtain ⟨b,_,_,_,h1,_⟩ := h;cases h1
 | clo f ids =>
  obtain ⟨vs,h1,h2,h3⟩ := h
  cases ids with
  | nil => exact ⟨⟨vs,h1,h2,fun j id hj => by simp at hj⟩,fun id hid => by cases hid⟩
  | cons i l => obtain ⟨b,g1,_⟩ := h3 0 i rfl;cases g1
 | _ => exact ⟨h,trivial⟩
theorem VV.of0 {s : Nat → Value} {Z : Cells} {d : D} {v : Value} (h : VV s0 Z d v) : VV s Z d v ∧ LtV 0 d := by
 cases d with
 | agg ds =>
  obtain ⟨vs,rfl,hl,hc⟩ := h
  refine ⟨⟨vs,rfl,hl,fun j x hx => (hc j x hx).of0.1⟩,fun x hx => ?_⟩
  obtain ⟨j,hj⟩ := zF hx
  exact (hc j x hj).of0 (s := s0).2
 | _ => simp only [VV,LtV] at h ⊢;exact VC.of0 h
theorem VR.of0 {s : Nat → Value} {Z : Cells} {d : D} {v : Value} (h : VR s0 Z d v) : VR s Z d v ∧ LtR 0 d := by
 cases d with
 | tup ds =>
  obtain ⟨vs,rfl,hl,hc⟩ := h
  refine ⟨⟨vs,rfl,hl,fun j x hx => (hc j x hx).of0.1⟩,fun x hx => ?_⟩
  obtain ⟨j,hj⟩ := zF hx
  exact (hc j x hj).of0 (s := s0).2
 | any => exact ⟨trivial,trivial⟩
 | _ => simp only [VR,LtR] at h ⊢;exact VV.of0 h
theorem VR.lt0 {Z : Cells} {d : D} {v : Value} (h : VR s0 Z d v) : LtR 0 d := (VR.of0 (s := s0) h).2
def Goes (sb : Bool) (B : Base) (w : World) (K : St → Prop) (K' : Act → World → Prop) : Prop := ∀ st' s' Z' a' w',(sb = true → Below w.heap.size w w') → K st' → Rel B s' Z' st' a' w' → K' a' w'
def WCall (P : Program) (sb : Bool) (B : Base) (ao : AOp) (dst : Option Nat) (st : St) (K : St → Prop) : Prop :=
 ∀ (o : Oper) (s : Nat → Value) (Z : Cells) (a : Act) (w : World) (K' : Act → World → Prop) (Q : Exit → Act → World → Prop),cop P o.op = some ao → o.dst = dst → (∀ d,dst = some d → d < B.N) → Rel B s Z st a w → Goes sb B w K K' → o.wp P a w K' Q
def XCall (P : Program) (sb : Bool) (B : Base) (ao : AOp) (dst : Option Nat) (st : St) (K : St → Prop) : Prop :=
 ∀ (o : Oper) (s : Nat → Value) (Z : Cells) (a : Act) (w : World) (K' : Act → World → Prop) (Q : Exit → Act → World → Prop),xcop P o.op = some ao → o.dst = dst → (∀ d,dst = some d → d < B.N) → Rel B s Z st a w → Goes sb B w K K' → o.wp P a w K' Q
def omap {α β : Type} (f : α → Option β) : List α → Option (List β)
 | [] => some []
 | x :: xs => match f x,omap f xs with
  | some y,some ys => some (y :: ys)
  | _,_ => none
def brwC (H : List (Nat × Ob)) : Nat → D → Option D
 | n,.own id => match n with
  | 0 => none
  | n + 1 => match hget H id with
   | some (.row sz xs) => some (.rows sz xs)
   | some (.rowd sz xs) => (omap (omap (brwC H n)) xs).map (.rows sz)
   | _ => none
 | n,.ptr id j => match n with
  | 0 => none
  | n + 1 => match hget H id with
   | some (.cells ds) => (omap (brwC H n) (ds.drop j)).map .pc
   | _ => none
 | _,.pel .. => none
 | _,.sl .. => none
 | n,.clo f ids => match n with
  | 0 => none
  | n + 1 => (omap (fun id => brwC H n (.ptr id 0)) ids).map (.fn f)
 | _,.agg _ => none
 | _,.tup _ => none
 | _,.opt .. => none
 | _,.int k z => some (.int k z)
 | _,.bool b => some (.bool b)
 | _,.str b => some (.str b)
 | _,.nilp => some .nilp
 | _,.any => some .any
 | _,.nil0 => some .nil0
 | _,.rows sz xs => some (.rows sz xs)
 | _,.pc ds => some (.pc ds)
 | _,.fn f cs => some (.fn f cs)
def brwV (H : List (Nat × Ob)) : D → Option D
 | .any => none
 | .agg ds => (omap (brwC H 4) ds).map .agg
 | d => brwC H 4 d
def brwR (H : List (Nat × Ob)) : D → Option D
 | .tup ds => (omap (brwV H) ds).map .tup
 | d => brwV H d
def leC : D → D → Prop
 | .nil0,.rows _ xs => xs = []
 | d,e => d = e
def leL : List D → List D → Prop
 | [],[] => True
 | d :: ds,e :: es => leC d e ∧ leL ds es
 | _,_ => False
def leV : D → D → Prop
 | .agg ds,.agg es => leL ds es
 | d,e => leC d e
def leVL : List D → List D → Prop
 | [],[] => True
 | d :: ds,e :: es => leV d e ∧ leVL ds es
 | _,_ => False
def leR : D → D → Prop
 | .tup ds,.tup es => leVL ds es
 | d,e => leV d e
theorem leL_get : ∀ {ds es : List D},leL ds es → ds.length = es.length ∧ ∀ (j : Nat) (e : D),es[j]? = some e → ∃ d,ds[j]? = some d ∧ leC d e
 | [],[],_ => ⟨rfl,fun j e h => by simp at h⟩
 | d :: ds,e :: es,h => by
  obtain ⟨h1,h2⟩ := leL_get h.2
  refine ⟨by simp [h1],fun j x hx => ?_⟩
  cases j with
  | zero => simp at hx;subst hx;exact ⟨d,rfl,h.1⟩
  | succ j => simpa using h2 j x (by simpa using hx)
 | [],_ :: _,h => h.elim
 | _ :: _,[],h => h.elim
theorem leVL_get : ∀ {ds es : List D},leVL ds es → ds.length = es.length ∧ ∀ (j : Nat) (e : D),es[j]? = some e → ∃ d,ds[j]? = some d ∧ leV d e
 | [],[],_ => ⟨rfl,fun j e h => by simp at h⟩
 | d :: ds,e :: es,h => by
  obtain ⟨h1,h2⟩ := leVL_get h.2
  refine ⟨by simp [h1],fun j x hx => ?_⟩
  cases j with
  | zero => simp at hx;subst hx;exact ⟨d,rfl,h.1⟩
  | succ j => simpa using h2 j x (by simpa using hx)
 | [],_ :: _,h => h.elim
 | _ :: _,[],h => h.elim
theorem leC_sound {s : Nat → Value} {Z : Cells} {d e : D} {v : Value} (h : leC d e) (hv : VC s Z d v) : VC s Z e v := by
 unfold leC at h
 split at h
 ·subst h;cases hv;exact VT.rnil _ _ _
 ·subst h;exact hv
theorem leV_sound {s : Nat → Value} {Z : Cells} {d e : D} {v : Value} (h : leV d e) (hv : VV s Z d v) : VV s Z e v := by
 unfold leV at h
 split at h
 ·obtain ⟨vs,rfl,h1,h2⟩ := hv
  obtain ⟨g1,g2⟩ := leL_get h
  exact ⟨vs,rfl,by omega,fun j x hx => by obtain ⟨y,hy,hl⟩ := g2 j x hx;exact leC_sound hl (h2 j y hy)⟩
 ·unfold leC at h
  split at h
  ·subst h;cases hv;exact VT.rnil _ _ _
  ·subst h;exact hv
theorem leR_sound {s : Nat → Value} {Z : Cells} {d e : D} {v : Value} (h : leR d e) (hv : VR s Z d v) : VR s Z e v := by
 unfold leR at h
 split at h
 ·obtain ⟨vs,rfl,h1,h2⟩ := hv
  obtain ⟨g1,g2⟩ := leVL_get h
  exact ⟨vs,rfl,by omega,fun j x hx => by obtain ⟨y,hy,hl⟩ := g2 j x hx;exact leV_sound hl (h2 j y hy)⟩
 ·unfold leV at h
  split at h
  ·exact leV_sound (d := .agg _) (e := .agg _) h hv
  ·unfold leC at h
   split at h
   ·subst h;cases hv;exact VT.rnil _ _ _
   ·subst h;exact hv
def noC : D → Bool
 | .own _ => false
 | .ptr .. => false
 | .pel .. => false
 | .sl .. => false
 | .clo .. => false
 | _ => true
def noV : D → Bool
 | .agg ds => ds.all noC
 | d => noC d
def flatC : D → Bool
 | .int .. => true
 | .bool _ => true
 | .str _ => true
 | .nilp => true
 | _ => false
def flatV : D → Bool
 | .agg ds => ds.all flatC
 | d => flatC d
def flatR : D → Bool
 | .tup ds => ds.all flatV
 | d => flatV d
def strip : D → D
 | .opt _ d => d
 | d => d
def gof : D → Bool
 | .opt g _ => g
 | _ => true
def evS (env : List (Nat × D)) : Opd → D
 | .t n => strip (eget env n)
 | .k d => d
def gS (env : List (Nat × D)) : Opd → Bool
 | .t n => gof (eget env n)
 | .k _ => true
def opnds : AOp → List Opd
 | .mov x => [x]
 | .pick .. => []
 | .build _ ps => ps.map fun p => p.2.2
 | .load _ _ x => [x]
 | .nchk x => [x]
 | .bin _ x y => [x,y]
 | .eqa _ _ x y => [x,y]
 | .eqp _ x y => [x,y]
 | .eqb _ x y => [x,y]
 | .isnil _ x => [x]
 | .not x => [x]
 | .neg x => [x]
 | .conv _ x => [x]
 | .fld _ _ _ x => [x]
 | .fad _ x => [x]
 | .iada _ _ x i => [x,i]
 | .iads _ x i => [x,i]
 | .ida _ _ _ x i => [x,i]
 | .ext x _ => [x]
 | .len x => [x]
 | .cst _ => []
 | .mn x y => [x,y]
 | .mx x y => [x,y]
 | .slc _ x lo hi mx => x :: (lo.toList ++ (hi.toList ++ mx.toList))
 | .mkfn _ cs => cs
 | .alloc _ => []
 | .box x => [x]
 | .bslice _ _ _ ps => ps.map fun p => p.2
 | .store _ x y => [x,y]
 | .call _ as_ => as_
 | .callv x as_ => x :: as_
 | .app _ _ _ x y => [x,y]
 | .mks _ _ _ l c => [l,c]
 | .xop _ _ xs => xs
def oks (env : List (Nat × D)) (op : AOp) : Bool := (opnds op).all (gS env)
def putO (env : List (Nat × D)) (dst : Option Nat) (d : D) : List (Nat × D) :=
 match dst with
 | some k => eput env k d
 | none => env
def argOk : D → Bool
 | .any => false
 | .tup _ => false
 | .opt .. => false
 | _ => true
def aloud1 (dst : Option Nat) (op : AOp) (st : St) (K : St → Prop) : Prop :=
 match op with
 | .alloc z => K ⟨putO st.env dst (.ptr st.nx 0),eput st.heap st.nx (.cells z),st.nx + 1⟩
 | .box x => 0 < (evS st.env x).cells.length ∧ K ⟨putO st.env dst (.ptr st.nx 0),eput st.heap st.nx (.cells (evS st.env x).cells),st.nx + 1⟩
 | .bslice sz len z ps => match fillD (List.replicate len z).flatten (ps.map fun q => (q.1 * sz,sz,evS st.env q.2)) with
  | some ds => K ⟨putO st.env dst (.own st.nx),eput st.heap st.nx (if ds.all isT then .row sz (chunks sz len ds) else .rowd sz (chunks sz len ds)),st.nx + 1⟩
  | none => False
 | .mks sz bytes z l c => match evS st.env l,evS st.env c with
  | .int _ a,.int _ b => (0 ≤ a ∧ a ≤ b ∧ (bytes : Int) * b ≤ 281474976710656 ∧ b ≤ 9223372036854775807) ∧ K ⟨putO st.env dst (.own st.nx),eput st.heap st.nx (.row sz (List.replicate a.toNat z)),st.nx + 1⟩
  | _,_ => False
 | .store n x y => let d := evS st.env y;(d.cells.length = n ∧ 0 < n) ∧ match evS st.env x with
  | .ptr id j => match hget st.heap id with
   | some (.cells ds) => j + n ≤ ds.length ∧ K ⟨putO st.env dst .any,eput st.heap id (.cells (splice ds j d.cells)),st.nx⟩
   | _ => False
  | .pel id i sz j => match hget st.heap id with
   | some (.row sz' xs) => (sz = sz' ∧ i < xs.length ∧ j + n ≤ sz ∧ d.cells.all isT = true) ∧ K ⟨putO st.env dst .any,eput st.heap id (.row sz' (xs.set i (splice (xs.getD i []) j d.cells))),st.nx⟩
   | some (.rowd sz' xs) => (sz = sz' ∧ i < xs.length ∧ j + n ≤ sz) ∧ K ⟨putO st.env dst .any,eput st.heap id (.rowd sz' (xs.set i (splice (xs.getD i []) j d.cells))),st.nx⟩
   | _ => False
  | _ => False
 | .app sz bytes _ x y => 0 < bytes ∧ match slD st.heap (evS st.env y) with
  | some (ty,sy,ys) => ((sy = sz ∨ ys = []) ∧ ∀ row ∈ ys,row.length = sz) ∧ match evS st.env x with
   | .nil0 => ys.length * bytes ≤ 140737488355328 ∧ K ⟨putO st.env dst (.own st.nx),eput st.heap st.nx (if ty then .row sz ys else .rowd sz ys),st.nx + 1⟩
   | .own id => match hget st.heap id with
    | some (.row sx xs) => (sx = sz ∧ (xs.length + ys.length) * bytes ≤ 140737488355328) ∧ K ⟨putO st.env dst (.own st.nx),eput (herase st.heap id) st.nx (if ty then .row sz (xs ++ ys) else .rowd sz (xs ++ ys)),st.nx + 1⟩
    | some (.rowd sx xs) => (sx = sz ∧ (xs.length + ys.length) * bytes ≤ 140737488355328) ∧ K ⟨putO st.env dst (.own st.nx),eput (herase st.heap id) st.nx (.rowd sz (xs ++ ys)),st.nx + 1⟩
    | _ => False
   | _ => False
  | none => False
 | _ => False
def isWrite : AOp → Bool
 | .store .. => true
 | .app .. => true
 | _ => false
def isSl : D → Bool
 | .sl .. => true
 | _ => false
def aloud (P : Program) (sb : Bool) (B : Base) (dst : Option Nat) (op : AOp) (st : St) (K : St → Prop) : Prop :=
 match op with
 | .call f as_ => WCall P sb B (.call f as_) dst st K
 | .callv x as_ => WCall P sb B (.callv x as_) dst st K
 | .app sz by_ z x y => if isSl (evS st.env x) = true then WCall P sb B (.app sz by_ z x y) dst st K else ((sb && isWrite (.app sz by_ z x y)) = false ∧ oks st.env (.app sz by_ z x y) = true) ∧ aloud1 dst (.app sz by_ z x y) st K
 | .xop k ns xs => XCall P sb B (.xop k ns xs) dst st K
 | op => ((sb && isWrite op) = false ∧ oks st.env op = true) ∧ aloud1 dst op st K
def isLoud : AOp → Bool
 | .alloc _ => true
 | .box _ => true
 | .bslice .. => true
 | .store .. => true
 | .call .. => true
 | .callv .. => true
 | .app .. => true
 | .mks .. => true
 | .xop .. => true
 | _ => false
def pickV (c : Bool) : D → D → Option (Prop × D)
 | .bool p,.bool q => some (True,.bool (bif c then p else q))
 | .bool p,_ => some (c = true,.bool p)
 | _,.bool q => some (c = false,.bool q)
 | _,_ => none
def lenD (H : List (Nat × Ob)) : D → Option Nat
 | .nil0 => some 0
 | .rows _ xs => some xs.length
 | .own id => match hget H id with
  | some (.row _ xs) => some xs.length
  | some (.rowd _ xs) => some xs.length
  | _ => none
 | _ => none
def afin (g : Option Bool) (dst : Option Nat) (p : Prop) (d : D) (st : St) (K : St → Prop) : Prop :=
 match g with
 | none => p ∧ K ⟨putO st.env dst d,st.heap,st.nx⟩
 | some h => (h = true → p) ∧ K ⟨putO st.env dst (.opt h d),st.heap,st.nx⟩
def afin0 (g : Option Bool) (dst : Option Nat) (st : St) (K : St → Prop) : Prop :=
 match g with
 | none => False
 | some h => h = false ∧ K ⟨putO st.env dst (.opt false .any),st.heap,st.nx⟩
def aop (P : Program) (sb : Bool) (B : Base) (g : Option Bool) (dst : Option Nat) (op : AOp) (st : St) (K : St → Prop) : Prop :=
 if isLoud op then
  match g with
  | none => aloud P sb B dst op st K
  | some c => (c = true → aloud P sb B dst op st K) ∧ (c = false → K ⟨putO st.env dst (.opt false .any),st.heap,st.nx⟩)
 else
  match op with
  | .pick c x y => match evS st.env c with
   | .bool b => match pickV b (evS st.env x) (evS st.env y) with
    | some (p,d) => afin g dst ((gS st.env c = true ∧ (b = true → gS st.env x = true) ∧ (b = false → gS st.env y = true)) ∧ p) d st K
    | none => afin0 g dst st K
   | _ => afin0 g dst st K
  | .isnil ne x => match lenD st.heap (evS st.env x) with
   | some n => ∀ b : Bool,(0 < n → b = ne) → afin g dst (gS st.env x = true) (.bool b) st K
   | none => afin0 g dst st K
  | op => match qv (evS st.env) st.heap op with
   | some (p,d) => afin g dst (oks st.env op = true ∧ p) d st K
   | none => afin0 g dst st K
def astep (P : Program) (sb : Bool) (B : Base) (o : AO) (st : St) (K : St → Prop) : Prop :=
 match o.guard with
 | none => aop P sb B none o.dst o.op st K
 | some (t,b) => match eget st.env t with
  | .bool c => aop P sb B (some (if b then c else !c)) o.dst o.op st K
  | .opt g (.bool c) => aop P sb B (some (g && (if b then c else !c))) o.dst o.op st K
  | .opt g _ => g = false ∧ aop P sb B (some false) o.dst o.op st K
  | _ => False
def aops (P : Program) (B : Base) : List AO → St → (St → Prop) → Prop
 | [],st,K => K st
 | o :: os,st,K => astep P false B o st fun st' => aops P B os st' K
theorem valD_sound {s : Nat → Value} {Z : Cells} {v : Value} {d : D} (h : valD v = some d) : VR s Z d v ∧ LtR 0 d := by
 have one : cellD v = some d → VR s Z d v ∧ LtR 0 d := fun hc => by
  refine ⟨VR.of_vc (cellD_sound hc),?_⟩
  have h1 := cellD_lt hc
  have h2 := cellD_sound (s := s) (Z := Z) hc
  cases d <;> first | exact h1 | (cases h2;done)
 unfold valD at h
 split at h
 ·rename_i cs
  cases hc : cellsD cs.toList with
  | none => rw [hc] at h;cases h
  | some ds =>
   rw [hc] at h
   simp only [Option.map_some,zA] at h
   subst h
   obtain ⟨h1,h2⟩ := cellsD_sound (s := s) (Z := Z) _ _ hc
   exact ⟨⟨cs,rfl,by simpa using h1,fun j x hx => by simpa [Array.getD_eq_getD_getElem?,zC] using h2 j x hx⟩,cellsD_lt _ _ hc⟩
 ·exact one h
def evE (env : List (Nat × D)) (x : Opd) : D := if gS env x then evS env x else .any
theorem evE_aux {s : Nat → Value} {Z : Cells} {d : D} {v : Value} (h : VS s Z d v) : VR s Z (if gof d then strip d else .any) v := by
 cases d with
 | opt g d =>
  cases g
  ·trivial
  ·exact h.1 rfl
 | _ => exact h
theorem evE_sound {s : Nat → Value} {Z : Cells} {env : List (Nat × D)} {a : Act} (he : ∀ k,VS s Z (eget env k) (a.tmps.getD k undef)) : ∀ x y,opdC x = some y → VR s Z (evE env y) (a.eval x) := by
 intro x y h
 cases x with
 | tmp t =>
  simp only [opdC,zA] at h
  subst h
  exact evE_aux (he t)
 | const v =>
  simp only [opdC] at h
  cases hv : valD v with
  | none => rw [hv] at h;cases h
  | some d =>
   rw [hv] at h
   simp only [Option.map_some,zA] at h
   subst h
   exact (valD_sound hv).1
 | func f =>
  simp only [opdC,zA] at h
  subst h
  exact VT.fn f [] #[] rfl (fun j d hd => by simp at hd)
 | global g => cases h
theorem evE_ok {env : List (Nat × D)} {x : Opd} (h : gS env x = true) : evE env x = evS env x := by simp [evE,h]
theorem evS_lt {env : List (Nat × D)} {n : Nat} (hl : ∀ k,LtS n (eget env k)) {x : Operand} {y : Opd} (h : opdC x = some y) (hg : gS env y = true) : LtR n (evS env y) := by
 cases x with
 | tmp t =>
  simp only [opdC,zA] at h
  subst h
  have h1 := hl t
  simp only [evS]
  simp only [gS] at hg
  cases hd : eget env t <;> rw [hd] at h1 hg <;> first | exact h1 | exact h1 hg
 | const v =>
  simp only [opdC] at h
  cases hv : valD v with
  | none => rw [hv] at h;cases h
  | some d =>
   rw [hv] at h
   simp only [Option.map_some,zA] at h
   subst h
   exact (valD_sound (s := s0) (Z := fun _ _ => none) hv).2.mono (Nat.zero_le _)
 | func f => simp only [opdC,zA] at h;subst h;trivial
 | global g => cases h
theorem boundD_congr {ev ev' : Opd → D} {x : Option Opd} {n : Nat} (h : ∀ y ∈ x.toList,ev y = ev' y) : boundD x ev n = boundD x ev' n := by
 cases x with
 | none => rfl
 | some y => simp only [boundD,h y (by simp)]
theorem qv_congr {ev ev' : Opd → D} {H : List (Nat × Ob)} {op : AOp} (h : ∀ x ∈ opnds op,ev x = ev' x) : qv ev H op = qv ev' H op := by
 cases op with
 | build z ps =>
  have : ps.map (fun p => (p.1,p.2.1,ev p.2.2)) = ps.map (fun p => (p.1,p.2.1,ev' p.2.2)) := List.map_congr_left fun p hp => by
   rw [h _ (List.mem_map.2 ⟨p,hp,rfl⟩)]
  simp only [qv,this]
 | slc sz x lo hi mx =>
  simp only [opnds,List.mem_cons,List.mem_append] at h
  have h1 := boundD_congr (ev := ev) (ev' := ev') (x := lo) (n := 0) fun y hy => h y (by simp [hy])
  simp only [qv,h x (.inl rfl),h1]
  cases ev' x with
  | rows sz' xs =>
   have h2 := boundD_congr (ev := ev) (ev' := ev') (x := hi) (n := xs.length) fun y hy => h y (by simp [hy])
   have h3 := boundD_congr (ev := ev) (ev' := ev') (x := mx) (n := xs.length) fun y hy => h y (by simp [hy])
   simp only [h2,h3]
  | own id =>
   simp only
   cases hget H id with
   | none => rfl
   | some ob =>
    cases ob with
    | row sz' xs =>
     have h2 := boundD_congr (ev := ev) (ev' := ev') (x := hi) (n := xs.length) fun y hy => h y (by simp [hy])
     have h3 := boundD_congr (ev := ev) (ev' := ev') (x := mx) (n := xs.length) fun y hy => h y (by simp [hy])
     simp only [h2,h3]
    | _ => rfl
  | sl id sz' off len cap =>
   have h2 := boundD_congr (ev := ev) (ev' := ev') (x := hi) (n := len) fun y hy => h y (by simp [hy])
   have h3 := boundD_congr (ev := ev) (ev' := ev') (x := mx) (n := cap) fun y hy => h y (by simp [hy])
   simp only [h2,h3]
  | _ => rfl
 | mkfn f cs =>
  have : cs.map ev = cs.map ev' := List.map_congr_left fun x hx => h x hx
  simp only [qv,this]
 | pick _ _ _ => rfl
 | alloc _ => rfl
 | box _ => rfl
 | bslice _ _ _ _ => rfl
 | store _ _ _ => rfl
 | call _ _ => rfl
 | callv _ _ => rfl
 | app _ _ _ _ _ => rfl
 | mks _ _ _ _ _ => rfl
 | xop _ _ _ => rfl
 | cst _ => rfl
 | isnil _ _ => rfl
 | mov x => simp only [qv,h x (by simp [opnds])]
 | load _ _ x => simp only [qv,h x (by simp [opnds])]
 | nchk x => simp only [qv,h x (by simp [opnds])]
 | not x => simp only [qv,h x (by simp [opnds])]
 | neg x => simp only [qv,h x (by simp [opnds])]
 | conv _ x => simp only [qv,h x (by simp [opnds])]
 | fld _ _ _ x => simp only [qv,h x (by simp [opnds])]
 | fad _ x => simp only [qv,h x (by simp [opnds])]
 | ext x _ => simp only [qv,h x (by simp [opnds])]
 | len x => simp only [qv,h x (by simp [opnds])]
 | bin _ x y => simp only [qv,h x (by simp [opnds]),h y (by simp [opnds])]
 | eqa _ _ x y => simp only [qv,h x (by simp [opnds]),h y (by simp [opnds])]
 | eqp _ x y => simp only [qv,h x (by simp [opnds]),h y (by simp [opnds])]
 | eqb _ x y => simp only [qv,h x (by simp [opnds]),h y (by simp [opnds])]
 | iada _ _ x y => simp only [qv,h x (by simp [opnds]),h y (by simp [opnds])]
 | iads _ x y => simp only [qv,h x (by simp [opnds]),h y (by simp [opnds])]
 | ida _ _ _ x y => simp only [qv,h x (by simp [opnds]),h y (by simp [opnds])]
 | mn x y => simp only [qv,h x (by simp [opnds]),h y (by simp [opnds])]
 | mx x y => simp only [qv,h x (by simp [opnds]),h y (by simp [opnds])]
def cellish : D → Prop
 | .agg _ => False
 | .tup _ => False
 | _ => True
theorem VC.cellish {s : Nat → Value} {Z : Cells} {d : D} {v : Value} (h : VC s Z d v) : cellish d := by
 cases d <;> first | trivial | (cases h;done)
theorem VT.lt {Z : Cells} {d : D} {v : Value} (h : VT Z d v) : LtC 0 d ∧ Go.Proofs.YtbhcfldafpndbaaDoor.cellish d := by
 cases h <;> exact ⟨trivial,trivial⟩
theorem LtR.of_c {n : Nat} {d : D} (h : LtC n d) (hc : cellish d) : LtR n d := by
 cases d <;> first | exact h | exact hc.elim
theorem LtR.of_v {n : Nat} {d : D} (h : LtV n d) (hc : ∀ ds,d ≠ .tup ds) : LtR n d := by
 cases d <;> first | exact h | exact absurd rfl (hc _)
theorem takeD_lt {n k : Nat} {ag : Bool} {ds : List D} (hl : ∀ d ∈ ds,LtC n d ∧ cellish d) {p : Prop} {d : D} (h : takeD ag k ds = some (p,d)) : LtR n d := by
 unfold takeD at h
 split at h <;> simp only [zA,Prod.mk.injEq] at h <;> obtain ⟨_,rfl⟩ := h
 ·exact fun x hx => (hl x (List.mem_of_mem_take hx)).1
 ·cases ds with
  | nil => trivial
  | cons d ds => exact LtR.of_c (hl d (by simp)).1 (hl d (by simp)).2
theorem fillD_mem : ∀ (ps : List (Nat × Nat × D)) (z ds : List D),fillD z ps = some ds → ∀ d ∈ ds,d ∈ z ∨ ∃ p ∈ ps,d ∈ p.2.2.cells
 | [],z,ds,h => by simp only [fillD,zA] at h;subst h;exact fun d hd => .inl hd
 | (off,n,x) :: ps,z,ds,h => by
  simp only [fillD] at h
  split at h
  case isFalse => cases h
  intro d hd
  rcases fillD_mem ps _ ds h d hd with h1 | ⟨p,hp,h1⟩
  ·rcases List.mem_append.1 h1 with h1 | h1
   ·rcases List.mem_append.1 h1 with h1 | h1
    ·exact .inl (List.mem_of_mem_take h1)
    ·exact .inr ⟨(off,n,x),by simp,h1⟩
   ·exact .inl (List.mem_of_mem_drop h1)
  ·exact .inr ⟨p,List.mem_cons_of_mem _ hp,h1⟩
theorem arith_lt {n : Nat} {k : IntKind} {z : Int} {p : Prop} {d : D} (h : arith k z = some (p,d)) : LtR n d := by
 unfold arith at h
 split at h <;> (simp only [zA,Prod.mk.injEq] at h;obtain ⟨_,rfl⟩ := h;trivial)
theorem binD_lt {n : Nat} {op : BinOp} {x y d : D} {p : Prop} (h : binD op x y = some (p, d)) : LtR n d := by
  unfold binD at h
  split at h
  · split at h
    · split at h
      · rename_i he; simp only [zA, Prod.mk.injEq] at h; obtain ⟨_, rfl⟩ := h; exact arith_lt he
      · cases h
    · simp only [zA, Prod.mk.injEq] at h; obtain ⟨_, rfl⟩ := h; trivial
    · split at h
      · split at h
        all_goals first
          | exact arith_lt h
          | (simp only [zA, Prod.mk.injEq] at h; obtain ⟨_, rfl⟩ := h; trivial)
          | (split at h; · (rename_i he; simp only [zA, Prod.mk.injEq] at h; obtain ⟨_, rfl⟩ := h; exact arith_lt he)
             · cases h)
          | cases h
      · cases h
  · split at h
    all_goals first
      | (simp only [zA, Prod.mk.injEq] at h; obtain ⟨_, rfl⟩ := h; trivial)
      | cases h
  · cases h
section
variable {P : Program} {s : Nat → Value} {Z : Cells} {H : List (Nat × Ob)} {w : World} {n : Nat} {ev : Opd → D} {o : Op}
theorem eqC_build {t : TypeId} {ne : Bool} {x y : Opd} {z : List D} {ps : List (Nat × Nat × Opd)} (h : eqC P t ne x y = some (.build z ps)) : False := by
 unfold eqC at h
 split at h <;> (try split at h) <;> simp at h
theorem cop_build {z : List D} {ps : List (Nat × Nat × Opd)} (hc : cop P o = some (.build z ps)) : ∃ t,zeroT P t = some z := by
 cases o with
 | build t qs =>
  simp only [cop] at hc
  split at hc
  case h_2 => cases hc
  rename_i hz _
  split at hc <;> simp only [zA,reduceCtorEq,AOp.build.injEq] at hc
  obtain ⟨rfl,_⟩ := hc
  exact ⟨t,hz⟩
 | binOp op t x y t' =>
  simp only [cop] at hc
  split at hc
  ·cases op <;> simp only [zA,reduceCtorEq] at hc <;> exact (eqC_build hc).elim
  ·cases hc
 | makeFunc fn l cs =>
  simp only [cop] at hc
  cases fn <;> simp only [reduceCtorEq] at hc
  split at hc <;> simp at hc
 | unOp op t x =>
  simp only [cop] at hc
  cases op <;> simp at hc
 | call c =>
  simp only [cop] at hc
  split at hc
  ·split at hc <;> simp at hc
  ·split at hc
   ·split at hc
    ·simp at hc
    ·simp at hc
    ·split at hc <;> simp at hc
    ·cases hc
   ·simp at hc
   ·simp at hc
   ·split at hc
    ·split at hc
     ·split at hc
      ·split at hc <;> simp at hc
      ·cases hc
     ·cases hc
    ·cases hc
   ·cases hc
  ·cases hc
 | buildSlice t n qs =>
  simp only [cop] at hc
  split at hc
  ·split at hc
   ·split at hc <;> simp at hc
   ·cases hc
  ·cases hc
 | slice t x lo hi mx =>
  simp only [cop] at hc
  split at hc
  ·split at hc
   ·split at hc <;> simp at hc
   ·cases hc
  ·cases hc
 | fieldAddr t x i =>
  simp only [cop] at hc
  split at hc
  ·split at hc
   ·split at hc
    ·split at hc <;> simp at hc
    ·cases hc
   ·cases hc
  ·cases hc
 | _ => simp only [cop] at hc;first | (cases hc;done) | (simp at hc;done) | (split at hc <;> first | (simp at hc;done) | (split at hc <;> first | (simp at hc;done) | (split at hc <;> first | (simp at hc;done) | (split at hc <;> simp at hc))))
theorem qv_lt (hk : Know s Z H w) (hh : ∀ id ob,hget H id = some ob → LtO n ob) {ao : AOp} (hc : cop P o = some ao) (hl : ∀ x ∈ opnds ao,LtR n (ev x)) (hv : ∀ x ∈ opnds ao,∃ v,VR s Z (ev x) v) {p : Prop} {d : D}
  (hq : qv ev H ao = some (p,d)) (hp : p) : LtR n d := by
 cases ao with
 | mov x => simp only [qv,zA,Prod.mk.injEq] at hq;obtain ⟨_,rfl⟩ := hq;exact hl x (by simp [opnds])
 | build z ps =>
  simp only [qv] at hq
  split at hq <;> simp only [zA,Prod.mk.injEq,reduceCtorEq] at hq
  rename_i ds hds
  obtain ⟨_,rfl⟩ := hq
  obtain ⟨t,ht⟩ := cop_build hc
  have hz := zeroT_lt ht
  intro x hx
  rcases fillD_mem _ _ _ hds x hx with h1 | ⟨q,hq,h1⟩
  ·exact (hz x h1).mono (Nat.zero_le _)
  ·obtain ⟨r,hr,rfl⟩ := List.mem_map.1 hq
   exact LtR.cells (hl _ (List.mem_map.2 ⟨r,hr,rfl⟩)) x h1
 | load ag k x =>
  obtain ⟨v,hvx⟩ := hv x (by simp [opnds])
  have hlx := hl x (by simp [opnds])
  simp only [qv] at hq
  cases hx : ev x with
  | pc ds =>
   rw [hx] at hq hvx
   cases hvx with
   | pc _ b o c h1 h2 => exact takeD_lt (fun d hd => by obtain ⟨j,hj⟩ := zF hd;have := (h2 j d hj).lt;exact ⟨this.1.mono (Nat.zero_le _),this.2⟩) hq
  | ptr id j =>
   rw [hx] at hq
   simp only at hq
   split at hq
   ·rename_i ds hds
    obtain ⟨b,T,cs,_,_,_,h3⟩ := hk.ob _ _ hds
    exact takeD_lt (fun d hd => by
     have hd' := List.mem_of_mem_drop hd
     obtain ⟨j,hj⟩ := zF hd'
     exact ⟨hh _ _ hds d hd',(h3 j d hj).cellish⟩) hq
   ·cases hq
  | pel id i sz j =>
   rw [hx] at hq
   simp only at hq
   have rowcase : ∀ (R : D → Value → Prop) sz' xs,RowOk R w sz' xs (s id) → (∀ row ∈ xs,∀ d ∈ row,∀ u,R d u → LtC n d ∧ cellish d) → i < xs.length → ∀ p' d',takeD ag k ((xs.getD i []).drop j) = some (p',d') → LtR n d' := fun R sz' xs ho hR hi p' d' ht => by
    refine takeD_lt (fun d hd => ?_) ht
    have hd' := List.mem_of_mem_drop hd
    have hx : xs[i]? = some (xs.getD i []) := by rw [zC,zE hi];rfl
    obtain ⟨l,hl⟩ := zF hd'
    rcases ho.2.2 with ⟨rfl,_⟩ | ⟨g,cap,cur,e,_,_,_,_,_,hcc⟩
    ·simp at hi
    ·exact hR _ (zD hx) d hd' _ (hcc i _ l d hx hl)
   split at hq
   ·rename_i sz' xs hds
    split at hq <;> simp only [zA,Prod.mk.injEq,reduceCtorEq] at hq
    rename_i p' d' ht
    obtain ⟨rfl,rfl⟩ := hq
    exact rowcase _ sz' xs (hk.ob _ _ hds) (fun _ _ _ _ _ h => ⟨h.lt.1.mono (Nat.zero_le _),h.lt.2⟩) hp.1.2 _ _ ht
   ·rename_i sz' xs hds
    split at hq <;> simp only [zA,Prod.mk.injEq,reduceCtorEq] at hq
    rename_i p' d' ht
    obtain ⟨rfl,rfl⟩ := hq
    exact rowcase _ sz' xs (hk.ob _ _ hds) (fun row hr d hd _ h => ⟨hh _ _ hds row hr d hd,h.cellish⟩) hp.1.2 _ _ ht
   ·cases hq
  | _ => rw [hx] at hq;cases hq
 | nchk x =>
  have hlx := hl x (by simp [opnds])
  simp only [qv] at hq
  cases hx : ev x <;> rw [hx] at hq hlx <;> simp only [zA,Prod.mk.injEq,reduceCtorEq] at hq <;> obtain ⟨_,rfl⟩ := hq <;> exact hlx
 | bin op x y => exact binD_lt hq
 | eqa ne ks x y =>
  simp only [qv] at hq
  split at hq
  ·split at hq <;> simp only [zA,Prod.mk.injEq,reduceCtorEq] at hq
   obtain ⟨_,rfl⟩ := hq;trivial
  ·cases hq
 | eqp ne x y =>
  simp only [qv] at hq
  split at hq <;> simp only [zA,Prod.mk.injEq,reduceCtorEq] at hq
  obtain ⟨_,rfl⟩ := hq;trivial
 | eqb ne x y =>
  simp only [qv] at hq
  split at hq <;> simp only [zA,Prod.mk.injEq,reduceCtorEq] at hq
  obtain ⟨_,rfl⟩ := hq;trivial
 | not x =>
  simp only [qv] at hq
  split at hq <;> simp only [zA,Prod.mk.injEq,reduceCtorEq] at hq
  obtain ⟨_,rfl⟩ := hq;trivial
 | neg x =>
  simp only [qv] at hq
  split at hq
  ·exact arith_lt hq
  ·cases hq
 | conv k x =>
  simp only [qv] at hq
  split at hq
  ·exact arith_lt hq
  ·cases hq
 | fld ag off k x =>
  obtain ⟨v,hvx⟩ := hv x (by simp [opnds])
  have hlx := hl x (by simp [opnds])
  simp only [qv] at hq
  cases hx : ev x <;> rw [hx] at hq hlx hvx <;> simp only [reduceCtorEq] at hq
  obtain ⟨vs,_,_,hc⟩ := hvx.agg_inv
  exact takeD_lt (fun d hd => by
   have hd' := List.mem_of_mem_drop hd
   obtain ⟨j,hj⟩ := zF hd'
   exact ⟨hlx d hd',(hc j d hj).cellish⟩) hq
 | fad off x =>
  have hlx := hl x (by simp [opnds])
  simp only [qv] at hq
  cases hx : ev x <;> rw [hx] at hq hlx <;> simp only [zA,Prod.mk.injEq,reduceCtorEq] at hq <;> obtain ⟨_,rfl⟩ := hq <;> first | exact hlx | trivial
 | iada len sz x i =>
  have hlx := hl x (by simp [opnds])
  simp only [qv] at hq
  split at hq
  ·cases hx : ev x <;> rw [hx] at hq hlx <;> simp only [zA,Prod.mk.injEq,reduceCtorEq] at hq <;> obtain ⟨_,rfl⟩ := hq <;> first | exact hlx | trivial
  ·cases hq
 | iads sz x i =>
  have hlx := hl x (by simp [opnds])
  simp only [qv] at hq
  split at hq
  ·cases hx : ev x <;> rw [hx] at hq hlx <;> simp only [reduceCtorEq] at hq
   ·simp only [zA,Prod.mk.injEq] at hq;obtain ⟨_,rfl⟩ := hq;trivial
   ·split at hq <;> simp only [zA,Prod.mk.injEq,reduceCtorEq] at hq <;> obtain ⟨_,rfl⟩ := hq <;> exact hlx
  ·cases hq
 | ida ag len sz x i =>
  obtain ⟨v,hvx⟩ := hv x (by simp [opnds])
  have hlx := hl x (by simp [opnds])
  simp only [qv] at hq
  split at hq
  ·cases hx : ev x <;> rw [hx] at hq hlx hvx <;> simp only [reduceCtorEq] at hq
   obtain ⟨vs,_,_,hc⟩ := hvx.agg_inv
   split at hq <;> simp only [zA,Prod.mk.injEq,reduceCtorEq] at hq
   rename_i ht
   obtain ⟨_,rfl⟩ := hq
   exact takeD_lt (fun d hd => by
    have hd' := List.mem_of_mem_drop hd
    obtain ⟨j,hj⟩ := zF hd'
    exact ⟨hlx d hd',(hc j d hj).cellish⟩) ht
  ·cases hq
 | ext x i =>
  obtain ⟨v,hvx⟩ := hv x (by simp [opnds])
  have hlx := hl x (by simp [opnds])
  simp only [qv] at hq
  cases hx : ev x <;> rw [hx] at hq hlx hvx <;> simp only [zA,Prod.mk.injEq,reduceCtorEq] at hq
  rename_i ds
  obtain ⟨rfl,rfl⟩ := hq
  obtain ⟨vs,_,_,hc⟩ := hvx.tup_inv
  have hx : ds[i]? = some (ds.getD i .any) := by rw [zC,zE hp];rfl
  refine LtR.of_v (hlx _ (zD hx)) (fun es he => ?_)
  have := hc i _ hx
  rw [he] at this
  cases this
 | len x =>
  simp only [qv] at hq
  split at hq
  ·simp only [zA,Prod.mk.injEq] at hq;obtain ⟨_,rfl⟩ := hq;trivial
  ·simp only [zA,Prod.mk.injEq] at hq;obtain ⟨_,rfl⟩ := hq;trivial
  ·simp only [zA,Prod.mk.injEq] at hq;obtain ⟨_,rfl⟩ := hq;trivial
  ·split at hq <;> simp only [zA,Prod.mk.injEq,reduceCtorEq] at hq <;> obtain ⟨_,rfl⟩ := hq <;> trivial
  ·cases hq
 | cst k => simp only [qv,zA,Prod.mk.injEq] at hq;obtain ⟨_,rfl⟩ := hq;trivial
 | mn x y =>
  simp only [qv] at hq
  split at hq <;> simp only [zA,Prod.mk.injEq,reduceCtorEq] at hq
  obtain ⟨_,rfl⟩ := hq;trivial
 | mx x y =>
  simp only [qv] at hq
  split at hq <;> simp only [zA,Prod.mk.injEq,reduceCtorEq] at hq
  obtain ⟨_,rfl⟩ := hq;trivial
 | slc sz x lo hi mx =>
  have hlx := hl x (by simp [opnds])
  simp only [qv] at hq
  cases hx : ev x <;> rw [hx] at hq hlx <;> simp only [reduceCtorEq] at hq
  case own id =>
   split at hq
   ·split at hq
    ·simp only [zA,Prod.mk.injEq] at hq;obtain ⟨_,rfl⟩ := hq;trivial
    ·cases hq
   ·cases hq
  case sl id sz' off len cap =>
   split at hq
   ·simp only [zA,Prod.mk.injEq] at hq;obtain ⟨_,rfl⟩ := hq;exact hlx
   ·cases hq
  ·split at hq
   ·split at hq <;> simp only [zA,Prod.mk.injEq] at hq <;> obtain ⟨_,rfl⟩ := hq <;> trivial
   ·cases hq
 | mkfn f cs =>
  simp only [qv] at hq
  split at hq
  ·simp only [zA,Prod.mk.injEq] at hq
   obtain ⟨_,rfl⟩ := hq;trivial
  ·split at hq <;> simp only [zA,Prod.mk.injEq,reduceCtorEq] at hq
   rename_i ids hids
   obtain ⟨_,rfl⟩ := hq
   intro id hid
   obtain ⟨j,hj⟩ := zF hid
   have h1 := (ptrIds_get _ _ hids).2 j id hj
   rw [List.getElem?_map] at h1
   cases hy : cs[j]? with
   | none => rw [hy] at h1;cases h1
   | some y =>
    rw [hy] at h1
    simp only [Option.map_some,zA] at h1
    have := hl y (zD hy)
    rw [h1] at this
    exact this
 | _ => cases hq
end
theorem put_get (a : Act) (dst : Option Nat) (v : Value) (k : Nat) (h : ∀ d,dst = some d → d < a.tmps.size) : (a.put dst v).tmps.getD k undef = if dst = some k then v else a.tmps.getD k undef := by
 cases dst with
 | none => simp [Act.put]
 | some d =>
  have := h d rfl
  simp only [Act.put,zA]
  rw [Array.getD_eq_getD_getElem?,Array.getD_eq_getD_getElem?,Array.getElem?_setIfInBounds]
  by_cases hk : d = k
  ·subst hk;simp [this]
  ·simp [hk]
theorem put_size (a : Act) (dst : Option Nat) (v : Value) : (a.put dst v).tmps.size = a.tmps.size := by cases dst <;> simp [Act.put]
theorem put_defers (a : Act) (dst : Option Nat) (v : Value) : (a.put dst v).defers = a.defers := by cases dst <;> rfl
theorem eget_putO (env : List (Nat × D)) (dst : Option Nat) (d : D) (k : Nat) : eget (putO env dst d) k = if dst = some k then d else eget env k := by
 cases dst with
 | none => simp [putO]
 | some j =>
  simp only [putO,eget_eput,zA]
  by_cases h : k = j
  ·subst h;simp
  ·rw [if_neg h,if_neg (fun h' => h h'.symm)]
section
variable {P : Program} {B : Base} {w w' : World} {s s' : Nat → Value} {Z Z' : Cells} {st : St} {a : Act}
theorem VS.of_vr {d : D} {v : Value} (h : VR s Z d v) : VS s Z d v := by
 cases d <;> first | exact h | (cases h;done)
theorem LtS.of_r {n : Nat} {d : D} (h : LtR n d) (ho : ∀ g e,d ≠ .opt g e) : LtS n d := by
 cases d <;> first | exact h | exact absurd rfl (ho _ _)
theorem VR.no_opt {d : D} {v : Value} (h : VR s Z d v) : ∀ g e,d ≠ .opt g e := by
 rintro g e rfl;cases h
theorem Rel.step (h : Rel B s Z st a w) {dst : Option Nat} (hdst : ∀ d,dst = some d → d < B.N) {d : D} {v : Value} {H' : List (Nat × Ob)} {nx' : Nat} (hs : ∀ id,id < st.nx → s' id = s id) (hz : ∀ b o v,Z b o = some v → Z' b o = some v) (hn : st.nx ≤ nx')
  (hv : VS s' Z' d v) (hl : LtS nx' d) (hH : RelH B s' Z' H' nx' w') : Rel B s' Z' ⟨putO st.env dst d,H',nx'⟩ (a.put dst v) w' where
 env k := by
  rw [eget_putO,put_get a dst v k (fun d hd => by rw [h.size];exact hdst d hd)]
  split
  ·exact hv
  ·exact (h.env k).mono hz hs (h.elt k)
 elt k := by
  rw [eget_putO]
  split
  ·exact hl
  ·exact (h.elt k).mono hn
 size := by rw [put_size];exact h.size
 defers := by rw [put_defers];exact h.defers
 h := hH
theorem Rel.put (h : Rel B s Z st a w) {dst : Option Nat} (hdst : ∀ d,dst = some d → d < B.N) {d : D} {v : Value} (hv : VS s Z d v) (hl : LtS st.nx d) : Rel B s Z ⟨putO st.env dst d,st.heap,st.nx⟩ (a.put dst v) w :=
 h.step hdst (fun _ _ => rfl) (fun _ _ _ h => h) (Nat.le_refl _) hv hl h.h
theorem omap_some {α β : Type} {f : α → Option β} : ∀ {l : List α} {r : List β},omap f l = some r → r.length = l.length ∧ ∀ (j : Nat) (y : β),r[j]? = some y → ∃ x,l[j]? = some x ∧ f x = some y
 | [],r,h => by simp only [omap,zA] at h;subst h;exact ⟨rfl,fun j y hy => by simp at hy⟩
 | x :: l,r,h => by
  simp only [omap] at h
  split at h <;> simp only [zA,reduceCtorEq] at h
  rename_i y ys h1 h2
  subst h
  obtain ⟨g1,g2⟩ := omap_some h2
  refine ⟨by simp [g1],fun j z hz => ?_⟩
  cases j with
  | zero => simp at hz;subst hz;exact ⟨x,rfl,h1⟩
  | succ j => obtain ⟨u,hu,hf⟩ := g2 j z (by simpa using hz);exact ⟨u,by simpa using hu,hf⟩
def allZ (w : World) : Cells := fun b o => w.cell? ⟨b,o,none⟩
theorem brwC_sound {H : List (Nat × Ob)} (hk : Know s Z H w) {Zp : Cells} (hz : ∀ b o v,Z b o = some v → Zp b o = some v) (hp : ∀ id ob b,hget H id = some ob → blk (s id) = some b → ∀ o v,w.cell? ⟨b,o,none⟩ = some v → Zp b o = some v) :
  ∀ (n : Nat) (d e : D) (v : Value),brwC H n d = some e → VC s Z d v → VT Zp e v := by
 have rowv : ∀ (R : D → Value → Prop) (n id sz : Nat) (xs ys : List (List D)) ob,hget H id = some ob → RowOk R w sz xs (s id) → ys.length = xs.length → (∀ (i : Nat) (row : List D) (j : Nat) (e : D),ys[i]? = some row → row[j]? = some e → j < sz ∧ ∃ row' d,xs[i]? = some row' ∧ row'[j]? = some d ∧ ∀ v,R d v → VT Zp e v) → VT Zp (.rows sz ys) (s id) := by
  intro R n id sz xs ys ob hh ho hl hc
  obtain ⟨h0,hrow,ho⟩ := ho
  rcases ho with ⟨rfl,a,hv⟩ | ⟨g,cap,cur,e,hv,hg,hcap,hm,hcs,hcc⟩
  ·have : ys = [] := List.eq_nil_of_length_eq_zero (by simpa using hl)
   subst this
   rw [hv]
   exact VT.rnil sz a 0
  ·rw [hv,← hl]
   refine VT.rows sz ys g 0 cap (fun i j => cur.getD (i * sz + j) undef) (by omega) (fun i row j d hi hj => ?_) (fun i row j d hi hj => ?_)
   ·obtain ⟨hj',row',x,hx,hxj,_⟩ := hc i row j d hi hj
    refine ⟨hj',?_⟩
    have hil : i < xs.length := (zB.1 hx).1
    have hlt : i * sz + j < cur.size := by
     rw [hcs]
     have : (i + 1) * sz ≤ cap * sz := Nat.mul_le_mul_right _ (by omega)
     rw [Nat.add_mul] at this;omega
    have hcap0 : cap ≠ 0 := by omega
    refine hp id ob g hh (by rw [hv];simp [blk,hcap0]) _ _ ?_
    rw [Nat.zero_add,cell_of_row w g _ cur e (0,0) hg]
    simp [hlt]
   ·obtain ⟨hj',row',x,hx,hxj,hR⟩ := hc i row j d hi hj
    exact hR _ (hcc i row' j x hx hxj)
 intro n
 induction n with
 | zero =>
  intro d e v h hv
  cases d <;> simp only [brwC,zA,reduceCtorEq] at h <;> subst h <;> exact VT.mono hz hv
 | succ n ih =>
  intro d e v h hv
  cases d with
  | own id =>
   simp only [brwC] at h
   obtain ⟨rfl,_⟩ := hv
   split at h
   ·rename_i sz xs hh
    simp only [zA] at h
    subst h
    have ho := hk.ob _ _ hh
    refine rowv _ n id sz xs xs _ hh ho rfl fun i row j e hi hj => ⟨?_,row,e,hi,hj,fun v h => VT.mono hz h⟩
    have := (zB.1 hj).1
    rwa [ho.2.1 _ (zD hi)] at this
   ·rename_i sz xs hh
    cases hm : omap (omap (brwC H n)) xs with
    | none => rw [hm] at h;cases h
    | some ys =>
     rw [hm] at h
     simp only [Option.map_some,zA] at h
     subst h
     obtain ⟨g1,g2⟩ := omap_some hm
     have ho := hk.ob _ _ hh
     refine rowv _ n id sz xs ys _ hh ho g1 fun i row j e hi hj => ?_
     obtain ⟨row',hx,hr⟩ := g2 i row hi
     obtain ⟨f1,f2⟩ := omap_some hr
     obtain ⟨d,hd,hb⟩ := f2 j e hj
     have : j < row'.length := (zB.1 hd).1
     rw [ho.2.1 _ (zD hx)] at this
     exact ⟨this,row',d,hx,hd,fun v h => ih d e v hb h⟩
   ·cases h
  | ptr id j =>
   simp only [brwC] at h
   split at h
   ·rename_i ds hh
    cases hm : omap (brwC H n) (ds.drop j) with
    | none => rw [hm] at h;cases h
    | some es =>
     rw [hm] at h
     simp only [Option.map_some,zA] at h
     subst h
     obtain ⟨g1,g2⟩ := omap_some hm
     obtain ⟨b,hs,rfl⟩ := hv
     obtain ⟨b',T,cs,hs',hg,hsz,hc⟩ := hk.ob _ _ hh
     rw [hs] at hs'
     injection hs' with e;injection e with e;injection e with e _;subst e
     refine VT.pc es b j (fun k => cs.getD (j + k) undef) (fun k e he => ?_) (fun k e he => ?_)
     ·obtain ⟨d,hd,_⟩ := g2 k e he
      rw [List.getElem?_drop] at hd
      have hlt : j + k < cs.size := by rw [hsz];exact (zB.1 hd).1
      refine hp id _ b hh (by rw [hs];rfl) _ _ ?_
      rw [cell_of_row w b _ cs T (0,0) hg]
      simp [hlt]
     ·obtain ⟨d,hd,hb⟩ := g2 k e he
      rw [List.getElem?_drop] at hd
      exact ih d e _ hb (hc _ d hd)
   ·cases h
  | pel _ _ _ _ => simp [brwC] at h
  | sl _ _ _ _ _ => simp [brwC] at h
  | clo f ids =>
   simp only [brwC] at h
   cases hm : omap (fun id => brwC H n (.ptr id 0)) ids with
   | none => rw [hm] at h;cases h
   | some es =>
    rw [hm] at h
    simp only [Option.map_some,zA] at h
    subst h
    obtain ⟨g1,g2⟩ := omap_some hm
    obtain ⟨vs,rfl,h2,h3⟩ := hv
    refine VT.fn f es vs (by rw [h2,g1]) fun j e he => ?_
    obtain ⟨id,hid,hb⟩ := g2 j e he
    obtain ⟨b,k1,k2⟩ := h3 j id hid
    exact ih (.ptr id 0) e _ hb ⟨b,k1,by rw [k2]⟩
  | agg _ => simp [brwC] at h
  | tup _ => simp [brwC] at h
  | opt _ _ => simp [brwC] at h
  | _ => simp only [brwC,zA] at h;subst h;exact VT.mono hz hv
end
section
variable {P : Program} {B : Base} {w w' : World} {s s' : Nat → Value} {Z Z' Zp : Cells} {st : St} {a : Act} {H : List (Nat × Ob)}
theorem brwV_sound (hk : Know s Z H w) (hz : ∀ b o v,Z b o = some v → Zp b o = some v) (hp : ∀ id ob b,hget H id = some ob → blk (s id) = some b → ∀ o v,w.cell? ⟨b,o,none⟩ = some v → Zp b o = some v) {d e : D} {v : Value} (h : brwV H d = some e) (hv : VV s Z d v) : VV s0 Zp e v := by
 have one : brwC H 4 d = some e → VC s Z d v → VV s0 Zp e v := fun h1 h2 => VV.of_vc (VC.of_vt (brwC_sound hk hz hp 4 d e v h1 h2))
 cases d with
 | agg ds =>
  simp only [brwV] at h
  cases hm : omap (brwC H 4) ds with
  | none => rw [hm] at h;cases h
  | some es =>
   rw [hm] at h
   simp only [Option.map_some,zA] at h
   subst h
   obtain ⟨vs,rfl,hl,hc⟩ := hv
   obtain ⟨g1,g2⟩ := omap_some hm
   refine ⟨vs,rfl,by omega,fun j x hx => ?_⟩
   obtain ⟨y,hy,hb⟩ := g2 j x hx
   exact VC.of_vt (brwC_sound hk hz hp 4 y x _ hb (hc j y hy))
 | any => simp only [brwV,reduceCtorEq] at h
 | _ => exact one h hv
theorem brwR_sound (hk : Know s Z H w) (hz : ∀ b o v,Z b o = some v → Zp b o = some v) (hp : ∀ id ob b,hget H id = some ob → blk (s id) = some b → ∀ o v,w.cell? ⟨b,o,none⟩ = some v → Zp b o = some v) {d e : D} {v : Value} (h : brwR H d = some e) (hv : VR s Z d v) : VR s0 Zp e v := by
 cases d with
 | tup ds =>
  simp only [brwR] at h
  cases hm : omap (brwV H) ds with
  | none => rw [hm] at h;cases h
  | some es =>
   rw [hm] at h
   simp only [Option.map_some,zA] at h
   subst h
   obtain ⟨vs,rfl,hl,hc⟩ := hv
   obtain ⟨g1,g2⟩ := omap_some hm
   refine ⟨vs,rfl,by omega,fun j x hx => ?_⟩
   obtain ⟨y,hy,hb⟩ := g2 j x hx
   exact brwV_sound hk hz hp hb (hc j y hy)
 | any => simp only [brwR,brwV,reduceCtorEq] at h
 | _ => simp only [brwR] at h;simp only [VR] at hv;exact VR.of_vv (brwV_sound hk hz hp h hv)
theorem brwC_no {n : Nat} {d e : D} (h : brwC H n d = some e) (hn : noC d = true) : e = d := by
 cases d <;> cases n <;> simp only [brwC,zA,reduceCtorEq] at h <;> first | exact h.symm | cases hn
theorem brwV_no {d e : D} (h : brwV H d = some e) (hn : noV d = true) : e = d := by
 cases d with
 | agg ds =>
  simp only [brwV] at h
  cases hm : omap (brwC H 4) ds with
  | none => rw [hm] at h;cases h
  | some es =>
   rw [hm] at h
   simp only [Option.map_some,zA] at h
   subst h
   obtain ⟨g1,g2⟩ := omap_some hm
   congr 1
   refine List.ext_getElem? fun j => ?_
   cases hj : es[j]? with
   | none =>
    rw [List.getElem?_eq_none_iff] at hj
    rw [List.getElem?_eq_none (by omega)]
   | some x =>
    obtain ⟨y,hy,hb⟩ := g2 j x hj
    have := List.all_eq_true.1 hn y (zD hy)
    rw [hy,brwC_no hb this]
 | any => simp only [brwV,reduceCtorEq] at h
 | _ => simp only [brwV,noV] at h hn;exact brwC_no h hn
theorem VC.no {d : D} {v : Value} (h : VC s Z d v) (hn : noC d = true) : VC s' Z d v := by
 cases d <;> first | exact h | cases hn
theorem VV.no {d : D} {v : Value} (h : VV s Z d v) (hn : noV d = true) : VV s' Z d v := by
 cases d with
 | agg ds => obtain ⟨vs,rfl,hl,hc⟩ := h;exact ⟨vs,rfl,hl,fun j x hx => (hc j x hx).no (List.all_eq_true.1 hn x (zD hx))⟩
 | _ => simp only [VV,noV] at h hn ⊢;exact VC.no h hn
theorem VC.flat {d : D} {v : Value} (h : VC s Z d v) (hf : flatC d = true) : VC s' Z' d v := by
 cases d <;> first | (cases hf;done) | (cases h;constructor)
theorem VV.flat {d : D} {v : Value} (h : VV s Z d v) (hf : flatV d = true) : VV s' Z' d v := by
 cases d with
 | agg ds => obtain ⟨vs,rfl,hl,hc⟩ := h;exact ⟨vs,rfl,hl,fun j x hx => (hc j x hx).flat (List.all_eq_true.1 hf x (zD hx))⟩
 | _ => simp only [VV,flatV] at h hf ⊢;exact VC.flat h hf
theorem VR.flat {d : D} {v : Value} (h : VR s Z d v) (hf : flatR d = true) : VR s' Z' d v := by
 cases d with
 | tup ds => obtain ⟨vs,rfl,hl,hc⟩ := h;exact ⟨vs,rfl,hl,fun j x hx => (hc j x hx).flat (List.all_eq_true.1 hf x (zD hx))⟩
 | any => cases hf
 | _ => simp only [VR,flatR] at h hf ⊢;exact VV.flat h hf
def Left (B : Base) (K : St → Prop) (env : List (Nat × D)) (dst : Option Nat) (st : St) (s : Nat → Value) (Z : Cells) (v : Value) (w' : World) : Prop :=
 ∃ d H' nx' s' Z',VR s' Z' d v ∧ LtR nx' d ∧ RelH B s' Z' H' nx' w' ∧ st.nx ≤ nx' ∧ (∀ id,id < st.nx → s' id = s id) ∧ (∀ b o v,Z b o = some v → Z' b o = some v) ∧ K ⟨putO env dst d,H',nx'⟩
def CallOk (P : Program) (sb : Bool) (B : Base) (f : FuncId) (ds : List D) (dst : Option Nat) (st : St) (K : St → Prop) : Prop :=
 callable P f = true ∧ ∀ (s : Nat → Value) (Z : Cells) (w : World) (vs : Array Value),RelH B s Z st.heap st.nx w → vs.size = ds.length → (∀ j x,ds[j]? = some x → VR s Z x (vs.getD j undef)) →
  Calls P f vs w fun e w' => ∃ v,e = .returned v ∧ (sb = true → Below w.heap.size w w') ∧ Left B K st.env dst st s Z v w'
theorem callFunc_run {f : FuncId} (hc : callable P f = true) (vs : Array Value) : (callFunc f vs).run P w = .ok (.enter f vs) w := by
 unfold callable at hc
 split at hc
 ·rename_i fn hf
  simp only [Bool.and_eq_true,Bool.not_eq_true'] at hc
  obtain ⟨h1,h2⟩ := hc
  have h3 : fn.body.isNone = false := by cases hb : fn.body with
   | none => rw [hb] at h1;cases h1
   | some _ => rfl
  simp only [callFunc,Sem.run_bind,run_program,Result.andThen_ok,hf,h2,h3,Bool.false_eq_true,if_false,Sem.run_pure]
 ·cases hc
end
section
variable {P : Program} {sb : Bool} {B : Base} {w w' : World} {s : Nat → Value} {Z : Cells} {st : St} {a : Act} {o : Oper} {K : St → Prop} {K' : Act → World → Prop} {Q : Exit → Act → World → Prop}
theorem wp_value {v : Value} (hr : (execOp a.eval o).run P w = .ok (.value v) w') (h : K' (a.put o.dst v) w') : o.wp P a w K' Q := by
 unfold Oper.wp;rw [hr];exact h
theorem wp_skp (hr : (execOp a.eval o).run P w = .ok .skip w') (h : K' (a.put o.dst undef) w') : o.wp P a w K' Q := by
 unfold Oper.wp;rw [hr];exact h
theorem wp_enter {f : FuncId} {vs : Array Value} (hr : (execOp a.eval o).run P w = .ok (.enter f vs) w) (h : Calls P f vs w fun e w' => ∃ v,e = .returned v ∧ K' (a.put o.dst v) w') : o.wp P a w K' Q := by
 unfold Oper.wp;rw [hr,Oper.upon_enter]
 refine h.mono fun e w' ⟨v,he,hk⟩ => ?_
 subst he;exact hk
theorem Rel.evE (h : Rel B s Z st a w) : ∀ x y,opdC x = some y → VR s Z (Go.Proofs.YtbhcfldafpndbaaDoor.evE st.env y) (a.eval x) := evE_sound h.env
theorem Rel.vr (h : Rel B s Z st a w) {x : Operand} {y : Opd} (hx : opdC x = some y) (hg : gS st.env y = true) : VR s Z (evS st.env y) (a.eval x) := by
 have := h.evE x y hx
 rwa [evE_ok hg] at this
theorem Rel.lr (h : Rel B s Z st a w) {x : Operand} {y : Opd} (hx : opdC x = some y) (hg : gS st.env y = true) : LtR st.nx (evS st.env y) := evS_lt h.elt hx hg
theorem new_cells (h : Rel B s Z st a w) (hdst : ∀ d,o.dst = some d → d < B.N) {cs : Array Value} {T : TypeId} {ds : List D} (hl : cs.size = ds.length) (hc : ∀ j x,ds[j]? = some x → VC s Z x (cs.getD j undef)) (hn : ∀ d ∈ ds,LtC st.nx d)
  (hG : Goes sb B w K K') (hK : K ⟨putO st.env o.dst (.ptr st.nx 0),eput st.heap st.nx (.cells ds),st.nx + 1⟩) : K' (a.put o.dst (.pointer (some ⟨w.heap.size,0,none⟩))) (w.alloc (.cells cs T)) := by
 refine hG _ _ _ _ _ (fun _ => (Below.refl _ _).alloc (Nat.le_refl _) _) hK (h.step hdst (upd_lt s st.nx _) (fun _ _ _ h => h) (by omega) ?_ ?_ (h.h.cells cs T ds hl hc hn))
 ·exact VC.new s Z st.nx w.heap.size
 ·exact Nat.lt_succ_self _
theorem oks_mem {env : List (Nat × D)} {ao : AOp} (h : oks env ao = true) {x : Opd} (hx : x ∈ opnds ao) : gS env x = true := List.all_eq_true.1 h x hx
theorem new_own (h : Rel B s Z st a w) (hdst : ∀ d,o.dst = some d → d < B.N) {v : Value} (hv : ∃ b n c,v = .slice b n c) {H' : List (Nat × Ob)} (hH : RelH B (upd s st.nx v) Z H' (st.nx + 1) w')
  (hG : Goes sb B w K K') (hbl : sb = true → Below w.heap.size w w') (hK : K ⟨putO st.env o.dst (.own st.nx),H',st.nx + 1⟩) : K' (a.put o.dst v) w' := by
 refine hG _ _ _ _ _ hbl hK (h.step hdst (upd_lt s st.nx _) (fun _ _ _ h => h) (by omega) ?_ ?_ hH)
 ·exact ⟨(upd_same _ _ _).symm,.inl hv⟩
 ·exact Nat.lt_succ_self _
theorem args_sound (h : Rel B s Z st a w) {xs : List Operand} {ys : List Opd} (hc : opdsC xs = some ys) (hg : ∀ y ∈ ys,gS st.env y = true) :
  ys.length = xs.length ∧ ∀ (j : Nat) (d : D),(ys.map (evS st.env))[j]? = some d → VR s Z d (((xs.map a.eval)[j]?).getD undef) := by
 obtain ⟨g1,g2⟩ := opdsC_sound h.evE xs ys hc
 refine ⟨g1,fun j d hd => ?_⟩
 rw [List.getElem?_map] at hd
 cases hy : ys[j]? with
 | none => rw [hy] at hd;cases hd
 | some y =>
  rw [hy] at hd
  simp only [Option.map_some,zA] at hd
  subst hd
  obtain ⟨x,hx,hv⟩ := g2 j y hy
  rw [evE_ok (hg y (zD hy))] at hv
  rw [List.getElem?_map,hx]
  exact hv
theorem goes_call (h : Rel B s Z st a w) (hdst : ∀ d,o.dst = some d → d < B.N) {v : Value} (hb : sb = true → Below w.heap.size w w') (hL : Left B K st.env o.dst st s Z v w') (hG : Goes sb B w K K') : K' (a.put o.dst v) w' := by
 obtain ⟨d,H',nx',s',Z',hr,hlt,hH,hn,hs,hz,hK⟩ := hL
 exact hG _ _ _ _ _ hb hK (h.step hdst hs hz hn (VS.of_vr hr) (LtS.of_r hlt hr.no_opt) hH)
theorem bpartsC_opd : ∀ (ps : List (Nat × Operand)) (qs : List (Nat × Opd)),bpartsC ps = some qs → ps.length = qs.length ∧ ∀ q ∈ qs,∃ x,opdC x = some q.2
 | [],qs,h => by simp only [bpartsC,zA] at h;subst h;exact ⟨rfl,fun q hq => by cases hq⟩
 | (i,x) :: ps,qs,h => by
  simp only [bpartsC] at h
  split at h <;> simp only [zA,reduceCtorEq] at h
  rename_i y ys h1 h2
  subst h
  obtain ⟨g1,g2⟩ := bpartsC_opd ps ys h2
  refine ⟨by simp [g1],fun q hq => ?_⟩
  rcases List.mem_cons.1 hq with rfl | hq
  ·exact ⟨x,h1⟩
  ·exact g2 q hq
theorem fillD_length : ∀ (ps : List (Nat × Nat × D)) (z ds : List D),fillD z ps = some ds → ds.length = z.length
 | [],z,ds,h => by simp only [fillD,zA] at h;subst h;rfl
 | (off,n,x) :: ps,z,ds,h => by
  simp only [fillD] at h
  split at h
  case isFalse => cases h
  rename_i hc
  rw [fillD_length ps _ ds h]
  simp [List.length_take]
  omega
def opLoud : Op → Prop
 | .alloc _ => True
 | .box .. => True
 | .buildSlice .. => True
 | .makeSlice .. => True
 | .store .. => True
 | .call _ => True
 | _ => False
theorem eqC_quiet {t : TypeId} {ne : Bool} {x y : Opd} {ao : AOp} (h : eqC P t ne x y = some ao) : isLoud ao = false := by
 unfold eqC at h
 split at h <;> (try split at h) <;> simp at h <;> first | (subst h;rfl) | (obtain ⟨_,_,rfl⟩ := h;rfl)
theorem cop_quiet {o : Op} {ao : AOp} (hn : ¬ opLoud o) (hc : cop P o = some ao) : isLoud ao = false := by
 cases o with
 | alloc _ => exact absurd trivial hn
 | box _ _ => exact absurd trivial hn
 | buildSlice _ _ _ => exact absurd trivial hn
 | makeSlice _ _ _ => exact absurd trivial hn
 | store _ _ _ => exact absurd trivial hn
 | call _ => exact absurd trivial hn
 | binOp op t x y t' =>
  simp only [cop] at hc
  split at hc
  ·cases op <;> simp only [zA] at hc <;> first | exact eqC_quiet hc | (subst hc;rfl)
  ·cases hc
 | makeFunc fn l cs =>
  simp only [cop] at hc
  cases fn <;> simp only [reduceCtorEq] at hc
  split at hc <;> simp at hc
  obtain ⟨_,_,rfl⟩ := hc;rfl
 | unOp op t x =>
  simp only [cop] at hc
  cases op <;> simp at hc <;> (obtain ⟨_,_,rfl⟩ := hc;rfl)
 | slice t x lo hi mx =>
  simp only [cop] at hc
  split at hc
  ·split at hc
   ·split at hc <;> simp at hc
    subst hc;rfl
   ·cases hc
  ·cases hc
 | fieldAddr t x i =>
  simp only [cop] at hc
  split at hc
  ·split at hc
   ·split at hc
    ·split at hc <;> simp at hc
     subst hc;rfl
    ·cases hc
   ·cases hc
  ·cases hc
 | field t x i =>
  simp only [cop] at hc
  split at hc
  ·split at hc
   ·split at hc <;> simp at hc
    subst hc;rfl
   ·cases hc
  ·cases hc
 | build t ps =>
  simp only [cop] at hc
  split at hc
  ·split at hc <;> simp at hc
   subst hc;rfl
  ·cases hc
 | index t x i =>
  simp only [cop] at hc
  split at hc
  ·split at hc <;> simp at hc
   subst hc;rfl
  ·cases hc
 | indexAddr t x i =>
  simp only [cop] at hc
  split at hc
  ·simp at hc;obtain ⟨_,_,rfl⟩ := hc;rfl
  ·simp at hc;obtain ⟨_,_,rfl⟩ := hc;rfl
  ·cases hc
 | convert u t x =>
  simp only [cop] at hc
  split at hc
  ·simp at hc;obtain ⟨_,_,rfl⟩ := hc;rfl
  ·cases hc
 | load t x =>
  simp only [cop] at hc
  split at hc <;> simp at hc
  subst hc;rfl
 | pick c x y =>
  simp only [cop] at hc
  split at hc <;> simp at hc
  subst hc;rfl
 | _ => simp only [cop] at hc;first | (cases hc;done) | (simp at hc;obtain ⟨_,_,rfl⟩ := hc;rfl)
theorem blk0 {v' : Value} {q : Option Addr} {n : Nat} (h : ∀ k,blk v' = some k → n ≤ k ∨ blk (.slice q 0 0) = some k) : ∀ k,blk v' = some k → n ≤ k := fun k hk => by
 rcases h k hk with h1 | h1
 ·exact h1
 ·cases q <;> simp [blk] at h1
theorem cop_no_xop {o : Op} {k : Nat} {ns : List Nat} {xs : List Opd} (hc : cop P o = some (.xop k ns xs)) : False := by
 by_cases hl : opLoud o
 ·cases o with
  | call c =>
   simp only [cop] at hc
   split at hc
   ·split at hc <;> simp at hc
   ·split at hc
    ·split at hc <;> (try split at hc) <;> simp at hc
    ·simp at hc
    ·simp at hc
    ·split at hc
     ·split at hc
      ·split at hc
       ·split at hc <;> simp at hc
       ·cases hc
      ·cases hc
     ·cases hc
    ·cases hc
   ·cases hc
  | alloc t => simp [cop] at hc
  | box t x => simp [cop] at hc
  | store t x y => simp only [cop] at hc;split at hc <;> simp at hc
  | buildSlice t n qs =>
   simp only [cop] at hc
   split at hc
   ·split at hc
    ·split at hc <;> simp at hc
    ·cases hc
   ·cases hc
  | makeSlice t l c =>
   simp only [cop] at hc
   split at hc
   ·split at hc
    ·split at hc <;> simp at hc
    ·cases hc
   ·cases hc
  | _ => exact hl.elim
 ·have := cop_quiet hl hc
  cases this
theorem aloud_sound (h : Rel B s Z st a w) (hdst : ∀ d,o.dst = some d → d < B.N) {ao : AOp} (hc : cop P o.op = some ao) (hs : aloud P sb B o.dst ao st K) (hG : Goes sb B w K K') : o.wp P a w K' Q := by
 by_cases hcl : (∃ f as_,ao = .call f as_) ∨ ∃ x as_,ao = .callv x as_
 ·rcases hcl with ⟨f,as_,rfl⟩ | ⟨x,as_,rfl⟩
  ·exact hs o s Z a w K' Q hc rfl hdst h hG
  ·exact hs o s Z a w K' Q hc rfl hdst h hG
 by_cases happ : ∃ sz by_ z x y,ao = .app sz by_ z x y ∧ isSl (evS st.env x) = true
 ·obtain ⟨sz,by_,z,x,y,rfl,hsl⟩ := happ
  have hs : WCall P sb B (.app sz by_ z x y) o.dst st K := by simpa only [aloud,hsl,if_true] using hs
  exact hs o s Z a w K' Q hc rfl hdst h hG
 have hs : ((sb && isWrite ao) = false ∧ oks st.env ao = true) ∧ aloud1 o.dst ao st K := by
  cases ao <;> first | (simp only [aloud] at hs;rw [if_neg (fun hsl => happ ⟨_,_,_,_,_,rfl,hsl⟩)] at hs;exact hs) | exact absurd (.inl ⟨_,_,rfl⟩) hcl | exact absurd (.inr ⟨_,_,rfl⟩) hcl | exact (cop_no_xop hc).elim | exact hs
 obtain ⟨⟨hsb,hok⟩,hs⟩ := hs
 cases ho : o.op with
 | alloc t =>
  rw [ho] at hc
  simp only [cop] at hc
  cases hz : zeroT P t with
  | none => rw [hz] at hc;cases hc
  | some z =>
   rw [hz] at hc;simp only [Option.map_some,zA] at hc;subst hc
   obtain ⟨i,v,hi,hv,_,hvc,hcc⟩ := zeroT_sound (s := s) (Z := Z) hz
   refine wp_value (v := .pointer (some ⟨w.heap.size,0,none⟩)) (w' := w.alloc (.cells v.cells t)) ?_ (new_cells h hdst hvc hcc (fun d hd => (zeroT_lt hz d hd).mono (Nat.zero_le _)) hG hs)
   ·unfold execOp;rw [ho]
    simp only [Sem.run_bind,run_alloc hi hv,Result.andThen_ok,Sem.run_pure]
 | box t x =>
  rw [ho] at hc
  simp only [cop] at hc
  cases hx : opdC x with
  | none => rw [hx] at hc;cases hc
  | some y =>
   rw [hx] at hc;simp only [Option.map_some,zA] at hc;subst hc
   obtain ⟨h0,hs⟩ := hs
   have hv := h.vr hx (oks_mem hok (by simp [opnds]))
   obtain ⟨hc1,hc2⟩ := hv.cells h0
   refine wp_value (v := .pointer (some ⟨w.heap.size,0,none⟩)) (w' := w.alloc (.cells (a.eval x).cells t)) ?_ (new_cells h hdst hc1 hc2 (LtR.cells (h.lr hx (oks_mem hok (by simp [opnds])))) hG hs)
   ·unfold execOp;rw [ho]
    simp only [Sem.run_bind,run_box,Result.andThen_ok,Sem.run_pure]
 | buildSlice t len ps =>
  rw [ho] at hc
  simp only [cop] at hc
  split at hc
  case h_2 => cases hc
  rename_i e he
  split at hc
  case h_2 => cases hc
  rename_i n z qs hn hz hqs
  split at hc
  case isFalse => cases hc
  rename_i hb
  simp only [zA] at hc
  subst hc
  simp only [aloud1] at hs
  split at hs
  case h_2 => exact hs.elim
  rename_i ds hds
  have hev : ∀ q ∈ qs,evS st.env q.2 = evE st.env q.2 := fun q hq => (evE_ok (oks_mem hok (List.mem_map.2 ⟨q,hq,rfl⟩))).symm
  have hmap : qs.map (fun q => (q.1 * n,n,evS st.env q.2)) = qs.map (fun q => (q.1 * n,n,evE st.env q.2)) := List.map_congr_left fun q hq => by rw [hev q hq]
  rw [hmap] at hds
  obtain ⟨cs,hrun,hcl,hcv⟩ := bslice_run (P := P) (w := w) he hn hb.1 hb.2 h.evE hz hqs hds
  have hlt : ∀ d ∈ ds,LtC st.nx d := fun d hd => by
   rcases fillD_mem _ _ _ hds d hd with h1 | ⟨q,hq,h1⟩
   ·obtain ⟨l,hl,hd'⟩ := List.mem_flatten.1 h1
    rw [List.eq_of_mem_replicate hl] at hd'
    exact (zeroT_lt hz d hd').mono (Nat.zero_le _)
   ·obtain ⟨r,hr,rfl⟩ := List.mem_map.1 hq
    simp only at h1
    rw [← hev r hr] at h1
    obtain ⟨y,hy⟩ : ∃ x,opdC x = some r.2 := by
     obtain ⟨g1,g2⟩ := bpartsC_opd ps.toList qs hqs
     exact g2 r hr
    exact LtR.cells (h.lr hy (oks_mem hok (List.mem_map.2 ⟨r,hr,rfl⟩))) d h1
  have hdl : ds.length = len * n := by
   have h1 := fillD_length _ _ _ hds
   obtain ⟨i,v,hi,_,hsz,_⟩ := zeroT_sound (s := s) (Z := Z) hz
   have : i.size = n := by unfold szT at hn;rw [hi] at hn;simpa using hn
   rw [h1,List.length_flatten,List.map_replicate,List.sum_replicate_nat]
   rw [← hsz,this]
  have hm : len ≤ maxLen := by
   have : len * 1 ≤ len * n := Nat.mul_le_mul_left _ hb.1
   unfold maxLen;omega
  have hbel : Below w.heap.size w (w.alloc (.cells cs e)) := (Below.refl _ _).alloc (Nat.le_refl _) _
  refine wp_value (v := .slice (some ⟨w.heap.size,0,none⟩) len len) (w' := w.alloc (.cells cs e)) ?_ (new_own h hdst ⟨_,_,_,rfl⟩ (H' := eput st.heap st.nx (if ds.all isT then .row n (chunks n len ds) else .rowd n (chunks n len ds))) ?_ hG (fun _ => hbel) hs)
  ·unfold execOp;rw [ho]
   simp only [Sem.run_bind,hrun,Result.andThen_ok,Sem.run_pure]
  ·refine h.h.new hbel ?_ ?_ (fun k hk => ?_)
   ·split
    ·rename_i hall
     exact rowOk_of_cells hb.1 (heap_alloc_new w _) hcl hdl hm (fun j x hx => VC.vt (hcv j x hx) (List.all_eq_true.1 hall x (zD hx)))
    ·exact rowOk_of_cells hb.1 (heap_alloc_new w _) hcl hdl hm (fun j x hx => VC.mono (fun _ _ _ h => h) (upd_lt s st.nx _) (hlt x (zD hx)) (hcv j x hx))
   ·split
    ·trivial
    ·intro row hr d hd
     obtain ⟨i,hi⟩ := zF hr
     obtain ⟨rfl,_⟩ := chunks_get n len ds i row hi
     exact (hlt d (List.mem_of_mem_drop (List.mem_of_mem_take hd))).mono (by omega)
   ·simp only [blk] at hk
    split at hk
    ·cases hk
    ·cases hk;exact Nat.le_refl _
 | makeSlice t l c =>
  rw [ho] at hc
  simp only [cop] at hc
  split at hc
  case h_2 => cases hc
  rename_i e he
  split at hc
  case h_2 => cases hc
  rename_i i z L C hi hz hL hC
  split at hc
  case isFalse => cases hc
  rename_i h0
  simp only [zA] at hc
  subst hc
  simp only [aloud1] at hs
  split at hs
  case h_2 => exact hs.elim
  rename_i kl x kc y hx hy
  obtain ⟨⟨q1,q2,q3,q4⟩,hs⟩ := hs
  have hvl := h.vr hL (oks_mem hok (by simp [opnds]))
  have hvc := h.vr hC (oks_mem hok (by simp [opnds]))
  rw [hx] at hvl
  rw [hy] at hvc
  obtain ⟨cs,hrun,hzl,hrow⟩ := make_run (P := P) (w := w) (Z := Z) he hi hz h0 (kl := kl) (kc := kc) q1 q2 q3 q4
  refine wp_value (v := .slice (some ⟨w.heap.size,0,none⟩) x.toNat y.toNat) (w' := w.alloc (.cells cs e)) ?_ (new_own h hdst ⟨_,_,_,rfl⟩ (H' := eput st.heap st.nx (.row i.size (List.replicate x.toNat z))) ?_ hG (fun _ => (Below.refl _ _).alloc (Nat.le_refl _) _) hs)
  ·unfold execOp;rw [ho]
   simp only [Sem.run_bind,hvl.int_inv,hvc.int_inv,hrun,Result.andThen_ok,Sem.run_pure]
  ·refine h.h.new ((Below.refl _ _).alloc (Nat.le_refl _) _) (hrow _ (heap_alloc_new w _)) trivial (fun k hk => ?_)
   simp only [blk] at hk
   split at hk
   ·cases hk
   ·cases hk;exact Nat.le_refl _
 | store t x y =>
  rw [ho] at hc
  simp only [cop] at hc
  split at hc <;> simp only [zA,reduceCtorEq] at hc
  rename_i n X Y hn hX hY
  subst hc
  simp only [aloud1] at hs
  obtain ⟨⟨hlen,h0⟩,hs⟩ := hs
  have hvx := h.vr hX (oks_mem hok (by simp [opnds]))
  have hvy := h.vr hY (oks_mem hok (by simp [opnds]))
  have hly := h.lr hY (oks_mem hok (by simp [opnds]))
  have hno : sb = true → False := fun h => by rw [h] at hsb;cases hsb
  have fin : ∀ {w' : World} {H' : List (Nat × Ob)},(Instr.storeAt t (a.eval x) (a.eval y)).run P w = .ok () w' → RelH B s Z H' st.nx w' → K ⟨putO st.env o.dst .any,H',st.nx⟩ → o.wp P a w K' Q := fun hrun hH hK => by
   refine wp_skp (by unfold execOp;rw [ho];simp only [Sem.run_bind,hrun,Result.andThen_ok,Sem.run_pure]) (hG _ _ _ _ _ (fun h => (hno h).elim) hK (h.step hdst (fun _ _ => rfl) (fun _ _ _ h => h) (Nat.le_refl _) ?_ ?_ hH))
   ·trivial
   ·trivial
  generalize evS st.env Y = dy at *
  cases hX' : evS st.env X with
  | ptr id j =>
   rw [hX'] at hs hvx
   simp only [aloud1] at hs
   split at hs
   ·rename_i ds hh
    obtain ⟨hj,hK⟩ := hs
    obtain ⟨w',hrun,hH⟩ := store_cells (P := P) h.h hn hvx hh hvy hly hlen h0 hj
    exact fin hrun hH hK
   ·exact hs.elim
  | pel id i sz j =>
   rw [hX'] at hs hvx
   simp only [aloud1] at hs
   have hmem : ∀ {xs : List (List D)},i < xs.length → ∀ row ∈ xs.set i (splice (xs.getD i []) j dy.cells),∀ d ∈ row,(∃ row' ∈ xs,d ∈ row') ∨ d ∈ dy.cells := fun {xs} hi row hr d hd => by
    rcases List.mem_or_eq_of_mem_set hr with hr | rfl
    ·exact .inl ⟨row,hr,hd⟩
    ·rcases splice_mem hd with hd | hd
     ·refine .inl ⟨xs.getD i [],?_,hd⟩
      rw [zC,zE hi];exact List.getElem_mem hi
     ·exact .inr hd
   split at hs
   ·rename_i sz' xs hh
    obtain ⟨⟨rfl,hi,hj,hall⟩,hK⟩ := hs
    obtain ⟨w',hrun,hH⟩ := store_row (P := P) (R := VT Z) (Ob.row sz) (fun _ _ _ => rfl) h.h hn hvx hh hvy (fun q hq u hu => VC.vt hu (List.all_eq_true.1 hall q hq)) hlen h0 hi hj trivial
    exact fin hrun hH hK
   ·rename_i sz' xs hh
    obtain ⟨⟨rfl,hi,hj⟩,hK⟩ := hs
    obtain ⟨w',hrun,hH⟩ := store_row (P := P) (R := VC s Z) (Ob.rowd sz) (fun _ _ _ => rfl) h.h hn hvx hh hvy (fun q hq u hu => hu) hlen h0 hi hj (fun row hr d hd => by
     rcases hmem hi row hr d hd with ⟨row',hr',hd'⟩ | hd'
     ·exact (h.h.lt _ _ hh).2 row' hr' d hd'
     ·exact LtR.cells hly d hd')
    exact fin hrun hH hK
   ·exact hs.elim
  | _ => rw [hX'] at hs;exact hs.elim
 | call c =>
  obtain ⟨cal,ars,ats⟩ := c
  obtain ⟨ars⟩ := ars
  obtain ⟨ats⟩ := ats
  rw [ho] at hc
  simp only [cop] at hc
  cases cal with
  | invoke _ _ => cases hc
  | value f =>
   simp only at hc
   split at hc <;> simp only [zA,reduceCtorEq] at hc
   ·rename_i f' ys hys
    subst hc
    exact hs.elim
   ·rename_i t ys hys
    subst hc
    exact hs.elim
  | builtin b =>
   simp only at hc
   cases hys : opdsC ars with
   | none => rw [hys] at hc;cases b <;> simp at hc
   | some ys =>
    rw [hys] at hc
    have no : isLoud ao = false → o.wp P a w K' Q := fun hn => by cases ao <;> first | exact hs.elim | cases hn
    split at hc
    ·rename_i X t hb1 hb2 hb3
     split at hc
     ·simp only [zA] at hc;subst hc;exact no rfl
     ·simp only [zA] at hc;subst hc;exact no rfl
     ·split at hc <;> simp only [zA,reduceCtorEq] at hc;subst hc;exact no rfl
     ·cases hc
    ·simp only [zA] at hc;subst hc;exact no rfl
    ·simp only [zA] at hc;subst hc;exact no rfl
    ·rename_i X Y t t' hb2
     split at hc
     case isFalse => cases hc
     rename_i htt
     subst htt
     split at hc
     case h_2 => cases hc
     rename_i e he
     split at hc
     case h_2 => cases hc
     rename_i i z hi hz
     split at hc
     case isFalse => cases hc
     rename_i h0
     simp only [zA] at hc
     subst hc
     simp only [zA] at hb2
     subst hb2
     obtain ⟨x,y,rfl⟩ : ∃ x y,ars = [x,y] := list_two (by have := (opdsC_sound h.evE ars _ hys).1;simpa using this.symm)
     simp only [opdsC] at hys
     have hX : opdC x = some X ∧ opdC y = some Y := by
      cases hx : opdC x <;> cases hy : opdC y <;> rw [hx,hy] at hys <;> simp at hys ⊢
      exact hys
     obtain ⟨hX,hY⟩ := hX
     have hvx := h.vr hX (oks_mem hok (by simp [opnds]))
     have hvy := h.vr hY (oks_mem hok (by simp [opnds]))
     have hlx := h.lr hX (oks_mem hok (by simp [opnds]))
     simp only [aloud1] at hs
     obtain ⟨hby,hs⟩ := hs
     have hno : sb = true → False := fun h => by rw [h] at hsb;cases hsb
     split at hs
     case h_2 => exact hs.elim
     rename_i ty sy ys hsl
     obtain ⟨⟨hsy,hrow⟩,hs⟩ := hs
     obtain ⟨i',v,hi',hv,hsz,hvc,_⟩ := zeroT_sound (s := s) (Z := Z) hz
     obtain rfl : i' = i := Option.some.inj (hi'.symm.trans hi)
     have hu := sliceT_some he
     have hat : SlAt (if ty then VT Z else VC s Z) w i'.size ys (a.eval y) := by
      have := slD_at h.h.know hvy hsl
      rcases hsy with rfl | rfl
      ·exact this
      ·obtain ⟨q,cap,h1,h2,_⟩ := this
       exact ⟨q,cap,h1,h2,fun h => by simp at h⟩
     have hlty : ty = false → ∀ row ∈ ys,∀ d ∈ row,LtC st.nx d := fun hty row hr d hd => by
      subst hty
      unfold slD at hsl
      split at hsl <;> (try simp only [zA,Prod.mk.injEq,reduceCtorEq] at hsl)
      ·exact absurd hsl.1 (by simp)
      ·exact absurd hsl.1 (by simp)
      ·split at hsl <;> simp only [zA,Prod.mk.injEq,reduceCtorEq] at hsl
       ·exact absurd hsl.1 (by simp)
       ·rename_i hh
        obtain ⟨_,rfl,rfl⟩ := hsl
        exact (h.h.lt _ _ hh).2 row hr d hd
     have hexec : ∀ {v' : Value} {w' : World},(Builtin.append_ #[t,t] o.type #[a.eval x,a.eval y]).run P w = .ok v' w' → (execOp a.eval o).run P w = .ok (.value v') w' := fun hrun => by
      unfold execOp;rw [ho]
      simp only [resolve,invoke,builtin,Sem.run_bind,Sem.run_pure,Result.andThen_ok,List.map_toArray,List.map_cons,List.map_nil,hrun]
     have one : ∀ d q,VC s Z d q → q.oneCell' = true := fun d q hq => hq.one
     have oneT : ∀ d q,VT Z d q → q.oneCell' = true := fun d q hq => hq.one
     cases hX' : evS st.env X with
     | nil0 =>
      rw [hX'] at hs hvx
      simp only [aloud1] at hs
      obtain ⟨hlen,hK⟩ := hs
      generalize hax : a.eval x = vx at *
      cases hvx with
      | nil0 q =>
      cases ty with
      | true =>
       obtain ⟨v',w',hrun,hg,hr,hbl,hsv⟩ := append_run (P := P) (w := w) (R := VT Z) (R1 := VT Z) (R2 := VT Z) (ty := o.type) hu hi hv (by omega) h0 hby (fun _ _ h => h) (fun _ _ h => h) oneT (xs := []) (.inl ⟨rfl,q,rfl⟩) hat hrow (by simpa using hlen)
       refine wp_value (hexec hrun) (new_own h hdst hsv (H' := eput st.heap st.nx (.row i'.size ys)) ?_ hG (fun h => (hno h).elim) hK)
       have hb : Below w.heap.size w w' := ⟨hg.os,hg.tape,hg.output,hg.size,fun k hk => hg.block k hk (by cases q <;> simp [blk])⟩
       exact h.h.new hb hr trivial (blk0 hbl)
      | false =>
       obtain ⟨v',w',hrun,hg,hr,hbl,hsv⟩ := append_run (P := P) (w := w) (R := VC s Z) (R1 := VC s Z) (R2 := VC s Z) (ty := o.type) hu hi hv (by omega) h0 hby (fun _ _ h => h) (fun _ _ h => h) one (xs := []) (.inl ⟨rfl,q,rfl⟩) hat hrow (by simpa using hlen)
       refine wp_value (hexec hrun) (new_own h hdst hsv (H' := eput st.heap st.nx (.rowd i'.size ys)) ?_ hG (fun h => (hno h).elim) hK)
       have hb : Below w.heap.size w w' := ⟨hg.os,hg.tape,hg.output,hg.size,fun k hk => hg.block k hk (by cases q <;> simp [blk])⟩
       have hl := hlty rfl
       refine h.h.new hb (RowOk.mono hr (fun _ _ => rfl) fun row hr d hd u hu => VC.mono (fun _ _ _ h => h) (upd_lt s st.nx _) (hl row (by simpa using hr) d hd) hu) (fun row hr d hd => (hl row hr d hd).mono (by omega)) (blk0 hbl)
     | own id =>
      rw [hX'] at hs hvx hlx
      simp only [aloud1] at hs
      obtain ⟨hvx1,_⟩ := hvx
      have fin : ∀ (R : D → Value → Prop) (ob : Ob) (xs : List (List D)) (v' : Value) (w' : World),hget st.heap id = some ob → (Builtin.append_ #[t,t] o.type #[a.eval x,a.eval y]).run P w = .ok v' w' → w.grownBy w' (blk (a.eval x)) → (∀ k,blk v' = some k → w.heap.size ≤ k ∨ blk (a.eval x) = some k) → (∃ q n c,v' = .slice q n c) →
        ∀ ob',ObOk (upd s st.nx v') Z w' ob' v' → LtO (st.nx + 1) ob' → K ⟨putO st.env o.dst (.own st.nx),eput (herase st.heap id) st.nx ob',st.nx + 1⟩ → o.wp P a w K' Q := fun R ob xs v' w' hh hrun hg hbl hsv ob' hob hlt hK => by
       rw [hvx1] at hg hbl
       exact wp_value (hexec hrun) (new_own h hdst hsv (h.h.move hh hg hob hlt hbl) hG (fun h => (hno h).elim) hK)
      split at hs
      ·rename_i sx xs hh
       obtain ⟨⟨rfl,hlen⟩,hK⟩ := hs
       have hro : RowOk (VT Z) w i'.size xs (a.eval x) := by rw [hvx1];exact h.h.ob _ _ hh
       cases ty with
       | true =>
        obtain ⟨v',w',hrun,hg,hr,hbl,hsv⟩ := append_run (P := P) (w := w) (R := VT Z) (R1 := VT Z) (R2 := VT Z) (ty := o.type) hu hi hv (by omega) h0 hby (fun _ _ h => h) (fun _ _ h => h) oneT (.inr hro) hat hrow hlen
        exact fin (VT Z) _ xs v' w' hh hrun hg hbl hsv (.row i'.size (xs ++ ys)) hr trivial hK
       | false =>
        obtain ⟨v',w',hrun,hg,hr,hbl,hsv⟩ := append_run (P := P) (w := w) (R := VC s Z) (R1 := VT Z) (R2 := VC s Z) (ty := o.type) hu hi hv (by omega) h0 hby (fun _ _ h => VC.of_vt h) (fun _ _ h => h) one (.inr hro) hat hrow hlen
        have hl := hlty rfl
        have hxl : ∀ row ∈ xs,∀ d ∈ row,LtC st.nx d := fun row hr d hd => by
         obtain ⟨i,hi⟩ := zF hr
         obtain ⟨j,hj⟩ := zF hd
         obtain ⟨q,cap,h1,h2,h3⟩ := hro.at
         obtain ⟨b,off,rfl,hc⟩ := h3 (by have := (zB.1 hi).1;omega)
         obtain ⟨u,_,hu⟩ := hc i row j d hi hj
         exact hu.lt.1.mono (Nat.zero_le _)
        have hboth : ∀ row ∈ xs ++ ys,∀ d ∈ row,LtC st.nx d := fun row hr => by
         rcases List.mem_append.1 hr with h1 | h1
         ·exact hxl row h1
         ·exact hl row h1
        exact fin (VC s Z) _ xs v' w' hh hrun hg hbl hsv (.rowd i'.size (xs ++ ys)) (RowOk.mono (R' := VC (upd s st.nx v') Z) hr (fun _ _ => rfl) fun row hr d hd u hu => VC.mono (fun _ _ _ h => h) (upd_lt s st.nx _) (hboth row hr d hd) hu) (fun row hr d hd => (hboth row hr d hd).mono (by omega)) hK
      ·rename_i sx xs hh
       obtain ⟨⟨rfl,hlen⟩,hK⟩ := hs
       have hro : RowOk (VC s Z) w i'.size xs (a.eval x) := by rw [hvx1];exact h.h.ob _ _ hh
       have hat' : SlAt (VC s Z) w i'.size ys (a.eval y) := by
        cases ty with
        | true =>
         obtain ⟨q,cap,h1,h2,h3⟩ := hat
         exact ⟨q,cap,h1,h2,fun h => by obtain ⟨b,off,h4,h5⟩ := h3 h;exact ⟨b,off,h4,fun i row j d hi hj => by obtain ⟨u,h6,h7⟩ := h5 i row j d hi hj;exact ⟨u,h6,VC.of_vt h7⟩⟩⟩
        | false => exact hat
       obtain ⟨v',w',hrun,hg,hr,hbl,hsv⟩ := append_run (P := P) (w := w) (R := VC s Z) (R1 := VC s Z) (R2 := VC s Z) (ty := o.type) hu hi hv (by omega) h0 hby (fun _ _ h => h) (fun _ _ h => h) one (.inr hro) hat' hrow hlen
       have hyl : ∀ row ∈ ys,∀ d ∈ row,LtC st.nx d := fun row hr d hd => by
        cases ty with
        | false => exact hlty rfl row hr d hd
        | true =>
         obtain ⟨i,hi⟩ := zF hr
         obtain ⟨j,hj⟩ := zF hd
         obtain ⟨q,cap,h1,h2,h3⟩ := hat
         obtain ⟨b,off,rfl,hc⟩ := h3 (by have := (zB.1 hi).1;omega)
         obtain ⟨u,_,hu⟩ := hc i row j d hi hj
         exact (VT.lt (Z := Z) hu).1.mono (Nat.zero_le _)
       have hboth : ∀ row ∈ xs ++ ys,∀ d ∈ row,LtC st.nx d := fun row hr => by
        rcases List.mem_append.1 hr with h1 | h1
        ·exact fun d hd => (h.h.lt _ _ hh).2 row h1 d hd
        ·exact hyl row h1
       exact fin (VC s Z) _ xs v' w' hh hrun hg hbl hsv (.rowd i'.size (xs ++ ys)) (RowOk.mono (R' := VC (upd s st.nx v') Z) hr (fun _ _ => rfl) fun row hr d hd u hu => VC.mono (fun _ _ _ h => h) (upd_lt s st.nx _) (hboth row hr d hd) hu) (fun row hr d hd => (hboth row hr d hd).mono (by omega)) hK
      ·exact hs.elim
     | _ => rw [hX'] at hs;exact hs.elim
    ·cases hc
 | _ =>
  have hn := cop_quiet (P := P) (o := o.op) (by rw [ho];exact fun h => h) (by rw [ho];rw [ho] at hc;exact hc)
  cases ao <;> first | exact hs.elim | cases hn
end
section
variable {P : Program} {sb : Bool} {B : Base} {w w' : World} {s : Nat → Value} {Z : Cells} {st : St} {a : Act} {o : Oper} {K : St → Prop} {K' : Act → World → Prop} {Q : Exit → Act → World → Prop}
theorem opdsC_mem : ∀ (xs : List Operand) (ys : List Opd),opdsC xs = some ys → ∀ y ∈ ys,∃ x,opdC x = some y
 | [],ys,h,y,hy => by simp only [opdsC,zA] at h;subst h;cases hy
 | x :: xs,ys,h,y,hy => by
  simp only [opdsC] at h
  split at h <;> simp only [zA,reduceCtorEq] at h
  rename_i z zs h1 h2
  subst h
  rcases List.mem_cons.1 hy with rfl | hy
  ·exact ⟨x,h1⟩
  ·exact opdsC_mem xs zs h2 y hy
theorem partsC_mem {t : TypeId} : ∀ (ps : List (Nat × Operand)) (qs : List (Nat × Nat × Opd)),partsC P t ps = some qs → ∀ q ∈ qs,∃ x,opdC x = some q.2.2
 | [],qs,h,q,hq => by simp only [partsC,zA] at h;subst h;cases hq
 | (i,x) :: ps,qs,h,q,hq => by
  simp only [partsC] at h
  split at h <;> simp only [zA,reduceCtorEq] at h
  rename_i o n z zs h1 h2 h3
  subst h
  rcases List.mem_cons.1 hq with rfl | hq
  ·exact ⟨x,h2⟩
  ·exact partsC_mem ps zs h3 q hq
theorem optC_mem {x : Option Operand} {X : Option Opd} (h : optC x = some X) : ∀ y ∈ X.toList,∃ z,opdC z = some y := by
 cases x with
 | none => simp only [optC,zA] at h;subst h;intro y hy;cases hy
 | some x =>
  simp only [optC] at h
  cases hx : opdC x with
  | none => rw [hx] at h;cases h
  | some Y => rw [hx] at h;simp only [Option.map_some,zA] at h;subst h;intro y hy;simp at hy;subst hy;exact ⟨x,hx⟩
theorem mem1 {x y : Opd} {X : Operand} (h : opdC X = some x) (hy : y ∈ [x]) : ∃ z,opdC z = some y := by simp at hy;subst hy;exact ⟨X,h⟩
theorem mem2 {x x' y : Opd} {X X' : Operand} (h : opdC X = some x) (h' : opdC X' = some x') (hy : y ∈ [x,x']) : ∃ z,opdC z = some y := by
 simp at hy
 rcases hy with rfl | rfl
 ·exact ⟨X,h⟩
 ·exact ⟨X',h'⟩
theorem cop_opnds {o : Op} {ao : AOp} (hc : cop P o = some ao) (hq : isLoud ao = false) : ∀ y ∈ opnds ao,∃ x,opdC x = some y := by
 intro y hy
 cases o with
 | move x => simp only [cop] at hc;simp at hc;obtain ⟨z,hz,rfl⟩ := hc;exact mem1 hz hy
 | assign x => simp only [cop] at hc;simp at hc;obtain ⟨z,hz,rfl⟩ := hc;exact mem1 hz hy
 | pick c a b =>
  simp only [cop] at hc
  split at hc <;> simp at hc
  subst hc;cases hy
 | alloc t => simp only [cop] at hc;simp at hc;obtain ⟨z,hz,rfl⟩ := hc;cases hq
 | box t x => simp only [cop] at hc;simp at hc;obtain ⟨z,hz,rfl⟩ := hc;cases hq
 | build t ps =>
  simp only [cop] at hc
  split at hc
  case h_2 => cases hc
  rename_i z qs hz hqs
  split at hc <;> simp at hc
  subst hc
  obtain ⟨q,hq',rfl⟩ := List.mem_map.1 hy
  exact partsC_mem _ _ hqs q hq'
 | buildSlice t n ps =>
  simp only [cop] at hc
  split at hc
  ·split at hc
   ·split at hc <;> simp at hc
    subst hc;cases hq
   ·cases hc
  ·cases hc
 | load t x =>
  simp only [cop] at hc
  split at hc <;> simp at hc
  rename_i h3
  subst hc;exact mem1 h3 hy
 | store t x y =>
  simp only [cop] at hc
  split at hc <;> simp at hc
  subst hc;cases hq
 | nilCheck x => simp only [cop] at hc;simp at hc;obtain ⟨z,hz,rfl⟩ := hc;exact mem1 hz hy
 | binOp op t x z t' =>
  simp only [cop] at hc
  split at hc
  case h_2 => cases hc
  rename_i X Y hX hY
  have he : ∀ ne,eqC P t ne X Y = some ao → ∃ x,opdC x = some y := fun ne h => by
   unfold eqC at h
   split at h <;> (try split at h) <;> simp at h <;> first | (subst h;exact mem2 hX hY hy) | (subst h;exact mem1 hX hy) | (obtain ⟨_,_,rfl⟩ := h;exact mem2 hX hY hy)
  cases op <;> simp only [zA] at hc <;> first | exact he _ hc | (subst hc;exact mem2 hX hY hy)
 | unOp op t x =>
  simp only [cop] at hc
  cases op <;> simp at hc <;> (obtain ⟨z,hz,rfl⟩ := hc;exact mem1 hz hy)
 | convert u t x =>
  simp only [cop] at hc
  split at hc
  ·simp at hc;obtain ⟨z,hz,rfl⟩ := hc;exact mem1 hz hy
  ·cases hc
 | makeFunc fn l cs =>
  simp only [cop] at hc
  cases fn <;> simp only [reduceCtorEq] at hc
  split at hc <;> simp at hc
  obtain ⟨z,hz,rfl⟩ := hc;exact opdsC_mem _ _ hz y hy
 | makeSlice t l c =>
  simp only [cop] at hc
  split at hc
  ·split at hc
   ·split at hc <;> simp at hc
    subst hc;cases hq
   ·cases hc
  ·cases hc
 | slice t x lo hi mx =>
  simp only [cop] at hc
  split at hc
  case h_2 => cases hc
  split at hc
  case h_2 => cases hc
  rename_i n X LO HI MX hn hX hLO hHI hMX
  split at hc <;> simp at hc
  subst hc
  rcases List.mem_cons.1 hy with rfl | hy
  ·exact ⟨x,hX⟩
  ·rcases List.mem_append.1 hy with hy | hy
   ·exact optC_mem hLO y hy
   ·rcases List.mem_append.1 hy with hy | hy
    ·exact optC_mem hHI y hy
    ·exact optC_mem hMX y hy
 | fieldAddr t x i =>
  simp only [cop] at hc
  split at hc
  case h_2 => cases hc
  split at hc
  case h_2 => cases hc
  split at hc
  case h_2 => cases hc
  rename_i hX
  split at hc <;> simp at hc
  subst hc;exact mem1 hX hy
 | field t x i =>
  simp only [cop] at hc
  split at hc
  case h_2 => cases hc
  split at hc
  case h_2 => cases hc
  split at hc
  case h_2 => cases hc
  rename_i hX
  simp at hc
  subst hc;exact mem1 hX hy
 | indexAddr t x i =>
  simp only [cop] at hc
  split at hc
  ·rename_i hX hI
   simp at hc;obtain ⟨_,_,rfl⟩ := hc;exact mem2 hX hI hy
  ·rename_i hX hI
   simp at hc;obtain ⟨_,_,rfl⟩ := hc;exact mem2 hX hI hy
  ·cases hc
 | index t x i =>
  simp only [cop] at hc
  split at hc
  case h_2 => cases hc
  rename_i hX hI
  split at hc <;> simp at hc
  subst hc;exact mem2 hX hI hy
 | extract x i => simp only [cop] at hc;simp at hc;obtain ⟨z,hz,rfl⟩ := hc;exact mem1 hz hy
 | call c =>
  simp only [cop] at hc
  split at hc
  ·split at hc <;> simp at hc <;> (subst hc;cases hq)
  ·split at hc
   ·rename_i hx hat
    have hm := opdsC_mem c.args.toList _ (by assumption)
    split at hc
    ·simp at hc;subst hc;exact hm y hy
    ·simp at hc;subst hc;cases hy
    ·split at hc <;> simp at hc
     subst hc;cases hy
    ·cases hc
   ·rename_i hx
    simp at hc;subst hc;exact opdsC_mem c.args.toList _ (by assumption) y hy
   ·rename_i hx
    simp at hc;subst hc;exact opdsC_mem c.args.toList _ (by assumption) y hy
   ·split at hc
    ·split at hc
     ·split at hc
      ·split at hc <;> simp at hc
       subst hc;cases hq
      ·cases hc
     ·cases hc
    ·cases hc
   ·cases hc
  ·cases hc
 | _ => cases hc
theorem Goes.skip (h : Rel B s Z st a w) (hdst : ∀ d,o.dst = some d → d < B.N) (hG : Goes sb B w K K') (hK : K ⟨putO st.env o.dst (.opt false .any),st.heap,st.nx⟩) : K' (a.put o.dst undef) w :=
 hG _ _ _ _ _ (fun _ => Below.refl _ _) hK (h.put hdst ⟨(fun h => by cases h),fun _ => rfl⟩ (fun h => by cases h))
theorem does_pick {c x y : Operand} (ho : o.op = .pick c x y) {X Y : D} {b : Bool} (hc : a.eval c = .bool b) {p : Prop} {d : D} (hp : pickV b X Y = some (p,d)) (hpp : p) (hx : b = true → VR s Z X (a.eval x)) (hy : b = false → VR s Z Y (a.eval y)) : ∃ u,VR s Z d u ∧ LtR 0 d ∧ ∀ w,(execOp a.eval o).run P w = .ok (.value u) w := by
 have fin : ∀ q : Bool,(a.eval (if b then x else y)) = .bool q → ∃ u,VR s Z (.bool q) u ∧ LtR 0 (.bool q) ∧ ∀ w,(execOp a.eval o).run P w = .ok (.value u) w := fun q hq => by
  refine ⟨_,VR.bool_mk _,trivial,fun w => ?_⟩
  unfold execOp;rw [ho]
  simp only [Sem.run_bind,hc,asBool,Sem.run_pure,Result.andThen_ok]
  cases b
  ·simp only [Bool.false_eq_true,if_false] at hq ⊢;rw [hq]
  ·simp only [if_true] at hq ⊢;rw [hq]
 unfold pickV at hp
 split at hp
 ·simp only [zA,Prod.mk.injEq] at hp
  obtain ⟨_,rfl⟩ := hp
  cases b
  ·exact fin _ (hy rfl).bool_inv
  ·exact fin _ (hx rfl).bool_inv
 ·simp only [zA,Prod.mk.injEq] at hp
  obtain ⟨rfl,rfl⟩ := hp
  subst hpp
  exact fin _ (hx rfl).bool_inv
 ·simp only [zA,Prod.mk.injEq] at hp
  obtain ⟨rfl,rfl⟩ := hp
  subst hpp
  exact fin _ (hy rfl).bool_inv
 ·cases hp
theorem quiet_val (h : Rel B s Z st a w) {ao : AOp} (hc : cop P o.op = some ao) {p : Prop} {d : D} (hq : qv (evS st.env) st.heap ao = some (p,d)) (hok : oks st.env ao = true) (hp : p) :
  ∃ u,VR s Z d u ∧ LtR st.nx d ∧ ∀ w',Ok4 w o w' → (execOp a.eval o).run P w' = .ok (.value u) w' := by
 have hcg : qv (evE st.env) st.heap ao = some (p,d) := by rw [← hq];exact qv_congr fun x hx => evE_ok (oks_mem hok hx)
 obtain ⟨u,hu,hr⟩ := qv_sound (P := P) (o := o) h.h.know h.evE hc hcg hp
 have hnl : isLoud ao = false := by cases ao <;> first | rfl | cases hq
 refine ⟨u,hu,?_,hr⟩
 refine qv_lt (P := P) (s := s) (Z := Z) h.h.know (fun id ob hh => (h.h.lt id ob hh).2) hc (fun x hx => ?_) (fun x hx => ?_) hcg hp
 ·obtain ⟨y,hy⟩ := cop_opnds hc hnl x hx
  rw [evE_ok (oks_mem hok hx)]
  exact h.lr hy (oks_mem hok hx)
 ·obtain ⟨y,hy⟩ := cop_opnds hc hnl x hx
  exact ⟨_,h.evE y x hy⟩
theorem eqC_no_pick {t : TypeId} {ne : Bool} {x y c d e : Opd} (h : eqC P t ne x y = some (.pick c d e)) : False := by
 unfold eqC at h
 split at h <;> (try split at h) <;> simp at h
theorem cop_no_pick {o : Op} {c x y : Opd} (hn : ∀ C X Y,o ≠ .pick C X Y) (hc : cop P o = some (.pick c x y)) : False := by
 cases o with
 | pick C X Y => exact hn C X Y rfl
 | binOp op t x y t' =>
  simp only [cop] at hc
  split at hc
  ·cases op <;> simp only [zA,reduceCtorEq] at hc <;> exact eqC_no_pick hc
  ·cases hc
 | makeFunc fn l cs =>
  simp only [cop] at hc
  cases fn <;> simp only [reduceCtorEq] at hc
  split at hc <;> simp at hc
 | unOp op t x =>
  simp only [cop] at hc
  cases op <;> simp at hc
 | call c =>
  simp only [cop] at hc
  split at hc
  ·split at hc <;> simp at hc
  ·split at hc
   ·split at hc
    ·simp at hc
    ·simp at hc
    ·split at hc <;> simp at hc
    ·cases hc
   ·simp at hc
   ·simp at hc
   ·split at hc
    ·split at hc
     ·split at hc
      ·split at hc <;> simp at hc
      ·cases hc
     ·cases hc
    ·cases hc
   ·cases hc
  ·cases hc
 | buildSlice t n qs =>
  simp only [cop] at hc
  split at hc
  ·split at hc
   ·split at hc <;> simp at hc
   ·cases hc
  ·cases hc
 | slice t x lo hi mx =>
  simp only [cop] at hc
  split at hc
  ·split at hc
   ·split at hc <;> simp at hc
   ·cases hc
  ·cases hc
 | fieldAddr t x i =>
  simp only [cop] at hc
  split at hc
  ·split at hc
   ·split at hc
    ·split at hc <;> simp at hc
    ·cases hc
   ·cases hc
  ·cases hc
 | _ => simp only [cop] at hc;first | (cases hc;done) | (simp at hc;done) | (split at hc <;> first | (simp at hc;done) | (split at hc <;> first | (simp at hc;done) | (split at hc <;> first | (simp at hc;done) | (split at hc <;> simp at hc))))
theorem loud_case (h : Rel B s Z st a w) (hdst : ∀ d,o.dst = some d → d < B.N) {ao : AOp} (hc : cop P o.op = some ao) (hl : isLoud ao = true) {g : Option Bool} (hs : aop P sb B g o.dst ao st K) (hG : Goes sb B w K K') :
  ((g = none ∨ g = some true) → o.wp P a w K' Q) ∧ (g = some false → K' (a.put o.dst undef) w) := by
 unfold aop at hs
 rw [if_pos hl] at hs
 cases g with
 | none => exact ⟨fun _ => aloud_sound h hdst hc hs hG,(fun h => by cases h)⟩
 | some c =>
  refine ⟨fun hg => ?_,fun hg => ?_⟩
  ·rcases hg with hg | hg
   ·cases hg
   ·cases hg;exact aloud_sound h hdst hc (hs.1 rfl) hG
  ·cases hg
   exact Goes.skip h hdst hG (hs.2 rfl)
theorem eqC_isnil {t : TypeId} {ne ne' : Bool} {x y c : Opd} (h : eqC P t ne x y = some (.isnil ne' c)) : (∃ e,P.underlying t = some (.slice e)) ∧ ne' = ne ∧ c = x ∧ y = .k .nil0 := by
 unfold eqC at h
 split at h
 ·simp at h
 ·simp at h
 ·simp at h
 ·split at h <;> simp at h
 ·rename_i e he
  split at h <;> simp at h
  obtain ⟨rfl,rfl⟩ := h
  exact ⟨⟨e,he⟩,rfl,rfl,rfl⟩
 ·split at h <;> simp at h
 ·cases h
theorem cop_isnil {o : Op} {ne : Bool} {x : Opd} (hc : cop P o = some (.isnil ne x)) : ∃ t X Y t' e,o = .binOp (if ne then .neq else .eql) t X Y t' ∧ P.underlying t = some (.slice e) ∧ opdC X = some x ∧ opdC Y = some (.k .nil0) := by
 cases o with
 | binOp op t X Y t' =>
  simp only [cop] at hc
  split at hc
  case h_2 => cases hc
  rename_i x' y' hX hY
  cases op <;> simp only [zA,reduceCtorEq] at hc
  ·obtain ⟨⟨e,he⟩,rfl,rfl,rfl⟩ := eqC_isnil hc
   exact ⟨t,X,Y,t',e,rfl,he,hX,hY⟩
  ·obtain ⟨⟨e,he⟩,rfl,rfl,rfl⟩ := eqC_isnil hc
   exact ⟨t,X,Y,t',e,rfl,he,hX,hY⟩
 | makeFunc fn l cs =>
  simp only [cop] at hc
  cases fn <;> simp only [reduceCtorEq] at hc
  split at hc <;> simp at hc
 | unOp op t x =>
  simp only [cop] at hc
  cases op <;> simp at hc
 | call c =>
  simp only [cop] at hc
  split at hc
  ·split at hc <;> simp at hc
  ·split at hc
   ·split at hc
    ·simp at hc
    ·simp at hc
    ·split at hc <;> simp at hc
    ·cases hc
   ·simp at hc
   ·simp at hc
   ·split at hc
    ·split at hc
     ·split at hc
      ·split at hc <;> simp at hc
      ·cases hc
     ·cases hc
    ·cases hc
   ·cases hc
  ·cases hc
 | buildSlice t n qs =>
  simp only [cop] at hc
  split at hc
  ·split at hc
   ·split at hc <;> simp at hc
   ·cases hc
  ·cases hc
 | slice t x lo hi mx =>
  simp only [cop] at hc
  split at hc
  ·split at hc
   ·split at hc <;> simp at hc
   ·cases hc
  ·cases hc
 | fieldAddr t x i =>
  simp only [cop] at hc
  split at hc
  ·split at hc
   ·split at hc
    ·split at hc <;> simp at hc
    ·cases hc
   ·cases hc
  ·cases hc
 | _ => simp only [cop] at hc;first | (cases hc;done) | (simp at hc;done) | (split at hc <;> first | (simp at hc;done) | (split at hc <;> first | (simp at hc;done) | (split at hc <;> first | (simp at hc;done) | (split at hc <;> simp at hc))))
theorem valD_nil0 {v : Value} (h : valD v = some .nil0) : v = .slice none 0 0 := by
 unfold valD at h
 split at h
 ·simp at h
 ·unfold cellD at h
  split at h <;> (try split at h) <;> simp at h
  rfl
theorem run_equalIn_slice {t e : TypeId} (ht : P.underlying t = some (.slice e)) (k : Nat) (a' : Option Addr) (n c : Nat) (w : World) : (Op.equalIn (k + 1) t (.slice a' n c) (.slice none 0 0)).run P w = .ok a'.isNone w := by
 cases a' <;> simp [Op.equalIn,run_underlying ht]
theorem run_isnil (ne : Bool) {t t' : TypeId} {e : TypeId} {X Y : Operand} (ho : o.op = .binOp (if ne then .neq else .eql) t X Y t') (ht : P.underlying t = some (.slice e)) {a' : Option Addr} {n c : Nat} (hx : a.eval X = .slice a' n c) (hy : a.eval Y = .slice none 0 0) (w : World) :
  (execOp a.eval o).run P w = .ok (.value (.bool (if ne then !a'.isNone else a'.isNone))) w := by
 have he := run_equalIn_slice (P := P) ht 9999 a' n c w
 unfold execOp;rw [ho]
 cases ne
 ·simp [eqGuard,hx,hy,binOp,Op.equal,Op.maxDepth,he]
 ·simp [eqGuard,hx,hy,binOp,Op.equal,Op.maxDepth,he]
theorem len_inv {H : List (Nat × Ob)} (hk : Know s Z H w) {d : D} {n : Nat} (hl : lenD H d = some n) {v : Value} (h : VR s Z d v) : ∃ a' m c,v = .slice a' m c ∧ (0 < n → a'.isNone = false) := by
 unfold lenD at hl
 split at hl
 ·simp only [zA] at hl;subst hl
  cases h with | nil0 a' => exact ⟨a',0,0,rfl,fun h => by omega⟩
 ·rename_i xs
  simp only [zA] at hl;subst hl
  obtain ⟨a',cap,h1,_,h3⟩ := h.rows_inv
  refine ⟨a',_,cap,h1,fun hn => ?_⟩
  obtain ⟨b,off,rfl,_⟩ := h3 0 hn
  rfl
 ·rename_i id
  obtain ⟨rfl,_⟩ := h
  split at hl <;> simp only [zA,reduceCtorEq] at hl
  ·rename_i xs hh
   subst hl
   obtain ⟨a',cap,h1,_,h3⟩ := RowOk.slice (hk.ob _ _ hh)
   exact ⟨a',_,cap,h1,fun hn => by obtain ⟨b,rfl⟩ := h3 hn;rfl⟩
  ·rename_i xs hh
   subst hl
   obtain ⟨a',cap,h1,_,h3⟩ := RowOk.slice (hk.ob _ _ hh)
   exact ⟨a',_,cap,h1,fun hn => by obtain ⟨b,rfl⟩ := h3 hn;rfl⟩
 ·cases hl
theorem quiet_eff (h : Rel B s Z st a w) (hdst : ∀ d, o.dst = some d → d < B.N) {ao : AOp} (hc : cop P o.op = some ao) (hl : isLoud ao = false) {g : Option Bool} (hs : aop P sb B g o.dst ao st K) :
    ((g = none ∨ g = some true) → ∃ u st', K st' ∧ Rel B s Z st' (a.put o.dst u) w ∧ ∀ w', Ok4 w o w' → (execOp a.eval o).run P w' = .ok (.value u) w') ∧ (g = some false → ∃ st', K st' ∧ Rel B s Z st' (a.put o.dst undef) w) := by
  have fin : ∀ (d : D) (p : Prop), (p → ∃ u, VR s Z d u ∧ LtR st.nx d ∧ ∀ w', Ok4 w o w' → (execOp a.eval o).run P w' = .ok (.value u) w') → afin g o.dst p d st K →
      ((g = none ∨ g = some true) → ∃ u st', K st' ∧ Rel B s Z st' (a.put o.dst u) w ∧ ∀ w', Ok4 w o w' → (execOp a.eval o).run P w' = .ok (.value u) w') ∧ (g = some false → ∃ st', K st' ∧ Rel B s Z st' (a.put o.dst undef) w) := fun d p hd hK => by
    cases g with
    | none =>
      obtain ⟨hp, hK⟩ := hK
      refine ⟨fun _ => ?_, (fun h => by cases h)⟩
      obtain ⟨u, hu, hlt, hr⟩ := hd hp
      exact ⟨u, _, hK, h.put hdst (VS.of_vr hu) (LtS.of_r hlt hu.no_opt), hr⟩
    | some c =>
      obtain ⟨hp, hK⟩ := hK
      refine ⟨fun hg => ?_, fun hg => ?_⟩
      · obtain rfl : c = true := by rcases hg with hg | hg <;> cases hg; rfl
        obtain ⟨u, hu, hlt, hr⟩ := hd (hp rfl)
        exact ⟨u, _, hK, h.put hdst ⟨fun _ => hu, (fun h => by cases h)⟩ (fun _ => hlt), hr⟩
      · cases hg
        exact ⟨_, hK, h.put hdst ⟨(fun h => by cases h), fun _ => rfl⟩ (fun h => by cases h)⟩
  have fin0 : afin0 g o.dst st K → ((g = none ∨ g = some true) → ∃ u st', K st' ∧ Rel B s Z st' (a.put o.dst u) w ∧ ∀ w', Ok4 w o w' → (execOp a.eval o).run P w' = .ok (.value u) w') ∧ (g = some false → ∃ st', K st' ∧ Rel B s Z st' (a.put o.dst undef) w) := fun hK => by
    cases g with
    | none => exact hK.elim
    | some c =>
      obtain ⟨rfl, hK⟩ := hK
      exact ⟨(fun h => by rcases h with h | h <;> cases h), fun _ => ⟨_, hK, h.put hdst ⟨(fun h => by cases h), fun _ => rfl⟩ (fun h => by cases h)⟩⟩
  unfold aop at hs
  rw [if_neg (by rw [hl]; simp)] at hs
  by_cases hpk : ∃ c x y, ao = .pick c x y
  · obtain ⟨c, x, y, rfl⟩ := hpk
    simp only at hs
    cases ho : o.op with
    | pick C X Y =>
      rw [ho] at hc
      simp only [cop] at hc
      split at hc <;> simp at hc
      rename_i c' x' y' hC hX hY
      obtain ⟨h1, h2, h3⟩ := hc
      rw [h1] at hC; rw [h2] at hX; rw [h3] at hY
      split at hs
      case h_2 => exact fin0 hs
      rename_i b hb
      split at hs
      case h_2 => exact fin0 hs
      rename_i p d hd
      refine fin d _ (fun ⟨⟨h1, h2, h3⟩, hp⟩ => ?_) hs
      have hcv := h.vr hC h1
      rw [hb] at hcv
      obtain ⟨u, hu, hlt, hr⟩ := does_pick (P := P) (s := s) (Z := Z) ho hcv.bool_inv hd hp (fun e => h.vr hX (h2 e)) (fun e => h.vr hY (h3 e))
      exact ⟨u, hu, hlt.mono (Nat.zero_le _), fun w' _ => hr w'⟩
    | _ => exact (cop_no_pick (fun C X Y e => by rw [ho] at e; cases e) hc).elim
  by_cases hpn : ∃ ne x, ao = .isnil ne x
  · obtain ⟨ne, x, rfl⟩ := hpn
    simp only at hs
    split at hs
    case h_2 => exact fin0 hs
    rename_i n hn
    obtain ⟨t, X, Y, t', e, ho, ht, hX, hY⟩ := cop_isnil hc
    have hy : a.eval Y = .slice none 0 0 := by
      cases Y with
      | tmp k => simp [opdC] at hY
      | func f => simp [opdC] at hY
      | global g => simp [opdC] at hY
      | const v =>
        simp only [opdC, Option.map_eq_some_iff, Opd.k.injEq] at hY
        obtain ⟨d, hd, rfl⟩ := hY
        exact valD_nil0 hd
    by_cases hg : gS st.env x = true
    · obtain ⟨a', m, c, hx, hne⟩ := len_inv (s := s) (Z := Z) h.h.know hn (h.vr hX hg)
      refine fin _ _ (fun _ => ?_) (hs (if ne then !a'.isNone else a'.isNone) (fun h0 => by rw [hne h0]; cases ne <;> rfl))
      exact ⟨_, VR.bool_mk _, trivial, fun w' _ => run_isnil ne ho ht hx hy w'⟩
    · exact fin _ _ (fun h => absurd h hg) (hs ne (fun _ => rfl))
  · have hs : match qv (evS st.env) st.heap ao with
        | some (p, d) => afin g o.dst (oks st.env ao = true ∧ p) d st K
        | none => afin0 g o.dst st K := by
      cases ao <;> first | exact absurd ⟨_, _, _, rfl⟩ hpk | exact absurd ⟨_, _, rfl⟩ hpn | exact hs | cases hl
    split at hs
    case h_2 => exact fin0 hs
    rename_i p d hq
    refine fin d _ (fun ⟨h1, h2⟩ => ?_) hs
    obtain ⟨u, hu, hlt, hr⟩ := quiet_val (P := P) h hc hq h1 h2
    exact ⟨u, hu, hlt, hr⟩
theorem quiet_case (h : Rel B s Z st a w) (hdst : ∀ d,o.dst = some d → d < B.N) {ao : AOp} (hc : cop P o.op = some ao) (hl : isLoud ao = false) {g : Option Bool} (hs : aop P sb B g o.dst ao st K) (hG : Goes sb B w K K') :
  ((g = none ∨ g = some true) → o.wp P a w K' Q) ∧ (g = some false → K' (a.put o.dst undef) w) := by
 obtain ⟨h1,h2⟩ := quiet_eff h hdst hc hl hs
 refine ⟨fun hg => ?_,fun hg => ?_⟩
 ·obtain ⟨u,st',hK,hr,hrun⟩ := h1 hg
  exact wp_value (hrun w (.inl (More.refl w))) (hG _ _ _ _ _ (fun _ => Below.refl _ _) hK hr)
 ·obtain ⟨st',hK,hr⟩ := h2 hg
  exact hG _ _ _ _ _ (fun _ => Below.refl _ _) hK hr
theorem astep_cases {ops : Array Oper} (h : Rel B s Z st a w) {ao : AO} (hao : coper P B.N ops o = some ao) (hs : astep P sb B ao st K) :
  (∀ d,o.dst = some d → d < B.N) ∧ ∃ op,copX P o.op = some op ∧ ∃ g,aop P sb B g o.dst op st K ∧ ((Region.wanted o (yielded ops a.tmps) = true ∧ (g = none ∨ g = some true)) ∨ (Region.wanted o (yielded ops a.tmps) = false ∧ g = some false)) := by
 unfold coper at hao
 split at hao
 case isFalse => cases hao
 rename_i hd
 split at hao
 case h_2 => cases hao
 rename_i op hop
 refine ⟨fun d hdd => by rw [hdd] at hd;simpa [dstOk] using hd,op,hop,?_⟩
 split at hao
 ·rename_i hgd
  simp only [zA] at hao
  subst hao
  simp only [astep] at hs
  exact ⟨none,hs,.inl ⟨by simp only [Region.wanted,hgd],.inl rfl⟩⟩
 ·rename_i j want hgd
  split at hao
  case h_2 => cases hao
  rename_i t ht
  simp only [zA] at hao
  subst hao
  have hslot : ∀ d,d ≠ undef → a.tmps.getD t undef = d → a.tmps[t]? = some d := fun d hne hd => by
   rw [Array.getD_eq_getD_getElem?] at hd
   cases hq : a.tmps[t]? with
   | none => rw [hq] at hd;exact absurd hd.symm hne
   | some v => rw [hq] at hd;simp only [Option.getD_some] at hd;rw [hd]
  have hw : ∀ c,a.tmps.getD t undef = .bool c → Region.wanted o (yielded ops a.tmps) = (if want then c else !c) := fun c hc => by
   have := hslot (.bool c) (by intro e;cases e) hc
   simp only [Region.wanted,hgd,yielded,ht,Option.bind_some,this]
   cases c <;> cases want <;> rfl
  have hwF : a.tmps.getD t undef = undef → Region.wanted o (yielded ops a.tmps) = false := fun hc => by
   simp only [Region.wanted,hgd,yielded,ht,Option.bind_some]
   rw [Array.getD_eq_getD_getElem?] at hc
   cases hq : a.tmps[t]? with
   | none => rfl
   | some v => rw [hq] at hc;simp only [Option.getD_some] at hc;rw [hc];rfl
  simp only [astep] at hs
  have he := h.env t
  split at hs
  ·rename_i c hc
   rw [hc] at he
   have hb : a.tmps.getD t undef = .bool c := VR.bool_inv (s := s) (Z := Z) he
   refine ⟨_,hs,?_⟩
   rw [hw c hb]
   generalize (if want then c else !c) = g at *
   cases g with
   | true => exact .inl ⟨rfl,.inr rfl⟩
   | false => exact .inr ⟨rfl,rfl⟩
  ·rename_i g c hc
   rw [hc] at he
   refine ⟨_,hs,?_⟩
   cases g with
   | false =>
    rw [hwF (he.2 rfl)]
    exact .inr ⟨rfl,by simp⟩
   | true =>
    have hb : a.tmps.getD t undef = .bool c := VR.bool_inv (s := s) (Z := Z) (he.1 rfl)
    rw [hw c hb]
    simp only [Bool.true_and]
    generalize (if want then c else !c) = g at *
    cases g with
    | true => exact .inl ⟨rfl,.inr rfl⟩
    | false => exact .inr ⟨rfl,rfl⟩
  ·rename_i g d _ hc
   rw [hc] at he
   obtain ⟨rfl,hs⟩ := hs
   refine ⟨_,hs,?_⟩
   rw [hwF (he.2 rfl)]
   exact .inr ⟨rfl,rfl⟩
  ·exact hs.elim
theorem xcop_loud {o : Op} {ao : AOp} (h : xcop P o = some ao) : isLoud ao = true ∧ ∃ k ns xs,ao = .xop k ns xs := by
 have key : (∃ k ns xs,ao = .xop k ns xs) := by
  unfold xcop at h
  split at h
  all_goals repeat' (first | cases h;done | split at h)
  all_goals first
   | (simp only [Option.map_eq_some_iff] at h;obtain ⟨_,_,rfl⟩ := h;exact ⟨_,_,_,rfl⟩)
   | (simp only [zA] at h;subst h;exact ⟨_,_,_,rfl⟩)
   | cases h
 obtain ⟨k,ns,xs,rfl⟩ := key
 exact ⟨rfl,k,ns,xs,rfl⟩
theorem copX_quiet {o : Op} {ao : AOp} (h : copX P o = some ao) (hl : isLoud ao = false) : cop P o = some ao := by
 unfold copX at h
 split at h
 ·rename_i x hx
  simp only [zA] at h
  subst h
  rw [(xcop_loud hx).1] at hl;cases hl
 ·exact h
theorem xop_case (hdst : ∀ d,o.dst = some d → d < B.N) (h : Rel B s Z st a w) {ao : AOp} (hx : xcop P o.op = some ao) {g : Option Bool} (hs : aop P sb B g o.dst ao st K) (hG : Goes sb B w K K') :
  ((g = none ∨ g = some true) → o.wp P a w K' Q) ∧ (g = some false → K' (a.put o.dst undef) w) := by
 obtain ⟨hl,k,ns,xs,rfl⟩ := xcop_loud hx
 unfold aop at hs
 rw [if_pos hl] at hs
 cases g with
 | none => exact ⟨fun _ => hs o s Z a w K' Q hx rfl hdst h hG,(fun h => by cases h)⟩
 | some c =>
  refine ⟨fun hg => ?_,fun hg => ?_⟩
  ·rcases hg with hg | hg
   ·cases hg
   ·cases hg;exact (hs.1 rfl) o s Z a w K' Q hx rfl hdst h hG
  ·cases hg
   exact Goes.skip h hdst hG (hs.2 rfl)
theorem astep_sound {ops : Array Oper} (h : Rel B s Z st a w) {ao : AO} (hao : coper P B.N ops o = some ao) (hs : astep P sb B ao st K) (hG : Goes sb B w K K') :
  (Region.wanted o (yielded ops a.tmps) = true → o.wp P a w K' Q) ∧ (Region.wanted o (yielded ops a.tmps) = false → K' (a.put o.dst undef) w) := by
 obtain ⟨hdst,op,hop,g,hg,hcase⟩ := astep_cases h hao hs
 have key : ((g = none ∨ g = some true) → o.wp P a w K' Q) ∧ (g = some false → K' (a.put o.dst undef) w) := by
  cases hx : xcop P o.op with
  | some x =>
   have hop' := hop
   unfold copX at hop'
   rw [hx] at hop'
   simp only [zA] at hop'
   subst hop'
   exact xop_case hdst h hx hg hG
  | none =>
   have hop : cop P o.op = some op := by unfold copX at hop;rw [hx] at hop;exact hop
   cases hl : isLoud op with
   | true => exact loud_case h hdst hop hl hg hG
   | false => exact quiet_case h hdst hop hl hg hG
 rcases hcase with ⟨h1,h2⟩ | ⟨h1,h2⟩
 ·exact ⟨fun _ => key.1 h2,fun h => by rw [h1] at h;cases h⟩
 ·exact ⟨(fun h => by rw [h1] at h;cases h),fun _ => key.2 h2⟩
theorem aops_sound {ops : Array Oper} : ∀ (os : List Oper) (aos : List AO) (st : St) (s : Nat → Value) (Z : Cells) (a : Act) (w : World),copers P B.N ops os = some aos → Rel B s Z st a w → aops P B aos st K →
  (∀ st' s' Z' a' w',K st' → Rel B s' Z' st' a' w' → Q .normal a' w') → wpList P ops Q os a w
 | [],aos,st,s,Z,a,w,hc,h,hs,hG => by
  simp only [copers,zA] at hc
  subst hc
  exact hG st s Z a w hs h
 | o :: os,aos,st,s,Z,a,w,hc,h,hs,hG => by
  simp only [copers] at hc
  split at hc <;> simp only [zA,reduceCtorEq] at hc
  rename_i ao r hao hr
  subst hc
  simp only [aops] at hs
  refine wpList_step fun K' hK' => ?_
  have hG' : Goes false B w (fun st' => aops P B r st' K) K' := fun st' s' Z' a' w' _ h1 h2 => hK' a' w' (aops_sound os r st' s' Z' a' w' hr h2 h1 hG)
  obtain ⟨k1,k2⟩ := astep_sound (Q := Q) h hao hs hG'
  cases hw : Region.wanted o (yielded ops a.tmps) with
  | true => simp only [if_true];exact k1 hw
  | false => simp only [Bool.false_eq_true,if_false];exact k2 hw
end
section
variable {P : Program} {sb : Bool} {B : Base} {w w' : World} {s s' : Nat → Value} {Z Z' : Cells} {st : St} {a : Act} {o : Oper} {K : St → Prop} {K' : Act → World → Prop} {Q : Exit → Act → World → Prop}
theorem cop_call {o : Op} {f : FuncId} {as_ : List Opd} (hc : cop P o = some (.call f as_)) : ∃ c,o = .call c ∧ c.callee = .value (.func f) ∧ opdsC c.args.toList = some as_ := by
 by_cases hl : opLoud o
 ·cases o with
  | call c =>
   refine ⟨c,rfl,?_⟩
   simp only [cop] at hc
   split at hc
   ·rename_i g hg
    split at hc <;> simp at hc
    rename_i f' ys hys
    obtain ⟨rfl,rfl⟩ := hc
    exact ⟨hg,hys⟩
   ·rename_i b hb
    split at hc
    ·split at hc <;> (try split at hc) <;> simp at hc
    ·simp at hc
    ·simp at hc
    ·split at hc
     ·split at hc
      ·split at hc
       ·split at hc <;> simp at hc
       ·cases hc
      ·cases hc
     ·cases hc
    ·cases hc
   ·cases hc
  | alloc t => simp [cop] at hc
  | box t x => simp [cop] at hc
  | store t x y => simp only [cop] at hc;split at hc <;> simp at hc
  | buildSlice t n qs =>
   simp only [cop] at hc
   split at hc
   ·split at hc
    ·split at hc <;> simp at hc
    ·cases hc
   ·cases hc
  | makeSlice t l c =>
   simp only [cop] at hc
   split at hc
   ·split at hc
    ·split at hc <;> simp at hc
    ·cases hc
   ·cases hc
  | _ => exact hl.elim
 ·have := cop_quiet hl hc
  cases this
theorem WCall.of {f : FuncId} {as_ : List Opd} {dst : Option Nat} (hok : oks st.env (.call f as_) = true) (hc : CallOk P sb B f (as_.map (evS st.env)) dst st K) : WCall P sb B (.call f as_) dst st K := by
 intro o s Z a w K' Q hcop hd hdst h hG
 obtain ⟨hcal,hc⟩ := hc
 obtain ⟨⟨cal,ars,ats⟩,ho,hcl,hys⟩ := cop_call hcop
 obtain ⟨ars⟩ := ars
 simp only at hcl hys
 subst hcl
 obtain ⟨g1,g2⟩ := args_sound h hys (fun y hy => oks_mem hok hy)
 have hcalls := hc s Z w (ars.map a.eval).toArray h.h (by simp [g1]) (fun j x hx => by simpa [Array.getD_eq_getD_getElem?] using g2 j x hx)
 refine wp_enter (f := f) (vs := (ars.map a.eval).toArray) ?_ (hcalls.mono fun e w' ⟨v,he,hbl,hL⟩ => ⟨v,he,goes_call h (by rw [hd];exact hdst) hbl (by rw [hd];exact hL) hG⟩)
 unfold execOp;rw [ho]
 have := callFunc_run (P := P) (w := w) hcal (ars.map a.eval).toArray
 simpa [resolve,invoke,Act.eval,Deferred.ofValue] using this
theorem brwV_vv {H : List (Nat × Ob)} {x y : D} (hb : brwV H x = some y) {v : Value} (h : VR s Z x v) : VV s Z x v := by
 cases x <;> simp only [brwV,brwC,reduceCtorEq] at hb <;> exact h
theorem CallOk.pf {f : FuncId} {ds es : List D} {d : D} {dst : Option Nat} (hpf : PF P f es d) (hes : match omap (brwV st.heap) ds with | some e => leVL e es | none => False) (hno : (ds.all noV || flatR d) = true) (hK : K ⟨putO st.env dst d,st.heap,st.nx⟩) : CallOk P sb B f ds dst st K := by
 obtain ⟨hcal,hpf⟩ := hpf
 refine ⟨hcal,fun s Z w vs h hl hv0 => ?_⟩
 split at hes
 case h_2 => exact hes.elim
 rename_i es' hes'
 obtain ⟨g1,g2⟩ := omap_some hes'
 obtain ⟨l1,l2⟩ := leVL_get hes
 have hv : ∀ j x,ds[j]? = some x → VV s Z x (vs.getD j undef) := fun j x hx => by
  have hlt : j < es'.length := by rw [g1];exact (zB.1 hx).1
  obtain ⟨y,hy,hb⟩ := g2 j _ (zE hlt)
  rw [hx] at hy
  cases hy
  exact brwV_vv hb (hv0 j x hx)
 by_cases hall : ds.all noV = true
 ·have hee : es' = ds := List.ext_getElem? fun j => by
   cases hj : es'[j]? with
   | none => rw [List.getElem?_eq_none_iff] at hj;rw [List.getElem?_eq_none (by omega)]
   | some x =>
    obtain ⟨y,hy,hb⟩ := g2 j x hj
    rw [hy,brwV_no hb (List.all_eq_true.1 hall y (zD hy))]
  subst hee
  refine (hpf Z w vs h.zok (by omega) fun j x hx => by
   obtain ⟨y,hy,hle⟩ := l2 j x hx
   exact leV_sound hle ((hv j y hy).no (List.all_eq_true.1 hall y (zD hy)))).mono fun e w' ⟨v,Z',he,hr,hzx,hb⟩ => ⟨v,he,fun _ => hb,d,st.heap,st.nx,s,Z',hr.of0.1,hr.lt0.mono (Nat.zero_le _),h.call hb hzx,Nat.le_refl _,fun _ _ => rfl,hzx.old,hK⟩
 ·have hf : flatR d = true := by simpa [hall] using hno
  refine (hpf (allZ w) w vs (fun b o v h => h) (by omega) fun j x hx => ?_).mono fun e w' ⟨v,Z',he,hr,hzx,hb⟩ => ⟨v,he,fun _ => hb,d,st.heap,st.nx,s,Z,hr.flat hf,hr.lt0.mono (Nat.zero_le _),h.call hb (Zx.refl h.zok hb),Nat.le_refl _,fun _ _ => rfl,fun _ _ _ h => h,hK⟩
  obtain ⟨x',hx',hle⟩ := l2 j x hx
  obtain ⟨y,hy,hb⟩ := g2 j x' hx'
  exact leV_sound hle (brwV_sound h.know (fun b o v hz => h.zok b o v hz) (fun _ _ _ _ _ o v hc => hc) hb (hv j y hy))
end
theorem wcS {P : Program} {sb : Bool} {B : Base} {op : AOp} {dst : Option Nat} {st : St} {K : St → Prop} (h : WCall P sb B op dst st K) : WCall P sb B op dst st K := h
theorem aI {a b c : Prop} (x : a) (y : b) (z : c) : (a ∧ b) ∧ c := ⟨⟨x, y⟩, z⟩
end Go.Proofs.YtbhcfldafpndbaaDoor
