/- This text gives a small machine on plain data ('D'): what a step of a function's text does to what is known of its variables and of the memory that it made itself. It has no condition of its own. -/
import Derived.Test.YtfkeddefajkobaaMem
set_option linter.unusedSimpArgs false
set_option linter.unusedVariables false
namespace Go.Proofs.Ytfkeddefajkobaa
open Go.RowKit

/-! ### What is known of a value -/

inductive D where
  | int (k : IntKind) (z : Int)
  | bool (b : Bool)
  | str (s : ByteArray)
  | nilp
  | any
  | nil0
  | rows (sz : Nat) (xs : List (List D))
  | pc (ds : List D)
  | fn (f : FuncId) (cs : List D)
  | own (id : Nat)
  | ptr (id j : Nat)
  | pel (id i sz j : Nat)
  | agg (ds : List D)
  | tup (ds : List D)
  | opt (g : Bool) (d : D)

abbrev Cells := Nat → Nat → Option Value

/-- data that holds no reference to memory of one's own -/
inductive VT (Z : Cells) : D → Value → Prop
  | int (k : IntKind) (z : Int) : VT Z (.int k z) (.int k z)
  | bool (b : Bool) : VT Z (.bool b) (.bool b)
  | str (s : ByteArray) : VT Z (.str s) (.string s)
  | nilp : VT Z .nilp (.pointer none)
  | any (v : Value) : v.oneCell' = true → VT Z .any v
  | nil0 (a : Option Addr) : VT Z .nil0 (.slice a 0 0)
  | rnil (sz : Nat) (a : Option Addr) (cap : Nat) : VT Z (.rows sz []) (.slice a 0 cap)
  | rows (sz : Nat) (xs : List (List D)) (b off cap : Nat) (c : Nat → Nat → Value) : xs.length ≤ cap →
      (∀ i row j d, xs[i]? = some row → row[j]? = some d → j < sz ∧ Z b (off + i * sz + j) = some (c i j)) →
      (∀ i row j d, xs[i]? = some row → row[j]? = some d → VT Z d (c i j)) → VT Z (.rows sz xs) (.slice (some ⟨b, off, none⟩) xs.length cap)
  | pc (ds : List D) (b off : Nat) (c : Nat → Value) : (∀ j d, ds[j]? = some d → Z b (off + j) = some (c j)) →
      (∀ j d, ds[j]? = some d → VT Z d (c j)) → VT Z (.pc ds) (.pointer (some ⟨b, off, none⟩))
  | fn (f : FuncId) (cs : List D) (vs : Array Value) : vs.size = cs.length → (∀ j d, cs[j]? = some d → VT Z d (vs.getD j undef)) → VT Z (.fn f cs) (.func (.func f) #[] vs)

/-- one cell; s: where one's own memory lies -/
def VC (s : Nat → Value) (Z : Cells) (d : D) (v : Value) : Prop :=
  match d with
  | .own id => v = s id ∧ ((∃ a n c, v = .slice a n c) ∨ ∃ b, v = .map (some b))
  | .ptr id j => ∃ b, s id = .pointer (some ⟨b, 0, none⟩) ∧ v = .pointer (some ⟨b, j, none⟩)
  | .pel id i sz j => ∃ b n c, s id = .slice (some ⟨b, 0, none⟩) n c ∧ v = .pointer (some ⟨b, i * sz + j, none⟩)
  | d => VT Z d v
def VV (s : Nat → Value) (Z : Cells) (d : D) (v : Value) : Prop :=
  match d with
  | .agg ds => ∃ vs : Array Value, v = .agg vs ∧ vs.size = ds.length ∧ ∀ j x, ds[j]? = some x → VC s Z x (vs.getD j undef)
  | d => VC s Z d v
def VR (s : Nat → Value) (Z : Cells) (d : D) (v : Value) : Prop :=
  match d with
  | .tup ds => ∃ vs : Array Value, v = .tuple vs ∧ vs.size = ds.length ∧ ∀ j x, ds[j]? = some x → VV s Z x (vs.getD j undef)
  | .any => True
  | d => VV s Z d v
def VS (s : Nat → Value) (Z : Cells) (d : D) (v : Value) : Prop :=
  match d with
  | .opt g d => (g = true → VR s Z d v) ∧ (g = false → v = undef)
  | d => VR s Z d v

/-! ### What is known of memory of one's own -/

inductive Ob where
  | cells (ds : List D)
  | row (sz : Nat) (xs : List (List D))
  | rowd (sz : Nat) (xs : List (List D))
  | mp (bare : Bool) (es : List (List Int × List Int × Nat)) (clock : Nat)
  | it (m since : Nat) (seen : List Nat) (last : Nat)

/-- the block that a value owns -/
def blk : Value → Option Nat
  | .slice (some a) _ c => if c = 0 then none else some a.block
  | .pointer (some a) => some a.block
  | .map (some r) => some r
  | _ => none

/-- the slice v owns these rows of cells, each as R says -/
def RowOk (R : D → Value → Prop) (w : World) (sz : Nat) (xs : List (List D)) (v : Value) : Prop :=
  0 < sz ∧ (∀ row ∈ xs, row.length = sz) ∧
  ((xs = [] ∧ ∃ a, v = .slice a 0 0) ∨
   ∃ g cap cur e, v = .slice (some ⟨g, 0, none⟩) xs.length cap ∧ w.heap[g]? = some (.cells cur e (0, 0)) ∧ xs.length ≤ cap ∧ cap ≤ maxLen ∧ cur.size = cap * sz ∧
     ∀ i row j d, xs[i]? = some row → row[j]? = some d → R d (cur.getD (i * sz + j) undef))
/-- numbers as a value: one alone, or a struct of them -/
def vInts (bare : Bool) (ks : List Int) : Value := if bare then .int .i64 (ks.headD 0) else .agg ((ks.map (Value.int .i64)).toArray)
/-- an entry of a map -/
def mEnt (bare : Bool) (p : List Int × List Int × Nat) : MapEntry := ⟨vInts bare p.1, vInts false p.2.1, p.2.2⟩
def ObOk (s : Nat → Value) (Z : Cells) (w : World) (ob : Ob) (v : Value) : Prop :=
  match ob with
  | .cells ds => ∃ b T cs, v = .pointer (some ⟨b, 0, none⟩) ∧ w.heap[b]? = some (.cells cs T (0, 0)) ∧ cs.size = ds.length ∧ ∀ j x, ds[j]? = some x → VC s Z x (cs.getD j undef)
  | .row sz xs => RowOk (VT Z) w sz xs v
  | .rowd sz xs => RowOk (VC s Z) w sz xs v
  | .mp bare es ck => ∃ b, v = .map (some b) ∧ w.heap[b]? = some (.map (es.map (mEnt bare)).toArray ck)
  | .it m since seen last => ∃ b mb, v = .pointer (some ⟨b, 0, none⟩) ∧ s m = .map (some mb) ∧ w.heap[b]? = some (.mapIter (some mb) since seen.toArray last)

/-! ### The state -/

def eput {α : Type} : List (Nat × α) → Nat → α → List (Nat × α)
  | [], k, d => [(k, d)]
  | (k', d') :: t, k, d => if k' < k then (k, d) :: (k', d') :: t else if k = k' then (k, d) :: t else (k', d') :: eput t k d
def eget : List (Nat × D) → Nat → D
  | [], _ => .any
  | (k', d') :: t, k => if k = k' then d' else eget t k
def hget : List (Nat × Ob) → Nat → Option Ob
  | [], _ => none
  | (k', d') :: t, k => if k = k' then some d' else hget t k
def herase : List (Nat × Ob) → Nat → List (Nat × Ob)
  | [], _ => []
  | (k', d') :: t, k => if k = k' then herase t k else (k', d') :: herase t k

theorem eget_eput (l : List (Nat × D)) (k j : Nat) (d : D) : eget (eput l k d) j = if j = k then d else eget l j := by
  induction l with
  | nil => simp [eput, eget]
  | cons p t ih =>
    obtain ⟨k', d'⟩ := p
    simp only [eput]
    split
    · simp only [eget]
    · split
      · rename_i h1 h2; subst h2; simp only [eget]; split <;> rfl
      · rename_i h1 h2
        simp only [eget, ih]
        by_cases h3 : j = k'
        · subst h3; rw [if_pos rfl, if_neg (fun h => h2 h.symm), if_pos rfl]
        · rw [if_neg h3, if_neg h3]
theorem hget_eput (l : List (Nat × Ob)) (k j : Nat) (d : Ob) : hget (eput l k d) j = if j = k then some d else hget l j := by
  induction l with
  | nil => simp [eput, hget]
  | cons p t ih =>
    obtain ⟨k', d'⟩ := p
    simp only [eput]
    split
    · simp only [hget]
    · split
      · rename_i h1 h2; subst h2; simp only [hget]; split <;> rfl
      · rename_i h1 h2
        simp only [hget, ih]
        by_cases h3 : j = k'
        · subst h3; rw [if_pos rfl, if_neg (fun h => h2 h.symm), if_pos rfl]
        · rw [if_neg h3, if_neg h3]
theorem hget_herase (l : List (Nat × Ob)) (k j : Nat) : hget (herase l k) j = if j = k then none else hget l j := by
  induction l with
  | nil => simp [herase, hget]
  | cons p t ih =>
    obtain ⟨k', d'⟩ := p
    simp only [herase]
    split
    · rename_i h; subst h; rw [ih]; simp only [hget]; split <;> rfl
    · rename_i h
      simp only [hget, ih]
      by_cases h3 : j = k'
      · subst h3; rw [if_pos rfl, if_neg (fun h' => h h'.symm), if_pos rfl]
      · rw [if_neg h3, if_neg h3]

structure St where
  env : List (Nat × D)
  heap : List (Nat × Ob)
  nx : Nat

/-- references are to numbers below n -/
def LtC (n : Nat) : D → Prop
  | .own id => id < n
  | .ptr id _ => id < n
  | .pel id _ _ _ => id < n
  | _ => True
def LtV (n : Nat) : D → Prop
  | .agg ds => ∀ d ∈ ds, LtC n d
  | d => LtC n d
def LtR (n : Nat) : D → Prop
  | .tup ds => ∀ d ∈ ds, LtV n d
  | d => LtV n d
def LtS (n : Nat) : D → Prop
  | .opt g d => g = true → LtR n d
  | d => LtR n d
def LtO (n : Nat) : Ob → Prop
  | .cells ds => ∀ d ∈ ds, LtC n d
  | .row .. => True
  | .rowd _ xs => ∀ row ∈ xs, ∀ d ∈ row, LtC n d
  | .mp .. => True
  | .it m .. => m < n

/-- what was there is as it was, but for the blocks in F -/
structure Fr (F : Nat → Prop) (w w' : World) : Prop where
  os : w'.os = w.os
  tape : w'.tape = w.tape
  output : w'.output = w.output
  size : w.heap.size ≤ w'.heap.size
  block : ∀ k, k < w.heap.size → ¬ F k → w'.heap[k]? = w.heap[k]?

/-- how a function began: its number of slots, the blocks that it may write, the world, the numbers of the memory that it was handed and where that lies, the cells that were known -/
structure Base where
  N : Nat
  F : Nat → Prop
  w0 : World
  n0 : Nat
  sb : Nat → Value
  Zb : Cells
/-- memory is as the state says -/
structure RelH (B : Base) (s : Nat → Value) (Z : Cells) (H : List (Nat × Ob)) (nx : Nat) (w : World) : Prop where
  ob : ∀ id ob, hget H id = some ob → ObOk s Z w ob (s id)
  lt : ∀ id ob, hget H id = some ob → id < nx ∧ LtO nx ob
  apart : ∀ id id' ob ob' b, hget H id = some ob → hget H id' = some ob' → id ≠ id' → blk (s id) = some b → blk (s id') ≠ some b
  zok : ∀ b o v, Z b o = some v → w.cell? ⟨b, o, none⟩ = some v
  zap : ∀ id ob b o, hget H id = some ob → blk (s id) = some b → Z b o = none
  mine : ∀ id ob b, hget H id = some ob → blk (s id) = some b → B.w0.heap.size ≤ b ∨ B.F b
  fr : Fr B.F B.w0 w
  n0 : B.n0 ≤ nx
  bs : ∀ id, id < B.n0 → s id = B.sb id
  bz : ∀ b o v, B.Zb b o = some v → Z b o = some v
  bn : ∀ b o v, Z b o = some v → B.Zb b o = some v ∨ B.w0.heap.size ≤ b ∨ B.F b
structure Rel (B : Base) (s : Nat → Value) (Z : Cells) (st : St) (a : Act) (w : World) : Prop where
  env : ∀ k, VS s Z (eget st.env k) (a.tmps.getD k undef)
  elt : ∀ k, LtS st.nx (eget st.env k)
  size : a.tmps.size = B.N
  defers : a.defers = []
  h : RelH B s Z st.heap st.nx w

/-! ### Operations -/

inductive Opd where
  | t (n : Nat)
  | k (d : D)

/-- kinds of cells that can be compared -/
inductive Kd where
  | i
  | b
  | s

inductive AOp where
  | mov (x : Opd)
  | pick (c x y : Opd)
  | build (z : List D) (ps : List (Nat × Nat × Opd))
  | load (ag : Bool) (n : Nat) (x : Opd)
  | nchk (x : Opd)
  | bin (op : BinOp) (x y : Opd)
  | eqa (ne : Bool) (ks : List Kd) (x y : Opd)
  | eqp (ne : Bool) (x y : Opd)
  | eqb (ne : Bool) (x y : Opd)
  | isnil (ne : Bool) (x : Opd)
  | not (x : Opd)
  | neg (x : Opd)
  | conv (k : IntKind) (x : Opd)
  | fld (ag : Bool) (off n : Nat) (x : Opd)
  | fad (off : Nat) (x : Opd)
  | iada (len sz : Nat) (x i : Opd)
  | iads (sz : Nat) (x i : Opd)
  | ida (ag : Bool) (len sz : Nat) (x i : Opd)
  | ext (x : Opd) (i : Nat)
  | len (x : Opd)
  | cst (n : Nat)
  | mn (x y : Opd)
  | mx (x y : Opd)
  | slc (sz : Nat) (x : Opd) (lo hi mx : Option Opd)
  | mkfn (f : FuncId) (cs : List Opd)
  | alloc (z : List D)
  | box (x : Opd)
  | bslice (sz len : Nat) (z : List D) (ps : List (Nat × Opd))
  | store (n : Nat) (x y : Opd)
  | call (f : FuncId) (args : List Opd)
  | callv (x : Opd) (args : List Opd)
  | app (sz bytes : Nat) (z : List D) (x y : Opd)
  | mks (sz bytes : Nat) (z : List D) (l c : Opd)
  | xop (k : Nat) (ns : List Nat) (xs : List Opd)

structure AO where
  dst : Option Nat
  op : AOp
  guard : Option (Nat × Bool)

def InR (z : Int) : Prop := -9223372036854775808 ≤ z ∧ z ≤ 9223372036854775807
def arith (k : IntKind) (z : Int) : Option (Prop × D) :=
  match k with
  | .i64 => some (InR z, .int .i64 z)
  | k => some (True, .int k (k.wrap z))
def D.cells : D → List D
  | .agg ds => ds
  | .any => []
  | .tup _ => []
  | .opt .. => []
  | d => [d]
def isT : D → Bool
  | .any => false
  | .own _ => false
  | .ptr .. => false
  | .pel .. => false
  | .agg _ => false
  | .tup _ => false
  | .opt .. => false
  | _ => true
def deq : Kd → D → D → Option (Prop × Bool)
  | .i, .int k a, .int k' b => some (k = k', decide (a = b))
  | .b, .bool a, .bool b => some (True, decide (a = b))
  | .s, .str a, .str b => some (True, decide (a.data = b.data))
  | _, _, _ => none
def deqs : List Kd → List D → List D → Option (Prop × Bool)
  | [], [], [] => some (True, true)
  | k :: ks, x :: xs, y :: ys => match deq k x y, deqs ks xs ys with
    | some (p, b), some (q, c) => some (p ∧ q, b && c)
    | _, _ => none
  | _, _, _ => none
def fillD : List D → List (Nat × Nat × D) → Option (List D)
  | z, [] => some z
  | z, (off, n, d) :: ps => if d.cells.length = n ∧ 0 < n ∧ off + n ≤ z.length then fillD (z.take off ++ d.cells ++ z.drop (off + n)) ps else none
def ibit (f : (n : Nat) → BitVec n → BitVec n → BitVec n) (k : IntKind) (a b : Int) : Int := k.wrap (f k.bits (BitVec.ofInt k.bits a) (BitVec.ofInt k.bits b)).toNat
def iand := ibit fun _ a b => a &&& b
def ior := ibit fun _ a b => a ||| b
def ixor := ibit fun _ a b => a ^^^ b
def binD (op : BinOp) (x y : D) : Option (Prop × D) :=
  match x, y with
  | .int k a, .int k' b =>
    match op with
    | .shl => match arith k (a * 2 ^ min b.toNat k.bits) with
      | some (p, d) => some (0 ≤ b ∧ p, d)
      | none => none
    | .shr => some (0 ≤ b, .int k (a / 2 ^ min b.toNat k.bits))
    | op => if k = k' then
      match op with
      | .add => arith k (a + b)
      | .sub => arith k (a - b)
      | .mul => arith k (a * b)
      | .quo => match arith k (a / b) with
        | some (p, d) => some ((0 ≤ a ∧ 0 < b) ∧ p, d)
        | none => none
      | .rem => some (0 < b, .int k (if 0 ≤ a then a % b else -(-a % b)))
      | .and => some (True, .int k (iand k a b))
      | .or => some (True, .int k (ior k a b))
      | .xor => some (True, .int k (ixor k a b))
      | .eql => some (True, .bool (decide (a = b)))
      | .neq => some (True, .bool (!decide (a = b)))
      | .lss => some (True, .bool (decide (a < b)))
      | .leq => some (True, .bool (decide (a ≤ b)))
      | .gtr => some (True, .bool (decide (b < a)))
      | .geq => some (True, .bool (decide (b ≤ a)))
      | _ => none
      else none
  | .str a, .str b =>
    match op with
    | .eql => some (True, .bool (a.toList == b.toList))
    | .neq => some (True, .bool (!(a.toList == b.toList)))
    | _ => none
  | _, _ => none
/-- from these cells on: a value -/
def takeD (ag : Bool) (n : Nat) (ds : List D) : Option (Prop × D) :=
  if ag then some (n ≤ ds.length, .agg (ds.take n)) else some (0 < ds.length, ds.headD .any)
def isP : D → Option Bool
  | .nilp => some true
  | .pc _ => some false
  | .ptr .. => some false
  | .pel .. => some false
  | _ => none
def boundD (o : Option Opd) (ev : Opd → D) (dflt : Nat) : Option (Prop × Nat) :=
  match o with
  | none => some (True, dflt)
  | some x => match ev x with
    | .int _ z => some (0 ≤ z, z.toNat)
    | _ => none

/-- operations that change nothing -/
def qv (ev : Opd → D) (H : List (Nat × Ob)) : AOp → Option (Prop × D)
  | .mov x => some (True, ev x)
  | .build z ps => match fillD z (ps.map fun p => (p.1, p.2.1, ev p.2.2)) with
    | some ds => some (True, .agg ds)
    | none => none
  | .load ag n x => match ev x with
    | .pc ds => takeD ag n ds
    | .ptr id j => match hget H id with
      | some (.cells ds) => takeD ag n (ds.drop j)
      | _ => none
    | .pel id i sz j => match hget H id with
      | some (.row sz' xs) => match takeD ag n ((xs.getD i []).drop j) with
        | some (p, d) => some ((sz = sz' ∧ i < xs.length) ∧ p, d)
        | none => none
      | some (.rowd sz' xs) => match takeD ag n ((xs.getD i []).drop j) with
        | some (p, d) => some ((sz = sz' ∧ i < xs.length) ∧ p, d)
        | none => none
      | _ => none
    | _ => none
  | .nchk x => match ev x with
    | .pc ds => some (True, .pc ds)
    | .ptr id j => some (True, .ptr id j)
    | .pel id i sz j => some (True, .pel id i sz j)
    | .fn f cs => some (True, .fn f cs)
    | _ => none
  | .bin op x y => binD op (ev x) (ev y)
  | .eqa ne ks x y => match ev x, ev y with
    | .agg cs, .agg bs => match deqs ks cs bs with
      | some (p, b) => some (p, .bool (if ne then !b else b))
      | none => none
    | _, _ => none
  | .eqp ne x y => match isP (ev x), isP (ev y) with
    | some a, some b => some ((a || b) = true, .bool (if ne then !(a && b) else a && b))
    | _, _ => none
  | .eqb ne x y => match ev x, ev y with
    | .bool a, .bool b => some (True, .bool (if ne then !decide (a = b) else decide (a = b)))
    | _, _ => none
  | .not x => match ev x with
    | .bool b => some (True, .bool (!b))
    | _ => none
  | .neg x => match ev x with
    | .int k z => arith k (-z)
    | _ => none
  | .conv k x => match ev x with
    | .int _ z => arith k z
    | _ => none
  | .fld ag off n x => match ev x with
    | .agg ds => takeD ag n (ds.drop off)
    | _ => none
  | .fad off x => match ev x with
    | .pc ds => some (True, .pc (ds.drop off))
    | .ptr id j => some (True, .ptr id (j + off))
    | .pel id i sz j => some (True, .pel id i sz (j + off))
    | _ => none
  | .iada len sz x i => match ev i with
    | .int _ z => match ev x with
      | .pc ds => some (0 ≤ z ∧ z < len, .pc (ds.drop (z.toNat * sz)))
      | .ptr id j => some (0 ≤ z ∧ z < len, .ptr id (j + z.toNat * sz))
      | .pel id i sz' j => some (0 ≤ z ∧ z < len, .pel id i sz' (j + z.toNat * sz))
      | _ => none
    | _ => none
  | .iads sz x i => match ev i with
    | .int _ z => match ev x with
      | .rows sz' xs => some (sz = sz' ∧ 0 ≤ z ∧ z < xs.length, .pc (xs.getD z.toNat []))
      | .own id => match hget H id with
        | some (.row sz' xs) => some (sz = sz' ∧ 0 ≤ z ∧ z < xs.length, .pel id z.toNat sz 0)
        | some (.rowd sz' xs) => some (sz = sz' ∧ 0 ≤ z ∧ z < xs.length, .pel id z.toNat sz 0)
        | _ => none
      | _ => none
    | _ => none
  | .ida ag len sz x i => match ev i with
    | .int _ z => match ev x with
      | .agg ds => match takeD ag sz (ds.drop (z.toNat * sz)) with
        | some (p, d) => some ((0 ≤ z ∧ z < len) ∧ p, d)
        | none => none
      | _ => none
    | _ => none
  | .ext x i => match ev x with
    | .tup ds => some (i < ds.length, ds.getD i .any)
    | _ => none
  | .len x => match ev x with
    | .rows _ xs => some (True, .int .i64 xs.length)
    | .nil0 => some (True, .int .i64 0)
    | .own id => match hget H id with
      | some (.row _ xs) => some (True, .int .i64 xs.length)
      | some (.rowd _ xs) => some (True, .int .i64 xs.length)
      | _ => none
    | _ => none
  | .cst n => some (True, .int .i64 n)
  | .mn x y => match ev x, ev y with
    | .int k a, .int _ b => some (True, .int k (if b < a then b else a))
    | _, _ => none
  | .mx x y => match ev x, ev y with
    | .int k a, .int _ b => some (True, .int k (if a < b then b else a))
    | _, _ => none
  | .slc sz x lo hi mx => match ev x with
    | .rows sz' xs =>
      match boundD mx ev xs.length, boundD lo ev 0, boundD hi ev xs.length with
      | some (p, m), some (q, l), some (r, h) =>
        if mx.isSome && m == 0 then some ((p ∧ q ∧ r) ∧ h = 0 ∧ l = 0, .nil0)
        else some ((p ∧ q ∧ r) ∧ sz = sz' ∧ l ≤ h ∧ h ≤ m ∧ m ≤ xs.length, .rows sz ((xs.take h).drop l))
      | _, _, _ => none
    | _ => none
  | .mkfn f cs => let ds := cs.map ev; if ds.all isT then some (True, .fn f ds) else none
  | _ => none
end Go.Proofs.Ytfkeddefajkobaa
