/- This text turns an operation of the program's form into one of the small machine of the text 'Abs', and proves that those which change nothing compute what that machine says. It has no condition of its own. -/
import Derived.Test.YtfkeddefajkobaaAbs
set_option linter.unusedSimpArgs false
set_option linter.unusedVariables false
namespace Go.Proofs.Ytfkeddefajkobaa
open Go.RowKit

def cellD : Value → Option D
  | .int k z => some (.int k z)
  | .bool b => some (.bool b)
  | .string x => some (.str x)
  | .pointer none => some .nilp
  | .slice none 0 0 => some .nil0
  | .func (.func f) l r => if l.size = 0 ∧ r.size = 0 then some (.fn f []) else none
  | _ => none
def cellsD : List Value → Option (List D)
  | [] => some []
  | v :: vs => match cellD v, cellsD vs with
    | some d, some ds => some (d :: ds)
    | _, _ => none
def valD : Value → Option D
  | .agg cs => (cellsD cs.toList).map .agg
  | v => cellD v
def opdC : Operand → Option Opd
  | .tmp t => some (.t t)
  | .const v => (valD v).map .k
  | .func f => some (.k (.fn f []))
  | .global _ => none
def opdsC : List Operand → Option (List Opd)
  | [] => some []
  | x :: xs => match opdC x, opdsC xs with
    | some y, some ys => some (y :: ys)
    | _, _ => none
def szT (P : Program) (t : TypeId) : Option Nat := (P.info? t).map (·.size)
def agT (P : Program) (t : TypeId) : Option Bool := (P.underlying t).map fun d => match d with | .struct _ => true | .array _ _ => true | _ => false
def zeroT (P : Program) (t : TypeId) : Option (List D) :=
  match P.info? t with
  | some i => match i.zero with
    | some z => if z.cells.size = i.size then cellsD z.cells.toList else none
    | none => none
  | none => none
/-- where part number i of a struct or an array lies -/
def placeT (P : Program) (t : TypeId) (i : Nat) : Option (Nat × Nat) :=
  match P.underlying t with
  | some (.struct fs) => if fs.toList.all fun f => (szT P f.type).isSome then match fs[i]? with
    | some f => (szT P f.type).map fun n => (f.offset, n)
    | none => none
    else none
  | some (.array _ e) => (szT P e).map fun n => (i * n, n)
  | _ => none
def partsC (P : Program) (t : TypeId) : List (Nat × Operand) → Option (List (Nat × Nat × Opd))
  | [] => some []
  | (i, x) :: ps => match placeT P t i, opdC x, partsC P t ps with
    | some (o, n), some y, some ys => some ((o, n, y) :: ys)
    | _, _, _ => none
def bpartsC : List (Nat × Operand) → Option (List (Nat × Opd))
  | [] => some []
  | (i, x) :: ps => match opdC x, bpartsC ps with
    | some y, some ys => some ((i, y) :: ys)
    | _, _ => none
def kindsF (P : Program) (K : TypeId → Option (List Kd)) : Nat → List Field → Option (List Kd)
  | _, [] => some []
  | off, f :: fs => if f.name ≠ "_" ∧ f.offset = off then match K f.type, agT P f.type, szT P f.type with
    | some ks, some _, some n => if ks.length = n then (kindsF P K (off + n) fs).map (ks ++ ·) else none
    | _, _, _ => none
    else none
/-- a struct of numbers, truth values and strings, cell by cell -/
def kindsT (P : Program) : Nat → TypeId → Option (List Kd)
  | 0, _ => none
  | d + 1, t => match P.underlying t with
    | some (.int _) => some [.i]
    | some .bool => some [.b]
    | some .string => some [.s]
    | some (.struct fs) => if P.stoodInHeld t then none else kindsF P (kindsT P d) 0 fs.toList
    | _ => none
def optC : Option Operand → Option (Option Opd)
  | none => some none
  | some x => (opdC x).map some
def eqC (P : Program) (t : TypeId) (ne : Bool) (x y : Opd) : Option AOp :=
  match P.underlying t with
  | some (.int _) => some (.bin (if ne then .neq else .eql) x y)
  | some .string => some (.bin (if ne then .neq else .eql) x y)
  | some .bool => some (.eqb ne x y)
  | some (.pointer e) => if 0 < P.cellsOf e then some (.eqp ne x y) else none
  | some (.slice _) => match y with
    | .k .nil0 => some (.isnil ne x)
    | _ => none
  | some (.struct _) => if P.eqGuardType P.depth t then none else (kindsT P 9 t).map fun ks => .eqa ne ks x y
  | _ => none
def sliceT (P : Program) (t : TypeId) : Option TypeId :=
  match P.underlying t with
  | some (.slice e) => some e
  | _ => none
def buildT (P : Program) (t : TypeId) : Bool :=
  match P.underlying t with
  | some (.struct fs) => fs.toList.all fun f => (szT P f.type).isSome
  | some (.array _ e) => (szT P e).isSome
  | _ => false
def cop (P : Program) (o : Op) : Option AOp :=
  match o with
  | .move x => (opdC x).map .mov
  | .assign x => (opdC x).map .mov
  | .pick c a b => match opdC c, opdC a, opdC b with
    | some c, some a, some b => some (.pick c a b)
    | _, _, _ => none
  | .alloc t => (zeroT P t).map .alloc
  | .box _ x => (opdC x).map .box
  | .build t ps => match zeroT P t, partsC P t ps.toList with
    | some z, some ps => if buildT P t then some (.build z ps) else none
    | _, _ => none
  | .buildSlice t len ps => match sliceT P t with
    | some e => match szT P e, zeroT P e, bpartsC ps.toList with
      | some n, some z, some ps => if 0 < n ∧ len * n ≤ 16777216 then some (.bslice n len z ps) else none
      | _, _, _ => none
    | none => none
  | .load t x => match agT P t, szT P t, opdC x with
    | some a, some n, some x => some (.load a n x)
    | _, _, _ => none
  | .store t x y => match szT P t, opdC x, opdC y with
    | some n, some x, some y => some (.store n x y)
    | _, _, _ => none
  | .nilCheck x => (opdC x).map .nchk
  | .binOp op t x y _ => match opdC x, opdC y with
    | some x, some y => match op with
      | .eql => eqC P t false x y
      | .neq => eqC P t true x y
      | op => some (.bin op x y)
    | _, _ => none
  | .unOp op _ x => match op with
    | .not => (opdC x).map .not
    | .neg => (opdC x).map .neg
    | _ => none
  | .convert u t x => match P.underlying t, P.underlying u with
    | some (.int k), some _ => (opdC x).map (.conv k)
    | _, _ => none
  | .makeFunc (.func f) l cs => if l.size = 0 then (opdsC cs.toList).map (.mkfn f) else none
  | .makeSlice t l c => match sliceT P t with
    | some e => match P.info? e, zeroT P e, opdC l, opdC c with
      | some i, some z, some l, some c => if 0 < i.size then some (.mks i.size i.bytes z l c) else none
      | _, _, _, _ => none
    | none => none
  | .slice t x lo hi mx => match sliceT P t with
    | some e => match szT P e, opdC x, optC lo, optC hi, optC mx with
      | some n, some x, some lo, some hi, some mx => if mx.isSome && !hi.isSome then none else some (.slc n x lo hi mx)
      | _, _, _, _, _ => none
    | none => none
  | .fieldAddr t x i => match P.underlying t with
    | some (.struct fs) => match fs[i]? with
      | some f => match szT P f.type, opdC x with
        | some n, some x => if 0 < n then some (.fad f.offset x) else none
        | _, _ => none
      | none => none
    | _ => none
  | .field t x i => match P.underlying t with
    | some (.struct fs) => match fs[i]? with
      | some f => match agT P f.type, szT P f.type, opdC x with
        | some a, some n, some x => some (.fld a f.offset n x)
        | _, _, _ => none
      | none => none
    | _ => none
  | .indexAddr t x i => match P.underlying t, opdC x, opdC i with
    | some (.slice e), some x, some i => (szT P e).map fun n => .iads n x i
    | some (.array len e), some x, some i => (szT P e).map fun n => .iada len n x i
    | _, _, _ => none
  | .index t x i => match P.underlying t, opdC x, opdC i with
    | some (.array len e), some x, some i => match agT P e, szT P e with
      | some a, some n => some (.ida a len n x i)
      | _, _ => none
    | _, _, _ => none
  | .extract x i => (opdC x).map fun x => .ext x i
  | .call c => match c.callee with
    | .value f => match f, opdsC c.args.toList with
      | .func f, some as_ => some (.call f as_)
      | .tmp t, some as_ => some (.callv (.t t) as_)
      | _, _ => none
    | .builtin b => match b, opdsC c.args.toList, c.argTypes.toList with
      | .len, some [x], [t] => match P.underlying t with
        | some (.slice _) => some (.len x)
        | some (.array n _) => some (.cst n)
        | some (.pointer a) => match P.underlying a with
          | some (.array n _) => some (.cst n)
          | _ => none
        | _ => none
      | .min, some [x, y], _ => some (.mn x y)
      | .max, some [x, y], _ => some (.mx x y)
      | .append, some [x, y], [t, t'] => if t = t' then match sliceT P t with
        | some e => match P.info? e, zeroT P e with
          | some i, some z => if 0 < i.size then some (.app i.size i.bytes z x y) else none
          | _, _ => none
        | none => none
        else none
      | _, _, _ => none
    | _ => none
  | _ => none

def dstOk (N : Nat) : Option Nat → Bool
  | some d => decide (d < N)
  | none => true
/-- keys: a number, or a struct of so many -/
def mapK (P : Program) (t : TypeId) : Option Nat :=
  if t < P.types.size then
    match P.underlying t with
    | some (.int .i64) => some 0
    | some (.struct _) => match kindsT P 9 t with
      | some ks => if ks.all (fun k => match k with | .i => true | _ => false) && 0 < ks.length then some ks.length else none
      | none => none
    | _ => none
  else none
/-- operations of other kinds: each has its own rule -/
def xcop (P : Program) (o : Op) : Option AOp :=
  match o with
  | .makeMap t none => match P.underlying t with
    | some (.map k _) => (mapK P k).map fun n => .xop 0 [n] []
    | _ => none
  | .mapUpdate t m k v => match P.underlying t, opdC m, opdC k, opdC v with
    | some (.map kt _), some m, some k, some v => (mapK P kt).map fun n => .xop 1 [n] [m, k, v]
    | _, _, _, _ => none
  | .range t x => match P.underlying t, opdC x with
    | some (.map kt _), some x => (mapK P kt).map fun n => .xop 4 [n] [x]
    | _, _ => none
  | .convert u t x => match P.underlying u, P.underlying t with
    | some (.slice e), some .string => match P.underlying e with
      | some (.int .u8) => (opdC x).map fun x => .xop 7 [] [x]
      | _ => none
    | _, _ => none
  | .next x false => (opdC x).map fun x => .xop 5 [] [x]
  | .entry x => (opdC x).map fun x => .xop 6 [] [x]
  | .call c => match c.callee with
    | .builtin .delete => match opdsC c.args.toList, c.argTypes.toList with
      | some [m, k], [t, _] => match P.underlying t with
        | some (.map kt _) => (mapK P kt).map fun n => .xop 2 [n] [m, k]
        | _ => none
      | _, _ => none
    | .builtin .len => match opdsC c.args.toList, c.argTypes.toList with
      | some [m], [t] => match P.underlying t with
        | some (.map kt _) => (mapK P kt).map fun n => .xop 3 [n] [m]
        | _ => none
      | _, _ => none
    | _ => none
  | _ => none
def copX (P : Program) (o : Op) : Option AOp :=
  match xcop P o with
  | some x => some x
  | none => cop P o
def coper (P : Program) (N : Nat) (ops : Array Oper) (o : Oper) : Option AO :=
  if dstOk N o.dst then
    match copX P o.op with
    | some op => match o.guard with
      | none => some ⟨o.dst, op, none⟩
      | some (j, b) => match (ops[j]?).bind (·.dst) with
        | some t => some ⟨o.dst, op, some (t, b)⟩
        | none => none
    | none => none
  else none
def copers (P : Program) (N : Nat) (ops : Array Oper) : List Oper → Option (List AO)
  | [] => some []
  | o :: os => match coper P N ops o, copers P N ops os with
    | some a, some r => some (a :: r)
    | _, _ => none

end Go.Proofs.Ytfkeddefajkobaa
