/- This text says what a function's text does to what is known of its variables and of memory ('aops', 'acode'), and what a contract of a function is ('PF', 'HF'). It has no condition of its own. -/
import Derived.Test.YtfkeddefajkobaaAca
set_option linter.unusedSimpArgs false
set_option linter.unusedVariables false
namespace Go.Proofs.Ytfkeddefajkobaa
open Go.RowKit

def s0 : Nat → Value := fun _ => undef
def callable (P : Program) (f : FuncId) : Bool :=
  match P.funcs[f]? with
  | some fn => fn.body.isSome && !(fn.name == "runtime.NumGoroutine")
  | none => false
/-- f, called with these data, hands back d, and makes new memory only -/
def PF (P : Program) (f : FuncId) (ds : List D) (d : D) : Prop :=
  callable P f = true ∧ ∀ (Z : Cells) (w : World) (vs : Array Value), (∀ b o v, Z b o = some v → w.cell? ⟨b, o, none⟩ = some v) → vs.size = ds.length → (∀ j x, ds[j]? = some x → VV s0 Z x (vs.getD j undef)) →
    Calls P f vs w fun e w' => ∃ v Z', e = .returned v ∧ VR s0 Z' d v ∧ Zx Z Z' w w' ∧ Below w.heap.size w w'
/-- and what it hands back leads to new memory alone -/
def PFn (P : Program) (f : FuncId) (ds : List D) (d : D) : Prop :=
  callable P f = true ∧ ∀ (Z : Cells) (w : World) (vs : Array Value), (∀ b o v, Z b o = some v → w.cell? ⟨b, o, none⟩ = some v) → vs.size = ds.length → (∀ j x, ds[j]? = some x → VV s0 Z x (vs.getD j undef)) →
    Calls P f vs w fun e w' => ∃ v Zn, e = .returned v ∧ VR s0 Zn d v ∧ (∀ b o u, Zn b o = some u → w.heap.size ≤ b ∧ w'.cell? ⟨b, o, none⟩ = some u) ∧ Below w.heap.size w w'
/-- f, called with these data over memory of one's own, hands back some d and leaves memory as R says -/
def HF (P : Program) (f : FuncId) (ds : List D) (H : List (Nat × Ob)) (nx : Nat) (R : D → List (Nat × Ob) → Nat → Prop) : Prop :=
  callable P f = true ∧ ∀ (F : Nat → Prop) (s : Nat → Value) (Z : Cells) (w : World) (vs : Array Value), RelH ⟨0, F, w, nx, s, Z⟩ s Z H nx w → vs.size = ds.length → (∀ j x, ds[j]? = some x → VV s Z x (vs.getD j undef)) →
    Calls P f vs w fun e w' => ∃ v d H' nx' s' Z', e = .returned v ∧ VR s' Z' d v ∧ LtR nx' d ∧ RelH ⟨0, F, w, nx, s, Z⟩ s' Z' H' nx' w' ∧ R d H' nx'
/-- over no memory of one's own there is no reference -/
theorem VC.of0 {s : Nat → Value} {Z : Cells} {d : D} {v : Value} (h : VC s0 Z d v) : VC s Z d v ∧ LtC 0 d := by
  cases d with
  | own id => obtain ⟨h1, ⟨_, _, _, h2⟩ | ⟨_, h2⟩⟩ := h <;> (rw [h2] at h1; cases h1)
  | ptr id j => obtain ⟨b, h1, _⟩ := h; cases h1
  | pel id i sz j => obtain ⟨b, _, _, h1, _⟩ := h; cases h1
  | _ => exact ⟨h, trivial⟩
theorem VV.of0 {s : Nat → Value} {Z : Cells} {d : D} {v : Value} (h : VV s0 Z d v) : VV s Z d v ∧ LtV 0 d := by
  cases d with
  | agg ds =>
    obtain ⟨vs, rfl, hl, hc⟩ := h
    refine ⟨⟨vs, rfl, hl, fun j x hx => (hc j x hx).of0.1⟩, fun x hx => ?_⟩
    obtain ⟨j, hj⟩ := List.getElem?_of_mem hx
    exact (hc j x hj).of0 (s := s0).2
  | _ => simp only [VV, LtV] at h ⊢; exact VC.of0 h
theorem VR.of0 {s : Nat → Value} {Z : Cells} {d : D} {v : Value} (h : VR s0 Z d v) : VR s Z d v ∧ LtR 0 d := by
  cases d with
  | tup ds =>
    obtain ⟨vs, rfl, hl, hc⟩ := h
    refine ⟨⟨vs, rfl, hl, fun j x hx => (hc j x hx).of0.1⟩, fun x hx => ?_⟩
    obtain ⟨j, hj⟩ := List.getElem?_of_mem hx
    exact (hc j x hj).of0 (s := s0).2
  | any => exact ⟨trivial, trivial⟩
  | _ => simp only [VR, LtR] at h ⊢; exact VV.of0 h
theorem VR.lt0 {Z : Cells} {d : D} {v : Value} (h : VR s0 Z d v) : LtR 0 d := (VR.of0 (s := s0) h).2
theorem PFn.pf {P : Program} {f : FuncId} {ds : List D} {d : D} (h : PFn P f ds d) : PF P f ds d := by
  refine ⟨h.1, fun Z w vs hz hl hv => (h.2 Z w vs hz hl hv).mono ?_⟩
  rintro e w' ⟨v, Zn, he, hr, hn, hb⟩
  refine ⟨v, fun b o => match Z b o with | some u => some u | none => Zn b o, he, ?_, ⟨fun b o u hu => by simp only [hu], fun b o u hu => ?_, fun b o u hu => ?_⟩, hb⟩
  · refine VR.mono (n := 0) (fun b o u hu => ?_) (fun _ h => by omega) ?_ hr
    · cases hq : Z b o with
      | none => simp only [hu]
      | some u' =>
        have h1 := World.block_lt_of_cell? w _ (hz b o u' hq)
        have h2 := (hn b o u hu).1
        simp only at h1
        omega
    · exact VR.lt0 hr
  · cases hq : Z b o with
    | none => simp only [hq] at hu; exact .inr (hn b o u hu).1
    | some u' => simp only [hq] at hu; exact .inl (by rw [← hu])
  · cases hq : Z b o with
    | none => simp only [hq] at hu; exact (hn b o u hu).2
    | some u' =>
      simp only [hq, Option.some.injEq] at hu
      subst hu
      have := hz b o u' hq
      rw [hb.cell (p := ⟨b, o, none⟩) (World.block_lt_of_cell? w _ this)]; exact this
/-- what is known behind an operation goes on; sb: and it has left all that was there as it was -/
def Goes (sb : Bool) (B : Base) (w : World) (K : St → Prop) (K' : Act → World → Prop) : Prop := ∀ st' s' Z' a' w', (sb = true → Below w.heap.size w w') → K st' → Rel B s' Z' st' a' w' → K' a' w'
/-- this operation, a call, leaves what K says -/
def WCall (P : Program) (sb : Bool) (B : Base) (ao : AOp) (dst : Option Nat) (st : St) (K : St → Prop) : Prop :=
  ∀ (o : Oper) (s : Nat → Value) (Z : Cells) (a : Act) (w : World) (K' : Act → World → Prop) (Q : Exit → Act → World → Prop), cop P o.op = some ao → o.dst = dst → (∀ d, dst = some d → d < B.N) → Rel B s Z st a w → Goes sb B w K K' → o.wp P a w K' Q

/-- this operation, of another kind, leaves what K says -/
def XCall (P : Program) (sb : Bool) (B : Base) (ao : AOp) (dst : Option Nat) (st : St) (K : St → Prop) : Prop :=
  ∀ (o : Oper) (s : Nat → Value) (Z : Cells) (a : Act) (w : World) (K' : Act → World → Prop) (Q : Exit → Act → World → Prop), xcop P o.op = some ao → o.dst = dst → (∀ d, dst = some d → d < B.N) → Rel B s Z st a w → Goes sb B w K K' → o.wp P a w K' Q

/-! ### Reading memory of one's own as data -/
def omap {α β : Type} (f : α → Option β) : List α → Option (List β)
  | [] => some []
  | x :: xs => match f x, omap f xs with
    | some y, some ys => some (y :: ys)
    | _, _ => none
def brwC (H : List (Nat × Ob)) : Nat → D → Option D
  | n, .own id => match n with
    | 0 => none
    | n + 1 => match hget H id with
      | some (.row sz xs) => some (.rows sz xs)
      | some (.rowd sz xs) => (omap (omap (brwC H n)) xs).map (.rows sz)
      | _ => none
  | n, .ptr id j => match n with
    | 0 => none
    | n + 1 => match hget H id with
      | some (.cells ds) => (omap (brwC H n) (ds.drop j)).map .pc
      | _ => none
  | _, .pel .. => none
  | _, .agg _ => none
  | _, .tup _ => none
  | _, .opt .. => none
  | _, .int k z => some (.int k z)
  | _, .bool b => some (.bool b)
  | _, .str b => some (.str b)
  | _, .nilp => some .nilp
  | _, .any => some .any
  | _, .nil0 => some .nil0
  | _, .rows sz xs => some (.rows sz xs)
  | _, .pc ds => some (.pc ds)
  | _, .fn f cs => some (.fn f cs)
def brwV (H : List (Nat × Ob)) : D → Option D
  | .any => none
  | .agg ds => (omap (brwC H 4) ds).map .agg
  | d => brwC H 4 d
def brwR (H : List (Nat × Ob)) : D → Option D
  | .tup ds => (omap (brwV H) ds).map .tup
  | d => brwV H d
/-- no slice at all is a slice of nothing -/
def leC : D → D → Prop
  | .nil0, .rows _ xs => xs = []
  | d, e => d = e
def leL : List D → List D → Prop
  | [], [] => True
  | d :: ds, e :: es => leC d e ∧ leL ds es
  | _, _ => False
def leV : D → D → Prop
  | .agg ds, .agg es => leL ds es
  | d, e => leC d e
def leVL : List D → List D → Prop
  | [], [] => True
  | d :: ds, e :: es => leV d e ∧ leVL ds es
  | _, _ => False
def leR : D → D → Prop
  | .tup ds, .tup es => leVL ds es
  | d, e => leV d e
theorem leC_refl (d : D) : leC d d := by cases d <;> rfl
theorem leL_refl : ∀ (ds : List D), leL ds ds
  | [] => trivial
  | d :: ds => ⟨leC_refl d, leL_refl ds⟩
theorem leV_refl (d : D) : leV d d := by cases d <;> first | exact leL_refl _ | exact Eq.refl _
theorem leVL_refl : ∀ (ds : List D), leVL ds ds
  | [] => trivial
  | d :: ds => ⟨leV_refl d, leVL_refl ds⟩
theorem leL_get : ∀ {ds es : List D}, leL ds es → ds.length = es.length ∧ ∀ (j : Nat) (e : D), es[j]? = some e → ∃ d, ds[j]? = some d ∧ leC d e
  | [], [], _ => ⟨rfl, fun j e h => by simp at h⟩
  | d :: ds, e :: es, h => by
    obtain ⟨h1, h2⟩ := leL_get h.2
    refine ⟨by simp [h1], fun j x hx => ?_⟩
    cases j with
    | zero => simp at hx; subst hx; exact ⟨d, rfl, h.1⟩
    | succ j => simpa using h2 j x (by simpa using hx)
  | [], _ :: _, h => h.elim
  | _ :: _, [], h => h.elim
theorem leVL_get : ∀ {ds es : List D}, leVL ds es → ds.length = es.length ∧ ∀ (j : Nat) (e : D), es[j]? = some e → ∃ d, ds[j]? = some d ∧ leV d e
  | [], [], _ => ⟨rfl, fun j e h => by simp at h⟩
  | d :: ds, e :: es, h => by
    obtain ⟨h1, h2⟩ := leVL_get h.2
    refine ⟨by simp [h1], fun j x hx => ?_⟩
    cases j with
    | zero => simp at hx; subst hx; exact ⟨d, rfl, h.1⟩
    | succ j => simpa using h2 j x (by simpa using hx)
  | [], _ :: _, h => h.elim
  | _ :: _, [], h => h.elim
theorem leC_sound {s : Nat → Value} {Z : Cells} {d e : D} {v : Value} (h : leC d e) (hv : VC s Z d v) : VC s Z e v := by
  unfold leC at h
  split at h
  · subst h; cases hv; exact VT.rnil _ _ _
  · subst h; exact hv
theorem leV_sound {s : Nat → Value} {Z : Cells} {d e : D} {v : Value} (h : leV d e) (hv : VV s Z d v) : VV s Z e v := by
  unfold leV at h
  split at h
  · obtain ⟨vs, rfl, h1, h2⟩ := hv
    obtain ⟨g1, g2⟩ := leL_get h
    exact ⟨vs, rfl, by omega, fun j x hx => by obtain ⟨y, hy, hl⟩ := g2 j x hx; exact leC_sound hl (h2 j y hy)⟩
  · unfold leC at h
    split at h
    · subst h; cases hv; exact VT.rnil _ _ _
    · subst h; exact hv
theorem leR_sound {s : Nat → Value} {Z : Cells} {d e : D} {v : Value} (h : leR d e) (hv : VR s Z d v) : VR s Z e v := by
  unfold leR at h
  split at h
  · obtain ⟨vs, rfl, h1, h2⟩ := hv
    obtain ⟨g1, g2⟩ := leVL_get h
    exact ⟨vs, rfl, by omega, fun j x hx => by obtain ⟨y, hy, hl⟩ := g2 j x hx; exact leV_sound hl (h2 j y hy)⟩
  · unfold leV at h
    split at h
    · exact leV_sound (d := .agg _) (e := .agg _) h hv
    · unfold leC at h
      split at h
      · subst h; cases hv; exact VT.rnil _ _ _
      · subst h; exact hv
def noC : D → Bool
  | .own _ => false
  | .ptr .. => false
  | .pel .. => false
  | _ => true
def noV : D → Bool
  | .agg ds => ds.all noC
  | d => noC d
/-- it is the same wherever memory lies -/
def flatC : D → Bool
  | .int .. => true
  | .bool _ => true
  | .str _ => true
  | .nilp => true
  | _ => false
def flatV : D → Bool
  | .agg ds => ds.all flatC
  | d => flatC d
def flatR : D → Bool
  | .tup ds => ds.all flatV
  | d => flatV d

/-! ### Operations -/
def strip : D → D
  | .opt _ d => d
  | d => d
def gof : D → Bool
  | .opt g _ => g
  | _ => true
def evS (env : List (Nat × D)) : Opd → D
  | .t n => strip (eget env n)
  | .k d => d
def gS (env : List (Nat × D)) : Opd → Bool
  | .t n => gof (eget env n)
  | .k _ => true
def opnds : AOp → List Opd
  | .mov x => [x]
  | .pick .. => []
  | .build _ ps => ps.map fun p => p.2.2
  | .load _ _ x => [x]
  | .nchk x => [x]
  | .bin _ x y => [x, y]
  | .eqa _ _ x y => [x, y]
  | .eqp _ x y => [x, y]
  | .eqb _ x y => [x, y]
  | .isnil _ x => [x]
  | .not x => [x]
  | .neg x => [x]
  | .conv _ x => [x]
  | .fld _ _ _ x => [x]
  | .fad _ x => [x]
  | .iada _ _ x i => [x, i]
  | .iads _ x i => [x, i]
  | .ida _ _ _ x i => [x, i]
  | .ext x _ => [x]
  | .len x => [x]
  | .cst _ => []
  | .mn x y => [x, y]
  | .mx x y => [x, y]
  | .slc _ x lo hi mx => x :: (lo.toList ++ (hi.toList ++ mx.toList))
  | .mkfn _ cs => cs
  | .alloc _ => []
  | .box x => [x]
  | .bslice _ _ _ ps => ps.map fun p => p.2
  | .store _ x y => [x, y]
  | .call _ as_ => as_
  | .callv x as_ => x :: as_
  | .app _ _ _ x y => [x, y]
  | .mks _ _ _ l c => [l, c]
  | .xop _ _ xs => xs
def oks (env : List (Nat × D)) (op : AOp) : Bool := (opnds op).all (gS env)
def putO (env : List (Nat × D)) (dst : Option Nat) (d : D) : List (Nat × D) :=
  match dst with
  | some k => eput env k d
  | none => env
def argOk : D → Bool
  | .any => false
  | .tup _ => false
  | .opt .. => false
  | _ => true
/-- operations that make or write memory -/
def aloud1 (dst : Option Nat) (op : AOp) (st : St) (K : St → Prop) : Prop :=
  match op with
  | .alloc z => K ⟨putO st.env dst (.ptr st.nx 0), eput st.heap st.nx (.cells z), st.nx + 1⟩
  | .box x => 0 < (evS st.env x).cells.length ∧ K ⟨putO st.env dst (.ptr st.nx 0), eput st.heap st.nx (.cells (evS st.env x).cells), st.nx + 1⟩
  | .bslice sz len z ps => match fillD (List.replicate len z).flatten (ps.map fun q => (q.1 * sz, sz, evS st.env q.2)) with
    | some ds => K ⟨putO st.env dst (.own st.nx), eput st.heap st.nx (if ds.all isT then .row sz (chunks sz len ds) else .rowd sz (chunks sz len ds)), st.nx + 1⟩
    | none => False
  | .mks sz bytes z l c => match evS st.env l, evS st.env c with
    | .int _ a, .int _ b => (0 ≤ a ∧ a ≤ b ∧ (bytes : Int) * b ≤ 281474976710656 ∧ b ≤ 9223372036854775807) ∧ K ⟨putO st.env dst (.own st.nx), eput st.heap st.nx (.row sz (List.replicate a.toNat z)), st.nx + 1⟩
    | _, _ => False
  | .store n x y => let d := evS st.env y; (d.cells.length = n ∧ 0 < n) ∧ match evS st.env x with
    | .ptr id j => match hget st.heap id with
      | some (.cells ds) => j + n ≤ ds.length ∧ K ⟨putO st.env dst .any, eput st.heap id (.cells (splice ds j d.cells)), st.nx⟩
      | _ => False
    | .pel id i sz j => match hget st.heap id with
      | some (.row sz' xs) => (sz = sz' ∧ i < xs.length ∧ j + n ≤ sz ∧ d.cells.all isT = true) ∧ K ⟨putO st.env dst .any, eput st.heap id (.row sz' (xs.set i (splice (xs.getD i []) j d.cells))), st.nx⟩
      | some (.rowd sz' xs) => (sz = sz' ∧ i < xs.length ∧ j + n ≤ sz) ∧ K ⟨putO st.env dst .any, eput st.heap id (.rowd sz' (xs.set i (splice (xs.getD i []) j d.cells))), st.nx⟩
      | _ => False
    | _ => False
  | .app sz bytes _ x y => 0 < bytes ∧ match slD st.heap (evS st.env y) with
    | some (ty, sy, ys) => ((sy = sz ∨ ys = []) ∧ ∀ row ∈ ys, row.length = sz) ∧ match evS st.env x with
      | .nil0 => ys.length * bytes ≤ 140737488355328 ∧ K ⟨putO st.env dst (.own st.nx), eput st.heap st.nx (if ty then .row sz ys else .rowd sz ys), st.nx + 1⟩
      | .own id => match hget st.heap id with
        | some (.row sx xs) => (sx = sz ∧ (xs.length + ys.length) * bytes ≤ 140737488355328) ∧ K ⟨putO st.env dst (.own st.nx), eput (herase st.heap id) st.nx (if ty then .row sz (xs ++ ys) else .rowd sz (xs ++ ys)), st.nx + 1⟩
        | some (.rowd sx xs) => (sx = sz ∧ (xs.length + ys.length) * bytes ≤ 140737488355328) ∧ K ⟨putO st.env dst (.own st.nx), eput (herase st.heap id) st.nx (.rowd sz (xs ++ ys)), st.nx + 1⟩
        | _ => False
      | _ => False
    | none => False
  | _ => False
def isWrite : AOp → Bool
  | .store .. => true
  | .app .. => true
  | _ => false
def aloud (P : Program) (sb : Bool) (B : Base) (dst : Option Nat) (op : AOp) (st : St) (K : St → Prop) : Prop :=
  match op with
  | .call f as_ => WCall P sb B (.call f as_) dst st K
  | .callv x as_ => WCall P sb B (.callv x as_) dst st K
  | .xop k ns xs => XCall P sb B (.xop k ns xs) dst st K
  | op => ((sb && isWrite op) = false ∧ oks st.env op = true) ∧ aloud1 dst op st K
def isLoud : AOp → Bool
  | .alloc _ => true
  | .box _ => true
  | .bslice .. => true
  | .store .. => true
  | .call .. => true
  | .callv .. => true
  | .app .. => true
  | .mks .. => true
  | .xop .. => true
  | _ => false
def pickV (c : Bool) : D → D → Option (Prop × D)
  | .bool p, .bool q => some (True, .bool (bif c then p else q))
  | .bool p, _ => some (c = true, .bool p)
  | _, .bool q => some (c = false, .bool q)
  | _, _ => none
/-- how many rows it has -/
def lenD (H : List (Nat × Ob)) : D → Option Nat
  | .nil0 => some 0
  | .rows _ xs => some xs.length
  | .own id => match hget H id with
    | some (.row _ xs) => some xs.length
    | some (.rowd _ xs) => some xs.length
    | _ => none
  | _ => none
/-- a value is put down; g: whether the operation is carried out -/
def afin (g : Option Bool) (dst : Option Nat) (p : Prop) (d : D) (st : St) (K : St → Prop) : Prop :=
  match g with
  | none => p ∧ K ⟨putO st.env dst d, st.heap, st.nx⟩
  | some h => (h = true → p) ∧ K ⟨putO st.env dst (.opt h d), st.heap, st.nx⟩
/-- the operation is not carried out -/
def afin0 (g : Option Bool) (dst : Option Nat) (st : St) (K : St → Prop) : Prop :=
  match g with
  | none => False
  | some h => h = false ∧ K ⟨putO st.env dst (.opt false .any), st.heap, st.nx⟩
/-- one operation; g: whether it is carried out -/
def aop (P : Program) (sb : Bool) (B : Base) (g : Option Bool) (dst : Option Nat) (op : AOp) (st : St) (K : St → Prop) : Prop :=
  if isLoud op then
    match g with
    | none => aloud P sb B dst op st K
    | some c => (c = true → aloud P sb B dst op st K) ∧ (c = false → K ⟨putO st.env dst (.opt false .any), st.heap, st.nx⟩)
  else
    match op with
    | .pick c x y => match evS st.env c with
      | .bool b => match pickV b (evS st.env x) (evS st.env y) with
        | some (p, d) => afin g dst ((gS st.env c = true ∧ (b = true → gS st.env x = true) ∧ (b = false → gS st.env y = true)) ∧ p) d st K
        | none => afin0 g dst st K
      | _ => afin0 g dst st K
    | .isnil ne x => match lenD st.heap (evS st.env x) with
      | some n => ∀ b : Bool, (0 < n → b = ne) → afin g dst (gS st.env x = true) (.bool b) st K
      | none => afin0 g dst st K
    | op => match qv (evS st.env) st.heap op with
      | some (p, d) => afin g dst (oks st.env op = true ∧ p) d st K
      | none => afin0 g dst st K
def astep (P : Program) (sb : Bool) (B : Base) (o : AO) (st : St) (K : St → Prop) : Prop :=
  match o.guard with
  | none => aop P sb B none o.dst o.op st K
  | some (t, b) => match eget st.env t with
    | .bool c => aop P sb B (some (if b then c else !c)) o.dst o.op st K
    | .opt g (.bool c) => aop P sb B (some (g && (if b then c else !c))) o.dst o.op st K
    | .opt g _ => g = false ∧ aop P sb B (some false) o.dst o.op st K
    | _ => False
def aops (P : Program) (B : Base) : List AO → St → (St → Prop) → Prop
  | [], st, K => K st
  | o :: os, st, K => astep P false B o st fun st' => aops P B os st' K
end Go.Proofs.Ytfkeddefajkobaa
