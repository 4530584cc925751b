/- This text holds, one behind the other, the texts that say what the program computes, step by step, and the rules that they need. They have no condition of their own. -/
import Derived.Test.YtajimebannjofaaMa
import Derived.OrdersHeld
import Derived.Deep.RegionHeld
set_option linter.unusedSimpArgs false
set_option linter.unusedVariables false
namespace Go.Proofs.Ytajimebannjofaa
open Go.RowKit

/-- cells by so many -/
def chunks (sz : Nat) : Nat → List D → List (List D)
  | 0, _ => []
  | k + 1, ds => ds.take sz :: chunks sz k (ds.drop sz)
theorem chunks_length (sz : Nat) : ∀ (k : Nat) (ds : List D), (chunks sz k ds).length = k
  | 0, _ => rfl
  | k + 1, ds => by simp [chunks, chunks_length sz k]
theorem chunks_get (sz : Nat) : ∀ (k : Nat) (ds : List D) (i : Nat) (row : List D), (chunks sz k ds)[i]? = some row → row = (ds.drop (i * sz)).take sz ∧ i < k
  | 0, _, i, row, h => by simp [chunks] at h
  | k + 1, ds, 0, row, h => by simp [chunks] at h; simp [h]
  | k + 1, ds, i + 1, row, h => by
    simp only [chunks, List.getElem?_cons_succ] at h
    obtain ⟨h1, h2⟩ := chunks_get sz k _ i row h
    rw [List.drop_drop] at h1
    exact ⟨by rw [h1, show sz + i * sz = (i + 1) * sz by rw [Nat.add_mul]; omega], by omega⟩
theorem flat_get {z : List D} (h0 : 0 < z.length) : ∀ (k j : Nat), (List.replicate k z).flatten[j]? = if j < k * z.length then z[j % z.length]? else none
  | 0, j => by simp
  | k + 1, j => by
    rw [List.replicate_succ, List.flatten_cons]
    by_cases hj : j < z.length
    · rw [List.getElem?_append_left hj, if_pos (by rw [Nat.add_mul]; omega), Nat.mod_eq_of_lt hj]
    · rw [List.getElem?_append_right (by omega), flat_get h0 k]
      have e : (j - z.length) % z.length = j % z.length := by
        conv => rhs; rw [show j = (j - z.length) + z.length by omega, Nat.add_mod_right]
      rw [e]
      by_cases h : j < (k + 1) * z.length
      · rw [if_pos h, if_pos (by rw [Nat.add_mul] at h; omega)]
      · rw [if_neg h, if_neg (by rw [Nat.add_mul] at h; omega)]

section
variable {P : Program} {F : Nat → Prop} {w0 w : World} {s : Nat → Value} {Z : Cells} {H : List (Nat × Ob)} {nx : Nat} {ρ : Operand → Value} {ev : Opd → D}

theorem rowOk_of_cells {R : D → Value → Prop} {w : World} {b k sz : Nat} {e : TypeId} {cs : Array Value} {ds : List D} (hsz : 0 < sz) (hb : w.heap[b]? = some (.cells cs e (0, 0))) (hl : cs.size = ds.length) (hk : ds.length = k * sz) (hm : k ≤ maxLen)
    (hc : ∀ j x, ds[j]? = some x → R x (cs.getD j undef)) : RowOk R w sz (chunks sz k ds) (.slice (some ⟨b, 0, none⟩) k k) := by
  refine ⟨hsz, fun row hr => ?_, .inr ⟨b, k, cs, e, by rw [chunks_length], hb, by rw [chunks_length]; exact Nat.le_refl _, hm, by omega, fun i row j d hi hj => ?_⟩⟩
  · obtain ⟨i, hi⟩ := List.getElem?_of_mem hr
    obtain ⟨rfl, hik⟩ := chunks_get sz k ds i row hi
    have : (i + 1) * sz ≤ k * sz := Nat.mul_le_mul_right _ hik
    rw [Nat.add_mul] at this
    simp; omega
  · obtain ⟨rfl, hik⟩ := chunks_get sz k ds i row hi
    rw [List.getElem?_take] at hj
    split at hj
    · rw [List.getElem?_drop] at hj; exact hc _ _ hj
    · cases hj

theorem bpartsC_sound (hev : ∀ x y, opdC x = some y → VR s Z (ev y) (ρ x)) : ∀ (ps : List (Nat × Operand)) (qs : List (Nat × Opd)), bpartsC ps = some qs →
    ps.length = qs.length ∧ ∀ (j : Nat) (p : Nat × Operand) (q : Nat × Opd), ps[j]? = some p → qs[j]? = some q → p.1 = q.1 ∧ VR s Z (ev q.2) (ρ p.2)
  | [], qs, h => by simp only [bpartsC, Option.some.injEq] at h; subst h; exact ⟨rfl, fun j p q hp => by simp at hp⟩
  | (i, x) :: ps, qs, h => by
    simp only [bpartsC] at h
    split at h <;> simp only [Option.some.injEq, reduceCtorEq] at h
    rename_i y ys h1 h2
    subst h
    obtain ⟨g1, g2⟩ := bpartsC_sound hev ps ys h2
    refine ⟨by simp [g1], fun j p q hp hq => ?_⟩
    cases j with
    | zero => simp at hp hq; subst hp hq; exact ⟨rfl, hev x y h1⟩
    | succ j => exact g2 j p q (by simpa using hp) (by simpa using hq)

theorem bslice_run {t e : TypeId} {n len : Nat} {ps : Array (Nat × Operand)} (ht : sliceT P t = some e) (hn : szT P e = some n) (h0 : 0 < n) (hbig : len * n ≤ 16777216) (hev : ∀ x y, opdC x = some y → VR s Z (ev y) (ρ x)) {z : List D} {qs : List (Nat × Opd)}
    (hz : zeroT P e = some z) (hps : bpartsC ps.toList = some qs) {ds : List D} (hf : fillD (List.replicate len z).flatten (qs.map fun q => (q.1 * n, n, ev q.2)) = some ds) :
    ∃ cs : Array Value, (Instr.buildSlice t len (ps.map fun q => (q.1, ρ q.2))).run P w = .ok (.slice (some ⟨w.heap.size, 0, none⟩) len len) (w.alloc (.cells cs e)) ∧ cs.size = ds.length ∧ ∀ j x, ds[j]? = some x → VC s Z x (cs.getD j undef) := by
  obtain ⟨i, v, hi, hv, hsz, hvc, hcc⟩ := zeroT_sound (s := s) (Z := Z) hz
  have hin : i.size = n := by unfold szT at hn; rw [hi] at hn; simpa using hn
  have hzn : z.length = n := by omega
  obtain ⟨hl, hpq⟩ := bpartsC_sound (s := s) (Z := Z) (ρ := ρ) (ev := ev) hev ps.toList qs hps
  have hu := sliceT_some ht
  have hvn : v.cells.size = n := by omega
  -- the zero cells
  have zero : ∃ A : Array Value, (if len * n = 0 then #[] else v.cells) = A ∧ ((Array.range (len * n)).map fun k => A[k % A.size]!).size = ((List.replicate len z).flatten).length ∧
      ∀ j x, ((List.replicate len z).flatten)[j]? = some x → VC s Z x (((Array.range (len * n)).map fun k => A[k % A.size]!).getD j undef) := by
    refine ⟨_, rfl, by simp [hzn], fun j x hx => ?_⟩
    rw [flat_get (by omega), hzn] at hx
    split at hx
    · rename_i hj
      rw [if_neg (by omega)]
      have h1 := hcc _ _ hx
      rw [Array.getD_eq_getD_getElem?, Array.getElem?_map, Array.getElem?_range, if_pos hj, Option.map_some, Option.getD_some, hvn]
      have hlt : j % n < v.cells.size := by rw [hvn]; exact Nat.mod_lt _ h0
      rw [Array.getD_eq_getD_getElem?, Array.getElem?_eq_getElem hlt, Option.getD_some] at h1
      rwa [getElem!_pos v.cells (j % n) hlt]
    · cases hx
  obtain ⟨A, hA, hA1, hA2⟩ := zero
  obtain ⟨cs, hcs, hcl, hcv⟩ := fill_sound (s := s) (Z := Z) (place := fun i => some (i * n, n)) (ps.toList.map fun q => (q.1, ρ q.2)) (qs.map fun q => (q.1 * n, n, ev q.2)) ((Array.range (len * n)).map fun k => A[k % A.size]!) _ ds (by simpa using hl)
    (fun j p q hp hq => by
      rw [List.getElem?_map] at hp hq
      cases hp' : ps.toList[j]? with
      | none => rw [hp'] at hp; cases hp
      | some p' =>
        cases hq' : qs[j]? with
        | none => rw [hq'] at hq; cases hq
        | some q' =>
          rw [hp'] at hp; rw [hq'] at hq
          simp only [Option.map_some, Option.some.injEq] at hp hq
          subst hp hq
          obtain ⟨g1, g2⟩ := hpq j p' q' hp' hq'
          exact ⟨by simp [g1], g2⟩) hA1 hA2 hf
  refine ⟨cs, ?_, hcl, hcv⟩
  have hzr : (zeroValue e).run P w = .ok v w := by simp [zeroValue, typeInfo, hi, hv]
  have hpl : (ps.map fun q => (q.1, ρ q.2)).toList = ps.toList.map fun q => (q.1, ρ q.2) := by simp
  have hb' : ¬ (len * n > 16777216) := by omega
  simp only [Instr.buildSlice, Sem.run_bind, run_underlying hu, run_sizeOf' hn, Result.andThen_ok, hpl]
  rw [if_neg (by simpa using hb')]
  by_cases hz0 : len * n = 0
  · rw [if_pos hz0] at hA
    subst hA
    rw [if_pos hz0]
    simp only [Sem.run_bind, Sem.run_pure, Result.andThen_ok, hcs, newRow, run_newObj_alloc]
  · rw [if_neg hz0] at hA
    subst hA
    rw [if_neg hz0]
    simp only [Sem.run_bind, hzr, Sem.run_pure, Result.andThen_ok, hcs, newRow, run_newObj_alloc]

theorem make_run {t e : TypeId} (ht : sliceT P t = some e) {i : TypeInfo} (hi : P.info? e = some i) {z : List D} (hz : zeroT P e = some z) (h0 : 0 < i.size) {kl kc : IntKind} {l c : Int} (hl : 0 ≤ l) (hlc : l ≤ c) (hb : (i.bytes : Int) * c ≤ 281474976710656) (h63 : c ≤ 9223372036854775807) :
    ∃ cs : Array Value, (Instr.makeSlice t (.int kl l) (.int kc c)).run P w = .ok (.slice (some ⟨w.heap.size, 0, none⟩) l.toNat c.toNat) (w.alloc (.cells cs e)) ∧ z.length = i.size ∧
      (∀ w' : World, w'.heap[w.heap.size]? = some (.cells cs e (0, 0)) → RowOk (VT Z) w' i.size (List.replicate l.toNat z) (.slice (some ⟨w.heap.size, 0, none⟩) l.toNat c.toNat)) := by
  obtain ⟨i', v, hi', hv, hsz, hvc, hcc⟩ := zeroT_sound (s := fun _ => undef) (Z := Z) hz
  obtain rfl : i' = i := Option.some.inj (hi'.symm.trans hi)
  refine ⟨_, run_make w t e i' v (sliceT_some ht) hi hv kl kc l c hl hlc hb h63, hsz.symm, fun w' hw => ?_⟩
  have hzT : ∀ j x, z[j]? = some x → VT Z x (v.cells.getD j undef) := fun j x hx => by
    have h1 := hcc j x hx
    exact VC.vt h1 (zeroT_isT hz x (List.mem_of_getElem? hx))
  refine ⟨h0, fun row hr => by rw [List.eq_of_mem_replicate hr]; omega, .inr ⟨w.heap.size, c.toNat, _, e, by simp, hw, by simp; omega, by unfold maxLen; omega, by rw [size_madeCells], fun k row j d hk hj => ?_⟩⟩
  have hrow : row = z := List.eq_of_mem_replicate (List.mem_of_getElem? hk)
  subst hrow
  have hkl : k < l.toNat := by simpa using (List.getElem?_eq_some_iff.1 hk).1
  have hjl : j < i'.size := by have := (List.getElem?_eq_some_iff.1 hj).1; omega
  have hlt : k * i'.size + j < c.toNat * i'.size := by
    have : (k + 1) * i'.size ≤ c.toNat * i'.size := Nat.mul_le_mul_right _ (by omega)
    rw [Nat.add_mul, Nat.one_mul] at this; omega
  have h1 := hzT j d hj
  have hjv : j < v.cells.size := by omega
  unfold madeCells
  rw [Array.getD_eq_getD_getElem?, Array.getElem?_map, Array.getElem?_range, if_pos hlt, Option.map_some, Option.getD_some]
  have hm : (k * i'.size + j) % v.cells.size = j := by
    rw [show v.cells.size = i'.size by omega, Nat.mul_comm, Nat.mul_add_mod, Nat.mod_eq_of_lt hjl]
  rw [hm, getElem!_pos v.cells j hjv]
  rwa [Array.getD_eq_getD_getElem?, Array.getElem?_eq_getElem hjv, Option.getD_some] at h1
end
end Go.Proofs.Ytajimebannjofaa

set_option linter.unusedSimpArgs false
set_option linter.unusedVariables false
namespace Go.Proofs.Ytajimebannjofaa
open Go.RowKit

def s0 : Nat → Value := fun _ => undef
def callable (P : Program) (f : FuncId) : Bool :=
  match P.funcs[f]? with
  | some fn => fn.body.isSome && !(fn.name == "runtime.NumGoroutine")
  | none => false
/-- f, called with these data, hands back d, and makes new memory only -/
def PF (P : Program) (f : FuncId) (ds : List D) (d : D) : Prop :=
  callable P f = true ∧ ∀ (Z : Cells) (w : World) (vs : Array Value), (∀ b o v, Z b o = some v → w.cell? ⟨b, o, none⟩ = some v) → vs.size = ds.length → (∀ j x, ds[j]? = some x → VV s0 Z x (vs.getD j undef)) →
    Calls P f vs w fun e w' => ∃ v Z', e = .returned v ∧ VR s0 Z' d v ∧ Zx Z Z' w w' ∧ Below w.heap.size w w'
/-- and what it hands back leads to new memory alone -/
def PFn (P : Program) (f : FuncId) (ds : List D) (d : D) : Prop :=
  callable P f = true ∧ ∀ (Z : Cells) (w : World) (vs : Array Value), (∀ b o v, Z b o = some v → w.cell? ⟨b, o, none⟩ = some v) → vs.size = ds.length → (∀ j x, ds[j]? = some x → VV s0 Z x (vs.getD j undef)) →
    Calls P f vs w fun e w' => ∃ v Zn, e = .returned v ∧ VR s0 Zn d v ∧ (∀ b o u, Zn b o = some u → w.heap.size ≤ b ∧ w'.cell? ⟨b, o, none⟩ = some u) ∧ Below w.heap.size w w'
/-- f, called with these data over memory of one's own, hands back some d and leaves memory as R says -/
def HF (P : Program) (f : FuncId) (ds : List D) (H : List (Nat × Ob)) (nx : Nat) (R : D → List (Nat × Ob) → Nat → Prop) : Prop :=
  callable P f = true ∧ ∀ (F : Nat → Prop) (s : Nat → Value) (Z : Cells) (w : World) (vs : Array Value), RelH ⟨0, F, w, nx, s, Z⟩ s Z H nx w → vs.size = ds.length → (∀ j x, ds[j]? = some x → VV s Z x (vs.getD j undef)) →
    Calls P f vs w fun e w' => ∃ v d H' nx' s' Z', e = .returned v ∧ VR s' Z' d v ∧ LtR nx' d ∧ RelH ⟨0, F, w, nx, s, Z⟩ s' Z' H' nx' w' ∧ R d H' nx'
/-- over no memory of one's own there is no reference -/
theorem VC.of0 {s : Nat → Value} {Z : Cells} {d : D} {v : Value} (h : VC s0 Z d v) : VC s Z d v ∧ LtC 0 d := by
  cases d with
  | own id => obtain ⟨h1, ⟨_, _, _, h2⟩ | ⟨_, h2⟩⟩ := h <;> (rw [h2] at h1; cases h1)
  | ptr id j => obtain ⟨b, h1, _⟩ := h; cases h1
  | pel id i sz j => obtain ⟨b, _, _, h1, _⟩ := h; cases h1
  | sl id sz off len cap => obtain ⟨b, _, _, _, h1, _⟩ := h; cases h1
  | clo f ids =>
    obtain ⟨vs, h1, h2, h3⟩ := h
    cases ids with
    | nil => exact ⟨⟨vs, h1, h2, fun j id hj => by simp at hj⟩, fun id hid => by cases hid⟩
    | cons i l => obtain ⟨b, g1, _⟩ := h3 0 i rfl; cases g1
  | _ => exact ⟨h, trivial⟩
theorem VV.of0 {s : Nat → Value} {Z : Cells} {d : D} {v : Value} (h : VV s0 Z d v) : VV s Z d v ∧ LtV 0 d := by
  cases d with
  | agg ds =>
    obtain ⟨vs, rfl, hl, hc⟩ := h
    refine ⟨⟨vs, rfl, hl, fun j x hx => (hc j x hx).of0.1⟩, fun x hx => ?_⟩
    obtain ⟨j, hj⟩ := List.getElem?_of_mem hx
    exact (hc j x hj).of0 (s := s0).2
  | _ => simp only [VV, LtV] at h ⊢; exact VC.of0 h
theorem VR.of0 {s : Nat → Value} {Z : Cells} {d : D} {v : Value} (h : VR s0 Z d v) : VR s Z d v ∧ LtR 0 d := by
  cases d with
  | tup ds =>
    obtain ⟨vs, rfl, hl, hc⟩ := h
    refine ⟨⟨vs, rfl, hl, fun j x hx => (hc j x hx).of0.1⟩, fun x hx => ?_⟩
    obtain ⟨j, hj⟩ := List.getElem?_of_mem hx
    exact (hc j x hj).of0 (s := s0).2
  | any => exact ⟨trivial, trivial⟩
  | _ => simp only [VR, LtR] at h ⊢; exact VV.of0 h
theorem VR.lt0 {Z : Cells} {d : D} {v : Value} (h : VR s0 Z d v) : LtR 0 d := (VR.of0 (s := s0) h).2
theorem PFn.pf {P : Program} {f : FuncId} {ds : List D} {d : D} (h : PFn P f ds d) : PF P f ds d := by
  refine ⟨h.1, fun Z w vs hz hl hv => (h.2 Z w vs hz hl hv).mono ?_⟩
  rintro e w' ⟨v, Zn, he, hr, hn, hb⟩
  refine ⟨v, fun b o => match Z b o with | some u => some u | none => Zn b o, he, ?_, ⟨fun b o u hu => by simp only [hu], fun b o u hu => ?_, fun b o u hu => ?_⟩, hb⟩
  · refine VR.mono (n := 0) (fun b o u hu => ?_) (fun _ h => by omega) ?_ hr
    · cases hq : Z b o with
      | none => simp only [hu]
      | some u' =>
        have h1 := World.block_lt_of_cell? w _ (hz b o u' hq)
        have h2 := (hn b o u hu).1
        simp only at h1
        omega
    · exact VR.lt0 hr
  · cases hq : Z b o with
    | none => simp only [hq] at hu; exact .inr (hn b o u hu).1
    | some u' => simp only [hq] at hu; exact .inl (by rw [← hu])
  · cases hq : Z b o with
    | none => simp only [hq] at hu; exact (hn b o u hu).2
    | some u' =>
      simp only [hq, Option.some.injEq] at hu
      subst hu
      have := hz b o u' hq
      rw [hb.cell (p := ⟨b, o, none⟩) (World.block_lt_of_cell? w _ this)]; exact this
/-- what is known behind an operation goes on; sb: and it has left all that was there as it was -/
def Goes (sb : Bool) (B : Base) (w : World) (K : St → Prop) (K' : Act → World → Prop) : Prop := ∀ st' s' Z' a' w', (sb = true → Below w.heap.size w w') → K st' → Rel B s' Z' st' a' w' → K' a' w'
/-- this operation, a call, leaves what K says -/
def WCall (P : Program) (sb : Bool) (B : Base) (ao : AOp) (dst : Option Nat) (st : St) (K : St → Prop) : Prop :=
  ∀ (o : Oper) (s : Nat → Value) (Z : Cells) (a : Act) (w : World) (K' : Act → World → Prop) (Q : Exit → Act → World → Prop), cop P o.op = some ao → o.dst = dst → (∀ d, dst = some d → d < B.N) → Rel B s Z st a w → Goes sb B w K K' → o.wp P a w K' Q

/-- this operation, of another kind, leaves what K says -/
def XCall (P : Program) (sb : Bool) (B : Base) (ao : AOp) (dst : Option Nat) (st : St) (K : St → Prop) : Prop :=
  ∀ (o : Oper) (s : Nat → Value) (Z : Cells) (a : Act) (w : World) (K' : Act → World → Prop) (Q : Exit → Act → World → Prop), xcop P o.op = some ao → o.dst = dst → (∀ d, dst = some d → d < B.N) → Rel B s Z st a w → Goes sb B w K K' → o.wp P a w K' Q

/-! ### Reading memory of one's own as data -/
def omap {α β : Type} (f : α → Option β) : List α → Option (List β)
  | [] => some []
  | x :: xs => match f x, omap f xs with
    | some y, some ys => some (y :: ys)
    | _, _ => none
def brwC (H : List (Nat × Ob)) : Nat → D → Option D
  | n, .own id => match n with
    | 0 => none
    | n + 1 => match hget H id with
      | some (.row sz xs) => some (.rows sz xs)
      | some (.rowd sz xs) => (omap (omap (brwC H n)) xs).map (.rows sz)
      | _ => none
  | n, .ptr id j => match n with
    | 0 => none
    | n + 1 => match hget H id with
      | some (.cells ds) => (omap (brwC H n) (ds.drop j)).map .pc
      | _ => none
  | _, .pel .. => none
  | _, .sl .. => none
  | n, .clo f ids => match n with
    | 0 => none
    | n + 1 => (omap (fun id => brwC H n (.ptr id 0)) ids).map (.fn f)
  | _, .agg _ => none
  | _, .tup _ => none
  | _, .opt .. => none
  | _, .int k z => some (.int k z)
  | _, .bool b => some (.bool b)
  | _, .str b => some (.str b)
  | _, .nilp => some .nilp
  | _, .any => some .any
  | _, .nil0 => some .nil0
  | _, .rows sz xs => some (.rows sz xs)
  | _, .pc ds => some (.pc ds)
  | _, .fn f cs => some (.fn f cs)
def brwV (H : List (Nat × Ob)) : D → Option D
  | .any => none
  | .agg ds => (omap (brwC H 4) ds).map .agg
  | d => brwC H 4 d
def brwR (H : List (Nat × Ob)) : D → Option D
  | .tup ds => (omap (brwV H) ds).map .tup
  | d => brwV H d
/-- no slice at all is a slice of nothing -/
def leC : D → D → Prop
  | .nil0, .rows _ xs => xs = []
  | d, e => d = e
def leL : List D → List D → Prop
  | [], [] => True
  | d :: ds, e :: es => leC d e ∧ leL ds es
  | _, _ => False
def leV : D → D → Prop
  | .agg ds, .agg es => leL ds es
  | d, e => leC d e
def leVL : List D → List D → Prop
  | [], [] => True
  | d :: ds, e :: es => leV d e ∧ leVL ds es
  | _, _ => False
def leR : D → D → Prop
  | .tup ds, .tup es => leVL ds es
  | d, e => leV d e
theorem leC_refl (d : D) : leC d d := by cases d <;> rfl
theorem leL_refl : ∀ (ds : List D), leL ds ds
  | [] => trivial
  | d :: ds => ⟨leC_refl d, leL_refl ds⟩
theorem leV_refl (d : D) : leV d d := by cases d <;> first | exact leL_refl _ | exact Eq.refl _
theorem leVL_refl : ∀ (ds : List D), leVL ds ds
  | [] => trivial
  | d :: ds => ⟨leV_refl d, leVL_refl ds⟩
theorem leL_get : ∀ {ds es : List D}, leL ds es → ds.length = es.length ∧ ∀ (j : Nat) (e : D), es[j]? = some e → ∃ d, ds[j]? = some d ∧ leC d e
  | [], [], _ => ⟨rfl, fun j e h => by simp at h⟩
  | d :: ds, e :: es, h => by
    obtain ⟨h1, h2⟩ := leL_get h.2
    refine ⟨by simp [h1], fun j x hx => ?_⟩
    cases j with
    | zero => simp at hx; subst hx; exact ⟨d, rfl, h.1⟩
    | succ j => simpa using h2 j x (by simpa using hx)
  | [], _ :: _, h => h.elim
  | _ :: _, [], h => h.elim
theorem leVL_get : ∀ {ds es : List D}, leVL ds es → ds.length = es.length ∧ ∀ (j : Nat) (e : D), es[j]? = some e → ∃ d, ds[j]? = some d ∧ leV d e
  | [], [], _ => ⟨rfl, fun j e h => by simp at h⟩
  | d :: ds, e :: es, h => by
    obtain ⟨h1, h2⟩ := leVL_get h.2
    refine ⟨by simp [h1], fun j x hx => ?_⟩
    cases j with
    | zero => simp at hx; subst hx; exact ⟨d, rfl, h.1⟩
    | succ j => simpa using h2 j x (by simpa using hx)
  | [], _ :: _, h => h.elim
  | _ :: _, [], h => h.elim
theorem leC_sound {s : Nat → Value} {Z : Cells} {d e : D} {v : Value} (h : leC d e) (hv : VC s Z d v) : VC s Z e v := by
  unfold leC at h
  split at h
  · subst h; cases hv; exact VT.rnil _ _ _
  · subst h; exact hv
theorem leV_sound {s : Nat → Value} {Z : Cells} {d e : D} {v : Value} (h : leV d e) (hv : VV s Z d v) : VV s Z e v := by
  unfold leV at h
  split at h
  · obtain ⟨vs, rfl, h1, h2⟩ := hv
    obtain ⟨g1, g2⟩ := leL_get h
    exact ⟨vs, rfl, by omega, fun j x hx => by obtain ⟨y, hy, hl⟩ := g2 j x hx; exact leC_sound hl (h2 j y hy)⟩
  · unfold leC at h
    split at h
    · subst h; cases hv; exact VT.rnil _ _ _
    · subst h; exact hv
theorem leR_sound {s : Nat → Value} {Z : Cells} {d e : D} {v : Value} (h : leR d e) (hv : VR s Z d v) : VR s Z e v := by
  unfold leR at h
  split at h
  · obtain ⟨vs, rfl, h1, h2⟩ := hv
    obtain ⟨g1, g2⟩ := leVL_get h
    exact ⟨vs, rfl, by omega, fun j x hx => by obtain ⟨y, hy, hl⟩ := g2 j x hx; exact leV_sound hl (h2 j y hy)⟩
  · unfold leV at h
    split at h
    · exact leV_sound (d := .agg _) (e := .agg _) h hv
    · unfold leC at h
      split at h
      · subst h; cases hv; exact VT.rnil _ _ _
      · subst h; exact hv
def noC : D → Bool
  | .own _ => false
  | .ptr .. => false
  | .pel .. => false
  | .sl .. => false
  | .clo .. => false
  | _ => true
def noV : D → Bool
  | .agg ds => ds.all noC
  | d => noC d
/-- it is the same wherever memory lies -/
def flatC : D → Bool
  | .int .. => true
  | .bool _ => true
  | .str _ => true
  | .nilp => true
  | _ => false
def flatV : D → Bool
  | .agg ds => ds.all flatC
  | d => flatC d
def flatR : D → Bool
  | .tup ds => ds.all flatV
  | d => flatV d

/-! ### Operations -/
def strip : D → D
  | .opt _ d => d
  | d => d
def gof : D → Bool
  | .opt g _ => g
  | _ => true
def evS (env : List (Nat × D)) : Opd → D
  | .t n => strip (eget env n)
  | .k d => d
def gS (env : List (Nat × D)) : Opd → Bool
  | .t n => gof (eget env n)
  | .k _ => true
def opnds : AOp → List Opd
  | .mov x => [x]
  | .pick .. => []
  | .build _ ps => ps.map fun p => p.2.2
  | .load _ _ x => [x]
  | .nchk x => [x]
  | .bin _ x y => [x, y]
  | .eqa _ _ x y => [x, y]
  | .eqp _ x y => [x, y]
  | .eqb _ x y => [x, y]
  | .isnil _ x => [x]
  | .not x => [x]
  | .neg x => [x]
  | .conv _ x => [x]
  | .fld _ _ _ x => [x]
  | .fad _ x => [x]
  | .iada _ _ x i => [x, i]
  | .iads _ x i => [x, i]
  | .ida _ _ _ x i => [x, i]
  | .ext x _ => [x]
  | .len x => [x]
  | .cst _ => []
  | .mn x y => [x, y]
  | .mx x y => [x, y]
  | .slc _ x lo hi mx => x :: (lo.toList ++ (hi.toList ++ mx.toList))
  | .mkfn _ cs => cs
  | .alloc _ => []
  | .box x => [x]
  | .bslice _ _ _ ps => ps.map fun p => p.2
  | .store _ x y => [x, y]
  | .call _ as_ => as_
  | .callv x as_ => x :: as_
  | .app _ _ _ x y => [x, y]
  | .mks _ _ _ l c => [l, c]
  | .xop _ _ xs => xs
def oks (env : List (Nat × D)) (op : AOp) : Bool := (opnds op).all (gS env)
def putO (env : List (Nat × D)) (dst : Option Nat) (d : D) : List (Nat × D) :=
  match dst with
  | some k => eput env k d
  | none => env
def argOk : D → Bool
  | .any => false
  | .tup _ => false
  | .opt .. => false
  | _ => true
/-- operations that make or write memory -/
def aloud1 (dst : Option Nat) (op : AOp) (st : St) (K : St → Prop) : Prop :=
  match op with
  | .alloc z => K ⟨putO st.env dst (.ptr st.nx 0), eput st.heap st.nx (.cells z), st.nx + 1⟩
  | .box x => 0 < (evS st.env x).cells.length ∧ K ⟨putO st.env dst (.ptr st.nx 0), eput st.heap st.nx (.cells (evS st.env x).cells), st.nx + 1⟩
  | .bslice sz len z ps => match fillD (List.replicate len z).flatten (ps.map fun q => (q.1 * sz, sz, evS st.env q.2)) with
    | some ds => K ⟨putO st.env dst (.own st.nx), eput st.heap st.nx (if ds.all isT then .row sz (chunks sz len ds) else .rowd sz (chunks sz len ds)), st.nx + 1⟩
    | none => False
  | .mks sz bytes z l c => match evS st.env l, evS st.env c with
    | .int _ a, .int _ b => (0 ≤ a ∧ a ≤ b ∧ (bytes : Int) * b ≤ 281474976710656 ∧ b ≤ 9223372036854775807) ∧ K ⟨putO st.env dst (.own st.nx), eput st.heap st.nx (.row sz (List.replicate a.toNat z)), st.nx + 1⟩
    | _, _ => False
  | .store n x y => let d := evS st.env y; (d.cells.length = n ∧ 0 < n) ∧ match evS st.env x with
    | .ptr id j => match hget st.heap id with
      | some (.cells ds) => j + n ≤ ds.length ∧ K ⟨putO st.env dst .any, eput st.heap id (.cells (splice ds j d.cells)), st.nx⟩
      | _ => False
    | .pel id i sz j => match hget st.heap id with
      | some (.row sz' xs) => (sz = sz' ∧ i < xs.length ∧ j + n ≤ sz ∧ d.cells.all isT = true) ∧ K ⟨putO st.env dst .any, eput st.heap id (.row sz' (xs.set i (splice (xs.getD i []) j d.cells))), st.nx⟩
      | some (.rowd sz' xs) => (sz = sz' ∧ i < xs.length ∧ j + n ≤ sz) ∧ K ⟨putO st.env dst .any, eput st.heap id (.rowd sz' (xs.set i (splice (xs.getD i []) j d.cells))), st.nx⟩
      | _ => False
    | _ => False
  | .app sz bytes _ x y => 0 < bytes ∧ match slD st.heap (evS st.env y) with
    | some (ty, sy, ys) => ((sy = sz ∨ ys = []) ∧ ∀ row ∈ ys, row.length = sz) ∧ match evS st.env x with
      | .nil0 => ys.length * bytes ≤ 140737488355328 ∧ K ⟨putO st.env dst (.own st.nx), eput st.heap st.nx (if ty then .row sz ys else .rowd sz ys), st.nx + 1⟩
      | .own id => match hget st.heap id with
        | some (.row sx xs) => (sx = sz ∧ (xs.length + ys.length) * bytes ≤ 140737488355328) ∧ K ⟨putO st.env dst (.own st.nx), eput (herase st.heap id) st.nx (if ty then .row sz (xs ++ ys) else .rowd sz (xs ++ ys)), st.nx + 1⟩
        | some (.rowd sx xs) => (sx = sz ∧ (xs.length + ys.length) * bytes ≤ 140737488355328) ∧ K ⟨putO st.env dst (.own st.nx), eput (herase st.heap id) st.nx (.rowd sz (xs ++ ys)), st.nx + 1⟩
        | _ => False
      | _ => False
    | none => False
  | _ => False
def isWrite : AOp → Bool
  | .store .. => true
  | .app .. => true
  | _ => false
def isSl : D → Bool
  | .sl .. => true
  | _ => false
def aloud (P : Program) (sb : Bool) (B : Base) (dst : Option Nat) (op : AOp) (st : St) (K : St → Prop) : Prop :=
  match op with
  | .call f as_ => WCall P sb B (.call f as_) dst st K
  | .callv x as_ => WCall P sb B (.callv x as_) dst st K
  | .app sz by_ z x y => if isSl (evS st.env x) = true then WCall P sb B (.app sz by_ z x y) dst st K else ((sb && isWrite (.app sz by_ z x y)) = false ∧ oks st.env (.app sz by_ z x y) = true) ∧ aloud1 dst (.app sz by_ z x y) st K
  | .xop k ns xs => XCall P sb B (.xop k ns xs) dst st K
  | op => ((sb && isWrite op) = false ∧ oks st.env op = true) ∧ aloud1 dst op st K
def isLoud : AOp → Bool
  | .alloc _ => true
  | .box _ => true
  | .bslice .. => true
  | .store .. => true
  | .call .. => true
  | .callv .. => true
  | .app .. => true
  | .mks .. => true
  | .xop .. => true
  | _ => false
def pickV (c : Bool) : D → D → Option (Prop × D)
  | .bool p, .bool q => some (True, .bool (bif c then p else q))
  | .bool p, _ => some (c = true, .bool p)
  | _, .bool q => some (c = false, .bool q)
  | _, _ => none
/-- how many rows it has -/
def lenD (H : List (Nat × Ob)) : D → Option Nat
  | .nil0 => some 0
  | .rows _ xs => some xs.length
  | .own id => match hget H id with
    | some (.row _ xs) => some xs.length
    | some (.rowd _ xs) => some xs.length
    | _ => none
  | _ => none
/-- a value is put down; g: whether the operation is carried out -/
def afin (g : Option Bool) (dst : Option Nat) (p : Prop) (d : D) (st : St) (K : St → Prop) : Prop :=
  match g with
  | none => p ∧ K ⟨putO st.env dst d, st.heap, st.nx⟩
  | some h => (h = true → p) ∧ K ⟨putO st.env dst (.opt h d), st.heap, st.nx⟩
/-- the operation is not carried out -/
def afin0 (g : Option Bool) (dst : Option Nat) (st : St) (K : St → Prop) : Prop :=
  match g with
  | none => False
  | some h => h = false ∧ K ⟨putO st.env dst (.opt false .any), st.heap, st.nx⟩
/-- one operation; g: whether it is carried out -/
def aop (P : Program) (sb : Bool) (B : Base) (g : Option Bool) (dst : Option Nat) (op : AOp) (st : St) (K : St → Prop) : Prop :=
  if isLoud op then
    match g with
    | none => aloud P sb B dst op st K
    | some c => (c = true → aloud P sb B dst op st K) ∧ (c = false → K ⟨putO st.env dst (.opt false .any), st.heap, st.nx⟩)
  else
    match op with
    | .pick c x y => match evS st.env c with
      | .bool b => match pickV b (evS st.env x) (evS st.env y) with
        | some (p, d) => afin g dst ((gS st.env c = true ∧ (b = true → gS st.env x = true) ∧ (b = false → gS st.env y = true)) ∧ p) d st K
        | none => afin0 g dst st K
      | _ => afin0 g dst st K
    | .isnil ne x => match lenD st.heap (evS st.env x) with
      | some n => ∀ b : Bool, (0 < n → b = ne) → afin g dst (gS st.env x = true) (.bool b) st K
      | none => afin0 g dst st K
    | op => match qv (evS st.env) st.heap op with
      | some (p, d) => afin g dst (oks st.env op = true ∧ p) d st K
      | none => afin0 g dst st K
def astep (P : Program) (sb : Bool) (B : Base) (o : AO) (st : St) (K : St → Prop) : Prop :=
  match o.guard with
  | none => aop P sb B none o.dst o.op st K
  | some (t, b) => match eget st.env t with
    | .bool c => aop P sb B (some (if b then c else !c)) o.dst o.op st K
    | .opt g (.bool c) => aop P sb B (some (g && (if b then c else !c))) o.dst o.op st K
    | .opt g _ => g = false ∧ aop P sb B (some false) o.dst o.op st K
    | _ => False
def aops (P : Program) (B : Base) : List AO → St → (St → Prop) → Prop
  | [], st, K => K st
  | o :: os, st, K => astep P false B o st fun st' => aops P B os st' K
end Go.Proofs.Ytajimebannjofaa

set_option linter.unusedSimpArgs false
set_option linter.unusedVariables false
namespace Go.Proofs.Ytajimebannjofaa
open Go.RowKit

theorem valD_sound {s : Nat → Value} {Z : Cells} {v : Value} {d : D} (h : valD v = some d) : VR s Z d v ∧ LtR 0 d := by
  have one : cellD v = some d → VR s Z d v ∧ LtR 0 d := fun hc => by
    refine ⟨VR.of_vc (cellD_sound hc), ?_⟩
    have h1 := cellD_lt hc
    have h2 := cellD_sound (s := s) (Z := Z) hc
    cases d <;> first | exact h1 | (cases h2; done)
  unfold valD at h
  split at h
  · rename_i cs
    cases hc : cellsD cs.toList with
    | none => rw [hc] at h; cases h
    | some ds =>
      rw [hc] at h
      simp only [Option.map_some, Option.some.injEq] at h
      subst h
      obtain ⟨h1, h2⟩ := cellsD_sound (s := s) (Z := Z) _ _ hc
      exact ⟨⟨cs, rfl, by simpa using h1, fun j x hx => by simpa [Array.getD_eq_getD_getElem?, List.getD_eq_getElem?_getD] using h2 j x hx⟩, cellsD_lt _ _ hc⟩
  · exact one h

/-- what is known of an operand, if it was set -/
def evE (env : List (Nat × D)) (x : Opd) : D := if gS env x then evS env x else .any
theorem evE_aux {s : Nat → Value} {Z : Cells} {d : D} {v : Value} (h : VS s Z d v) : VR s Z (if gof d then strip d else .any) v := by
  cases d with
  | opt g d =>
    cases g
    · trivial
    · exact h.1 rfl
  | _ => exact h
theorem evE_sound {s : Nat → Value} {Z : Cells} {env : List (Nat × D)} {a : Act} (he : ∀ k, VS s Z (eget env k) (a.tmps.getD k undef)) : ∀ x y, opdC x = some y → VR s Z (evE env y) (a.eval x) := by
  intro x y h
  cases x with
  | tmp t =>
    simp only [opdC, Option.some.injEq] at h
    subst h
    exact evE_aux (he t)
  | const v =>
    simp only [opdC] at h
    cases hv : valD v with
    | none => rw [hv] at h; cases h
    | some d =>
      rw [hv] at h
      simp only [Option.map_some, Option.some.injEq] at h
      subst h
      exact (valD_sound hv).1
  | func f =>
    simp only [opdC, Option.some.injEq] at h
    subst h
    exact VT.fn f [] #[] rfl (fun j d hd => by simp at hd)
  | global g => cases h
theorem evE_ok {env : List (Nat × D)} {x : Opd} (h : gS env x = true) : evE env x = evS env x := by simp [evE, h]
theorem evS_lt {env : List (Nat × D)} {n : Nat} (hl : ∀ k, LtS n (eget env k)) {x : Operand} {y : Opd} (h : opdC x = some y) (hg : gS env y = true) : LtR n (evS env y) := by
  cases x with
  | tmp t =>
    simp only [opdC, Option.some.injEq] at h
    subst h
    have h1 := hl t
    simp only [evS]
    simp only [gS] at hg
    cases hd : eget env t <;> rw [hd] at h1 hg <;> first | exact h1 | exact h1 hg
  | const v =>
    simp only [opdC] at h
    cases hv : valD v with
    | none => rw [hv] at h; cases h
    | some d =>
      rw [hv] at h
      simp only [Option.map_some, Option.some.injEq] at h
      subst h
      exact (valD_sound (s := s0) (Z := fun _ _ => none) hv).2.mono (Nat.zero_le _)
  | func f => simp only [opdC, Option.some.injEq] at h; subst h; trivial
  | global g => cases h

theorem boundD_congr {ev ev' : Opd → D} {x : Option Opd} {n : Nat} (h : ∀ y ∈ x.toList, ev y = ev' y) : boundD x ev n = boundD x ev' n := by
  cases x with
  | none => rfl
  | some y => simp only [boundD, h y (by simp)]
theorem qv_congr {ev ev' : Opd → D} {H : List (Nat × Ob)} {op : AOp} (h : ∀ x ∈ opnds op, ev x = ev' x) : qv ev H op = qv ev' H op := by
  cases op with
  | build z ps =>
    have : ps.map (fun p => (p.1, p.2.1, ev p.2.2)) = ps.map (fun p => (p.1, p.2.1, ev' p.2.2)) := List.map_congr_left fun p hp => by
      rw [h _ (List.mem_map.2 ⟨p, hp, rfl⟩)]
    simp only [qv, this]
  | slc sz x lo hi mx =>
    simp only [opnds, List.mem_cons, List.mem_append] at h
    have h1 := boundD_congr (ev := ev) (ev' := ev') (x := lo) (n := 0) fun y hy => h y (by simp [hy])
    simp only [qv, h x (.inl rfl), h1]
    cases ev' x with
    | rows sz' xs =>
      have h2 := boundD_congr (ev := ev) (ev' := ev') (x := hi) (n := xs.length) fun y hy => h y (by simp [hy])
      have h3 := boundD_congr (ev := ev) (ev' := ev') (x := mx) (n := xs.length) fun y hy => h y (by simp [hy])
      simp only [h2, h3]
    | own id =>
      simp only
      cases hget H id with
      | none => rfl
      | some ob =>
        cases ob with
        | row sz' xs =>
          have h2 := boundD_congr (ev := ev) (ev' := ev') (x := hi) (n := xs.length) fun y hy => h y (by simp [hy])
          have h3 := boundD_congr (ev := ev) (ev' := ev') (x := mx) (n := xs.length) fun y hy => h y (by simp [hy])
          simp only [h2, h3]
        | _ => rfl
    | sl id sz' off len cap =>
      have h2 := boundD_congr (ev := ev) (ev' := ev') (x := hi) (n := len) fun y hy => h y (by simp [hy])
      have h3 := boundD_congr (ev := ev) (ev' := ev') (x := mx) (n := cap) fun y hy => h y (by simp [hy])
      simp only [h2, h3]
    | _ => rfl
  | mkfn f cs =>
    have : cs.map ev = cs.map ev' := List.map_congr_left fun x hx => h x hx
    simp only [qv, this]
  | pick _ _ _ => rfl
  | alloc _ => rfl
  | box _ => rfl
  | bslice _ _ _ _ => rfl
  | store _ _ _ => rfl
  | call _ _ => rfl
  | callv _ _ => rfl
  | app _ _ _ _ _ => rfl
  | mks _ _ _ _ _ => rfl
  | xop _ _ _ => rfl
  | cst _ => rfl
  | isnil _ _ => rfl
  | mov x => simp only [qv, h x (by simp [opnds])]
  | load _ _ x => simp only [qv, h x (by simp [opnds])]
  | nchk x => simp only [qv, h x (by simp [opnds])]
  | not x => simp only [qv, h x (by simp [opnds])]
  | neg x => simp only [qv, h x (by simp [opnds])]
  | conv _ x => simp only [qv, h x (by simp [opnds])]
  | fld _ _ _ x => simp only [qv, h x (by simp [opnds])]
  | fad _ x => simp only [qv, h x (by simp [opnds])]
  | ext x _ => simp only [qv, h x (by simp [opnds])]
  | len x => simp only [qv, h x (by simp [opnds])]
  | bin _ x y => simp only [qv, h x (by simp [opnds]), h y (by simp [opnds])]
  | eqa _ _ x y => simp only [qv, h x (by simp [opnds]), h y (by simp [opnds])]
  | eqp _ x y => simp only [qv, h x (by simp [opnds]), h y (by simp [opnds])]
  | eqb _ x y => simp only [qv, h x (by simp [opnds]), h y (by simp [opnds])]
  | iada _ _ x y => simp only [qv, h x (by simp [opnds]), h y (by simp [opnds])]
  | iads _ x y => simp only [qv, h x (by simp [opnds]), h y (by simp [opnds])]
  | ida _ _ _ x y => simp only [qv, h x (by simp [opnds]), h y (by simp [opnds])]
  | mn x y => simp only [qv, h x (by simp [opnds]), h y (by simp [opnds])]
  | mx x y => simp only [qv, h x (by simp [opnds]), h y (by simp [opnds])]

/-- one cell and no more -/
def cellish : D → Prop
  | .agg _ => False
  | .tup _ => False
  | _ => True
theorem VC.cellish {s : Nat → Value} {Z : Cells} {d : D} {v : Value} (h : VC s Z d v) : cellish d := by
  cases d <;> first | trivial | (cases h; done)
theorem VT.lt {Z : Cells} {d : D} {v : Value} (h : VT Z d v) : LtC 0 d ∧ Go.Proofs.Ytajimebannjofaa.cellish d := by
  cases h <;> exact ⟨trivial, trivial⟩
theorem LtR.of_c {n : Nat} {d : D} (h : LtC n d) (hc : cellish d) : LtR n d := by
  cases d <;> first | exact h | exact hc.elim
theorem LtR.of_v {n : Nat} {d : D} (h : LtV n d) (hc : ∀ ds, d ≠ .tup ds) : LtR n d := by
  cases d <;> first | exact h | exact absurd rfl (hc _)
theorem takeD_lt {n k : Nat} {ag : Bool} {ds : List D} (hl : ∀ d ∈ ds, LtC n d ∧ cellish d) {p : Prop} {d : D} (h : takeD ag k ds = some (p, d)) : LtR n d := by
  unfold takeD at h
  split at h <;> simp only [Option.some.injEq, Prod.mk.injEq] at h <;> obtain ⟨_, rfl⟩ := h
  · exact fun x hx => (hl x (List.mem_of_mem_take hx)).1
  · cases ds with
    | nil => trivial
    | cons d ds => exact LtR.of_c (hl d (by simp)).1 (hl d (by simp)).2
theorem fillD_mem : ∀ (ps : List (Nat × Nat × D)) (z ds : List D), fillD z ps = some ds → ∀ d ∈ ds, d ∈ z ∨ ∃ p ∈ ps, d ∈ p.2.2.cells
  | [], z, ds, h => by simp only [fillD, Option.some.injEq] at h; subst h; exact fun d hd => .inl hd
  | (off, n, x) :: ps, z, ds, h => by
    simp only [fillD] at h
    split at h
    case isFalse => cases h
    intro d hd
    rcases fillD_mem ps _ ds h d hd with h1 | ⟨p, hp, h1⟩
    · rcases List.mem_append.1 h1 with h1 | h1
      · rcases List.mem_append.1 h1 with h1 | h1
        · exact .inl (List.mem_of_mem_take h1)
        · exact .inr ⟨(off, n, x), by simp, h1⟩
      · exact .inl (List.mem_of_mem_drop h1)
    · exact .inr ⟨p, List.mem_cons_of_mem _ hp, h1⟩

theorem arith_lt {n : Nat} {k : IntKind} {z : Int} {p : Prop} {d : D} (h : arith k z = some (p, d)) : LtR n d := by
  unfold arith at h
  split at h <;> (simp only [Option.some.injEq, Prod.mk.injEq] at h; obtain ⟨_, rfl⟩ := h; trivial)
theorem binD_lt {n : Nat} {op : BinOp} {x y d : D} {p : Prop} (h : binD op x y = some (p, d)) : LtR n d := by
  unfold binD at h
  split at h
  · split at h
    · split at h
      · rename_i he; simp only [Option.some.injEq, Prod.mk.injEq] at h; obtain ⟨_, rfl⟩ := h; exact arith_lt he
      · cases h
    · simp only [Option.some.injEq, Prod.mk.injEq] at h; obtain ⟨_, rfl⟩ := h; trivial
    · split at h
      · split at h
        all_goals first
          | exact arith_lt h
          | (simp only [Option.some.injEq, Prod.mk.injEq] at h; obtain ⟨_, rfl⟩ := h; trivial)
          | (split at h; · (rename_i he; simp only [Option.some.injEq, Prod.mk.injEq] at h; obtain ⟨_, rfl⟩ := h; exact arith_lt he)
             · cases h)
          | cases h
      · cases h
  · split at h
    all_goals first
      | (simp only [Option.some.injEq, Prod.mk.injEq] at h; obtain ⟨_, rfl⟩ := h; trivial)
      | cases h
  · cases h

section
variable {P : Program} {s : Nat → Value} {Z : Cells} {H : List (Nat × Ob)} {w : World} {n : Nat} {ev : Opd → D} {o : Op}
theorem eqC_build {t : TypeId} {ne : Bool} {x y : Opd} {z : List D} {ps : List (Nat × Nat × Opd)} (h : eqC P t ne x y = some (.build z ps)) : False := by
  unfold eqC at h
  split at h <;> (try split at h) <;> simp at h
theorem cop_build {z : List D} {ps : List (Nat × Nat × Opd)} (hc : cop P o = some (.build z ps)) : ∃ t, zeroT P t = some z := by
  cases o with
  | build t qs =>
    simp only [cop] at hc
    split at hc
    case h_2 => cases hc
    rename_i hz _
    split at hc <;> simp only [Option.some.injEq, reduceCtorEq, AOp.build.injEq] at hc
    obtain ⟨rfl, _⟩ := hc
    exact ⟨t, hz⟩
  | binOp op t x y t' =>
    simp only [cop] at hc
    split at hc
    · cases op <;> simp only [Option.some.injEq, reduceCtorEq] at hc <;> exact (eqC_build hc).elim
    · cases hc
  | makeFunc fn l cs =>
    simp only [cop] at hc
    cases fn <;> simp only [reduceCtorEq] at hc
    split at hc <;> simp at hc
  | unOp op t x =>
    simp only [cop] at hc
    cases op <;> simp at hc
  | call c =>
    simp only [cop] at hc
    split at hc
    · split at hc <;> simp at hc
    · split at hc
      · split at hc
        · simp at hc
        · simp at hc
        · split at hc <;> simp at hc
        · cases hc
      · simp at hc
      · simp at hc
      · split at hc
        · split at hc
          · split at hc
            · split at hc <;> simp at hc
            · cases hc
          · cases hc
        · cases hc
      · cases hc
    · cases hc
  | buildSlice t n qs =>
    simp only [cop] at hc
    split at hc
    · split at hc
      · split at hc <;> simp at hc
      · cases hc
    · cases hc
  | slice t x lo hi mx =>
    simp only [cop] at hc
    split at hc
    · split at hc
      · split at hc <;> simp at hc
      · cases hc
    · cases hc
  | fieldAddr t x i =>
    simp only [cop] at hc
    split at hc
    · split at hc
      · split at hc
        · split at hc <;> simp at hc
        · cases hc
      · cases hc
    · cases hc
  | _ => simp only [cop] at hc; first | (cases hc; done) | (simp at hc; done) | (split at hc <;> first | (simp at hc; done) | (split at hc <;> first | (simp at hc; done) | (split at hc <;> first | (simp at hc; done) | (split at hc <;> simp at hc))))
theorem qv_lt (hk : Know s Z H w) (hh : ∀ id ob, hget H id = some ob → LtO n ob) {ao : AOp} (hc : cop P o = some ao) (hl : ∀ x ∈ opnds ao, LtR n (ev x)) (hv : ∀ x ∈ opnds ao, ∃ v, VR s Z (ev x) v) {p : Prop} {d : D}
    (hq : qv ev H ao = some (p, d)) (hp : p) : LtR n d := by
  cases ao with
  | mov x => simp only [qv, Option.some.injEq, Prod.mk.injEq] at hq; obtain ⟨_, rfl⟩ := hq; exact hl x (by simp [opnds])
  | build z ps =>
    simp only [qv] at hq
    split at hq <;> simp only [Option.some.injEq, Prod.mk.injEq, reduceCtorEq] at hq
    rename_i ds hds
    obtain ⟨_, rfl⟩ := hq
    obtain ⟨t, ht⟩ := cop_build hc
    have hz := zeroT_lt ht
    intro x hx
    rcases fillD_mem _ _ _ hds x hx with h1 | ⟨q, hq, h1⟩
    · exact (hz x h1).mono (Nat.zero_le _)
    · obtain ⟨r, hr, rfl⟩ := List.mem_map.1 hq
      exact LtR.cells (hl _ (List.mem_map.2 ⟨r, hr, rfl⟩)) x h1
  | load ag k x =>
    obtain ⟨v, hvx⟩ := hv x (by simp [opnds])
    have hlx := hl x (by simp [opnds])
    simp only [qv] at hq
    cases hx : ev x with
    | pc ds =>
      rw [hx] at hq hvx
      cases hvx with
      | pc _ b o c h1 h2 => exact takeD_lt (fun d hd => by obtain ⟨j, hj⟩ := List.getElem?_of_mem hd; have := (h2 j d hj).lt; exact ⟨this.1.mono (Nat.zero_le _), this.2⟩) hq
    | ptr id j =>
      rw [hx] at hq
      simp only at hq
      split at hq
      · rename_i ds hds
        obtain ⟨b, T, cs, _, _, _, h3⟩ := hk.ob _ _ hds
        exact takeD_lt (fun d hd => by
          have hd' := List.mem_of_mem_drop hd
          obtain ⟨j, hj⟩ := List.getElem?_of_mem hd'
          exact ⟨hh _ _ hds d hd', (h3 j d hj).cellish⟩) hq
      · cases hq
    | pel id i sz j =>
      rw [hx] at hq
      simp only at hq
      have rowcase : ∀ (R : D → Value → Prop) sz' xs, RowOk R w sz' xs (s id) → (∀ row ∈ xs, ∀ d ∈ row, ∀ u, R d u → LtC n d ∧ cellish d) → i < xs.length → ∀ p' d', takeD ag k ((xs.getD i []).drop j) = some (p', d') → LtR n d' := fun R sz' xs ho hR hi p' d' ht => by
        refine takeD_lt (fun d hd => ?_) ht
        have hd' := List.mem_of_mem_drop hd
        have hx : xs[i]? = some (xs.getD i []) := by rw [List.getD_eq_getElem?_getD, List.getElem?_eq_getElem hi]; rfl
        obtain ⟨l, hl⟩ := List.getElem?_of_mem hd'
        rcases ho.2.2 with ⟨rfl, _⟩ | ⟨g, cap, cur, e, _, _, _, _, _, hcc⟩
        · simp at hi
        · exact hR _ (List.mem_of_getElem? hx) d hd' _ (hcc i _ l d hx hl)
      split at hq
      · rename_i sz' xs hds
        split at hq <;> simp only [Option.some.injEq, Prod.mk.injEq, reduceCtorEq] at hq
        rename_i p' d' ht
        obtain ⟨rfl, rfl⟩ := hq
        exact rowcase _ sz' xs (hk.ob _ _ hds) (fun _ _ _ _ _ h => ⟨h.lt.1.mono (Nat.zero_le _), h.lt.2⟩) hp.1.2 _ _ ht
      · rename_i sz' xs hds
        split at hq <;> simp only [Option.some.injEq, Prod.mk.injEq, reduceCtorEq] at hq
        rename_i p' d' ht
        obtain ⟨rfl, rfl⟩ := hq
        exact rowcase _ sz' xs (hk.ob _ _ hds) (fun row hr d hd _ h => ⟨hh _ _ hds row hr d hd, h.cellish⟩) hp.1.2 _ _ ht
      · cases hq
    | _ => rw [hx] at hq; cases hq
  | nchk x =>
    have hlx := hl x (by simp [opnds])
    simp only [qv] at hq
    cases hx : ev x <;> rw [hx] at hq hlx <;> simp only [Option.some.injEq, Prod.mk.injEq, reduceCtorEq] at hq <;> obtain ⟨_, rfl⟩ := hq <;> exact hlx
  | bin op x y => exact binD_lt hq
  | eqa ne ks x y =>
    simp only [qv] at hq
    split at hq
    · split at hq <;> simp only [Option.some.injEq, Prod.mk.injEq, reduceCtorEq] at hq
      obtain ⟨_, rfl⟩ := hq; trivial
    · cases hq
  | eqp ne x y =>
    simp only [qv] at hq
    split at hq <;> simp only [Option.some.injEq, Prod.mk.injEq, reduceCtorEq] at hq
    obtain ⟨_, rfl⟩ := hq; trivial
  | eqb ne x y =>
    simp only [qv] at hq
    split at hq <;> simp only [Option.some.injEq, Prod.mk.injEq, reduceCtorEq] at hq
    obtain ⟨_, rfl⟩ := hq; trivial
  | not x =>
    simp only [qv] at hq
    split at hq <;> simp only [Option.some.injEq, Prod.mk.injEq, reduceCtorEq] at hq
    obtain ⟨_, rfl⟩ := hq; trivial
  | neg x =>
    simp only [qv] at hq
    split at hq
    · exact arith_lt hq
    · cases hq
  | conv k x =>
    simp only [qv] at hq
    split at hq
    · exact arith_lt hq
    · cases hq
  | fld ag off k x =>
    obtain ⟨v, hvx⟩ := hv x (by simp [opnds])
    have hlx := hl x (by simp [opnds])
    simp only [qv] at hq
    cases hx : ev x <;> rw [hx] at hq hlx hvx <;> simp only [reduceCtorEq] at hq
    obtain ⟨vs, _, _, hc⟩ := hvx.agg_inv
    exact takeD_lt (fun d hd => by
      have hd' := List.mem_of_mem_drop hd
      obtain ⟨j, hj⟩ := List.getElem?_of_mem hd'
      exact ⟨hlx d hd', (hc j d hj).cellish⟩) hq
  | fad off x =>
    have hlx := hl x (by simp [opnds])
    simp only [qv] at hq
    cases hx : ev x <;> rw [hx] at hq hlx <;> simp only [Option.some.injEq, Prod.mk.injEq, reduceCtorEq] at hq <;> obtain ⟨_, rfl⟩ := hq <;> first | exact hlx | trivial
  | iada len sz x i =>
    have hlx := hl x (by simp [opnds])
    simp only [qv] at hq
    split at hq
    · cases hx : ev x <;> rw [hx] at hq hlx <;> simp only [Option.some.injEq, Prod.mk.injEq, reduceCtorEq] at hq <;> obtain ⟨_, rfl⟩ := hq <;> first | exact hlx | trivial
    · cases hq
  | iads sz x i =>
    have hlx := hl x (by simp [opnds])
    simp only [qv] at hq
    split at hq
    · cases hx : ev x <;> rw [hx] at hq hlx <;> simp only [reduceCtorEq] at hq
      · simp only [Option.some.injEq, Prod.mk.injEq] at hq; obtain ⟨_, rfl⟩ := hq; trivial
      · split at hq <;> simp only [Option.some.injEq, Prod.mk.injEq, reduceCtorEq] at hq <;> obtain ⟨_, rfl⟩ := hq <;> exact hlx
    · cases hq
  | ida ag len sz x i =>
    obtain ⟨v, hvx⟩ := hv x (by simp [opnds])
    have hlx := hl x (by simp [opnds])
    simp only [qv] at hq
    split at hq
    · cases hx : ev x <;> rw [hx] at hq hlx hvx <;> simp only [reduceCtorEq] at hq
      obtain ⟨vs, _, _, hc⟩ := hvx.agg_inv
      split at hq <;> simp only [Option.some.injEq, Prod.mk.injEq, reduceCtorEq] at hq
      rename_i ht
      obtain ⟨_, rfl⟩ := hq
      exact takeD_lt (fun d hd => by
        have hd' := List.mem_of_mem_drop hd
        obtain ⟨j, hj⟩ := List.getElem?_of_mem hd'
        exact ⟨hlx d hd', (hc j d hj).cellish⟩) ht
    · cases hq
  | ext x i =>
    obtain ⟨v, hvx⟩ := hv x (by simp [opnds])
    have hlx := hl x (by simp [opnds])
    simp only [qv] at hq
    cases hx : ev x <;> rw [hx] at hq hlx hvx <;> simp only [Option.some.injEq, Prod.mk.injEq, reduceCtorEq] at hq
    rename_i ds
    obtain ⟨rfl, rfl⟩ := hq
    obtain ⟨vs, _, _, hc⟩ := hvx.tup_inv
    have hx : ds[i]? = some (ds.getD i .any) := by rw [List.getD_eq_getElem?_getD, List.getElem?_eq_getElem hp]; rfl
    refine LtR.of_v (hlx _ (List.mem_of_getElem? hx)) (fun es he => ?_)
    have := hc i _ hx
    rw [he] at this
    cases this
  | len x =>
    simp only [qv] at hq
    split at hq
    · simp only [Option.some.injEq, Prod.mk.injEq] at hq; obtain ⟨_, rfl⟩ := hq; trivial
    · simp only [Option.some.injEq, Prod.mk.injEq] at hq; obtain ⟨_, rfl⟩ := hq; trivial
    · simp only [Option.some.injEq, Prod.mk.injEq] at hq; obtain ⟨_, rfl⟩ := hq; trivial
    · split at hq <;> simp only [Option.some.injEq, Prod.mk.injEq, reduceCtorEq] at hq <;> obtain ⟨_, rfl⟩ := hq <;> trivial
    · cases hq
  | cst k => simp only [qv, Option.some.injEq, Prod.mk.injEq] at hq; obtain ⟨_, rfl⟩ := hq; trivial
  | mn x y =>
    simp only [qv] at hq
    split at hq <;> simp only [Option.some.injEq, Prod.mk.injEq, reduceCtorEq] at hq
    obtain ⟨_, rfl⟩ := hq; trivial
  | mx x y =>
    simp only [qv] at hq
    split at hq <;> simp only [Option.some.injEq, Prod.mk.injEq, reduceCtorEq] at hq
    obtain ⟨_, rfl⟩ := hq; trivial
  | slc sz x lo hi mx =>
    have hlx := hl x (by simp [opnds])
    simp only [qv] at hq
    cases hx : ev x <;> rw [hx] at hq hlx <;> simp only [reduceCtorEq] at hq
    case own id =>
      split at hq
      · split at hq
        · simp only [Option.some.injEq, Prod.mk.injEq] at hq; obtain ⟨_, rfl⟩ := hq; trivial
        · cases hq
      · cases hq
    case sl id sz' off len cap =>
      split at hq
      · simp only [Option.some.injEq, Prod.mk.injEq] at hq; obtain ⟨_, rfl⟩ := hq; exact hlx
      · cases hq
    · split at hq
      · split at hq <;> simp only [Option.some.injEq, Prod.mk.injEq] at hq <;> obtain ⟨_, rfl⟩ := hq <;> trivial
      · cases hq
  | mkfn f cs =>
    simp only [qv] at hq
    split at hq
    · simp only [Option.some.injEq, Prod.mk.injEq] at hq
      obtain ⟨_, rfl⟩ := hq; trivial
    · split at hq <;> simp only [Option.some.injEq, Prod.mk.injEq, reduceCtorEq] at hq
      rename_i ids hids
      obtain ⟨_, rfl⟩ := hq
      intro id hid
      obtain ⟨j, hj⟩ := List.getElem?_of_mem hid
      have h1 := (ptrIds_get _ _ hids).2 j id hj
      rw [List.getElem?_map] at h1
      cases hy : cs[j]? with
      | none => rw [hy] at h1; cases h1
      | some y =>
        rw [hy] at h1
        simp only [Option.map_some, Option.some.injEq] at h1
        have := hl y (List.mem_of_getElem? hy)
        rw [h1] at this
        exact this
  | _ => cases hq
end
end Go.Proofs.Ytajimebannjofaa

set_option linter.unusedSimpArgs false
set_option linter.unusedVariables false
namespace Go.Proofs.Ytajimebannjofaa
open Go.RowKit

/-! ### Slots -/
theorem put_get (a : Act) (dst : Option Nat) (v : Value) (k : Nat) (h : ∀ d, dst = some d → d < a.tmps.size) : (a.put dst v).tmps.getD k undef = if dst = some k then v else a.tmps.getD k undef := by
  cases dst with
  | none => simp [Act.put]
  | some d =>
    have := h d rfl
    simp only [Act.put, Option.some.injEq]
    rw [Array.getD_eq_getD_getElem?, Array.getD_eq_getD_getElem?, Array.getElem?_setIfInBounds]
    by_cases hk : d = k
    · subst hk; simp [this]
    · simp [hk]
theorem put_size (a : Act) (dst : Option Nat) (v : Value) : (a.put dst v).tmps.size = a.tmps.size := by cases dst <;> simp [Act.put]
theorem put_defers (a : Act) (dst : Option Nat) (v : Value) : (a.put dst v).defers = a.defers := by cases dst <;> rfl
theorem eget_putO (env : List (Nat × D)) (dst : Option Nat) (d : D) (k : Nat) : eget (putO env dst d) k = if dst = some k then d else eget env k := by
  cases dst with
  | none => simp [putO]
  | some j =>
    simp only [putO, eget_eput, Option.some.injEq]
    by_cases h : k = j
    · subst h; simp
    · rw [if_neg h, if_neg (fun h' => h h'.symm)]

section
variable {P : Program} {B : Base} {w w' : World} {s s' : Nat → Value} {Z Z' : Cells} {st : St} {a : Act}

theorem VS.of_vr {d : D} {v : Value} (h : VR s Z d v) : VS s Z d v := by
  cases d <;> first | exact h | (cases h; done)
theorem LtS.of_r {n : Nat} {d : D} (h : LtR n d) (ho : ∀ g e, d ≠ .opt g e) : LtS n d := by
  cases d <;> first | exact h | exact absurd rfl (ho _ _)
theorem VR.no_opt {d : D} {v : Value} (h : VR s Z d v) : ∀ g e, d ≠ .opt g e := by
  rintro g e rfl; cases h

/-- a slot is set, over whatever has become of memory -/
theorem Rel.step (h : Rel B s Z st a w) {dst : Option Nat} (hdst : ∀ d, dst = some d → d < B.N) {d : D} {v : Value} {H' : List (Nat × Ob)} {nx' : Nat} (hs : ∀ id, id < st.nx → s' id = s id) (hz : ∀ b o v, Z b o = some v → Z' b o = some v) (hn : st.nx ≤ nx')
    (hv : VS s' Z' d v) (hl : LtS nx' d) (hH : RelH B s' Z' H' nx' w') : Rel B s' Z' ⟨putO st.env dst d, H', nx'⟩ (a.put dst v) w' where
  env k := by
    rw [eget_putO, put_get a dst v k (fun d hd => by rw [h.size]; exact hdst d hd)]
    split
    · exact hv
    · exact (h.env k).mono hz hs (h.elt k)
  elt k := by
    rw [eget_putO]
    split
    · exact hl
    · exact (h.elt k).mono hn
  size := by rw [put_size]; exact h.size
  defers := by rw [put_defers]; exact h.defers
  h := hH
theorem Rel.put (h : Rel B s Z st a w) {dst : Option Nat} (hdst : ∀ d, dst = some d → d < B.N) {d : D} {v : Value} (hv : VS s Z d v) (hl : LtS st.nx d) : Rel B s Z ⟨putO st.env dst d, st.heap, st.nx⟩ (a.put dst v) w :=
  h.step hdst (fun _ _ => rfl) (fun _ _ _ h => h) (Nat.le_refl _) hv hl h.h

/-! ### Calls -/
theorem omap_some {α β : Type} {f : α → Option β} : ∀ {l : List α} {r : List β}, omap f l = some r → r.length = l.length ∧ ∀ (j : Nat) (y : β), r[j]? = some y → ∃ x, l[j]? = some x ∧ f x = some y
  | [], r, h => by simp only [omap, Option.some.injEq] at h; subst h; exact ⟨rfl, fun j y hy => by simp at hy⟩
  | x :: l, r, h => by
    simp only [omap] at h
    split at h <;> simp only [Option.some.injEq, reduceCtorEq] at h
    rename_i y ys h1 h2
    subst h
    obtain ⟨g1, g2⟩ := omap_some h2
    refine ⟨by simp [g1], fun j z hz => ?_⟩
    cases j with
    | zero => simp at hz; subst hz; exact ⟨x, rfl, h1⟩
    | succ j => obtain ⟨u, hu, hf⟩ := g2 j z (by simpa using hz); exact ⟨u, by simpa using hu, hf⟩
/-- all cells that there are -/
def allZ (w : World) : Cells := fun b o => w.cell? ⟨b, o, none⟩

theorem brwC_sound {H : List (Nat × Ob)} (hk : Know s Z H w) {Zp : Cells} (hz : ∀ b o v, Z b o = some v → Zp b o = some v) (hp : ∀ id ob b, hget H id = some ob → blk (s id) = some b → ∀ o v, w.cell? ⟨b, o, none⟩ = some v → Zp b o = some v) :
    ∀ (n : Nat) (d e : D) (v : Value), brwC H n d = some e → VC s Z d v → VT Zp e v := by
  have rowv : ∀ (R : D → Value → Prop) (n id sz : Nat) (xs ys : List (List D)) ob, hget H id = some ob → RowOk R w sz xs (s id) → ys.length = xs.length → (∀ (i : Nat) (row : List D) (j : Nat) (e : D), ys[i]? = some row → row[j]? = some e → j < sz ∧ ∃ row' d, xs[i]? = some row' ∧ row'[j]? = some d ∧ ∀ v, R d v → VT Zp e v) → VT Zp (.rows sz ys) (s id) := by
    intro R n id sz xs ys ob hh ho hl hc
    obtain ⟨h0, hrow, ho⟩ := ho
    rcases ho with ⟨rfl, a, hv⟩ | ⟨g, cap, cur, e, hv, hg, hcap, hm, hcs, hcc⟩
    · have : ys = [] := List.eq_nil_of_length_eq_zero (by simpa using hl)
      subst this
      rw [hv]
      exact VT.rnil sz a 0
    · rw [hv, ← hl]
      refine VT.rows sz ys g 0 cap (fun i j => cur.getD (i * sz + j) undef) (by omega) (fun i row j d hi hj => ?_) (fun i row j d hi hj => ?_)
      · obtain ⟨hj', row', x, hx, hxj, _⟩ := hc i row j d hi hj
        refine ⟨hj', ?_⟩
        have hil : i < xs.length := (List.getElem?_eq_some_iff.1 hx).1
        have hlt : i * sz + j < cur.size := by
          rw [hcs]
          have : (i + 1) * sz ≤ cap * sz := Nat.mul_le_mul_right _ (by omega)
          rw [Nat.add_mul] at this; omega
        have hcap0 : cap ≠ 0 := by omega
        refine hp id ob g hh (by rw [hv]; simp [blk, hcap0]) _ _ ?_
        rw [Nat.zero_add, cell_of_row w g _ cur e (0, 0) hg]
        simp [hlt]
      · obtain ⟨hj', row', x, hx, hxj, hR⟩ := hc i row j d hi hj
        exact hR _ (hcc i row' j x hx hxj)
  intro n
  induction n with
  | zero =>
    intro d e v h hv
    cases d <;> simp only [brwC, Option.some.injEq, reduceCtorEq] at h <;> subst h <;> exact VT.mono hz hv
  | succ n ih =>
    intro d e v h hv
    cases d with
    | own id =>
      simp only [brwC] at h
      obtain ⟨rfl, _⟩ := hv
      split at h
      · rename_i sz xs hh
        simp only [Option.some.injEq] at h
        subst h
        have ho := hk.ob _ _ hh
        refine rowv _ n id sz xs xs _ hh ho rfl fun i row j e hi hj => ⟨?_, row, e, hi, hj, fun v h => VT.mono hz h⟩
        have := (List.getElem?_eq_some_iff.1 hj).1
        rwa [ho.2.1 _ (List.mem_of_getElem? hi)] at this
      · rename_i sz xs hh
        cases hm : omap (omap (brwC H n)) xs with
        | none => rw [hm] at h; cases h
        | some ys =>
          rw [hm] at h
          simp only [Option.map_some, Option.some.injEq] at h
          subst h
          obtain ⟨g1, g2⟩ := omap_some hm
          have ho := hk.ob _ _ hh
          refine rowv _ n id sz xs ys _ hh ho g1 fun i row j e hi hj => ?_
          obtain ⟨row', hx, hr⟩ := g2 i row hi
          obtain ⟨f1, f2⟩ := omap_some hr
          obtain ⟨d, hd, hb⟩ := f2 j e hj
          have : j < row'.length := (List.getElem?_eq_some_iff.1 hd).1
          rw [ho.2.1 _ (List.mem_of_getElem? hx)] at this
          exact ⟨this, row', d, hx, hd, fun v h => ih d e v hb h⟩
      · cases h
    | ptr id j =>
      simp only [brwC] at h
      split at h
      · rename_i ds hh
        cases hm : omap (brwC H n) (ds.drop j) with
        | none => rw [hm] at h; cases h
        | some es =>
          rw [hm] at h
          simp only [Option.map_some, Option.some.injEq] at h
          subst h
          obtain ⟨g1, g2⟩ := omap_some hm
          obtain ⟨b, hs, rfl⟩ := hv
          obtain ⟨b', T, cs, hs', hg, hsz, hc⟩ := hk.ob _ _ hh
          rw [hs] at hs'
          injection hs' with e; injection e with e; injection e with e _; subst e
          refine VT.pc es b j (fun k => cs.getD (j + k) undef) (fun k e he => ?_) (fun k e he => ?_)
          · obtain ⟨d, hd, _⟩ := g2 k e he
            rw [List.getElem?_drop] at hd
            have hlt : j + k < cs.size := by rw [hsz]; exact (List.getElem?_eq_some_iff.1 hd).1
            refine hp id _ b hh (by rw [hs]; rfl) _ _ ?_
            rw [cell_of_row w b _ cs T (0, 0) hg]
            simp [hlt]
          · obtain ⟨d, hd, hb⟩ := g2 k e he
            rw [List.getElem?_drop] at hd
            exact ih d e _ hb (hc _ d hd)
      · cases h
    | pel _ _ _ _ => simp [brwC] at h
    | sl _ _ _ _ _ => simp [brwC] at h
    | clo f ids =>
      simp only [brwC] at h
      cases hm : omap (fun id => brwC H n (.ptr id 0)) ids with
      | none => rw [hm] at h; cases h
      | some es =>
        rw [hm] at h
        simp only [Option.map_some, Option.some.injEq] at h
        subst h
        obtain ⟨g1, g2⟩ := omap_some hm
        obtain ⟨vs, rfl, h2, h3⟩ := hv
        refine VT.fn f es vs (by rw [h2, g1]) fun j e he => ?_
        obtain ⟨id, hid, hb⟩ := g2 j e he
        obtain ⟨b, k1, k2⟩ := h3 j id hid
        exact ih (.ptr id 0) e _ hb ⟨b, k1, by rw [k2]⟩
    | agg _ => simp [brwC] at h
    | tup _ => simp [brwC] at h
    | opt _ _ => simp [brwC] at h
    | _ => simp only [brwC, Option.some.injEq] at h; subst h; exact VT.mono hz hv
end
end Go.Proofs.Ytajimebannjofaa

set_option linter.unusedSimpArgs false
set_option linter.unusedVariables false
namespace Go.Proofs.Ytajimebannjofaa
open Go.RowKit

section
variable {P : Program} {B : Base} {w w' : World} {s s' : Nat → Value} {Z Z' Zp : Cells} {st : St} {a : Act} {H : List (Nat × Ob)}

theorem VC.of_vt' {d : D} {v : Value} (h : VT Z d v) : VC s Z d v := VC.of_vt h
theorem brwV_sound (hk : Know s Z H w) (hz : ∀ b o v, Z b o = some v → Zp b o = some v) (hp : ∀ id ob b, hget H id = some ob → blk (s id) = some b → ∀ o v, w.cell? ⟨b, o, none⟩ = some v → Zp b o = some v) {d e : D} {v : Value} (h : brwV H d = some e) (hv : VV s Z d v) : VV s0 Zp e v := by
  have one : brwC H 4 d = some e → VC s Z d v → VV s0 Zp e v := fun h1 h2 => VV.of_vc (VC.of_vt (brwC_sound hk hz hp 4 d e v h1 h2))
  cases d with
  | agg ds =>
    simp only [brwV] at h
    cases hm : omap (brwC H 4) ds with
    | none => rw [hm] at h; cases h
    | some es =>
      rw [hm] at h
      simp only [Option.map_some, Option.some.injEq] at h
      subst h
      obtain ⟨vs, rfl, hl, hc⟩ := hv
      obtain ⟨g1, g2⟩ := omap_some hm
      refine ⟨vs, rfl, by omega, fun j x hx => ?_⟩
      obtain ⟨y, hy, hb⟩ := g2 j x hx
      exact VC.of_vt (brwC_sound hk hz hp 4 y x _ hb (hc j y hy))
  | any => simp only [brwV, reduceCtorEq] at h
  | _ => exact one h hv
theorem brwR_sound (hk : Know s Z H w) (hz : ∀ b o v, Z b o = some v → Zp b o = some v) (hp : ∀ id ob b, hget H id = some ob → blk (s id) = some b → ∀ o v, w.cell? ⟨b, o, none⟩ = some v → Zp b o = some v) {d e : D} {v : Value} (h : brwR H d = some e) (hv : VR s Z d v) : VR s0 Zp e v := by
  cases d with
  | tup ds =>
    simp only [brwR] at h
    cases hm : omap (brwV H) ds with
    | none => rw [hm] at h; cases h
    | some es =>
      rw [hm] at h
      simp only [Option.map_some, Option.some.injEq] at h
      subst h
      obtain ⟨vs, rfl, hl, hc⟩ := hv
      obtain ⟨g1, g2⟩ := omap_some hm
      refine ⟨vs, rfl, by omega, fun j x hx => ?_⟩
      obtain ⟨y, hy, hb⟩ := g2 j x hx
      exact brwV_sound hk hz hp hb (hc j y hy)
  | any => simp only [brwR, brwV, reduceCtorEq] at h
  | _ => simp only [brwR] at h; simp only [VR] at hv; exact VR.of_vv (brwV_sound hk hz hp h hv)

theorem brwC_no {n : Nat} {d e : D} (h : brwC H n d = some e) (hn : noC d = true) : e = d := by
  cases d <;> cases n <;> simp only [brwC, Option.some.injEq, reduceCtorEq] at h <;> first | exact h.symm | cases hn
theorem brwV_no {d e : D} (h : brwV H d = some e) (hn : noV d = true) : e = d := by
  cases d with
  | agg ds =>
    simp only [brwV] at h
    cases hm : omap (brwC H 4) ds with
    | none => rw [hm] at h; cases h
    | some es =>
      rw [hm] at h
      simp only [Option.map_some, Option.some.injEq] at h
      subst h
      obtain ⟨g1, g2⟩ := omap_some hm
      congr 1
      refine List.ext_getElem? fun j => ?_
      cases hj : es[j]? with
      | none =>
        rw [List.getElem?_eq_none_iff] at hj
        rw [List.getElem?_eq_none (by omega)]
      | some x =>
        obtain ⟨y, hy, hb⟩ := g2 j x hj
        have := List.all_eq_true.1 hn y (List.mem_of_getElem? hy)
        rw [hy, brwC_no hb this]
  | any => simp only [brwV, reduceCtorEq] at h
  | _ => simp only [brwV, noV] at h hn; exact brwC_no h hn
theorem VC.no {d : D} {v : Value} (h : VC s Z d v) (hn : noC d = true) : VC s' Z d v := by
  cases d <;> first | exact h | cases hn
theorem VV.no {d : D} {v : Value} (h : VV s Z d v) (hn : noV d = true) : VV s' Z d v := by
  cases d with
  | agg ds => obtain ⟨vs, rfl, hl, hc⟩ := h; exact ⟨vs, rfl, hl, fun j x hx => (hc j x hx).no (List.all_eq_true.1 hn x (List.mem_of_getElem? hx))⟩
  | _ => simp only [VV, noV] at h hn ⊢; exact VC.no h hn

theorem VC.flat {d : D} {v : Value} (h : VC s Z d v) (hf : flatC d = true) : VC s' Z' d v := by
  cases d <;> first | (cases hf; done) | (cases h; constructor)
theorem VV.flat {d : D} {v : Value} (h : VV s Z d v) (hf : flatV d = true) : VV s' Z' d v := by
  cases d with
  | agg ds => obtain ⟨vs, rfl, hl, hc⟩ := h; exact ⟨vs, rfl, hl, fun j x hx => (hc j x hx).flat (List.all_eq_true.1 hf x (List.mem_of_getElem? hx))⟩
  | _ => simp only [VV, flatV] at h hf ⊢; exact VC.flat h hf
theorem VR.flat {d : D} {v : Value} (h : VR s Z d v) (hf : flatR d = true) : VR s' Z' d v := by
  cases d with
  | tup ds => obtain ⟨vs, rfl, hl, hc⟩ := h; exact ⟨vs, rfl, hl, fun j x hx => (hc j x hx).flat (List.all_eq_true.1 hf x (List.mem_of_getElem? hx))⟩
  | any => cases hf
  | _ => simp only [VR, flatR] at h hf ⊢; exact VV.flat h hf

/-- what a call leaves -/
def Left (B : Base) (K : St → Prop) (env : List (Nat × D)) (dst : Option Nat) (st : St) (s : Nat → Value) (Z : Cells) (v : Value) (w' : World) : Prop :=
  ∃ d H' nx' s' Z', VR s' Z' d v ∧ LtR nx' d ∧ RelH B s' Z' H' nx' w' ∧ st.nx ≤ nx' ∧ (∀ id, id < st.nx → s' id = s id) ∧ (∀ b o v, Z b o = some v → Z' b o = some v) ∧ K ⟨putO env dst d, H', nx'⟩
/-- a call of f with these data leaves what K says -/
def CallOk (P : Program) (sb : Bool) (B : Base) (f : FuncId) (ds : List D) (dst : Option Nat) (st : St) (K : St → Prop) : Prop :=
  callable P f = true ∧ ∀ (s : Nat → Value) (Z : Cells) (w : World) (vs : Array Value), RelH B s Z st.heap st.nx w → vs.size = ds.length → (∀ j x, ds[j]? = some x → VR s Z x (vs.getD j undef)) →
    Calls P f vs w fun e w' => ∃ v, e = .returned v ∧ (sb = true → Below w.heap.size w w') ∧ Left B K st.env dst st s Z v w'

theorem callFunc_run {f : FuncId} (hc : callable P f = true) (vs : Array Value) : (callFunc f vs).run P w = .ok (.enter f vs) w := by
  unfold callable at hc
  split at hc
  · rename_i fn hf
    simp only [Bool.and_eq_true, Bool.not_eq_true'] at hc
    obtain ⟨h1, h2⟩ := hc
    have h3 : fn.body.isNone = false := by cases hb : fn.body with
      | none => rw [hb] at h1; cases h1
      | some _ => rfl
    simp only [callFunc, Sem.run_bind, run_program, Result.andThen_ok, hf, h2, h3, Bool.false_eq_true, if_false, Sem.run_pure]
  · cases hc
end
end Go.Proofs.Ytajimebannjofaa

set_option linter.unusedSimpArgs false
set_option linter.unusedVariables false
namespace Go.Proofs.Ytajimebannjofaa
open Go.RowKit

section
variable {P : Program} {sb : Bool} {B : Base} {w w' : World} {s : Nat → Value} {Z : Cells} {st : St} {a : Act} {o : Oper} {K : St → Prop} {K' : Act → World → Prop} {Q : Exit → Act → World → Prop}

theorem wp_value {v : Value} (hr : (execOp a.eval o).run P w = .ok (.value v) w') (h : K' (a.put o.dst v) w') : o.wp P a w K' Q := by
  unfold Oper.wp; rw [hr]; exact h
theorem wp_skp (hr : (execOp a.eval o).run P w = .ok .skip w') (h : K' (a.put o.dst undef) w') : o.wp P a w K' Q := by
  unfold Oper.wp; rw [hr]; exact h
theorem wp_enter {f : FuncId} {vs : Array Value} (hr : (execOp a.eval o).run P w = .ok (.enter f vs) w) (h : Calls P f vs w fun e w' => ∃ v, e = .returned v ∧ K' (a.put o.dst v) w') : o.wp P a w K' Q := by
  unfold Oper.wp; rw [hr, Oper.upon_enter]
  refine h.mono fun e w' ⟨v, he, hk⟩ => ?_
  subst he; exact hk

theorem Rel.evE (h : Rel B s Z st a w) : ∀ x y, opdC x = some y → VR s Z (Go.Proofs.Ytajimebannjofaa.evE st.env y) (a.eval x) := evE_sound h.env
theorem Rel.vr (h : Rel B s Z st a w) {x : Operand} {y : Opd} (hx : opdC x = some y) (hg : gS st.env y = true) : VR s Z (evS st.env y) (a.eval x) := by
  have := h.evE x y hx
  rwa [evE_ok hg] at this
theorem Rel.lr (h : Rel B s Z st a w) {x : Operand} {y : Opd} (hx : opdC x = some y) (hg : gS st.env y = true) : LtR st.nx (evS st.env y) := evS_lt h.elt hx hg
theorem VR.vv {d : D} {v : Value} (h : VR s Z d v) (hn : d ≠ .any) (ht : ∀ ds, d ≠ .tup ds) : VV s Z d v := by
  cases d <;> first | exact h | exact absurd rfl hn | exact absurd rfl (ht _)

/-- a new variable -/
theorem new_cells (h : Rel B s Z st a w) (hdst : ∀ d, o.dst = some d → d < B.N) {cs : Array Value} {T : TypeId} {ds : List D} (hl : cs.size = ds.length) (hc : ∀ j x, ds[j]? = some x → VC s Z x (cs.getD j undef)) (hn : ∀ d ∈ ds, LtC st.nx d)
    (hG : Goes sb B w K K') (hK : K ⟨putO st.env o.dst (.ptr st.nx 0), eput st.heap st.nx (.cells ds), st.nx + 1⟩) : K' (a.put o.dst (.pointer (some ⟨w.heap.size, 0, none⟩))) (w.alloc (.cells cs T)) := by
  refine hG _ _ _ _ _ (fun _ => (Below.refl _ _).alloc (Nat.le_refl _) _) hK (h.step hdst (upd_lt s st.nx _) (fun _ _ _ h => h) (by omega) ?_ ?_ (h.h.cells cs T ds hl hc hn))
  · exact VC.new s Z st.nx w.heap.size
  · exact Nat.lt_succ_self _

theorem oks_mem {env : List (Nat × D)} {ao : AOp} (h : oks env ao = true) {x : Opd} (hx : x ∈ opnds ao) : gS env x = true := List.all_eq_true.1 h x hx
theorem isT_lt {d : D} (h : isT d = true) : LtC 0 d := by cases d <;> first | trivial | cases h
theorem all_one {R : D → Value → Prop} (hR : ∀ d v, R d v → VC s Z d v) : ∀ d v, R d v → v.oneCell' = true := fun d v h => (hR d v h).one

/-- a new slice of one's own, or one that has grown -/
theorem new_own (h : Rel B s Z st a w) (hdst : ∀ d, o.dst = some d → d < B.N) {v : Value} (hv : ∃ b n c, v = .slice b n c) {H' : List (Nat × Ob)} (hH : RelH B (upd s st.nx v) Z H' (st.nx + 1) w')
    (hG : Goes sb B w K K') (hbl : sb = true → Below w.heap.size w w') (hK : K ⟨putO st.env o.dst (.own st.nx), H', st.nx + 1⟩) : K' (a.put o.dst v) w' := by
  refine hG _ _ _ _ _ hbl hK (h.step hdst (upd_lt s st.nx _) (fun _ _ _ h => h) (by omega) ?_ ?_ hH)
  · exact ⟨(upd_same _ _ _).symm, .inl hv⟩
  · exact Nat.lt_succ_self _


theorem args_sound (h : Rel B s Z st a w) {xs : List Operand} {ys : List Opd} (hc : opdsC xs = some ys) (hg : ∀ y ∈ ys, gS st.env y = true) :
    ys.length = xs.length ∧ ∀ (j : Nat) (d : D), (ys.map (evS st.env))[j]? = some d → VR s Z d (((xs.map a.eval)[j]?).getD undef) := by
  obtain ⟨g1, g2⟩ := opdsC_sound h.evE xs ys hc
  refine ⟨g1, fun j d hd => ?_⟩
  rw [List.getElem?_map] at hd
  cases hy : ys[j]? with
  | none => rw [hy] at hd; cases hd
  | some y =>
    rw [hy] at hd
    simp only [Option.map_some, Option.some.injEq] at hd
    subst hd
    obtain ⟨x, hx, hv⟩ := g2 j y hy
    rw [evE_ok (hg y (List.mem_of_getElem? hy))] at hv
    rw [List.getElem?_map, hx]
    exact hv

theorem goes_call (h : Rel B s Z st a w) (hdst : ∀ d, o.dst = some d → d < B.N) {v : Value} (hb : sb = true → Below w.heap.size w w') (hL : Left B K st.env o.dst st s Z v w') (hG : Goes sb B w K K') : K' (a.put o.dst v) w' := by
  obtain ⟨d, H', nx', s', Z', hr, hlt, hH, hn, hs, hz, hK⟩ := hL
  exact hG _ _ _ _ _ hb hK (h.step hdst hs hz hn (VS.of_vr hr) (LtS.of_r hlt hr.no_opt) hH)

theorem bpartsC_opd : ∀ (ps : List (Nat × Operand)) (qs : List (Nat × Opd)), bpartsC ps = some qs → ps.length = qs.length ∧ ∀ q ∈ qs, ∃ x, opdC x = some q.2
  | [], qs, h => by simp only [bpartsC, Option.some.injEq] at h; subst h; exact ⟨rfl, fun q hq => by cases hq⟩
  | (i, x) :: ps, qs, h => by
    simp only [bpartsC] at h
    split at h <;> simp only [Option.some.injEq, reduceCtorEq] at h
    rename_i y ys h1 h2
    subst h
    obtain ⟨g1, g2⟩ := bpartsC_opd ps ys h2
    refine ⟨by simp [g1], fun q hq => ?_⟩
    rcases List.mem_cons.1 hq with rfl | hq
    · exact ⟨x, h1⟩
    · exact g2 q hq
theorem fillD_length : ∀ (ps : List (Nat × Nat × D)) (z ds : List D), fillD z ps = some ds → ds.length = z.length
  | [], z, ds, h => by simp only [fillD, Option.some.injEq] at h; subst h; rfl
  | (off, n, x) :: ps, z, ds, h => by
    simp only [fillD] at h
    split at h
    case isFalse => cases h
    rename_i hc
    rw [fillD_length ps _ ds h]
    simp [List.length_take]
    omega
/-- which operations may be loud -/
def opLoud : Op → Prop
  | .alloc _ => True
  | .box .. => True
  | .buildSlice .. => True
  | .makeSlice .. => True
  | .store .. => True
  | .call _ => True
  | _ => False
theorem eqC_quiet {t : TypeId} {ne : Bool} {x y : Opd} {ao : AOp} (h : eqC P t ne x y = some ao) : isLoud ao = false := by
  unfold eqC at h
  split at h <;> (try split at h) <;> simp at h <;> first | (subst h; rfl) | (obtain ⟨_, _, rfl⟩ := h; rfl)
theorem cop_quiet {o : Op} {ao : AOp} (hn : ¬ opLoud o) (hc : cop P o = some ao) : isLoud ao = false := by
  cases o with
  | alloc _ => exact absurd trivial hn
  | box _ _ => exact absurd trivial hn
  | buildSlice _ _ _ => exact absurd trivial hn
  | makeSlice _ _ _ => exact absurd trivial hn
  | store _ _ _ => exact absurd trivial hn
  | call _ => exact absurd trivial hn
  | binOp op t x y t' =>
    simp only [cop] at hc
    split at hc
    · cases op <;> simp only [Option.some.injEq] at hc <;> first | exact eqC_quiet hc | (subst hc; rfl)
    · cases hc
  | makeFunc fn l cs =>
    simp only [cop] at hc
    cases fn <;> simp only [reduceCtorEq] at hc
    split at hc <;> simp at hc
    obtain ⟨_, _, rfl⟩ := hc; rfl
  | unOp op t x =>
    simp only [cop] at hc
    cases op <;> simp at hc <;> (obtain ⟨_, _, rfl⟩ := hc; rfl)
  | slice t x lo hi mx =>
    simp only [cop] at hc
    split at hc
    · split at hc
      · split at hc <;> simp at hc
        subst hc; rfl
      · cases hc
    · cases hc
  | fieldAddr t x i =>
    simp only [cop] at hc
    split at hc
    · split at hc
      · split at hc
        · split at hc <;> simp at hc
          subst hc; rfl
        · cases hc
      · cases hc
    · cases hc
  | field t x i =>
    simp only [cop] at hc
    split at hc
    · split at hc
      · split at hc <;> simp at hc
        subst hc; rfl
      · cases hc
    · cases hc
  | build t ps =>
    simp only [cop] at hc
    split at hc
    · split at hc <;> simp at hc
      subst hc; rfl
    · cases hc
  | index t x i =>
    simp only [cop] at hc
    split at hc
    · split at hc <;> simp at hc
      subst hc; rfl
    · cases hc
  | indexAddr t x i =>
    simp only [cop] at hc
    split at hc
    · simp at hc; obtain ⟨_, _, rfl⟩ := hc; rfl
    · simp at hc; obtain ⟨_, _, rfl⟩ := hc; rfl
    · cases hc
  | convert u t x =>
    simp only [cop] at hc
    split at hc
    · simp at hc; obtain ⟨_, _, rfl⟩ := hc; rfl
    · cases hc
  | load t x =>
    simp only [cop] at hc
    split at hc <;> simp at hc
    subst hc; rfl
  | pick c x y =>
    simp only [cop] at hc
    split at hc <;> simp at hc
    subst hc; rfl
  | _ => simp only [cop] at hc; first | (cases hc; done) | (simp at hc; obtain ⟨_, _, rfl⟩ := hc; rfl)
theorem blk0 {v' : Value} {q : Option Addr} {n : Nat} (h : ∀ k, blk v' = some k → n ≤ k ∨ blk (.slice q 0 0) = some k) : ∀ k, blk v' = some k → n ≤ k := fun k hk => by
  rcases h k hk with h1 | h1
  · exact h1
  · cases q <;> simp [blk] at h1
theorem cop_no_xop {o : Op} {k : Nat} {ns : List Nat} {xs : List Opd} (hc : cop P o = some (.xop k ns xs)) : False := by
  by_cases hl : opLoud o
  · cases o with
    | call c =>
      simp only [cop] at hc
      split at hc
      · split at hc <;> simp at hc
      · split at hc
        · split at hc <;> (try split at hc) <;> simp at hc
        · simp at hc
        · simp at hc
        · split at hc
          · split at hc
            · split at hc
              · split at hc <;> simp at hc
              · cases hc
            · cases hc
          · cases hc
        · cases hc
      · cases hc
    | alloc t => simp [cop] at hc
    | box t x => simp [cop] at hc
    | store t x y => simp only [cop] at hc; split at hc <;> simp at hc
    | buildSlice t n qs =>
      simp only [cop] at hc
      split at hc
      · split at hc
        · split at hc <;> simp at hc
        · cases hc
      · cases hc
    | makeSlice t l c =>
      simp only [cop] at hc
      split at hc
      · split at hc
        · split at hc <;> simp at hc
        · cases hc
      · cases hc
    | _ => exact hl.elim
  · have := cop_quiet hl hc
    cases this
theorem aloud_sound (h : Rel B s Z st a w) (hdst : ∀ d, o.dst = some d → d < B.N) {ao : AOp} (hc : cop P o.op = some ao) (hs : aloud P sb B o.dst ao st K) (hG : Goes sb B w K K') : o.wp P a w K' Q := by
  by_cases hcl : (∃ f as_, ao = .call f as_) ∨ ∃ x as_, ao = .callv x as_
  · rcases hcl with ⟨f, as_, rfl⟩ | ⟨x, as_, rfl⟩
    · exact hs o s Z a w K' Q hc rfl hdst h hG
    · exact hs o s Z a w K' Q hc rfl hdst h hG
  by_cases happ : ∃ sz by_ z x y, ao = .app sz by_ z x y ∧ isSl (evS st.env x) = true
  · obtain ⟨sz, by_, z, x, y, rfl, hsl⟩ := happ
    have hs : WCall P sb B (.app sz by_ z x y) o.dst st K := by simpa only [aloud, hsl, if_true] using hs
    exact hs o s Z a w K' Q hc rfl hdst h hG
  have hs : ((sb && isWrite ao) = false ∧ oks st.env ao = true) ∧ aloud1 o.dst ao st K := by
    cases ao <;> first | (simp only [aloud] at hs; rw [if_neg (fun hsl => happ ⟨_, _, _, _, _, rfl, hsl⟩)] at hs; exact hs) | exact absurd (.inl ⟨_, _, rfl⟩) hcl | exact absurd (.inr ⟨_, _, rfl⟩) hcl | exact (cop_no_xop hc).elim | exact hs
  obtain ⟨⟨hsb, hok⟩, hs⟩ := hs
  cases ho : o.op with
  | alloc t =>
    rw [ho] at hc
    simp only [cop] at hc
    cases hz : zeroT P t with
    | none => rw [hz] at hc; cases hc
    | some z =>
      rw [hz] at hc; simp only [Option.map_some, Option.some.injEq] at hc; subst hc
      obtain ⟨i, v, hi, hv, _, hvc, hcc⟩ := zeroT_sound (s := s) (Z := Z) hz
      refine wp_value (v := .pointer (some ⟨w.heap.size, 0, none⟩)) (w' := w.alloc (.cells v.cells t)) ?_ (new_cells h hdst hvc hcc (fun d hd => (zeroT_lt hz d hd).mono (Nat.zero_le _)) hG hs)
      · unfold execOp; rw [ho]
        simp only [Sem.run_bind, run_alloc hi hv, Result.andThen_ok, Sem.run_pure]
  | box t x =>
    rw [ho] at hc
    simp only [cop] at hc
    cases hx : opdC x with
    | none => rw [hx] at hc; cases hc
    | some y =>
      rw [hx] at hc; simp only [Option.map_some, Option.some.injEq] at hc; subst hc
      obtain ⟨h0, hs⟩ := hs
      have hv := h.vr hx (oks_mem hok (by simp [opnds]))
      obtain ⟨hc1, hc2⟩ := hv.cells h0
      refine wp_value (v := .pointer (some ⟨w.heap.size, 0, none⟩)) (w' := w.alloc (.cells (a.eval x).cells t)) ?_ (new_cells h hdst hc1 hc2 (LtR.cells (h.lr hx (oks_mem hok (by simp [opnds])))) hG hs)
      · unfold execOp; rw [ho]
        simp only [Sem.run_bind, run_box, Result.andThen_ok, Sem.run_pure]
  | buildSlice t len ps =>
    rw [ho] at hc
    simp only [cop] at hc
    split at hc
    case h_2 => cases hc
    rename_i e he
    split at hc
    case h_2 => cases hc
    rename_i n z qs hn hz hqs
    split at hc
    case isFalse => cases hc
    rename_i hb
    simp only [Option.some.injEq] at hc
    subst hc
    simp only [aloud1] at hs
    split at hs
    case h_2 => exact hs.elim
    rename_i ds hds
    have hev : ∀ q ∈ qs, evS st.env q.2 = evE st.env q.2 := fun q hq => (evE_ok (oks_mem hok (List.mem_map.2 ⟨q, hq, rfl⟩))).symm
    have hmap : qs.map (fun q => (q.1 * n, n, evS st.env q.2)) = qs.map (fun q => (q.1 * n, n, evE st.env q.2)) := List.map_congr_left fun q hq => by rw [hev q hq]
    rw [hmap] at hds
    obtain ⟨cs, hrun, hcl, hcv⟩ := bslice_run (P := P) (w := w) he hn hb.1 hb.2 h.evE hz hqs hds
    have hlt : ∀ d ∈ ds, LtC st.nx d := fun d hd => by
      rcases fillD_mem _ _ _ hds d hd with h1 | ⟨q, hq, h1⟩
      · obtain ⟨l, hl, hd'⟩ := List.mem_flatten.1 h1
        rw [List.eq_of_mem_replicate hl] at hd'
        exact (zeroT_lt hz d hd').mono (Nat.zero_le _)
      · obtain ⟨r, hr, rfl⟩ := List.mem_map.1 hq
        simp only at h1
        rw [← hev r hr] at h1
        obtain ⟨y, hy⟩ : ∃ x, opdC x = some r.2 := by
          obtain ⟨g1, g2⟩ := bpartsC_opd ps.toList qs hqs
          exact g2 r hr
        exact LtR.cells (h.lr hy (oks_mem hok (List.mem_map.2 ⟨r, hr, rfl⟩))) d h1
    have hdl : ds.length = len * n := by
      have h1 := fillD_length _ _ _ hds
      obtain ⟨i, v, hi, _, hsz, _⟩ := zeroT_sound (s := s) (Z := Z) hz
      have : i.size = n := by unfold szT at hn; rw [hi] at hn; simpa using hn
      rw [h1, List.length_flatten, List.map_replicate, List.sum_replicate_nat]
      rw [← hsz, this]
    have hm : len ≤ maxLen := by
      have : len * 1 ≤ len * n := Nat.mul_le_mul_left _ hb.1
      unfold maxLen; omega
    have hbel : Below w.heap.size w (w.alloc (.cells cs e)) := (Below.refl _ _).alloc (Nat.le_refl _) _
    refine wp_value (v := .slice (some ⟨w.heap.size, 0, none⟩) len len) (w' := w.alloc (.cells cs e)) ?_ (new_own h hdst ⟨_, _, _, rfl⟩ (H' := eput st.heap st.nx (if ds.all isT then .row n (chunks n len ds) else .rowd n (chunks n len ds))) ?_ hG (fun _ => hbel) hs)
    · unfold execOp; rw [ho]
      simp only [Sem.run_bind, hrun, Result.andThen_ok, Sem.run_pure]
    · refine h.h.new hbel ?_ ?_ (fun k hk => ?_)
      · split
        · rename_i hall
          exact rowOk_of_cells hb.1 (heap_alloc_new w _) hcl hdl hm (fun j x hx => VC.vt (hcv j x hx) (List.all_eq_true.1 hall x (List.mem_of_getElem? hx)))
        · exact rowOk_of_cells hb.1 (heap_alloc_new w _) hcl hdl hm (fun j x hx => VC.mono (fun _ _ _ h => h) (upd_lt s st.nx _) (hlt x (List.mem_of_getElem? hx)) (hcv j x hx))
      · split
        · trivial
        · intro row hr d hd
          obtain ⟨i, hi⟩ := List.getElem?_of_mem hr
          obtain ⟨rfl, _⟩ := chunks_get n len ds i row hi
          exact (hlt d (List.mem_of_mem_drop (List.mem_of_mem_take hd))).mono (by omega)
      · simp only [blk] at hk
        split at hk
        · cases hk
        · cases hk; exact Nat.le_refl _
  | makeSlice t l c =>
    rw [ho] at hc
    simp only [cop] at hc
    split at hc
    case h_2 => cases hc
    rename_i e he
    split at hc
    case h_2 => cases hc
    rename_i i z L C hi hz hL hC
    split at hc
    case isFalse => cases hc
    rename_i h0
    simp only [Option.some.injEq] at hc
    subst hc
    simp only [aloud1] at hs
    split at hs
    case h_2 => exact hs.elim
    rename_i kl x kc y hx hy
    obtain ⟨⟨q1, q2, q3, q4⟩, hs⟩ := hs
    have hvl := h.vr hL (oks_mem hok (by simp [opnds]))
    have hvc := h.vr hC (oks_mem hok (by simp [opnds]))
    rw [hx] at hvl
    rw [hy] at hvc
    obtain ⟨cs, hrun, hzl, hrow⟩ := make_run (P := P) (w := w) (Z := Z) he hi hz h0 (kl := kl) (kc := kc) q1 q2 q3 q4
    refine wp_value (v := .slice (some ⟨w.heap.size, 0, none⟩) x.toNat y.toNat) (w' := w.alloc (.cells cs e)) ?_ (new_own h hdst ⟨_, _, _, rfl⟩ (H' := eput st.heap st.nx (.row i.size (List.replicate x.toNat z))) ?_ hG (fun _ => (Below.refl _ _).alloc (Nat.le_refl _) _) hs)
    · unfold execOp; rw [ho]
      simp only [Sem.run_bind, hvl.int_inv, hvc.int_inv, hrun, Result.andThen_ok, Sem.run_pure]
    · refine h.h.new ((Below.refl _ _).alloc (Nat.le_refl _) _) (hrow _ (heap_alloc_new w _)) trivial (fun k hk => ?_)
      simp only [blk] at hk
      split at hk
      · cases hk
      · cases hk; exact Nat.le_refl _
  | store t x y =>
    rw [ho] at hc
    simp only [cop] at hc
    split at hc <;> simp only [Option.some.injEq, reduceCtorEq] at hc
    rename_i n X Y hn hX hY
    subst hc
    simp only [aloud1] at hs
    obtain ⟨⟨hlen, h0⟩, hs⟩ := hs
    have hvx := h.vr hX (oks_mem hok (by simp [opnds]))
    have hvy := h.vr hY (oks_mem hok (by simp [opnds]))
    have hly := h.lr hY (oks_mem hok (by simp [opnds]))
    have hno : sb = true → False := fun h => by rw [h] at hsb; cases hsb
    have fin : ∀ {w' : World} {H' : List (Nat × Ob)}, (Instr.storeAt t (a.eval x) (a.eval y)).run P w = .ok () w' → RelH B s Z H' st.nx w' → K ⟨putO st.env o.dst .any, H', st.nx⟩ → o.wp P a w K' Q := fun hrun hH hK => by
      refine wp_skp (by unfold execOp; rw [ho]; simp only [Sem.run_bind, hrun, Result.andThen_ok, Sem.run_pure]) (hG _ _ _ _ _ (fun h => (hno h).elim) hK (h.step hdst (fun _ _ => rfl) (fun _ _ _ h => h) (Nat.le_refl _) ?_ ?_ hH))
      · trivial
      · trivial
    generalize evS st.env Y = dy at *
    cases hX' : evS st.env X with
    | ptr id j =>
      rw [hX'] at hs hvx
      simp only [aloud1] at hs
      split at hs
      · rename_i ds hh
        obtain ⟨hj, hK⟩ := hs
        obtain ⟨w', hrun, hH⟩ := store_cells (P := P) h.h hn hvx hh hvy hly hlen h0 hj
        exact fin hrun hH hK
      · exact hs.elim
    | pel id i sz j =>
      rw [hX'] at hs hvx
      simp only [aloud1] at hs
      have hmem : ∀ {xs : List (List D)}, i < xs.length → ∀ row ∈ xs.set i (splice (xs.getD i []) j dy.cells), ∀ d ∈ row, (∃ row' ∈ xs, d ∈ row') ∨ d ∈ dy.cells := fun {xs} hi row hr d hd => by
        rcases List.mem_or_eq_of_mem_set hr with hr | rfl
        · exact .inl ⟨row, hr, hd⟩
        · rcases splice_mem hd with hd | hd
          · refine .inl ⟨xs.getD i [], ?_, hd⟩
            rw [List.getD_eq_getElem?_getD, List.getElem?_eq_getElem hi]; exact List.getElem_mem hi
          · exact .inr hd
      split at hs
      · rename_i sz' xs hh
        obtain ⟨⟨rfl, hi, hj, hall⟩, hK⟩ := hs
        obtain ⟨w', hrun, hH⟩ := store_row (P := P) (R := VT Z) (Ob.row sz) (fun _ _ _ => rfl) h.h hn hvx hh hvy (fun q hq u hu => VC.vt hu (List.all_eq_true.1 hall q hq)) hlen h0 hi hj trivial
        exact fin hrun hH hK
      · rename_i sz' xs hh
        obtain ⟨⟨rfl, hi, hj⟩, hK⟩ := hs
        obtain ⟨w', hrun, hH⟩ := store_row (P := P) (R := VC s Z) (Ob.rowd sz) (fun _ _ _ => rfl) h.h hn hvx hh hvy (fun q hq u hu => hu) hlen h0 hi hj (fun row hr d hd => by
          rcases hmem hi row hr d hd with ⟨row', hr', hd'⟩ | hd'
          · exact (h.h.lt _ _ hh).2 row' hr' d hd'
          · exact LtR.cells hly d hd')
        exact fin hrun hH hK
      · exact hs.elim
    | _ => rw [hX'] at hs; exact hs.elim
  | call c =>
    obtain ⟨cal, ars, ats⟩ := c
    obtain ⟨ars⟩ := ars
    obtain ⟨ats⟩ := ats
    rw [ho] at hc
    simp only [cop] at hc
    cases cal with
    | invoke _ _ => cases hc
    | value f =>
      simp only at hc
      split at hc <;> simp only [Option.some.injEq, reduceCtorEq] at hc
      · rename_i f' ys hys
        subst hc
        exact hs.elim
      · rename_i t ys hys
        subst hc
        exact hs.elim
    | builtin b =>
      simp only at hc
      cases hys : opdsC ars with
      | none => rw [hys] at hc; cases b <;> simp at hc
      | some ys =>
        rw [hys] at hc
        have no : isLoud ao = false → o.wp P a w K' Q := fun hn => by cases ao <;> first | exact hs.elim | cases hn
        split at hc
        · rename_i X t hb1 hb2 hb3
          split at hc
          · simp only [Option.some.injEq] at hc; subst hc; exact no rfl
          · simp only [Option.some.injEq] at hc; subst hc; exact no rfl
          · split at hc <;> simp only [Option.some.injEq, reduceCtorEq] at hc; subst hc; exact no rfl
          · cases hc
        · simp only [Option.some.injEq] at hc; subst hc; exact no rfl
        · simp only [Option.some.injEq] at hc; subst hc; exact no rfl
        · rename_i X Y t t' hb2
          split at hc
          case isFalse => cases hc
          rename_i htt
          subst htt
          split at hc
          case h_2 => cases hc
          rename_i e he
          split at hc
          case h_2 => cases hc
          rename_i i z hi hz
          split at hc
          case isFalse => cases hc
          rename_i h0
          simp only [Option.some.injEq] at hc
          subst hc
          simp only [Option.some.injEq] at hb2
          subst hb2
          obtain ⟨x, y, rfl⟩ : ∃ x y, ars = [x, y] := list_two (by have := (opdsC_sound h.evE ars _ hys).1; simpa using this.symm)
          simp only [opdsC] at hys
          have hX : opdC x = some X ∧ opdC y = some Y := by
            cases hx : opdC x <;> cases hy : opdC y <;> rw [hx, hy] at hys <;> simp at hys ⊢
            exact hys
          obtain ⟨hX, hY⟩ := hX
          have hvx := h.vr hX (oks_mem hok (by simp [opnds]))
          have hvy := h.vr hY (oks_mem hok (by simp [opnds]))
          have hlx := h.lr hX (oks_mem hok (by simp [opnds]))
          simp only [aloud1] at hs
          obtain ⟨hby, hs⟩ := hs
          have hno : sb = true → False := fun h => by rw [h] at hsb; cases hsb
          split at hs
          case h_2 => exact hs.elim
          rename_i ty sy ys hsl
          obtain ⟨⟨hsy, hrow⟩, hs⟩ := hs
          obtain ⟨i', v, hi', hv, hsz, hvc, _⟩ := zeroT_sound (s := s) (Z := Z) hz
          obtain rfl : i' = i := Option.some.inj (hi'.symm.trans hi)
          have hu := sliceT_some he
          have hat : SlAt (if ty then VT Z else VC s Z) w i'.size ys (a.eval y) := by
            have := slD_at h.h.know hvy hsl
            rcases hsy with rfl | rfl
            · exact this
            · obtain ⟨q, cap, h1, h2, _⟩ := this
              exact ⟨q, cap, h1, h2, fun h => by simp at h⟩
          have hlty : ty = false → ∀ row ∈ ys, ∀ d ∈ row, LtC st.nx d := fun hty row hr d hd => by
            subst hty
            unfold slD at hsl
            split at hsl <;> (try simp only [Option.some.injEq, Prod.mk.injEq, reduceCtorEq] at hsl)
            · exact absurd hsl.1 (by simp)
            · exact absurd hsl.1 (by simp)
            · split at hsl <;> simp only [Option.some.injEq, Prod.mk.injEq, reduceCtorEq] at hsl
              · exact absurd hsl.1 (by simp)
              · rename_i hh
                obtain ⟨_, rfl, rfl⟩ := hsl
                exact (h.h.lt _ _ hh).2 row hr d hd
          have hexec : ∀ {v' : Value} {w' : World}, (Builtin.append_ #[t, t] o.type #[a.eval x, a.eval y]).run P w = .ok v' w' → (execOp a.eval o).run P w = .ok (.value v') w' := fun hrun => by
            unfold execOp; rw [ho]
            simp only [resolve, invoke, builtin, Sem.run_bind, Sem.run_pure, Result.andThen_ok, List.map_toArray, List.map_cons, List.map_nil, hrun]
          have one : ∀ d q, VC s Z d q → q.oneCell' = true := fun d q hq => hq.one
          have oneT : ∀ d q, VT Z d q → q.oneCell' = true := fun d q hq => hq.one
          cases hX' : evS st.env X with
          | nil0 =>
            rw [hX'] at hs hvx
            simp only [aloud1] at hs
            obtain ⟨hlen, hK⟩ := hs
            generalize hax : a.eval x = vx at *
            cases hvx with
            | nil0 q =>
            cases ty with
            | true =>
              obtain ⟨v', w', hrun, hg, hr, hbl, hsv⟩ := append_run (P := P) (w := w) (R := VT Z) (R1 := VT Z) (R2 := VT Z) (ty := o.type) hu hi hv (by omega) h0 hby (fun _ _ h => h) (fun _ _ h => h) oneT (xs := []) (.inl ⟨rfl, q, rfl⟩) hat hrow (by simpa using hlen)
              refine wp_value (hexec hrun) (new_own h hdst hsv (H' := eput st.heap st.nx (.row i'.size ys)) ?_ hG (fun h => (hno h).elim) hK)
              have hb : Below w.heap.size w w' := ⟨hg.os, hg.tape, hg.output, hg.size, fun k hk => hg.block k hk (by cases q <;> simp [blk])⟩
              exact h.h.new hb hr trivial (blk0 hbl)
            | false =>
              obtain ⟨v', w', hrun, hg, hr, hbl, hsv⟩ := append_run (P := P) (w := w) (R := VC s Z) (R1 := VC s Z) (R2 := VC s Z) (ty := o.type) hu hi hv (by omega) h0 hby (fun _ _ h => h) (fun _ _ h => h) one (xs := []) (.inl ⟨rfl, q, rfl⟩) hat hrow (by simpa using hlen)
              refine wp_value (hexec hrun) (new_own h hdst hsv (H' := eput st.heap st.nx (.rowd i'.size ys)) ?_ hG (fun h => (hno h).elim) hK)
              have hb : Below w.heap.size w w' := ⟨hg.os, hg.tape, hg.output, hg.size, fun k hk => hg.block k hk (by cases q <;> simp [blk])⟩
              have hl := hlty rfl
              refine h.h.new hb (RowOk.mono hr (fun _ _ => rfl) fun row hr d hd u hu => VC.mono (fun _ _ _ h => h) (upd_lt s st.nx _) (hl row (by simpa using hr) d hd) hu) (fun row hr d hd => (hl row hr d hd).mono (by omega)) (blk0 hbl)
          | own id =>
            rw [hX'] at hs hvx hlx
            simp only [aloud1] at hs
            obtain ⟨hvx1, _⟩ := hvx
            have fin : ∀ (R : D → Value → Prop) (ob : Ob) (xs : List (List D)) (v' : Value) (w' : World), hget st.heap id = some ob → (Builtin.append_ #[t, t] o.type #[a.eval x, a.eval y]).run P w = .ok v' w' → w.grownBy w' (blk (a.eval x)) → (∀ k, blk v' = some k → w.heap.size ≤ k ∨ blk (a.eval x) = some k) → (∃ q n c, v' = .slice q n c) →
                ∀ ob', ObOk (upd s st.nx v') Z w' ob' v' → LtO (st.nx + 1) ob' → K ⟨putO st.env o.dst (.own st.nx), eput (herase st.heap id) st.nx ob', st.nx + 1⟩ → o.wp P a w K' Q := fun R ob xs v' w' hh hrun hg hbl hsv ob' hob hlt hK => by
              rw [hvx1] at hg hbl
              exact wp_value (hexec hrun) (new_own h hdst hsv (h.h.move hh hg hob hlt hbl) hG (fun h => (hno h).elim) hK)
            split at hs
            · rename_i sx xs hh
              obtain ⟨⟨rfl, hlen⟩, hK⟩ := hs
              have hro : RowOk (VT Z) w i'.size xs (a.eval x) := by rw [hvx1]; exact h.h.ob _ _ hh
              cases ty with
              | true =>
                obtain ⟨v', w', hrun, hg, hr, hbl, hsv⟩ := append_run (P := P) (w := w) (R := VT Z) (R1 := VT Z) (R2 := VT Z) (ty := o.type) hu hi hv (by omega) h0 hby (fun _ _ h => h) (fun _ _ h => h) oneT (.inr hro) hat hrow hlen
                exact fin (VT Z) _ xs v' w' hh hrun hg hbl hsv (.row i'.size (xs ++ ys)) hr trivial hK
              | false =>
                obtain ⟨v', w', hrun, hg, hr, hbl, hsv⟩ := append_run (P := P) (w := w) (R := VC s Z) (R1 := VT Z) (R2 := VC s Z) (ty := o.type) hu hi hv (by omega) h0 hby (fun _ _ h => VC.of_vt h) (fun _ _ h => h) one (.inr hro) hat hrow hlen
                have hl := hlty rfl
                have hxl : ∀ row ∈ xs, ∀ d ∈ row, LtC st.nx d := fun row hr d hd => by
                  obtain ⟨i, hi⟩ := List.getElem?_of_mem hr
                  obtain ⟨j, hj⟩ := List.getElem?_of_mem hd
                  obtain ⟨q, cap, h1, h2, h3⟩ := hro.at
                  obtain ⟨b, off, rfl, hc⟩ := h3 (by have := (List.getElem?_eq_some_iff.1 hi).1; omega)
                  obtain ⟨u, _, hu⟩ := hc i row j d hi hj
                  exact hu.lt.1.mono (Nat.zero_le _)
                have hboth : ∀ row ∈ xs ++ ys, ∀ d ∈ row, LtC st.nx d := fun row hr => by
                  rcases List.mem_append.1 hr with h1 | h1
                  · exact hxl row h1
                  · exact hl row h1
                exact fin (VC s Z) _ xs v' w' hh hrun hg hbl hsv (.rowd i'.size (xs ++ ys)) (RowOk.mono (R' := VC (upd s st.nx v') Z) hr (fun _ _ => rfl) fun row hr d hd u hu => VC.mono (fun _ _ _ h => h) (upd_lt s st.nx _) (hboth row hr d hd) hu) (fun row hr d hd => (hboth row hr d hd).mono (by omega)) hK
            · rename_i sx xs hh
              obtain ⟨⟨rfl, hlen⟩, hK⟩ := hs
              have hro : RowOk (VC s Z) w i'.size xs (a.eval x) := by rw [hvx1]; exact h.h.ob _ _ hh
              have hat' : SlAt (VC s Z) w i'.size ys (a.eval y) := by
                cases ty with
                | true =>
                  obtain ⟨q, cap, h1, h2, h3⟩ := hat
                  exact ⟨q, cap, h1, h2, fun h => by obtain ⟨b, off, h4, h5⟩ := h3 h; exact ⟨b, off, h4, fun i row j d hi hj => by obtain ⟨u, h6, h7⟩ := h5 i row j d hi hj; exact ⟨u, h6, VC.of_vt h7⟩⟩⟩
                | false => exact hat
              obtain ⟨v', w', hrun, hg, hr, hbl, hsv⟩ := append_run (P := P) (w := w) (R := VC s Z) (R1 := VC s Z) (R2 := VC s Z) (ty := o.type) hu hi hv (by omega) h0 hby (fun _ _ h => h) (fun _ _ h => h) one (.inr hro) hat' hrow hlen
              have hyl : ∀ row ∈ ys, ∀ d ∈ row, LtC st.nx d := fun row hr d hd => by
                cases ty with
                | false => exact hlty rfl row hr d hd
                | true =>
                  obtain ⟨i, hi⟩ := List.getElem?_of_mem hr
                  obtain ⟨j, hj⟩ := List.getElem?_of_mem hd
                  obtain ⟨q, cap, h1, h2, h3⟩ := hat
                  obtain ⟨b, off, rfl, hc⟩ := h3 (by have := (List.getElem?_eq_some_iff.1 hi).1; omega)
                  obtain ⟨u, _, hu⟩ := hc i row j d hi hj
                  exact (VT.lt (Z := Z) hu).1.mono (Nat.zero_le _)
              have hboth : ∀ row ∈ xs ++ ys, ∀ d ∈ row, LtC st.nx d := fun row hr => by
                rcases List.mem_append.1 hr with h1 | h1
                · exact fun d hd => (h.h.lt _ _ hh).2 row h1 d hd
                · exact hyl row h1
              exact fin (VC s Z) _ xs v' w' hh hrun hg hbl hsv (.rowd i'.size (xs ++ ys)) (RowOk.mono (R' := VC (upd s st.nx v') Z) hr (fun _ _ => rfl) fun row hr d hd u hu => VC.mono (fun _ _ _ h => h) (upd_lt s st.nx _) (hboth row hr d hd) hu) (fun row hr d hd => (hboth row hr d hd).mono (by omega)) hK
            · exact hs.elim
          | _ => rw [hX'] at hs; exact hs.elim
        · cases hc
  | _ =>
    have hn := cop_quiet (P := P) (o := o.op) (by rw [ho]; exact fun h => h) (by rw [ho]; rw [ho] at hc; exact hc)
    cases ao <;> first | exact hs.elim | cases hn
end
end Go.Proofs.Ytajimebannjofaa

set_option linter.unusedSimpArgs false
set_option linter.unusedVariables false
namespace Go.Proofs.Ytajimebannjofaa
open Go.RowKit

section
variable {P : Program} {sb : Bool} {B : Base} {w w' : World} {s : Nat → Value} {Z : Cells} {st : St} {a : Act} {o : Oper} {K : St → Prop} {K' : Act → World → Prop} {Q : Exit → Act → World → Prop}

theorem opdsC_mem : ∀ (xs : List Operand) (ys : List Opd), opdsC xs = some ys → ∀ y ∈ ys, ∃ x, opdC x = some y
  | [], ys, h, y, hy => by simp only [opdsC, Option.some.injEq] at h; subst h; cases hy
  | x :: xs, ys, h, y, hy => by
    simp only [opdsC] at h
    split at h <;> simp only [Option.some.injEq, reduceCtorEq] at h
    rename_i z zs h1 h2
    subst h
    rcases List.mem_cons.1 hy with rfl | hy
    · exact ⟨x, h1⟩
    · exact opdsC_mem xs zs h2 y hy
theorem partsC_mem {t : TypeId} : ∀ (ps : List (Nat × Operand)) (qs : List (Nat × Nat × Opd)), partsC P t ps = some qs → ∀ q ∈ qs, ∃ x, opdC x = some q.2.2
  | [], qs, h, q, hq => by simp only [partsC, Option.some.injEq] at h; subst h; cases hq
  | (i, x) :: ps, qs, h, q, hq => by
    simp only [partsC] at h
    split at h <;> simp only [Option.some.injEq, reduceCtorEq] at h
    rename_i o n z zs h1 h2 h3
    subst h
    rcases List.mem_cons.1 hq with rfl | hq
    · exact ⟨x, h2⟩
    · exact partsC_mem ps zs h3 q hq
theorem optC_mem {x : Option Operand} {X : Option Opd} (h : optC x = some X) : ∀ y ∈ X.toList, ∃ z, opdC z = some y := by
  cases x with
  | none => simp only [optC, Option.some.injEq] at h; subst h; intro y hy; cases hy
  | some x =>
    simp only [optC] at h
    cases hx : opdC x with
    | none => rw [hx] at h; cases h
    | some Y => rw [hx] at h; simp only [Option.map_some, Option.some.injEq] at h; subst h; intro y hy; simp at hy; subst hy; exact ⟨x, hx⟩
theorem mem1 {x y : Opd} {X : Operand} (h : opdC X = some x) (hy : y ∈ [x]) : ∃ z, opdC z = some y := by simp at hy; subst hy; exact ⟨X, h⟩
theorem mem2 {x x' y : Opd} {X X' : Operand} (h : opdC X = some x) (h' : opdC X' = some x') (hy : y ∈ [x, x']) : ∃ z, opdC z = some y := by
  simp at hy
  rcases hy with rfl | rfl
  · exact ⟨X, h⟩
  · exact ⟨X', h'⟩
theorem cop_opnds {o : Op} {ao : AOp} (hc : cop P o = some ao) (hq : isLoud ao = false) : ∀ y ∈ opnds ao, ∃ x, opdC x = some y := by
  intro y hy
  cases o with
  | move x => simp only [cop] at hc; simp at hc; obtain ⟨z, hz, rfl⟩ := hc; exact mem1 hz hy
  | assign x => simp only [cop] at hc; simp at hc; obtain ⟨z, hz, rfl⟩ := hc; exact mem1 hz hy
  | pick c a b =>
    simp only [cop] at hc
    split at hc <;> simp at hc
    subst hc; cases hy
  | alloc t => simp only [cop] at hc; simp at hc; obtain ⟨z, hz, rfl⟩ := hc; cases hq
  | box t x => simp only [cop] at hc; simp at hc; obtain ⟨z, hz, rfl⟩ := hc; cases hq
  | build t ps =>
    simp only [cop] at hc
    split at hc
    case h_2 => cases hc
    rename_i z qs hz hqs
    split at hc <;> simp at hc
    subst hc
    obtain ⟨q, hq', rfl⟩ := List.mem_map.1 hy
    exact partsC_mem _ _ hqs q hq'
  | buildSlice t n ps =>
    simp only [cop] at hc
    split at hc
    · split at hc
      · split at hc <;> simp at hc
        subst hc; cases hq
      · cases hc
    · cases hc
  | load t x =>
    simp only [cop] at hc
    split at hc <;> simp at hc
    rename_i h3
    subst hc; exact mem1 h3 hy
  | store t x y =>
    simp only [cop] at hc
    split at hc <;> simp at hc
    subst hc; cases hq
  | nilCheck x => simp only [cop] at hc; simp at hc; obtain ⟨z, hz, rfl⟩ := hc; exact mem1 hz hy
  | binOp op t x z t' =>
    simp only [cop] at hc
    split at hc
    case h_2 => cases hc
    rename_i X Y hX hY
    have he : ∀ ne, eqC P t ne X Y = some ao → ∃ x, opdC x = some y := fun ne h => by
      unfold eqC at h
      split at h <;> (try split at h) <;> simp at h <;> first | (subst h; exact mem2 hX hY hy) | (subst h; exact mem1 hX hy) | (obtain ⟨_, _, rfl⟩ := h; exact mem2 hX hY hy)
    cases op <;> simp only [Option.some.injEq] at hc <;> first | exact he _ hc | (subst hc; exact mem2 hX hY hy)
  | unOp op t x =>
    simp only [cop] at hc
    cases op <;> simp at hc <;> (obtain ⟨z, hz, rfl⟩ := hc; exact mem1 hz hy)
  | convert u t x =>
    simp only [cop] at hc
    split at hc
    · simp at hc; obtain ⟨z, hz, rfl⟩ := hc; exact mem1 hz hy
    · cases hc
  | makeFunc fn l cs =>
    simp only [cop] at hc
    cases fn <;> simp only [reduceCtorEq] at hc
    split at hc <;> simp at hc
    obtain ⟨z, hz, rfl⟩ := hc; exact opdsC_mem _ _ hz y hy
  | makeSlice t l c =>
    simp only [cop] at hc
    split at hc
    · split at hc
      · split at hc <;> simp at hc
        subst hc; cases hq
      · cases hc
    · cases hc
  | slice t x lo hi mx =>
    simp only [cop] at hc
    split at hc
    case h_2 => cases hc
    split at hc
    case h_2 => cases hc
    rename_i n X LO HI MX hn hX hLO hHI hMX
    split at hc <;> simp at hc
    subst hc
    rcases List.mem_cons.1 hy with rfl | hy
    · exact ⟨x, hX⟩
    · rcases List.mem_append.1 hy with hy | hy
      · exact optC_mem hLO y hy
      · rcases List.mem_append.1 hy with hy | hy
        · exact optC_mem hHI y hy
        · exact optC_mem hMX y hy
  | fieldAddr t x i =>
    simp only [cop] at hc
    split at hc
    case h_2 => cases hc
    split at hc
    case h_2 => cases hc
    split at hc
    case h_2 => cases hc
    rename_i hX
    split at hc <;> simp at hc
    subst hc; exact mem1 hX hy
  | field t x i =>
    simp only [cop] at hc
    split at hc
    case h_2 => cases hc
    split at hc
    case h_2 => cases hc
    split at hc
    case h_2 => cases hc
    rename_i hX
    simp at hc
    subst hc; exact mem1 hX hy
  | indexAddr t x i =>
    simp only [cop] at hc
    split at hc
    · rename_i hX hI
      simp at hc; obtain ⟨_, _, rfl⟩ := hc; exact mem2 hX hI hy
    · rename_i hX hI
      simp at hc; obtain ⟨_, _, rfl⟩ := hc; exact mem2 hX hI hy
    · cases hc
  | index t x i =>
    simp only [cop] at hc
    split at hc
    case h_2 => cases hc
    rename_i hX hI
    split at hc <;> simp at hc
    subst hc; exact mem2 hX hI hy
  | extract x i => simp only [cop] at hc; simp at hc; obtain ⟨z, hz, rfl⟩ := hc; exact mem1 hz hy
  | call c =>
    simp only [cop] at hc
    split at hc
    · split at hc <;> simp at hc <;> (subst hc; cases hq)
    · split at hc
      · rename_i hx hat
        have hm := opdsC_mem c.args.toList _ (by assumption)
        split at hc
        · simp at hc; subst hc; exact hm y hy
        · simp at hc; subst hc; cases hy
        · split at hc <;> simp at hc
          subst hc; cases hy
        · cases hc
      · rename_i hx
        simp at hc; subst hc; exact opdsC_mem c.args.toList _ (by assumption) y hy
      · rename_i hx
        simp at hc; subst hc; exact opdsC_mem c.args.toList _ (by assumption) y hy
      · split at hc
        · split at hc
          · split at hc
            · split at hc <;> simp at hc
              subst hc; cases hq
            · cases hc
          · cases hc
        · cases hc
      · cases hc
    · cases hc
  | _ => cases hc
theorem Goes.skip (h : Rel B s Z st a w) (hdst : ∀ d, o.dst = some d → d < B.N) (hG : Goes sb B w K K') (hK : K ⟨putO st.env o.dst (.opt false .any), st.heap, st.nx⟩) : K' (a.put o.dst undef) w :=
  hG _ _ _ _ _ (fun _ => Below.refl _ _) hK (h.put hdst ⟨(fun h => by cases h), fun _ => rfl⟩ (fun h => by cases h))

/-- a truth value picked -/
theorem does_pick {c x y : Operand} (ho : o.op = .pick c x y) {X Y : D} {b : Bool} (hc : a.eval c = .bool b) {p : Prop} {d : D} (hp : pickV b X Y = some (p, d)) (hpp : p) (hx : b = true → VR s Z X (a.eval x)) (hy : b = false → VR s Z Y (a.eval y)) : ∃ u, VR s Z d u ∧ LtR 0 d ∧ ∀ w, (execOp a.eval o).run P w = .ok (.value u) w := by
  have fin : ∀ q : Bool, (a.eval (if b then x else y)) = .bool q → ∃ u, VR s Z (.bool q) u ∧ LtR 0 (.bool q) ∧ ∀ w, (execOp a.eval o).run P w = .ok (.value u) w := fun q hq => by
    refine ⟨_, VR.bool_mk _, trivial, fun w => ?_⟩
    unfold execOp; rw [ho]
    simp only [Sem.run_bind, hc, asBool, Sem.run_pure, Result.andThen_ok]
    cases b
    · simp only [Bool.false_eq_true, if_false] at hq ⊢; rw [hq]
    · simp only [if_true] at hq ⊢; rw [hq]
  unfold pickV at hp
  split at hp
  · simp only [Option.some.injEq, Prod.mk.injEq] at hp
    obtain ⟨_, rfl⟩ := hp
    cases b
    · exact fin _ (hy rfl).bool_inv
    · exact fin _ (hx rfl).bool_inv
  · simp only [Option.some.injEq, Prod.mk.injEq] at hp
    obtain ⟨rfl, rfl⟩ := hp
    subst hpp
    exact fin _ (hx rfl).bool_inv
  · simp only [Option.some.injEq, Prod.mk.injEq] at hp
    obtain ⟨rfl, rfl⟩ := hp
    subst hpp
    exact fin _ (hy rfl).bool_inv
  · cases hp

/-- what an operation that changes nothing leaves in its slot -/
theorem quiet_val (h : Rel B s Z st a w) {ao : AOp} (hc : cop P o.op = some ao) {p : Prop} {d : D} (hq : qv (evS st.env) st.heap ao = some (p, d)) (hok : oks st.env ao = true) (hp : p) :
    ∃ u, VR s Z d u ∧ LtR st.nx d ∧ ∀ w', Ok4 w o w' → (execOp a.eval o).run P w' = .ok (.value u) w' := by
  have hcg : qv (evE st.env) st.heap ao = some (p, d) := by rw [← hq]; exact qv_congr fun x hx => evE_ok (oks_mem hok hx)
  obtain ⟨u, hu, hr⟩ := qv_sound (P := P) (o := o) h.h.know h.evE hc hcg hp
  have hnl : isLoud ao = false := by cases ao <;> first | rfl | cases hq
  refine ⟨u, hu, ?_, hr⟩
  refine qv_lt (P := P) (s := s) (Z := Z) h.h.know (fun id ob hh => (h.h.lt id ob hh).2) hc (fun x hx => ?_) (fun x hx => ?_) hcg hp
  · obtain ⟨y, hy⟩ := cop_opnds hc hnl x hx
    rw [evE_ok (oks_mem hok hx)]
    exact h.lr hy (oks_mem hok hx)
  · obtain ⟨y, hy⟩ := cop_opnds hc hnl x hx
    exact ⟨_, h.evE y x hy⟩

theorem eqC_no_pick {t : TypeId} {ne : Bool} {x y c d e : Opd} (h : eqC P t ne x y = some (.pick c d e)) : False := by
  unfold eqC at h
  split at h <;> (try split at h) <;> simp at h
theorem cop_no_pick {o : Op} {c x y : Opd} (hn : ∀ C X Y, o ≠ .pick C X Y) (hc : cop P o = some (.pick c x y)) : False := by
  cases o with
  | pick C X Y => exact hn C X Y rfl
  | binOp op t x y t' =>
    simp only [cop] at hc
    split at hc
    · cases op <;> simp only [Option.some.injEq, reduceCtorEq] at hc <;> exact eqC_no_pick hc
    · cases hc
  | makeFunc fn l cs =>
    simp only [cop] at hc
    cases fn <;> simp only [reduceCtorEq] at hc
    split at hc <;> simp at hc
  | unOp op t x =>
    simp only [cop] at hc
    cases op <;> simp at hc
  | call c =>
    simp only [cop] at hc
    split at hc
    · split at hc <;> simp at hc
    · split at hc
      · split at hc
        · simp at hc
        · simp at hc
        · split at hc <;> simp at hc
        · cases hc
      · simp at hc
      · simp at hc
      · split at hc
        · split at hc
          · split at hc
            · split at hc <;> simp at hc
            · cases hc
          · cases hc
        · cases hc
      · cases hc
    · cases hc
  | buildSlice t n qs =>
    simp only [cop] at hc
    split at hc
    · split at hc
      · split at hc <;> simp at hc
      · cases hc
    · cases hc
  | slice t x lo hi mx =>
    simp only [cop] at hc
    split at hc
    · split at hc
      · split at hc <;> simp at hc
      · cases hc
    · cases hc
  | fieldAddr t x i =>
    simp only [cop] at hc
    split at hc
    · split at hc
      · split at hc
        · split at hc <;> simp at hc
        · cases hc
      · cases hc
    · cases hc
  | _ => simp only [cop] at hc; first | (cases hc; done) | (simp at hc; done) | (split at hc <;> first | (simp at hc; done) | (split at hc <;> first | (simp at hc; done) | (split at hc <;> first | (simp at hc; done) | (split at hc <;> simp at hc))))
theorem loud_case (h : Rel B s Z st a w) (hdst : ∀ d, o.dst = some d → d < B.N) {ao : AOp} (hc : cop P o.op = some ao) (hl : isLoud ao = true) {g : Option Bool} (hs : aop P sb B g o.dst ao st K) (hG : Goes sb B w K K') :
    ((g = none ∨ g = some true) → o.wp P a w K' Q) ∧ (g = some false → K' (a.put o.dst undef) w) := by
  unfold aop at hs
  rw [if_pos hl] at hs
  cases g with
  | none => exact ⟨fun _ => aloud_sound h hdst hc hs hG, (fun h => by cases h)⟩
  | some c =>
    refine ⟨fun hg => ?_, fun hg => ?_⟩
    · rcases hg with hg | hg
      · cases hg
      · cases hg; exact aloud_sound h hdst hc (hs.1 rfl) hG
    · cases hg
      exact Goes.skip h hdst hG (hs.2 rfl)

theorem eqC_isnil {t : TypeId} {ne ne' : Bool} {x y c : Opd} (h : eqC P t ne x y = some (.isnil ne' c)) : (∃ e, P.underlying t = some (.slice e)) ∧ ne' = ne ∧ c = x ∧ y = .k .nil0 := by
  unfold eqC at h
  split at h
  · simp at h
  · simp at h
  · simp at h
  · split at h <;> simp at h
  · rename_i e he
    split at h <;> simp at h
    obtain ⟨rfl, rfl⟩ := h
    exact ⟨⟨e, he⟩, rfl, rfl, rfl⟩
  · split at h <;> simp at h
  · cases h
theorem cop_isnil {o : Op} {ne : Bool} {x : Opd} (hc : cop P o = some (.isnil ne x)) : ∃ t X Y t' e, o = .binOp (if ne then .neq else .eql) t X Y t' ∧ P.underlying t = some (.slice e) ∧ opdC X = some x ∧ opdC Y = some (.k .nil0) := by
  cases o with
  | binOp op t X Y t' =>
    simp only [cop] at hc
    split at hc
    case h_2 => cases hc
    rename_i x' y' hX hY
    cases op <;> simp only [Option.some.injEq, reduceCtorEq] at hc
    · obtain ⟨⟨e, he⟩, rfl, rfl, rfl⟩ := eqC_isnil hc
      exact ⟨t, X, Y, t', e, rfl, he, hX, hY⟩
    · obtain ⟨⟨e, he⟩, rfl, rfl, rfl⟩ := eqC_isnil hc
      exact ⟨t, X, Y, t', e, rfl, he, hX, hY⟩
  | makeFunc fn l cs =>
    simp only [cop] at hc
    cases fn <;> simp only [reduceCtorEq] at hc
    split at hc <;> simp at hc
  | unOp op t x =>
    simp only [cop] at hc
    cases op <;> simp at hc
  | call c =>
    simp only [cop] at hc
    split at hc
    · split at hc <;> simp at hc
    · split at hc
      · split at hc
        · simp at hc
        · simp at hc
        · split at hc <;> simp at hc
        · cases hc
      · simp at hc
      · simp at hc
      · split at hc
        · split at hc
          · split at hc
            · split at hc <;> simp at hc
            · cases hc
          · cases hc
        · cases hc
      · cases hc
    · cases hc
  | buildSlice t n qs =>
    simp only [cop] at hc
    split at hc
    · split at hc
      · split at hc <;> simp at hc
      · cases hc
    · cases hc
  | slice t x lo hi mx =>
    simp only [cop] at hc
    split at hc
    · split at hc
      · split at hc <;> simp at hc
      · cases hc
    · cases hc
  | fieldAddr t x i =>
    simp only [cop] at hc
    split at hc
    · split at hc
      · split at hc
        · split at hc <;> simp at hc
        · cases hc
      · cases hc
    · cases hc
  | _ => simp only [cop] at hc; first | (cases hc; done) | (simp at hc; done) | (split at hc <;> first | (simp at hc; done) | (split at hc <;> first | (simp at hc; done) | (split at hc <;> first | (simp at hc; done) | (split at hc <;> simp at hc))))
theorem valD_nil0 {v : Value} (h : valD v = some .nil0) : v = .slice none 0 0 := by
  unfold valD at h
  split at h
  · simp at h
  · unfold cellD at h
    split at h <;> (try split at h) <;> simp at h
    rfl
theorem run_equalIn_slice {t e : TypeId} (ht : P.underlying t = some (.slice e)) (k : Nat) (a' : Option Addr) (n c : Nat) (w : World) : (Op.equalIn (k + 1) t (.slice a' n c) (.slice none 0 0)).run P w = .ok a'.isNone w := by
  cases a' <;> simp [Op.equalIn, run_underlying ht]
theorem run_isnil (ne : Bool) {t t' : TypeId} {e : TypeId} {X Y : Operand} (ho : o.op = .binOp (if ne then .neq else .eql) t X Y t') (ht : P.underlying t = some (.slice e)) {a' : Option Addr} {n c : Nat} (hx : a.eval X = .slice a' n c) (hy : a.eval Y = .slice none 0 0) (w : World) :
    (execOp a.eval o).run P w = .ok (.value (.bool (if ne then !a'.isNone else a'.isNone))) w := by
  have he := run_equalIn_slice (P := P) ht 9999 a' n c w
  unfold execOp; rw [ho]
  cases ne
  · simp [eqGuard, hx, hy, binOp, Op.equal, Op.maxDepth, he]
  · simp [eqGuard, hx, hy, binOp, Op.equal, Op.maxDepth, he]
theorem len_inv {H : List (Nat × Ob)} (hk : Know s Z H w) {d : D} {n : Nat} (hl : lenD H d = some n) {v : Value} (h : VR s Z d v) : ∃ a' m c, v = .slice a' m c ∧ (0 < n → a'.isNone = false) := by
  unfold lenD at hl
  split at hl
  · simp only [Option.some.injEq] at hl; subst hl
    cases h with | nil0 a' => exact ⟨a', 0, 0, rfl, fun h => by omega⟩
  · rename_i xs
    simp only [Option.some.injEq] at hl; subst hl
    obtain ⟨a', cap, h1, _, h3⟩ := h.rows_inv
    refine ⟨a', _, cap, h1, fun hn => ?_⟩
    obtain ⟨b, off, rfl, _⟩ := h3 0 hn
    rfl
  · rename_i id
    obtain ⟨rfl, _⟩ := h
    split at hl <;> simp only [Option.some.injEq, reduceCtorEq] at hl
    · rename_i xs hh
      subst hl
      obtain ⟨a', cap, h1, _, h3⟩ := RowOk.slice (hk.ob _ _ hh)
      exact ⟨a', _, cap, h1, fun hn => by obtain ⟨b, rfl⟩ := h3 hn; rfl⟩
    · rename_i xs hh
      subst hl
      obtain ⟨a', cap, h1, _, h3⟩ := RowOk.slice (hk.ob _ _ hh)
      exact ⟨a', _, cap, h1, fun hn => by obtain ⟨b, rfl⟩ := h3 hn; rfl⟩
  · cases hl
/-- what an operation that changes nothing leaves; g: whether it is carried out -/
theorem quiet_eff (h : Rel B s Z st a w) (hdst : ∀ d, o.dst = some d → d < B.N) {ao : AOp} (hc : cop P o.op = some ao) (hl : isLoud ao = false) {g : Option Bool} (hs : aop P sb B g o.dst ao st K) :
    ((g = none ∨ g = some true) → ∃ u st', K st' ∧ Rel B s Z st' (a.put o.dst u) w ∧ ∀ w', Ok4 w o w' → (execOp a.eval o).run P w' = .ok (.value u) w') ∧ (g = some false → ∃ st', K st' ∧ Rel B s Z st' (a.put o.dst undef) w) := by
  -- a value that is known where the operation is carried out
  have fin : ∀ (d : D) (p : Prop), (p → ∃ u, VR s Z d u ∧ LtR st.nx d ∧ ∀ w', Ok4 w o w' → (execOp a.eval o).run P w' = .ok (.value u) w') → afin g o.dst p d st K →
      ((g = none ∨ g = some true) → ∃ u st', K st' ∧ Rel B s Z st' (a.put o.dst u) w ∧ ∀ w', Ok4 w o w' → (execOp a.eval o).run P w' = .ok (.value u) w') ∧ (g = some false → ∃ st', K st' ∧ Rel B s Z st' (a.put o.dst undef) w) := fun d p hd hK => by
    cases g with
    | none =>
      obtain ⟨hp, hK⟩ := hK
      refine ⟨fun _ => ?_, (fun h => by cases h)⟩
      obtain ⟨u, hu, hlt, hr⟩ := hd hp
      exact ⟨u, _, hK, h.put hdst (VS.of_vr hu) (LtS.of_r hlt hu.no_opt), hr⟩
    | some c =>
      obtain ⟨hp, hK⟩ := hK
      refine ⟨fun hg => ?_, fun hg => ?_⟩
      · obtain rfl : c = true := by rcases hg with hg | hg <;> cases hg; rfl
        obtain ⟨u, hu, hlt, hr⟩ := hd (hp rfl)
        exact ⟨u, _, hK, h.put hdst ⟨fun _ => hu, (fun h => by cases h)⟩ (fun _ => hlt), hr⟩
      · cases hg
        exact ⟨_, hK, h.put hdst ⟨(fun h => by cases h), fun _ => rfl⟩ (fun h => by cases h)⟩
  have fin0 : afin0 g o.dst st K → ((g = none ∨ g = some true) → ∃ u st', K st' ∧ Rel B s Z st' (a.put o.dst u) w ∧ ∀ w', Ok4 w o w' → (execOp a.eval o).run P w' = .ok (.value u) w') ∧ (g = some false → ∃ st', K st' ∧ Rel B s Z st' (a.put o.dst undef) w) := fun hK => by
    cases g with
    | none => exact hK.elim
    | some c =>
      obtain ⟨rfl, hK⟩ := hK
      exact ⟨(fun h => by rcases h with h | h <;> cases h), fun _ => ⟨_, hK, h.put hdst ⟨(fun h => by cases h), fun _ => rfl⟩ (fun h => by cases h)⟩⟩
  unfold aop at hs
  rw [if_neg (by rw [hl]; simp)] at hs
  by_cases hpk : ∃ c x y, ao = .pick c x y
  · obtain ⟨c, x, y, rfl⟩ := hpk
    simp only at hs
    cases ho : o.op with
    | pick C X Y =>
      rw [ho] at hc
      simp only [cop] at hc
      split at hc <;> simp at hc
      rename_i c' x' y' hC hX hY
      obtain ⟨h1, h2, h3⟩ := hc
      rw [h1] at hC; rw [h2] at hX; rw [h3] at hY
      split at hs
      case h_2 => exact fin0 hs
      rename_i b hb
      split at hs
      case h_2 => exact fin0 hs
      rename_i p d hd
      refine fin d _ (fun ⟨⟨h1, h2, h3⟩, hp⟩ => ?_) hs
      have hcv := h.vr hC h1
      rw [hb] at hcv
      obtain ⟨u, hu, hlt, hr⟩ := does_pick (P := P) (s := s) (Z := Z) ho hcv.bool_inv hd hp (fun e => h.vr hX (h2 e)) (fun e => h.vr hY (h3 e))
      exact ⟨u, hu, hlt.mono (Nat.zero_le _), fun w' _ => hr w'⟩
    | _ => exact (cop_no_pick (fun C X Y e => by rw [ho] at e; cases e) hc).elim
  by_cases hpn : ∃ ne x, ao = .isnil ne x
  · obtain ⟨ne, x, rfl⟩ := hpn
    simp only at hs
    split at hs
    case h_2 => exact fin0 hs
    rename_i n hn
    obtain ⟨t, X, Y, t', e, ho, ht, hX, hY⟩ := cop_isnil hc
    have hy : a.eval Y = .slice none 0 0 := by
      cases Y with
      | tmp k => simp [opdC] at hY
      | func f => simp [opdC] at hY
      | global g => simp [opdC] at hY
      | const v =>
        simp only [opdC, Option.map_eq_some_iff, Opd.k.injEq] at hY
        obtain ⟨d, hd, rfl⟩ := hY
        exact valD_nil0 hd
    by_cases hg : gS st.env x = true
    · obtain ⟨a', m, c, hx, hne⟩ := len_inv (s := s) (Z := Z) h.h.know hn (h.vr hX hg)
      refine fin _ _ (fun _ => ?_) (hs (if ne then !a'.isNone else a'.isNone) (fun h0 => by rw [hne h0]; cases ne <;> rfl))
      exact ⟨_, VR.bool_mk _, trivial, fun w' _ => run_isnil ne ho ht hx hy w'⟩
    · exact fin _ _ (fun h => absurd h hg) (hs ne (fun _ => rfl))
  · have hs : match qv (evS st.env) st.heap ao with
        | some (p, d) => afin g o.dst (oks st.env ao = true ∧ p) d st K
        | none => afin0 g o.dst st K := by
      cases ao <;> first | exact absurd ⟨_, _, _, rfl⟩ hpk | exact absurd ⟨_, _, rfl⟩ hpn | exact hs | cases hl
    split at hs
    case h_2 => exact fin0 hs
    rename_i p d hq
    refine fin d _ (fun ⟨h1, h2⟩ => ?_) hs
    obtain ⟨u, hu, hlt, hr⟩ := quiet_val (P := P) h hc hq h1 h2
    exact ⟨u, hu, hlt, hr⟩
theorem quiet_case (h : Rel B s Z st a w) (hdst : ∀ d, o.dst = some d → d < B.N) {ao : AOp} (hc : cop P o.op = some ao) (hl : isLoud ao = false) {g : Option Bool} (hs : aop P sb B g o.dst ao st K) (hG : Goes sb B w K K') :
    ((g = none ∨ g = some true) → o.wp P a w K' Q) ∧ (g = some false → K' (a.put o.dst undef) w) := by
  obtain ⟨h1, h2⟩ := quiet_eff h hdst hc hl hs
  refine ⟨fun hg => ?_, fun hg => ?_⟩
  · obtain ⟨u, st', hK, hr, hrun⟩ := h1 hg
    exact wp_value (hrun w (.inl (More.refl w))) (hG _ _ _ _ _ (fun _ => Below.refl _ _) hK hr)
  · obtain ⟨st', hK, hr⟩ := h2 hg
    exact hG _ _ _ _ _ (fun _ => Below.refl _ _) hK hr

/-- what a guard says of the operation -/
theorem astep_cases {ops : Array Oper} (h : Rel B s Z st a w) {ao : AO} (hao : coper P B.N ops o = some ao) (hs : astep P sb B ao st K) :
    (∀ d, o.dst = some d → d < B.N) ∧ ∃ op, copX P o.op = some op ∧ ∃ g, aop P sb B g o.dst op st K ∧ ((Region.wanted o (yielded ops a.tmps) = true ∧ (g = none ∨ g = some true)) ∨ (Region.wanted o (yielded ops a.tmps) = false ∧ g = some false)) := by
  unfold coper at hao
  split at hao
  case isFalse => cases hao
  rename_i hd
  split at hao
  case h_2 => cases hao
  rename_i op hop
  refine ⟨fun d hdd => by rw [hdd] at hd; simpa [dstOk] using hd, op, hop, ?_⟩
  split at hao
  · rename_i hgd
    simp only [Option.some.injEq] at hao
    subst hao
    simp only [astep] at hs
    exact ⟨none, hs, .inl ⟨by simp only [Region.wanted, hgd], .inl rfl⟩⟩
  · rename_i j want hgd
    split at hao
    case h_2 => cases hao
    rename_i t ht
    simp only [Option.some.injEq] at hao
    subst hao
    have hslot : ∀ d, d ≠ undef → a.tmps.getD t undef = d → a.tmps[t]? = some d := fun d hne hd => by
      rw [Array.getD_eq_getD_getElem?] at hd
      cases hq : a.tmps[t]? with
      | none => rw [hq] at hd; exact absurd hd.symm hne
      | some v => rw [hq] at hd; simp only [Option.getD_some] at hd; rw [hd]
    have hw : ∀ c, a.tmps.getD t undef = .bool c → Region.wanted o (yielded ops a.tmps) = (if want then c else !c) := fun c hc => by
      have := hslot (.bool c) (by intro e; cases e) hc
      simp only [Region.wanted, hgd, yielded, ht, Option.bind_some, this]
      cases c <;> cases want <;> rfl
    have hwF : a.tmps.getD t undef = undef → Region.wanted o (yielded ops a.tmps) = false := fun hc => by
      simp only [Region.wanted, hgd, yielded, ht, Option.bind_some]
      rw [Array.getD_eq_getD_getElem?] at hc
      cases hq : a.tmps[t]? with
      | none => rfl
      | some v => rw [hq] at hc; simp only [Option.getD_some] at hc; rw [hc]; rfl
    simp only [astep] at hs
    have he := h.env t
    split at hs
    · rename_i c hc
      rw [hc] at he
      have hb : a.tmps.getD t undef = .bool c := VR.bool_inv (s := s) (Z := Z) he
      refine ⟨_, hs, ?_⟩
      rw [hw c hb]
      generalize (if want then c else !c) = g at *
      cases g with
      | true => exact .inl ⟨rfl, .inr rfl⟩
      | false => exact .inr ⟨rfl, rfl⟩
    · rename_i g c hc
      rw [hc] at he
      refine ⟨_, hs, ?_⟩
      cases g with
      | false =>
        rw [hwF (he.2 rfl)]
        exact .inr ⟨rfl, by simp⟩
      | true =>
        have hb : a.tmps.getD t undef = .bool c := VR.bool_inv (s := s) (Z := Z) (he.1 rfl)
        rw [hw c hb]
        simp only [Bool.true_and]
        generalize (if want then c else !c) = g at *
        cases g with
        | true => exact .inl ⟨rfl, .inr rfl⟩
        | false => exact .inr ⟨rfl, rfl⟩
    · rename_i g d _ hc
      rw [hc] at he
      obtain ⟨rfl, hs⟩ := hs
      refine ⟨_, hs, ?_⟩
      rw [hwF (he.2 rfl)]
      exact .inr ⟨rfl, rfl⟩
    · exact hs.elim
theorem xcop_loud {o : Op} {ao : AOp} (h : xcop P o = some ao) : isLoud ao = true ∧ ∃ k ns xs, ao = .xop k ns xs := by
  have key : (∃ k ns xs, ao = .xop k ns xs) := by
    unfold xcop at h
    split at h
    all_goals repeat' (first | cases h; done | split at h)
    all_goals first
      | (simp only [Option.map_eq_some_iff] at h; obtain ⟨_, _, rfl⟩ := h; exact ⟨_, _, _, rfl⟩)
      | (simp only [Option.some.injEq] at h; subst h; exact ⟨_, _, _, rfl⟩)
      | cases h
  obtain ⟨k, ns, xs, rfl⟩ := key
  exact ⟨rfl, k, ns, xs, rfl⟩
theorem copX_quiet {o : Op} {ao : AOp} (h : copX P o = some ao) (hl : isLoud ao = false) : cop P o = some ao := by
  unfold copX at h
  split at h
  · rename_i x hx
    simp only [Option.some.injEq] at h
    subst h
    rw [(xcop_loud hx).1] at hl; cases hl
  · exact h
theorem xop_case (hdst : ∀ d, o.dst = some d → d < B.N) (h : Rel B s Z st a w) {ao : AOp} (hx : xcop P o.op = some ao) {g : Option Bool} (hs : aop P sb B g o.dst ao st K) (hG : Goes sb B w K K') :
    ((g = none ∨ g = some true) → o.wp P a w K' Q) ∧ (g = some false → K' (a.put o.dst undef) w) := by
  obtain ⟨hl, k, ns, xs, rfl⟩ := xcop_loud hx
  unfold aop at hs
  rw [if_pos hl] at hs
  cases g with
  | none => exact ⟨fun _ => hs o s Z a w K' Q hx rfl hdst h hG, (fun h => by cases h)⟩
  | some c =>
    refine ⟨fun hg => ?_, fun hg => ?_⟩
    · rcases hg with hg | hg
      · cases hg
      · cases hg; exact (hs.1 rfl) o s Z a w K' Q hx rfl hdst h hG
    · cases hg
      exact Goes.skip h hdst hG (hs.2 rfl)
/-- one operation, carried out here and now -/
theorem astep_sound {ops : Array Oper} (h : Rel B s Z st a w) {ao : AO} (hao : coper P B.N ops o = some ao) (hs : astep P sb B ao st K) (hG : Goes sb B w K K') :
    (Region.wanted o (yielded ops a.tmps) = true → o.wp P a w K' Q) ∧ (Region.wanted o (yielded ops a.tmps) = false → K' (a.put o.dst undef) w) := by
  obtain ⟨hdst, op, hop, g, hg, hcase⟩ := astep_cases h hao hs
  have key : ((g = none ∨ g = some true) → o.wp P a w K' Q) ∧ (g = some false → K' (a.put o.dst undef) w) := by
    cases hx : xcop P o.op with
    | some x =>
      have hop' := hop
      unfold copX at hop'
      rw [hx] at hop'
      simp only [Option.some.injEq] at hop'
      subst hop'
      exact xop_case hdst h hx hg hG
    | none =>
      have hop : cop P o.op = some op := by unfold copX at hop; rw [hx] at hop; exact hop
      cases hl : isLoud op with
      | true => exact loud_case h hdst hop hl hg hG
      | false => exact quiet_case h hdst hop hl hg hG
  rcases hcase with ⟨h1, h2⟩ | ⟨h1, h2⟩
  · exact ⟨fun _ => key.1 h2, fun h => by rw [h1] at h; cases h⟩
  · exact ⟨(fun h => by rw [h1] at h; cases h), fun _ => key.2 h2⟩

/-- operations in the order of the text -/
theorem aops_sound {ops : Array Oper} : ∀ (os : List Oper) (aos : List AO) (st : St) (s : Nat → Value) (Z : Cells) (a : Act) (w : World), copers P B.N ops os = some aos → Rel B s Z st a w → aops P B aos st K →
    (∀ st' s' Z' a' w', K st' → Rel B s' Z' st' a' w' → Q .normal a' w') → wpList P ops Q os a w
  | [], aos, st, s, Z, a, w, hc, h, hs, hG => by
    simp only [copers, Option.some.injEq] at hc
    subst hc
    exact hG st s Z a w hs h
  | o :: os, aos, st, s, Z, a, w, hc, h, hs, hG => by
    simp only [copers] at hc
    split at hc <;> simp only [Option.some.injEq, reduceCtorEq] at hc
    rename_i ao r hao hr
    subst hc
    simp only [aops] at hs
    refine wpList_step fun K' hK' => ?_
    have hG' : Goes false B w (fun st' => aops P B r st' K) K' := fun st' s' Z' a' w' _ h1 h2 => hK' a' w' (aops_sound os r st' s' Z' a' w' hr h2 h1 hG)
    obtain ⟨k1, k2⟩ := astep_sound (Q := Q) h hao hs hG'
    cases hw : Region.wanted o (yielded ops a.tmps) with
    | true => simp only [if_true]; exact k1 hw
    | false => simp only [Bool.false_eq_true, if_false]; exact k2 hw
end
end Go.Proofs.Ytajimebannjofaa

set_option linter.unusedSimpArgs false
set_option linter.unusedVariables false
namespace Go.Proofs.Ytajimebannjofaa
open Go.RowKit

section
variable {P : Program} {sb : Bool} {B : Base} {w w' : World} {s s' : Nat → Value} {Z Z' : Cells} {st : St} {a : Act} {o : Oper} {K : St → Prop} {K' : Act → World → Prop} {Q : Exit → Act → World → Prop}

theorem eqC_no_call {t : TypeId} {ne : Bool} {x y : Opd} {ao : AOp} (h : eqC P t ne x y = some ao) : isLoud ao = false := eqC_quiet h
theorem cop_call {o : Op} {f : FuncId} {as_ : List Opd} (hc : cop P o = some (.call f as_)) : ∃ c, o = .call c ∧ c.callee = .value (.func f) ∧ opdsC c.args.toList = some as_ := by
  by_cases hl : opLoud o
  · cases o with
    | call c =>
      refine ⟨c, rfl, ?_⟩
      simp only [cop] at hc
      split at hc
      · rename_i g hg
        split at hc <;> simp at hc
        rename_i f' ys hys
        obtain ⟨rfl, rfl⟩ := hc
        exact ⟨hg, hys⟩
      · rename_i b hb
        split at hc
        · split at hc <;> (try split at hc) <;> simp at hc
        · simp at hc
        · simp at hc
        · split at hc
          · split at hc
            · split at hc
              · split at hc <;> simp at hc
              · cases hc
            · cases hc
          · cases hc
        · cases hc
      · cases hc
    | alloc t => simp [cop] at hc
    | box t x => simp [cop] at hc
    | store t x y => simp only [cop] at hc; split at hc <;> simp at hc
    | buildSlice t n qs =>
      simp only [cop] at hc
      split at hc
      · split at hc
        · split at hc <;> simp at hc
        · cases hc
      · cases hc
    | makeSlice t l c =>
      simp only [cop] at hc
      split at hc
      · split at hc
        · split at hc <;> simp at hc
        · cases hc
      · cases hc
    | _ => exact hl.elim
  · have := cop_quiet hl hc
    cases this
theorem cop_callv {o : Op} {x : Opd} {as_ : List Opd} (hc : cop P o = some (.callv x as_)) : ∃ c t, o = .call c ∧ x = .t t ∧ c.callee = .value (.tmp t) ∧ opdsC c.args.toList = some as_ := by
  by_cases hl : opLoud o
  · cases o with
    | call c =>
      simp only [cop] at hc
      split at hc
      · rename_i g hg
        split at hc <;> simp at hc
        rename_i t ys hys
        obtain ⟨rfl, rfl⟩ := hc
        exact ⟨c, t, rfl, rfl, hg, hys⟩
      · rename_i b hb
        split at hc
        · split at hc <;> (try split at hc) <;> simp at hc
        · simp at hc
        · simp at hc
        · split at hc
          · split at hc
            · split at hc
              · split at hc <;> simp at hc
              · cases hc
            · cases hc
          · cases hc
        · cases hc
      · cases hc
    | alloc t => simp [cop] at hc
    | box t x => simp [cop] at hc
    | store t x y => simp only [cop] at hc; split at hc <;> simp at hc
    | buildSlice t n qs =>
      simp only [cop] at hc
      split at hc
      · split at hc
        · split at hc <;> simp at hc
        · cases hc
      · cases hc
    | makeSlice t l c =>
      simp only [cop] at hc
      split at hc
      · split at hc
        · split at hc <;> simp at hc
        · cases hc
      · cases hc
    | _ => exact hl.elim
  · have := cop_quiet hl hc
    cases this

theorem WCall.of {f : FuncId} {as_ : List Opd} {dst : Option Nat} (hok : oks st.env (.call f as_) = true) (hc : CallOk P sb B f (as_.map (evS st.env)) dst st K) : WCall P sb B (.call f as_) dst st K := by
  intro o s Z a w K' Q hcop hd hdst h hG
  obtain ⟨hcal, hc⟩ := hc
  obtain ⟨⟨cal, ars, ats⟩, ho, hcl, hys⟩ := cop_call hcop
  obtain ⟨ars⟩ := ars
  simp only at hcl hys
  subst hcl
  obtain ⟨g1, g2⟩ := args_sound h hys (fun y hy => oks_mem hok hy)
  have hcalls := hc s Z w (ars.map a.eval).toArray h.h (by simp [g1]) (fun j x hx => by simpa [Array.getD_eq_getD_getElem?] using g2 j x hx)
  refine wp_enter (f := f) (vs := (ars.map a.eval).toArray) ?_ (hcalls.mono fun e w' ⟨v, he, hbl, hL⟩ => ⟨v, he, goes_call h (by rw [hd]; exact hdst) hbl (by rw [hd]; exact hL) hG⟩)
  unfold execOp; rw [ho]
  have := callFunc_run (P := P) (w := w) hcal (ars.map a.eval).toArray
  simpa [resolve, invoke, Act.eval, Deferred.ofValue] using this
theorem WCall.ofv {x : Opd} {f : FuncId} {as_ : List Opd} {cs : List D} {dst : Option Nat} (hok : oks st.env (.callv x as_) = true) (hf : evS st.env x = .fn f cs) (hc : CallOk P sb B f (as_.map (evS st.env) ++ cs) dst st K) : WCall P sb B (.callv x as_) dst st K := by
  intro o s Z a w K' Q hcop hd hdst h hG
  obtain ⟨hcal, hc⟩ := hc
  obtain ⟨⟨cal, ars, ats⟩, t, ho, rfl, hcl, hys⟩ := cop_callv hcop
  obtain ⟨ars⟩ := ars
  simp only at hcl hys
  subst hcl
  obtain ⟨g1, g2⟩ := args_sound h hys (fun y hy => oks_mem hok (List.mem_cons_of_mem _ hy))
  have hvf := h.vr (x := .tmp t) (y := .t t) rfl (oks_mem hok (by simp [opnds]))
  rw [hf] at hvf
  generalize hav : a.eval (.tmp t) = fv at hvf
  cases hvf with
  | fn _ _ us hul huc =>
  have hcalls := hc s Z w ((ars.map a.eval).toArray ++ us) h.h (by simp [g1, hul]) (fun j x hx => by
    rw [Array.getD_eq_getD_getElem?]
    by_cases hj : j < as_.length
    · rw [List.getElem?_append_left (by simpa using hj)] at hx
      rw [Array.getElem?_append_left (by simp; omega)]
      simpa using g2 j x hx
    · rw [List.getElem?_append_right (by simpa using hj)] at hx
      rw [Array.getElem?_append_right (by simp; omega)]
      have := huc _ x hx
      rw [Array.getD_eq_getD_getElem?] at this
      simp only [List.length_map, List.size_toArray] at this ⊢
      rw [← g1]
      exact VR.of_vc (VC.of_vt this))
  refine wp_enter (f := f) (vs := (ars.map a.eval).toArray ++ us) ?_ (hcalls.mono fun e w' ⟨v, he, hbl, hL⟩ => ⟨v, he, goes_call h (by rw [hd]; exact hdst) hbl (by rw [hd]; exact hL) hG⟩)
  unfold execOp; rw [ho]
  have := callFunc_run (P := P) (w := w) hcal ((ars.map a.eval).toArray ++ us)
  simpa [resolve, invoke, hav, Deferred.ofValue] using this

/-! ### Calls over data -/
theorem brwV_vv {H : List (Nat × Ob)} {x y : D} (hb : brwV H x = some y) {v : Value} (h : VR s Z x v) : VV s Z x v := by
  cases x <;> simp only [brwV, brwC, reduceCtorEq] at hb <;> exact h
theorem CallOk.pf {f : FuncId} {ds es : List D} {d : D} {dst : Option Nat} (hpf : PF P f es d) (hes : match omap (brwV st.heap) ds with | some e => leVL e es | none => False) (hno : (ds.all noV || flatR d) = true) (hK : K ⟨putO st.env dst d, st.heap, st.nx⟩) : CallOk P sb B f ds dst st K := by
  obtain ⟨hcal, hpf⟩ := hpf
  refine ⟨hcal, fun s Z w vs h hl hv0 => ?_⟩
  split at hes
  case h_2 => exact hes.elim
  rename_i es' hes'
  obtain ⟨g1, g2⟩ := omap_some hes'
  obtain ⟨l1, l2⟩ := leVL_get hes
  have hv : ∀ j x, ds[j]? = some x → VV s Z x (vs.getD j undef) := fun j x hx => by
    have hlt : j < es'.length := by rw [g1]; exact (List.getElem?_eq_some_iff.1 hx).1
    obtain ⟨y, hy, hb⟩ := g2 j _ (List.getElem?_eq_getElem hlt)
    rw [hx] at hy
    cases hy
    exact brwV_vv hb (hv0 j x hx)
  by_cases hall : ds.all noV = true
  · have hee : es' = ds := List.ext_getElem? fun j => by
      cases hj : es'[j]? with
      | none => rw [List.getElem?_eq_none_iff] at hj; rw [List.getElem?_eq_none (by omega)]
      | some x =>
        obtain ⟨y, hy, hb⟩ := g2 j x hj
        rw [hy, brwV_no hb (List.all_eq_true.1 hall y (List.mem_of_getElem? hy))]
    subst hee
    refine (hpf Z w vs h.zok (by omega) fun j x hx => by
      obtain ⟨y, hy, hle⟩ := l2 j x hx
      exact leV_sound hle ((hv j y hy).no (List.all_eq_true.1 hall y (List.mem_of_getElem? hy)))).mono fun e w' ⟨v, Z', he, hr, hzx, hb⟩ => ⟨v, he, fun _ => hb, d, st.heap, st.nx, s, Z', hr.of0.1, hr.lt0.mono (Nat.zero_le _), h.call hb hzx, Nat.le_refl _, fun _ _ => rfl, hzx.old, hK⟩
  · have hf : flatR d = true := by simpa [hall] using hno
    refine (hpf (allZ w) w vs (fun b o v h => h) (by omega) fun j x hx => ?_).mono fun e w' ⟨v, Z', he, hr, hzx, hb⟩ => ⟨v, he, fun _ => hb, d, st.heap, st.nx, s, Z, hr.flat hf, hr.lt0.mono (Nat.zero_le _), h.call hb (Zx.refl h.zok hb), Nat.le_refl _, fun _ _ => rfl, fun _ _ _ h => h, hK⟩
    obtain ⟨x', hx', hle⟩ := l2 j x hx
    obtain ⟨y, hy, hb⟩ := g2 j x' hx'
    exact leV_sound hle (brwV_sound h.know (fun b o v hz => h.zok b o v hz) (fun _ _ _ _ _ o v hc => hc) hb (hv j y hy))
theorem CallOk.pfn {f : FuncId} {ds es : List D} {d : D} {dst : Option Nat} (hpf : PFn P f es d) (hes : match omap (brwV st.heap) ds with | some e => leVL e es | none => False) (hK : K ⟨putO st.env dst d, st.heap, st.nx⟩) : CallOk P sb B f ds dst st K := by
  obtain ⟨hcal, hpf⟩ := hpf
  refine ⟨hcal, fun s Z w vs h hl hv0 => ?_⟩
  split at hes
  case h_2 => exact hes.elim
  rename_i es' hes'
  obtain ⟨g1, g2⟩ := omap_some hes'
  obtain ⟨l1, l2⟩ := leVL_get hes
  have hv : ∀ j x, ds[j]? = some x → VV s Z x (vs.getD j undef) := fun j x hx => by
    have hlt : j < es'.length := by rw [g1]; exact (List.getElem?_eq_some_iff.1 hx).1
    obtain ⟨y, hy, hb⟩ := g2 j _ (List.getElem?_eq_getElem hlt)
    rw [hx] at hy
    cases hy
    exact brwV_vv hb (hv0 j x hx)
  refine (hpf (allZ w) w vs (fun b o v h => h) (by omega) fun j x hx => ?_).mono ?_
  · obtain ⟨x', hx', hle⟩ := l2 j x hx
    obtain ⟨y, hy, hb⟩ := g2 j x' hx'
    exact leV_sound hle (brwV_sound h.know (fun b o v hz => h.zok b o v hz) (fun _ _ _ _ _ o v hc => hc) hb (hv j y hy))
  rintro e w' ⟨v, Zn, he, hr, hn, hb⟩
  have hZ : ∀ b o u, Z b o = some u → b < w.heap.size := fun b o u hu => World.block_lt_of_cell? w _ (h.zok b o u hu)
  have hzx : Zx Z (fun b o => match Z b o with | some u => some u | none => Zn b o) w w' := by
    refine ⟨fun b o u hu => by simp only [hu], fun b o u hu => ?_, fun b o u hu => ?_⟩
    · cases hq : Z b o with
      | none => simp only [hq] at hu; exact .inr (hn b o u hu).1
      | some u' => simp only [hq] at hu; exact .inl (by rw [← hu])
    · cases hq : Z b o with
      | none => simp only [hq] at hu; exact (hn b o u hu).2
      | some u' =>
        simp only [hq, Option.some.injEq] at hu
        subst hu
        have := h.zok b o u' hq
        rw [hb.cell (p := ⟨b, o, none⟩) (World.block_lt_of_cell? w _ this)]; exact this
  refine ⟨v, he, fun _ => hb, d, st.heap, st.nx, s, _, ?_, hr.lt0.mono (Nat.zero_le _), h.call hb hzx, Nat.le_refl _, fun _ _ => rfl, hzx.old, hK⟩
  refine VR.mono (n := 0) (fun b o u hu => ?_) (fun _ h => by omega) hr.lt0 (hr.of0 (s := s)).1
  cases hq : Z b o with
  | none => simp only [hu]
  | some u' => have := hZ b o u' hq; have := (hn b o u hu).1; omega
end
end Go.Proofs.Ytajimebannjofaa

set_option linter.unusedSimpArgs false
set_option linter.unusedVariables false
namespace Go.Proofs.Ytajimebannjofaa
open Go.RowKit

/-! ### Other numbers -/
def rnC (ρ : Nat → Nat) : D → D
  | .own id => .own (ρ id)
  | .ptr id j => .ptr (ρ id) j
  | .pel id i sz j => .pel (ρ id) i sz j
  | .sl id sz off len cap => .sl (ρ id) sz off len cap
  | .clo f ids => .clo f (ids.map ρ)
  | d => d
def rnV (ρ : Nat → Nat) : D → D
  | .agg ds => .agg (ds.map (rnC ρ))
  | d => rnC ρ d
def rnR (ρ : Nat → Nat) : D → D
  | .tup ds => .tup (ds.map (rnV ρ))
  | d => rnV ρ d
def rnO (ρ : Nat → Nat) : Ob → Ob
  | .cells ds => .cells (ds.map (rnC ρ))
  | .row sz xs => .row sz xs
  | .rowd sz xs => .rowd sz (xs.map (·.map (rnC ρ)))
  | .blk sz xs => .blk sz (xs.map (·.map (rnC ρ)))
  | .mp bare es ck => .mp bare es ck
  | .it m since seen last => .it (ρ m) since seen last
section
variable {s s' : Nat → Value} {Z : Cells} {w : World} {ρ : Nat → Nat} {n m : Nat}
theorem VC.rn (hs : ∀ id, id < n → s' (ρ id) = s id) {d : D} {v : Value} (hl : LtC n d) : VC s' Z (rnC ρ d) v ↔ VC s Z d v := by
  cases d with
  | own id => simp only [rnC, VC, hs id hl]
  | ptr id j => simp only [rnC, VC, hs id hl]
  | pel id i sz j => simp only [rnC, VC, hs id hl]
  | sl id sz off len cap => simp only [rnC, VC, hs id hl]
  | clo f ids =>
    constructor
    · rintro ⟨vs, h1, h2, h3⟩
      refine ⟨vs, h1, by simpa using h2, fun j id hj => ?_⟩
      obtain ⟨b, g1, g2⟩ := h3 j (ρ id) (by rw [List.getElem?_map, hj]; rfl)
      exact ⟨b, by rw [← hs id (hl id (List.mem_of_getElem? hj))]; exact g1, g2⟩
    · rintro ⟨vs, h1, h2, h3⟩
      refine ⟨vs, h1, by simpa using h2, fun j id hj => ?_⟩
      rw [List.getElem?_map] at hj
      cases hi : ids[j]? with
      | none => rw [hi] at hj; cases hj
      | some i =>
        rw [hi] at hj
        simp only [Option.map_some, Option.some.injEq] at hj
        subst hj
        obtain ⟨b, g1, g2⟩ := h3 j i hi
        exact ⟨b, by rw [hs i (hl i (List.mem_of_getElem? hi))]; exact g1, g2⟩
  | _ => exact Iff.rfl
theorem map_get_dummy : True := trivial
theorem map_get {α β : Type} (f : α → β) (l : List α) (j : Nat) (y : β) : (l.map f)[j]? = some y ↔ ∃ x, l[j]? = some x ∧ f x = y := by
  rw [List.getElem?_map]; cases l[j]? <;> simp
theorem VV.rn (hs : ∀ id, id < n → s' (ρ id) = s id) {d : D} {v : Value} (hl : LtV n d) : VV s' Z (rnV ρ d) v ↔ VV s Z d v := by
  cases d with
  | agg ds =>
    constructor
    · rintro ⟨vs, rfl, h1, h2⟩
      refine ⟨vs, rfl, by simpa using h1, fun j x hx => ?_⟩
      exact (VC.rn hs (hl x (List.mem_of_getElem? hx))).1 (h2 j _ ((map_get _ _ _ _).2 ⟨x, hx, rfl⟩))
    · rintro ⟨vs, rfl, h1, h2⟩
      refine ⟨vs, rfl, by simpa using h1, fun j y hy => ?_⟩
      obtain ⟨x, hx, rfl⟩ := (map_get _ _ _ _).1 hy
      exact (VC.rn hs (hl x (List.mem_of_getElem? hx))).2 (h2 j x hx)
  | own id => exact VC.rn (Z := Z) (d := .own id) hs hl
  | ptr id j => exact VC.rn (Z := Z) (d := .ptr id j) hs hl
  | pel id i sz j => exact VC.rn (Z := Z) (d := .pel id i sz j) hs hl
  | sl id sz off len cap => exact VC.rn (Z := Z) (d := .sl id sz off len cap) hs hl
  | clo f ids => exact VC.rn (Z := Z) (d := .clo f ids) hs hl
  | _ => exact Iff.rfl
theorem VR.rn (hs : ∀ id, id < n → s' (ρ id) = s id) {d : D} {v : Value} (hl : LtR n d) : VR s' Z (rnR ρ d) v ↔ VR s Z d v := by
  cases d with
  | tup ds =>
    constructor
    · rintro ⟨vs, rfl, h1, h2⟩
      refine ⟨vs, rfl, by simpa using h1, fun j x hx => ?_⟩
      exact (VV.rn hs (hl x (List.mem_of_getElem? hx))).1 (h2 j _ ((map_get _ _ _ _).2 ⟨x, hx, rfl⟩))
    · rintro ⟨vs, rfl, h1, h2⟩
      refine ⟨vs, rfl, by simpa using h1, fun j y hy => ?_⟩
      obtain ⟨x, hx, rfl⟩ := (map_get _ _ _ _).1 hy
      exact (VV.rn hs (hl x (List.mem_of_getElem? hx))).2 (h2 j x hx)
  | agg ds => exact VV.rn (Z := Z) (d := .agg ds) hs hl
  | own id => exact VC.rn (Z := Z) (d := .own id) hs hl
  | ptr id j => exact VC.rn (Z := Z) (d := .ptr id j) hs hl
  | pel id i sz j => exact VC.rn (Z := Z) (d := .pel id i sz j) hs hl
  | sl id sz off len cap => exact VC.rn (Z := Z) (d := .sl id sz off len cap) hs hl
  | clo f ids => exact VC.rn (Z := Z) (d := .clo f ids) hs hl
  | _ => exact Iff.rfl
theorem LtC.rn (hm : ∀ id, id < n → ρ id < m) {d : D} (hl : LtC n d) : LtC m (rnC ρ d) := by
  cases d with
  | clo f ids =>
    intro id hid
    obtain ⟨i, hi, rfl⟩ := List.mem_map.1 hid
    exact hm i (hl i hi)
  | _ => first | exact hm _ hl | trivial
theorem LtV.rn (hm : ∀ id, id < n → ρ id < m) {d : D} (hl : LtV n d) : LtV m (rnV ρ d) := by
  cases d with
  | agg ds => intro y hy; obtain ⟨x, hx, rfl⟩ := List.mem_map.1 hy; exact LtC.rn hm (hl x hx)
  | own id => exact hm _ hl
  | ptr id j => exact hm _ hl
  | pel id i sz j => exact hm _ hl
  | sl id sz off len cap => exact hm _ hl
  | clo f ids => exact LtC.rn (d := .clo f ids) hm hl
  | _ => trivial
theorem LtR.rn (hm : ∀ id, id < n → ρ id < m) {d : D} (hl : LtR n d) : LtR m (rnR ρ d) := by
  cases d with
  | tup ds => intro y hy; obtain ⟨x, hx, rfl⟩ := List.mem_map.1 hy; exact LtV.rn hm (hl x hx)
  | agg ds => exact LtV.rn (d := .agg ds) hm hl
  | own id => exact hm _ hl
  | ptr id j => exact hm _ hl
  | pel id i sz j => exact hm _ hl
  | sl id sz off len cap => exact hm _ hl
  | clo f ids => exact LtC.rn (d := .clo f ids) hm hl
  | _ => trivial
theorem LtO.rn (hm : ∀ id, id < n → ρ id < m) {ob : Ob} (hl : LtO n ob) : LtO m (rnO ρ ob) := by
  cases ob with
  | cells ds => intro y hy; obtain ⟨x, hx, rfl⟩ := List.mem_map.1 hy; exact LtC.rn hm (hl x hx)
  | row sz xs => trivial
  | mp bare es ck => trivial
  | it m since seen last => exact hm _ hl
  | rowd sz xs =>
    intro r hr y hy
    obtain ⟨r', hr', rfl⟩ := List.mem_map.1 hr
    obtain ⟨x, hx, rfl⟩ := List.mem_map.1 hy
    exact LtC.rn hm (hl r' hr' x hx)
  | blk sz xs =>
    intro r hr y hy
    obtain ⟨r', hr', rfl⟩ := List.mem_map.1 hr
    obtain ⟨x, hx, rfl⟩ := List.mem_map.1 hy
    exact LtC.rn hm (hl r' hr' x hx)
theorem rnC_any {ρ : Nat → Nat} {d : D} : rnC ρ d = .any ↔ d = .any := by
  cases d <;> simp [rnC]
theorem ObOk.rn (hs : ∀ id, id < n → s' (ρ id) = s id) {ob : Ob} {v : Value} (hl : LtO n ob) : ObOk s' Z w (rnO ρ ob) v ↔ ObOk s Z w ob v := by
  cases ob with
  | cells ds =>
    constructor
    · rintro ⟨b, T, cs, rfl, h1, h2, h3⟩
      refine ⟨b, T, cs, rfl, h1, by simpa using h2, fun j x hx => ?_⟩
      exact (VC.rn hs (hl x (List.mem_of_getElem? hx))).1 (h3 j _ ((map_get _ _ _ _).2 ⟨x, hx, rfl⟩))
    · rintro ⟨b, T, cs, rfl, h1, h2, h3⟩
      refine ⟨b, T, cs, rfl, h1, by simpa using h2, fun j y hy => ?_⟩
      obtain ⟨x, hx, rfl⟩ := (map_get _ _ _ _).1 hy
      exact (VC.rn hs (hl x (List.mem_of_getElem? hx))).2 (h3 j x hx)
  | row sz xs => exact Iff.rfl
  | mp bare es ck => exact Iff.rfl
  | it m since seen last => have := hs m hl; simp only [rnO, ObOk, this]
  | rowd sz xs =>
    constructor
    · rintro ⟨h1, h2, h3⟩
      refine ⟨h1, fun row hr => by simpa using h2 _ (List.mem_map.2 ⟨row, hr, rfl⟩), ?_⟩
      rcases h3 with ⟨h3, h4⟩ | ⟨g, cap, cur, e, h3, h4, h5, h6, h7, h8⟩
      · exact .inl ⟨by simpa using h3, h4⟩
      · refine .inr ⟨g, cap, cur, e, by simpa using h3, h4, by simpa using h5, h6, h7, fun i row j d hi hj => ?_⟩
        exact (VC.rn hs (hl row (List.mem_of_getElem? hi) d (List.mem_of_getElem? hj))).1 (h8 i _ j _ ((map_get _ _ _ _).2 ⟨row, hi, rfl⟩) ((map_get _ _ _ _).2 ⟨d, hj, rfl⟩))
    · rintro ⟨h1, h2, h3⟩
      refine ⟨h1, fun row hr => ?_, ?_⟩
      · obtain ⟨r, hr', rfl⟩ := List.mem_map.1 hr
        simpa using h2 r hr'
      · rcases h3 with ⟨h3, h4⟩ | ⟨g, cap, cur, e, h3, h4, h5, h6, h7, h8⟩
        · exact .inl ⟨by simpa using h3, h4⟩
        · refine .inr ⟨g, cap, cur, e, by simpa using h3, h4, by simpa using h5, h6, h7, fun i row j d hi hj => ?_⟩
          obtain ⟨r, hr', rfl⟩ := (map_get _ _ _ _).1 hi
          obtain ⟨x, hx, rfl⟩ := (map_get _ _ _ _).1 hj
          exact (VC.rn hs (hl r (List.mem_of_getElem? hr') x (List.mem_of_getElem? hx))).2 (h8 i r j x hr' hx)
  | blk sz xs =>
    constructor
    · rintro ⟨h1, h2, g, n', cur, e, h3, h4, h5, h6, h7, h8⟩
      refine ⟨h1, fun row hr => by simpa using h2 _ (List.mem_map.2 ⟨row, hr, rfl⟩), g, n', cur, e, by simpa using h3, h4, by simpa using h5, by simpa using h6, by simpa using h7, fun i row j d hi hj hd => ?_⟩
      exact (VC.rn hs (hl row (List.mem_of_getElem? hi) d (List.mem_of_getElem? hj))).1 (h8 i _ j _ ((map_get _ _ _ _).2 ⟨row, hi, rfl⟩) ((map_get _ _ _ _).2 ⟨d, hj, rfl⟩) fun h => hd (rnC_any.1 h))
    · rintro ⟨h1, h2, g, n', cur, e, h3, h4, h5, h6, h7, h8⟩
      refine ⟨h1, fun row hr => ?_, g, n', cur, e, by simpa using h3, h4, by simpa using h5, by simpa using h6, by simpa using h7, fun i row j d hi hj hd => ?_⟩
      · obtain ⟨r, hr', rfl⟩ := List.mem_map.1 hr
        simpa using h2 r hr'
      · obtain ⟨r, hr', rfl⟩ := (map_get _ _ _ _).1 hi
        obtain ⟨x, hx, rfl⟩ := (map_get _ _ _ _).1 hj
        exact (VC.rn hs (hl r (List.mem_of_getElem? hr') x (List.mem_of_getElem? hx))).2 (h8 i r j x hr' hx fun h => hd (by rw [h]; rfl))
end

/-! ### The rule -/
/-- number id of the callee's is this number of the caller's -/
def rho (l : List Nat) (n0 nx id : Nat) : Nat := if id < n0 then l.getD id 0 else nx + (id - n0)
def hputs (ρ : Nat → Nat) : List (Nat × Ob) → List (Nat × Ob) → List (Nat × Ob)
  | [], H => H
  | (id, ob) :: L, H => eput (hputs ρ L H) (ρ id) (rnO ρ ob)
def herases : List Nat → List (Nat × Ob) → List (Nat × Ob)
  | [], H => H
  | k :: ks, H => herases ks (herase H k)
theorem hget_hputs {ρ : Nat → Nat} {H : List (Nat × Ob)} {k : Nat} {ob : Ob} : ∀ {L : List (Nat × Ob)}, hget (hputs ρ L H) k = some ob → (∃ id ob', hget L id = some ob' ∧ k = ρ id ∧ ob = rnO ρ ob') ∨ hget H k = some ob
  | [], h => .inr h
  | (id, o) :: L, h => by
    simp only [hputs, hget_eput] at h
    split at h
    · rename_i hk
      cases h
      exact .inl ⟨id, o, by simp [hget], hk, rfl⟩
    · rename_i hk
      rcases hget_hputs h with ⟨id', o', h1, h2, h3⟩ | h
      · refine .inl ⟨id', o', ?_, h2, h3⟩
        have : id' ≠ id := by rintro rfl; exact hk h2
        simp [hget, this, h1]
      · exact .inr h
theorem hget_herases {k : Nat} {ob : Ob} : ∀ {l : List Nat} {H : List (Nat × Ob)}, hget (herases l H) k = some ob → hget H k = some ob ∧ k ∉ l
  | [], H, h => ⟨h, by simp⟩
  | j :: l, H, h => by
    obtain ⟨h1, h2⟩ := hget_herases (l := l) h
    rw [hget_herase] at h1
    split at h1
    · cases h1
    · rename_i hj; exact ⟨h1, by simp [hj, h2]⟩
theorem hget_mem {id : Nat} {ob : Ob} : ∀ {H : List (Nat × Ob)}, hget H id = some ob → (id, ob) ∈ H
  | [], h => by cases h
  | (k, o) :: H, h => by
    simp only [hget] at h
    split at h
    · rename_i e; cases h; subst e; simp
    · exact List.mem_cons_of_mem _ (hget_mem h)

section
variable {P : Program} {sb : Bool} {B : Base} {st : St} {K : St → Prop}
theorem CallOk.hf {f : FuncId} {ds ds0 : List D} {dst : Option Nat} {H0 : List (Nat × Ob)} {n0 : Nat} {R : D → List (Nat × Ob) → Nat → Prop} (hf : HF P f ds0 H0 n0 R) (hsb : sb = true → H0 = []) (l : List Nat)
    (hl : l.length = n0) (hnd : l.Nodup) (hlt : ∀ k ∈ l, k < st.nx) (hds : ds = ds0.map (rnV (rho l n0 st.nx))) (hao : ds0.all argOk = true) (hdl : ∀ d ∈ ds0, LtV n0 d)
    (hH0 : ∀ p ∈ H0, p.1 < n0 ∧ LtO n0 p.2 ∧ hget st.heap (rho l n0 st.nx p.1) = some (rnO (rho l n0 st.nx) p.2))
    (hK : ∀ d H' nx', n0 ≤ nx' → R d H' nx' → K ⟨putO st.env dst (rnR (rho l n0 st.nx) d), hputs (rho l n0 st.nx) H' (herases l st.heap), st.nx + (nx' - n0)⟩) : CallOk P sb B f ds dst st K := by
  obtain ⟨hcal, hf⟩ := hf
  refine ⟨hcal, fun s Z w vs h hvl hv0 => ?_⟩
  subst hds
  have hlow : ∀ id, id < n0 → rho l n0 st.nx id = l.getD id 0 ∧ rho l n0 st.nx id ∈ l ∧ rho l n0 st.nx id < st.nx := fun id hid => by
    have h1 : rho l n0 st.nx id = l.getD id 0 := by simp [rho, hid]
    have h2 : l.getD id 0 ∈ l := by
      rw [List.getD_eq_getElem?_getD, List.getElem?_eq_getElem (by omega)]
      exact List.getElem_mem _
    exact ⟨h1, by rw [h1]; exact h2, by rw [h1]; exact hlt _ h2⟩
  have hinj0 : ∀ i j, i < n0 → j < n0 → rho l n0 st.nx i = rho l n0 st.nx j → i = j := fun i j hi hj e => by
    rw [(hlow i hi).1, (hlow j hj).1] at e
    rw [List.getD_eq_getElem?_getD, List.getD_eq_getElem?_getD, List.getElem?_eq_getElem (by omega), List.getElem?_eq_getElem (by omega)] at e
    exact (List.getElem_inj hnd).1 e
  generalize hρ : rho l n0 st.nx = ρ at *
  have hhigh : ∀ id, ¬ id < n0 → ρ id = st.nx + (id - n0) := fun id hid => by rw [← hρ]; simp [rho, hid]
  let t0 : Nat → Value := fun id => s (ρ id)
  let F0 : Nat → Prop := fun b => ∃ id ob, hget H0 id = some ob ∧ blk (s (ρ id)) = some b
  have hH : ∀ id ob, hget H0 id = some ob → id < n0 ∧ LtO n0 ob ∧ hget st.heap (ρ id) = some (rnO ρ ob) := fun id ob hh => hH0 _ (hget_mem hh)
  have rel0 : RelH ⟨0, F0, w, n0, t0, Z⟩ t0 Z H0 n0 w := by
    refine ⟨fun id ob hh => ?_, fun id ob hh => ⟨(hH id ob hh).1, (hH id ob hh).2.1⟩, fun id id' ob ob' b hh hh' hne hb => ?_, h.zok, fun id ob b o hh hb => ?_, fun id ob b hh hb => .inr ⟨id, ob, hh, hb⟩, Fr.refl _ _, Nat.le_refl _, fun _ _ => rfl, fun _ _ _ h => h, fun _ _ _ h => .inl h⟩
    · obtain ⟨h1, h2, h3⟩ := hH id ob hh
      exact (ObOk.rn (n := n0) (s := t0) (s' := s) (fun _ _ => rfl) h2).1 (h.ob _ _ h3)
    · obtain ⟨h1, h2, h3⟩ := hH id ob hh
      obtain ⟨g1, g2, g3⟩ := hH id' ob' hh'
      exact h.apart _ _ _ _ b h3 g3 (fun e => hne (hinj0 _ _ h1 g1 e)) hb
    · obtain ⟨h1, h2, h3⟩ := hH id ob hh
      exact h.zap _ _ b o h3 hb
  have hargs : ∀ j x, ds0[j]? = some x → VV t0 Z x (vs.getD j undef) := fun j x hx => by
    have h1 := hv0 j _ ((map_get _ _ _ _).2 ⟨x, hx, rfl⟩)
    have hmem := List.mem_of_getElem? hx
    have ha := List.all_eq_true.1 hao x hmem
    have h2 : VV s Z (rnV ρ x) (vs.getD j undef) := by
      cases x <;> first | exact h1 | cases ha
    exact (VV.rn (n := n0) (s := t0) (s' := s) (fun _ _ => rfl) (hdl x hmem)).1 h2
  refine (hf F0 t0 Z w vs rel0 (by simpa using hvl) hargs).mono ?_
  rintro e w' ⟨v, d, H', nx', s', Z', he, hr, hrl, hR, hpost⟩
  let s1 : Nat → Value := fun k => if k < st.nx then s k else s' (n0 + (k - st.nx))
  have hn0 : n0 ≤ nx' := hR.n0
  have hs1 : ∀ id, id < nx' → s1 (ρ id) = s' id := fun id hid => by
    by_cases h1 : id < n0
    · have h2 := (hlow id h1).2.2
      show (if ρ id < st.nx then s (ρ id) else _) = _
      rw [if_pos h2]
      exact (hR.bs id h1).symm
    · have h2 := hhigh id h1
      show (if ρ id < st.nx then _ else s' (n0 + (ρ id - st.nx))) = _
      rw [if_neg (by omega), h2]
      congr 1; omega
  have hlt1 : ∀ id, id < nx' → ρ id < st.nx + (nx' - n0) := fun id hid => by
    by_cases h1 : id < n0
    · have := (hlow id h1).2.2; omega
    · have := hhigh id h1; omega
  have hold : ∀ id, id < st.nx → s1 id = s id := fun id hid => if_pos hid
  have hcase : ∀ k ob, hget (hputs ρ H' (herases l st.heap)) k = some ob → (∃ id ob', hget H' id = some ob' ∧ k = ρ id ∧ ob = rnO ρ ob') ∨ (hget st.heap k = some ob ∧ k ∉ l) := fun k ob hk => by
    rcases hget_hputs hk with h1 | h1
    · exact .inl h1
    · exact .inr (hget_herases h1)
  have away : ∀ k ob, hget st.heap k = some ob → k ∉ l → ∀ b, blk (s k) = some b → b < w.heap.size ∧ ¬ F0 b := fun k ob hk hkl b hb => by
    refine ⟨(h.ob k ob hk).lt b hb, fun ⟨id, ob', hid, hb'⟩ => ?_⟩
    obtain ⟨h1, h2, h3⟩ := hH id ob' hid
    have h4 : k ≠ ρ id := fun e => hkl (by rw [e]; exact (hlow id h1).2.1)
    exact h.apart _ _ _ _ b hk h3 h4 hb hb'
  have hbel : sb = true → Below w.heap.size w w' := fun hb => by
    have := hsb hb
    subst this
    exact ⟨hR.fr.os, hR.fr.tape, hR.fr.output, hR.fr.size, fun k hk => hR.fr.block k hk (fun ⟨id', o2, h5, _⟩ => by cases h5)⟩
  refine ⟨v, he, hbel, rnR ρ d, hputs ρ H' (herases l st.heap), st.nx + (nx' - n0), s1, Z', (VR.rn hs1 hrl).2 hr, LtR.rn hlt1 hrl, ?_, by omega, hold, hR.bz, hK d H' nx' hn0 hpost⟩
  constructor
  · intro k ob hk
    rcases hcase k ob hk with ⟨id, ob', h1, rfl, rfl⟩ | ⟨h1, h2⟩
    · have h3 := hR.lt id ob' h1
      rw [hs1 id h3.1]
      exact (ObOk.rn hs1 h3.2).2 (hR.ob id ob' h1)
    · have h3 := h.lt k ob h1
      rw [hold k h3.1]
      exact (h.ob k ob h1).mono hR.bz hold h3.2 fun b hb => by
        obtain ⟨g1, g2⟩ := away k ob h1 h2 b hb
        exact hR.fr.block b g1 g2
  · intro k ob hk
    rcases hcase k ob hk with ⟨id, ob', h1, rfl, rfl⟩ | ⟨h1, h2⟩
    · have h3 := hR.lt id ob' h1
      exact ⟨hlt1 id h3.1, LtO.rn hlt1 h3.2⟩
    · have h3 := h.lt k ob h1
      exact ⟨by omega, h3.2.mono (by omega)⟩
  · intro k k' ob ob' b hk hk' hne hb
    rcases hcase k ob hk with ⟨id, o1, h1, rfl, rfl⟩ | ⟨h1, h2⟩
    · have h3 := hR.lt id o1 h1
      rw [hs1 id h3.1] at hb
      rcases hcase k' ob' hk' with ⟨id', o2, g1, rfl, rfl⟩ | ⟨g1, g2⟩
      · have g3 := hR.lt id' o2 g1
        rw [hs1 id' g3.1]
        exact hR.apart id id' o1 o2 b h1 g1 (fun e => hne (by rw [e])) hb
      · rw [hold k' (h.lt k' ob' g1).1]
        intro hb2
        obtain ⟨q1, q2⟩ := away k' ob' g1 g2 b hb2
        rcases hR.mine id o1 b h1 hb with h5 | h5
        · simp only at h5; omega
        · exact q2 h5
    · rw [hold k (h.lt k ob h1).1] at hb
      rcases hcase k' ob' hk' with ⟨id', o2, g1, rfl, rfl⟩ | ⟨g1, g2⟩
      · have g3 := hR.lt id' o2 g1
        rw [hs1 id' g3.1]
        intro hb2
        obtain ⟨q1, q2⟩ := away k ob h1 h2 b hb
        rcases hR.mine id' o2 b g1 hb2 with h5 | h5
        · simp only at h5; omega
        · exact q2 h5
      · rw [hold k' (h.lt k' ob' g1).1]
        exact h.apart k k' ob ob' b h1 g1 hne hb
  · exact hR.zok
  · intro k ob b o hk hb
    rcases hcase k ob hk with ⟨id, o1, h1, rfl, rfl⟩ | ⟨h1, h2⟩
    · rw [hs1 id (hR.lt id o1 h1).1] at hb
      exact hR.zap id o1 b o h1 hb
    · rw [hold k (h.lt k ob h1).1] at hb
      obtain ⟨q1, q2⟩ := away k ob h1 h2 b hb
      cases hq : Z' b o with
      | none => rfl
      | some u =>
        rcases hR.bn b o u hq with h5 | h5 | h5
        · have h6 := h.zap k ob b o h1 hb
          simp only at h5
          rw [h6] at h5; cases h5
        · simp only at h5; omega
        · exact absurd h5 q2
  · intro k ob b hk hb
    rcases hcase k ob hk with ⟨id, o1, h1, rfl, rfl⟩ | ⟨h1, h2⟩
    · rw [hs1 id (hR.lt id o1 h1).1] at hb
      rcases hR.mine id o1 b h1 hb with h5 | ⟨id', o2, h5, h6⟩
      · exact .inl (Nat.le_trans h.fr.size h5)
      · obtain ⟨g1, g2, g3⟩ := hH id' o2 h5
        exact h.mine _ _ b g3 h6
    · rw [hold k (h.lt k ob h1).1] at hb
      exact h.mine k ob b h1 hb
  · refine ⟨hR.fr.os.trans h.fr.os, hR.fr.tape.trans h.fr.tape, hR.fr.output.trans h.fr.output, Nat.le_trans h.fr.size hR.fr.size, fun k hk hf => ?_⟩
    have hnf : ¬ F0 k := fun ⟨id', o2, h5, h6⟩ => by
      obtain ⟨g1, g2, g3⟩ := hH id' o2 h5
      rcases h.mine _ _ k g3 h6 with h7 | h7
      · omega
      · exact hf h7
    rw [hR.fr.block k (Nat.lt_of_lt_of_le hk h.fr.size) hnf]
    exact h.fr.block k hk hf
  · have := h.n0; omega
  · intro id hid
    rw [hold id (Nat.lt_of_lt_of_le hid h.n0)]
    exact h.bs id hid
  · exact fun b o v hv => hR.bz b o v (h.bz b o v hv)
  · intro b o u hu
    rcases hR.bn b o u hu with h5 | h5 | ⟨id', o2, h5, h6⟩
    · exact h.bn b o u h5
    · exact .inr (.inl (Nat.le_trans h.fr.size h5))
    · obtain ⟨g1, g2, g3⟩ := hH id' o2 h5
      exact .inr (h.mine _ _ b g3 h6)
end
end Go.Proofs.Ytajimebannjofaa

set_option linter.unusedSimpArgs false
set_option linter.unusedVariables false
namespace Go.Proofs.Ytajimebannjofaa
open Go.RowKit

/-- an operation that calls no function of the program -/
def plainOp : Op → Bool
  | .call { callee := .builtin .len, .. } | .call { callee := .builtin .cap, .. } | .call { callee := .builtin .min, .. } | .call { callee := .builtin .max, .. } => true
  | .call _ | .go _ | .defer _ | .send .. | .recv .. | .select .. | .store .. | .ready _ | .mapUpdate .. | .insert .. | .entryStore .. => false
  | _ => true

theorem value_run {P : Program} {w w' : World} (s : Sem Value) {n : Next} (h : (do pure (Next.value (← s)) : Sem Next).run P w = .ok n w') : ∃ u, n = .value u := by
  rw [Sem.run_bind] at h
  cases hs : s.run P w with
  | ok a w1 => rw [hs] at h; simp only [Result.andThen_ok, Sem.run_pure] at h; injection h with h1 h2; exact ⟨a, h1.symm⟩
  | halt x w1 => rw [hs] at h; cases h
theorem plain_value {P : Program} {ρ : Operand → Value} {o : Oper} {w w' : World} {n : Next} (hp : plainOp o.op = true) (h : (execOp ρ o).run P w = .ok n w') : ∃ u, n = .value u := by
  unfold execOp at h
  cases ho : o.op with
  | call c =>
    obtain ⟨cal, ars, ts⟩ := c
    rw [ho] at h hp
    cases cal with
    | value x => simp [plainOp] at hp
    | invoke x m => simp [plainOp] at hp
    | builtin b =>
      simp only [resolve, invoke, Sem.run_bind, Sem.run_pure, Result.andThen_ok] at h
      cases b <;> first | (simp [plainOp] at hp; done) | (simp only [builtin] at h; exact value_run _ h)
  | go c => simp [plainOp, ho] at hp
  | defer c => simp [plainOp, ho] at hp
  | send a b => simp [plainOp, ho] at hp
  | recv a b c => simp [plainOp, ho] at hp
  | select a b => simp [plainOp, ho] at hp
  | store a b c => simp [plainOp, ho] at hp
  | ready a => simp [plainOp, ho] at hp
  | mapUpdate a b c d => simp [plainOp, ho] at hp
  | insert a b c d => simp [plainOp, ho] at hp
  | entryStore a b c d => simp [plainOp, ho] at hp
  | nilCheck x =>
    simp only [ho] at h
    split at h
    case h_5 => rw [Sem.run_pure] at h; cases h; exact ⟨_, rfl⟩
    case h_4 =>
      split at h
      · simp [runtimePanic, Sem.run_bind] at h
      · rename_i t u _
        rw [Sem.run_bind, show Sem.run P program w = .ok P w from rfl, Result.andThen_ok, Sem.run_bind] at h
        cases hs : (nilAhead (P.types.size + Made.depth) t u ‹String›).run P w with
        | halt y w1 => rw [hs] at h; cases h
        | ok y w1 =>
          rw [hs, Result.andThen_ok] at h
          split at h
          · simp [unsupported] at h
          · rw [Sem.run_pure] at h; cases h; exact ⟨_, rfl⟩
      · rw [Sem.run_pure] at h; cases h; exact ⟨_, rfl⟩
    all_goals simp [runtimePanic, Sem.run_bind] at h
  | move x => simp only [ho, Sem.run_pure] at h; cases h; exact ⟨_, rfl⟩
  | assign x => simp only [ho, Sem.run_pure] at h; cases h; exact ⟨_, rfl⟩
  | pick c a b =>
    simp only [ho, Sem.run_bind] at h
    cases hs : (asBool (ρ c)).run P w with
    | ok a w1 => rw [hs] at h; simp only [Result.andThen_ok, Sem.run_pure] at h; cases h; exact ⟨_, rfl⟩
    | halt x w1 => rw [hs] at h; cases h
  | _ => simp only [ho] at h; exact value_run _ h

section
variable {P : Program} {ops : Array Oper} {Q : Exit → Act → World → Prop} {md : Region.Mode} {late : Nat → Bool} {w0 : World}

/-- as long as no late operation has come up, all that was there is as it was -/
def Kept (late : Nat → Bool) (w0 : World) (listed : Array Bool) (w : World) : Prop :=
  Below w0.heap.size w0 w ∨ ∃ t, late t = true ∧ listed.getD t false = true
/-- what has come up, came behind what it waits for -/
def Closed (md : Region.Mode) (ops : Array Oper) (listed : Array Bool) : Prop :=
  ∀ j oj, ops[j]? = some oj → listed.getD j false = true → ∀ e ∈ oj.after, Region.binds md e = true → listed.getD e.on false = true
/-- whatever order is picked from here on -/
def AnyK (P : Program) (md : Region.Mode) (ops : Array Oper) (Q : Exit → Act → World → Prop) (late : Nat → Bool) (w0 : World) : Nat → Array Bool → Act → World → Prop
  | 0, listed, a, w => Region.ready md ops listed = [] ∧ Q .normal a w
  | fuel + 1, listed, a, w =>
    (Region.ready md ops listed = [] → Q .normal a w) ∧
    ∀ i ∈ Region.ready md ops listed, wpOp P ops Q i (fun a' w' => Kept late w0 (listed.setIfInBounds i true) w' ∧ AnyK P md ops Q late w0 fuel (listed.setIfInBounds i true) a' w') a w

theorem any_of_K : ∀ (fuel : Nat) (listed : Array Bool) (a : Act) (w : World), AnyK P md ops Q late w0 fuel listed a w → wpAny P md ops Q fuel listed a w
  | 0, _, _, _, h => h
  | fuel + 1, _, _, _, h => ⟨h.1, fun i hi => wpOp_mono (fun a' w' h' => any_of_K fuel _ a' w' h'.2) (h.2 i hi)⟩

theorem Closed.set {i : Nat} {listed : Array Bool} (h : Closed md ops listed) (hi : i ∈ Region.ready md ops listed) : Closed md ops (listed.setIfInBounds i true) := by
  obtain ⟨_, oi, hoi, hall⟩ := mem_ready.1 hi
  intro j oj hj hl e he hb
  by_cases hij : i = j
  · subst hij
    obtain rfl : oj = oi := Option.some.inj (hj.symm.trans hoi)
    exact getD_set_true (hall e he hb)
  · rw [getD_set_ne false hij] at hl
    exact getD_set_true (h j oj hj hl e he hb)

/-- no late operation has come up if number i, which is ahead of each, has not -/
theorem Kept.below {i : Nat} {listed : Array Bool} {w : World} (hk : Kept late w0 listed w) (hun : listed.getD i true = false)
    (hl : ∀ t, late t = true → listed.getD t false = true → listed.getD i false = true) : Below w0.heap.size w0 w := by
  rcases hk with h | ⟨t, h1, h2⟩
  · exact h
  · have h3 := hl t h1 h2
    rcases Nat.lt_or_ge i listed.size with h' | h'
    · simp [h'] at hun h3; rw [hun] at h3; cases h3
    · simp [Array.getElem?_eq_none h'] at h3

theorem Kept.more {i : Nat} {listed : Array Bool} {w : World} (hk : Kept late w0 listed w) : Kept late w0 (listed.setIfInBounds i true) w := by
  rcases hk with h | ⟨t, h1, h2⟩
  · exact .inl h
  · exact .inr ⟨t, h1, getD_set_true h2⟩

/-- **An operation that only reads may be taken first.** -/
theorem anyK_first {i : Nat} {oi : Oper} {v : Value} (hi : ops[i]? = some oi) (hsel : ∀ (j : Nat) (o : Oper) cs b, ops[j]? = some o → o.op ≠ .select cs b)
    (hQ : ∀ c a w, Q (.panic c) (a.put oi.dst v) w → Q (.panic c) a w)
    (S : World → Prop) (hl : ∀ listed w, Closed md ops listed → listed.getD i true = false → Kept late w0 listed w → S w) (hli : late i = false) :
    ∀ (fuel : Nat) (listed : Array Bool) (a : Act) (w : World), Closed md ops listed →
      (∀ j oj, ops[j]? = some oj → j ≠ i → listed.getD j true = false → (∀ e ∈ oj.after, Region.binds md e = true → e.on ≠ i) → oi.apart ops oj = true) →
      i ∈ Region.ready md ops listed → YieldsIf P ops S oi v a → Kept late w0 listed w →
      AnyK P md ops Q late w0 fuel (listed.setIfInBounds i true) (a.put oi.dst v) w → AnyK P md ops Q late w0 (fuel + 1) listed a w := by
  intro fuel
  induction fuel with
  | zero =>
    intro listed a w hcl _ hr hy hS H
    have hun := (mem_ready.1 hr).1
    refine ⟨fun h => (by rw [h] at hr; cases hr), fun j hj => ?_⟩
    by_cases hji : j = i
    · subst hji
      exact hy.wpOp hi (hl _ _ hcl hun hS) ⟨hS.more, H⟩
    · have := ready_mono hj hji
      rw [H.1] at this
      cases this
  | succ fuel ih =>
    intro listed a w hcl hfree hr hy hS H
    have hun := (mem_ready.1 hr).1
    refine ⟨fun h => (by rw [h] at hr; cases hr), fun j hj => ?_⟩
    by_cases hji : j = i
    · subst hji; exact hy.wpOp hi (hl _ _ hcl hun hS) ⟨hS.more, H⟩
    · have h1 := H.2 j (ready_mono hj hji)
      obtain ⟨hjun, oj, hoj, hall⟩ := mem_ready.1 hj
      have hnot : ∀ e ∈ oj.after, Region.binds md e = true → e.on ≠ i := fun e he hb' heq => by
        have h1 := hall e he hb'
        rw [heq] at h1
        rcases Nat.lt_or_ge i listed.size with h' | h'
        · simp [h'] at hun h1; rw [hun] at h1; cases h1
        · simp [Array.getElem?_eq_none h'] at h1
      have h2 := wpOp_putIf hoj (hfree j oj hoj hji hjun hnot) (fun cs b => hsel i oi cs b hi) (fun cs b => hsel j oj cs b hoj) hQ hy h1
      have hfree' : ∀ k ok, ops[k]? = some ok → k ≠ i → (listed.setIfInBounds j true).getD k true = false →
          (∀ e ∈ ok.after, Region.binds md e = true → e.on ≠ i) → oi.apart ops ok = true := fun k ok hk hki hun hno => by
        refine hfree k ok hk hki ?_ hno
        by_cases hjk : j = k
        · subst hjk; exact hjun
        · rw [getD_set_ne true hjk] at hun; exact hun
      have hcl' := hcl.set hj
      have hki : ∀ w', Kept late w0 ((listed.setIfInBounds i true).setIfInBounds j true) w' → Kept late w0 (listed.setIfInBounds j true) w' := fun w' hk => by
        rcases hk with hk | ⟨t, ht, hlt⟩
        · exact .inl hk
        · refine .inr ⟨t, ht, ?_⟩
          have hti : i ≠ t := fun h => by rw [← h, hli] at ht; cases ht
          rw [Array.setIfInBounds_comm _ _ (Ne.symm hji), getD_set_ne false hti] at hlt
          exact hlt
      refine wpOp_mono (fun a' w' h3 => ⟨hki w' h3.2.1, ih (listed.setIfInBounds j true) a' w' hcl' hfree' (ready_mono hr (Ne.symm hji)) h3.1 (hki w' h3.2.1) ?_⟩) h2
      rw [Array.setIfInBounds_comm _ _ hji]
      exact h3.2.2

theorem anyK_base {late' : Nat → Bool} {w1 : World} (hk : ∀ listed w, Kept late' w1 listed w → Kept late w0 listed w) : ∀ {fuel : Nat} {listed : Array Bool} {a : Act} {w : World}, AnyK P md ops Q late' w1 fuel listed a w → AnyK P md ops Q late w0 fuel listed a w
  | 0, _, _, _, h => h
  | _ + 1, _, _, _, h => ⟨h.1, fun i hi => wpOp_mono (fun _ _ h' => ⟨hk _ _ h'.1, anyK_base hk h'.2⟩) (h.2 i hi)⟩

theorem anyK_late {late' : Nat → Bool} {w1 : World} : ∀ {fuel : Nat} {listed : Array Bool} {a : Act} {w : World}, (∃ t, late t = true ∧ listed.getD t false = true) → AnyK P md ops Q late' w1 fuel listed a w → AnyK P md ops Q late w0 fuel listed a w
  | 0, _, _, _, _, h => h
  | _ + 1, _, _, _, ⟨t, ht, hl⟩, h => ⟨h.1, fun i hi => wpOp_mono (fun _ _ h' => ⟨.inr ⟨t, ht, getD_set_true hl⟩, anyK_late ⟨t, ht, getD_set_true hl⟩ h'.2⟩) (h.2 i hi)⟩

/-- it hands back the same in every world -/
def freeOp : Op → Bool
  | .move _ | .assign _ | .extract .. => true
  | _ => false
theorem free_run {ρ : Operand → Value} {o : Oper} {w w' : World} {v : Value} (hf : freeOp o.op = true) (h : (execOp ρ o).run P w = .ok (.value v) w) : (execOp ρ o).run P w' = .ok (.value v) w' := by
  unfold execOp at *
  cases ho : o.op with
  | move x => simp only [ho, Sem.run_pure] at *; cases h; rfl
  | assign x => simp only [ho, Sem.run_pure] at *; cases h; rfl
  | extract t ix =>
    simp only [ho, Sem.run_bind] at *
    unfold Instr.extract at *
    split at h
    · split at h
      · simp only [Sem.run_pure, Result.andThen_ok] at *; cases h; rfl
      · simp [stuck] at h
    · simp [stuck] at h
  | _ => simp [freeOp, ho] at hf

/-- number y waits for number x -/
def waitsB (ops : Array Oper) (y x : Nat) : Bool :=
  match ops[y]? with
  | some o => o.after.any fun e => Region.binds .any e && e.on == x
  | none => false
/-- what is ahead of the numbers in U, below x -/
def aheadL (ops : Array Oper) : Nat → List Nat → List Nat
  | 0, U => U
  | x + 1, U => aheadL ops x (if U.any fun y => waitsB ops y x then x :: U else U)
theorem aheadL_listed {ops : Array Oper} {listed : Array Bool} (hc : Closed .any ops listed) : ∀ (x : Nat) (U : List Nat), (∀ y ∈ U, listed.getD y false = true) → ∀ y ∈ aheadL ops x U, listed.getD y false = true
  | 0, _, h => h
  | x + 1, U, h => by
    refine aheadL_listed hc x _ ?_
    split
    · rename_i hU
      intro y hy
      rcases List.mem_cons.1 hy with rfl | hy
      · obtain ⟨z, hz, hw⟩ := List.any_eq_true.1 hU
        unfold waitsB at hw
        cases ho : ops[z]? with
        | none => rw [ho] at hw; cases hw
        | some o =>
          rw [ho] at hw
          obtain ⟨e, he, hb⟩ := Array.any_eq_true'.1 hw
          simp only [Bool.and_eq_true, beq_iff_eq] at hb
          have := hc z o ho (h z hz) e he hb.1
          rw [hb.2] at this
          exact this
      · exact h y hy
    · exact h
/-- each of A is ahead of each late operation -/
def aheadB (ops : Array Oper) (ls A : List Nat) : Bool := ls.all fun t => let U := aheadL ops t [t]; A.all fun i => U.contains i
/-- number i may be taken first -/
def takeB (ops : Array Oper) (ls A : List Nat) (i : Nat) (listed : Array Bool) : Bool :=
  (Region.ready .any ops listed).contains i && Region.free .any ops listed i && !ls.contains i &&
    match ops[i]? with
    | some o => plainOp o.op && (freeOp o.op || ls.isEmpty || A.contains i)
    | none => false
def closedB (ops : Array Oper) (listed : Array Bool) : Bool :=
  (List.range ops.size).all fun j => !listed.getD j false || match ops[j]? with
    | some o => o.after.all fun e => !Region.binds .any e || listed.getD e.on false
    | none => true
theorem closed_of {ops : Array Oper} {listed : Array Bool} (h : closedB ops listed = true) : Closed .any ops listed := by
  intro j oj hj hl e he hb
  have hlt : j < ops.size := (Array.getElem?_eq_some_iff.1 hj).1
  have h1 := List.all_eq_true.1 h j (List.mem_range.2 hlt)
  rw [hl, hj] at h1
  simp only [Bool.not_true, Bool.false_or] at h1
  have h2 := Array.all_eq_true_iff_forall_mem.1 h1 e he
  rw [hb] at h2
  simpa using h2
def takesB (ops : Array Oper) (ls A : List Nat) : Nat → Nat → Array Bool → Bool
  | 0, _, _ => true
  | k + 1, i, listed => takeB ops ls A i listed && takesB ops ls A k (i + 1) (listed.setIfInBounds i true)
def setN : Nat → Nat → Array Bool → Array Bool
  | 0, _, listed => listed
  | k + 1, i, listed => setN k (i + 1) (listed.setIfInBounds i true)

/-- whatever order is picked from here on; ls: the operations that may change what was there -/
def AnyN (P : Program) (ops : Array Oper) (Q : Exit → Act → World → Prop) (ls : List Nat) (fuel : Nat) (listed : Array Bool) (a : Act) (w : World) : Prop :=
  Closed .any ops listed → Region.noSelect ops = true → AnyK P .any ops Q (ls.contains ·) w fuel listed a w

theorem anyN_quiet {l : List Oper} {ls : List Nat} (A : List Nat) {fuel : Nat} {w : World} (hA : aheadB l.toArray ls A = true) (hQ : ∀ c a d v w, Q (.panic c) (Act.put a d v) w → Q (.panic c) a w) :
    ∀ (k i : Nat) (listed : Array Bool) (a : Act), takesB l.toArray ls A k i listed = true →
      wpQuiet P l.toArray (fun w' => ∃ x : In w, w' = x.w) (fun a' => AnyN P l.toArray Q ls fuel (setN k i listed) a' w) ((l.drop i).take k) a → AnyN P l.toArray Q ls (fuel + k) listed a w
  | 0, i, listed, a, _, h => by simpa [wpQuiet, setN] using h
  | k + 1, i, listed, a, hB, h => by
    intro hcl hns
    simp only [takesB, Bool.and_eq_true] at hB
    obtain ⟨h1, h2⟩ := hB
    unfold takeB at h1
    cases ho : l[i]? with
    | none => simp [ho] at h1
    | some o =>
      simp only [List.getElem?_toArray, ho, Bool.and_eq_true, Bool.or_eq_true] at h1
      obtain ⟨⟨⟨hr, hf⟩, hli⟩, hp, hfw⟩ := h1
      have hlt : i < l.length := (List.getElem?_eq_some_iff.1 ho).1
      have hd : (l.drop i).take (k + 1) = o :: (l.drop (i + 1)).take k := by
        rw [List.drop_eq_getElem_cons hlt, List.take_succ_cons]
        have := (List.getElem?_eq_some_iff.1 ho).2
        rw [this]
      rw [hd] at h
      have ho' : l.toArray[i]? = some o := by rw [List.getElem?_toArray]; exact ho
      have hr' : i ∈ Region.ready .any l.toArray listed := by simpa using hr
      have hst : qOp P l.toArray (fun w' => ∃ x : In w, w' = x.w) i (wpQuiet P l.toArray (fun w' => ∃ x : In w, w' = x.w) (fun a' => AnyN P l.toArray Q ls fuel (setN (k + 1) i listed) a' w) ((l.drop (i + 1)).take k)) a := by
        unfold qOp; simp only [ho']; exact h
      obtain ⟨v, hy, hK⟩ := yieldsIn_of_qOp ho' hst
      have key : ∀ w', (∃ x : In w, w' = x.w) → Region.wanted o (yielded l.toArray a.tmps) = true → (execOp a.eval o).run P w' = .ok (.value v) w' := fun w' hw' hwant => by
        rcases hy with ⟨_, hy⟩ | ⟨hn, _⟩
        · have hq := hy w' hw'
          unfold Oper.quietAt at hq
          cases hrun : (execOp a.eval o).run P w' with
          | ok n w2 =>
            rw [hrun] at hq
            obtain ⟨u, rfl⟩ := plain_value hp hrun
            simp only [Oper.quietUpon] at hq
            rw [hq.1, hq.2]
          | halt x w2 => rw [hrun] at hq; simp [Oper.quietUpon] at hq
        · rw [hn] at hwant; cases hwant
      have next := anyN_quiet (ls := ls) A (fuel := fuel) hA hQ k (i + 1) (listed.setIfInBounds i true) (a.put o.dst v) h2 hK (hcl.set hr') hns
      have base : ∃ x : In w, w = x.w := ⟨⟨w, Below.refl _ _⟩, rfl⟩
      have hkept : Kept (ls.contains ·) w listed w := .inl (Below.refl _ _)
      have hli' : ls.contains i = false := by simpa using hli
      rcases hfw with (hfr | hle) | hwt
      · refine anyK_first ho' (Region.noSelect_spec hns) (fun c a w h => hQ c a _ _ w h) (fun _ => True) (fun _ _ _ _ _ => trivial) hli' (fuel + k) listed a w hcl (Region.free_spec ho' hf) hr' ?_ hkept next
        by_cases hwant : Region.wanted o (yielded l.toArray a.tmps) = true
        · exact .inl ⟨hwant, fun w' _ => free_run hfr (key w base hwant)⟩
        · refine .inr ⟨by simpa using hwant, ?_⟩
          rcases hy with ⟨h, _⟩ | ⟨_, h⟩
          · exact absurd h hwant
          · exact h
      · refine anyK_first ho' (Region.noSelect_spec hns) (fun c a w h => hQ c a _ _ w h) (fun w' => Below w.heap.size w w') (fun listed' w' hc hun hk => hk.below hun fun t ht _ => ?_) hli' (fuel + k) listed a w hcl (Region.free_spec ho' hf) hr' ?_ hkept next
        · have : ls = [] := by simpa using hle
          rw [this] at ht
          cases ht
        · by_cases hwant : Region.wanted o (yielded l.toArray a.tmps) = true
          · exact .inl ⟨hwant, fun w' hw' => key w' ⟨⟨w', hw'⟩, rfl⟩ hwant⟩
          · refine .inr ⟨by simpa using hwant, ?_⟩
            rcases hy with ⟨h, _⟩ | ⟨_, h⟩
            · exact absurd h hwant
            · exact h
      · refine anyK_first ho' (Region.noSelect_spec hns) (fun c a w h => hQ c a _ _ w h) (fun w' => Below w.heap.size w w') (fun listed' w' hc hun hk => hk.below hun fun t ht hlt => ?_) hli' (fuel + k) listed a w hcl (Region.free_spec ho' hf) hr' ?_ hkept next
        · have h3 := List.all_eq_true.1 hA t (by simpa using ht)
          have h4 := List.all_eq_true.1 h3 i (by simpa using hwt)
          exact aheadL_listed hc t [t] (fun y hy => by rw [List.mem_singleton.1 hy]; exact hlt) i (by simpa using h4)
        · by_cases hwant : Region.wanted o (yielded l.toArray a.tmps) = true
          · exact .inl ⟨hwant, fun w' hw' => key w' ⟨⟨w', hw'⟩, rfl⟩ hwant⟩
          · refine .inr ⟨by simpa using hwant, ?_⟩
            rcases hy with ⟨h, _⟩ | ⟨_, h⟩
            · exact absurd h hwant
            · exact h

theorem lets_then {K : Act → World → Prop} {Q : Exit → Act → World → Prop} (h : LetsOut (Exit.then K Q)) : LetsOut Q := by
  obtain ⟨a, w, h⟩ := h
  exact ⟨a, w, h⟩

theorem wpOp_of_list {P : Program} {l : List Oper} {Q : Exit → Act → World → Prop} {K : Act → World → Prop} {i : Nat} {o : Oper} {a : Act} {w : World} (ho : l.toArray[i]? = some o)
    (h : wpList P l.toArray (Exit.then K Q) [o] a w) : wpOp P l.toArray Q i K a w := by
  unfold wpOp
  simp only [ho]
  unfold wpList at h
  split
  · rename_i hw
    simp only [hw, if_true] at h
    rcases h with h | ⟨h1, h2⟩
    · refine .inl ?_
      unfold Oper.wp at *
      generalize (execOp a.eval o).run P w = r at *
      cases r with
      | ok n w' =>
        cases n <;> simp only [Oper.upon] at h ⊢ <;> first
          | exact h
          | (refine Calls.mono h fun e w'' he => ?_; cases e <;> first | exact he | exact lets_then he)
      | halt x w' => cases x <;> simp only [Oper.upon] at h ⊢ <;> exact h
    · exact .inr ⟨h1, lets_then h2⟩
  · rename_i hw
    simp only [hw] at h
    exact h

/-- the only operation that may come up now: it leaves all that was there as it is -/
theorem anyN_loud {P : Program} {l : List Oper} {Q : Exit → Act → World → Prop} {ls : List Nat} {fuel : Nat} {listed : Array Bool} {a : Act} {w : World} (i : Nat) (hr : Region.ready .any l.toArray listed = [i])
    (h : ∀ K : Act → World → Prop, Shut (∀ a' w', Below w.heap.size w w' → AnyN P l.toArray Q ls fuel (listed.setIfInBounds i true) a' w' → K a' w') → wpList P l.toArray (Exit.then K Q) ((l.drop i).take 1) a w) :
    AnyN P l.toArray Q ls (fuel + 1) listed a w := by
  intro hcl hns
  refine ⟨fun h0 => absurd (hr ▸ h0) (by simp), fun j hj => ?_⟩
  have hji : j = i := by rw [hr] at hj; simpa using hj
  subst hji
  obtain ⟨_, o, ho, _⟩ := mem_ready.1 hj
  have hol : l[j]? = some o := by rw [List.getElem?_toArray] at ho; exact ho
  have hlt : j < l.length := (List.getElem?_eq_some_iff.1 hol).1
  have hd : (l.drop j).take 1 = [o] := by
    rw [List.drop_eq_getElem_cons hlt, List.take_succ_cons, List.take_zero]
    have := (List.getElem?_eq_some_iff.1 hol).2
    rw [this]
  refine wpOp_of_list ho ?_
  rw [← hd]
  refine h _ fun a' w' hb hn => ⟨.inl hb, ?_⟩
  have h1 := hn (hcl.set hj) hns
  exact anyK_base (fun listed' w2 hk => hk.imp (fun h2 => hb.trans (h2.mono hb.size)) id) h1

/-- the only operation that may come up now: from here on nothing more is read of what was there -/
theorem anyN_late {P : Program} {l : List Oper} {Q : Exit → Act → World → Prop} {ls : List Nat} {fuel : Nat} {listed : Array Bool} {a : Act} {w : World} (i : Nat) (hr : Region.ready .any l.toArray listed = [i]) (hi : ls.contains i = true) (hsz : i < listed.size)
    (h : ∀ K : Act → World → Prop, Shut (∀ a' w', AnyN P l.toArray Q [] fuel (listed.setIfInBounds i true) a' w' → K a' w') → wpList P l.toArray (Exit.then K Q) ((l.drop i).take 1) a w) :
    AnyN P l.toArray Q ls (fuel + 1) listed a w := by
  intro hcl hns
  refine ⟨fun h0 => absurd (hr ▸ h0) (by simp), fun j hj => ?_⟩
  have hji : j = i := by rw [hr] at hj; simpa using hj
  subst hji
  obtain ⟨_, o, ho, _⟩ := mem_ready.1 hj
  have hol : l[j]? = some o := by rw [List.getElem?_toArray] at ho; exact ho
  have hlt : j < l.length := (List.getElem?_eq_some_iff.1 hol).1
  have hd : (l.drop j).take 1 = [o] := by
    rw [List.drop_eq_getElem_cons hlt, List.take_succ_cons, List.take_zero]
    have := (List.getElem?_eq_some_iff.1 hol).2
    rw [this]
  refine wpOp_of_list ho ?_
  rw [← hd]
  have hset : (listed.setIfInBounds j true).getD j false = true := by simp [hsz]
  refine h _ fun a' w' hn => ⟨.inr ⟨j, hi, hset⟩, ?_⟩
  have h1 := hn (hcl.set hj) hns
  exact anyK_late ⟨j, hi, hset⟩ h1

theorem anyN_done {P : Program} {l : List Oper} {Q : Exit → Act → World → Prop} {ls : List Nat} {listed : Array Bool} {a : Act} {w : World} (hr : Region.ready .any l.toArray listed = []) (h : Q .normal a w) :
    AnyN P l.toArray Q ls 0 listed a w := fun _ _ => ⟨hr, h⟩

/-- the beginning -/
theorem wp_region_stage {P : Program} {id : Nat} {Q : Exit → Act → World → Prop} {a : Act} {w : World} {l : List Oper} (ls : List Nat) (n : Nat) (hm : P.follows .mixedOrders = true) (hn : l.length = n) (hs : Region.noSelect l.toArray = true)
    (h0 : ∀ w1, Below w.heap.size w w1 → AnyN P l.toArray Q ls n (Array.replicate n false) a w1) : (Code.region id l.toArray true).wp P Q a w := by
  have h := h0 w.drew (Below.refl _ _).drew
  subst hn
  refine wp_region_any hm ?_
  have h1 := h (fun j oj _ hl => by
    exfalso
    rcases Nat.lt_or_ge j l.length with h' | h'
    · simp [h'] at hl
    · simp [h'] at hl) hs
  have h2 := any_of_K _ _ _ _ h1
  simpa using h2
end
end Go.Proofs.Ytajimebannjofaa

set_option linter.unusedSimpArgs false
set_option linter.unusedVariables false
namespace Go.Proofs.Ytajimebannjofaa
open Go.RowKit

/-- orders in which operations may be taken: one and the rest; or each of two -/
inductive ASch where
  | done
  | one (sb : Bool) (o : AO) (r : ASch)
  | two (l r : ASch)
  | top
def asch (P : Program) (B : Base) : ASch → St → (St → Prop) → Prop
  | .done, st, K => K st
  | .one sb o r, st, K => astep P sb B o st fun st' => asch P B r st' K
  | .two l r, st, K => asch P B l st K ∧ asch P B r st K
  | .top, _, _ => True

/-- it may write what was there; hw: functions that do -/
def lateOp (hw : List FuncId) : Op → Bool
  | .store .. => true
  | .call c => match c.callee with
    | .value (.func f) => hw.contains f
    | .value _ => true
    | .builtin .append => true
    | .builtin .copy => true
    | .builtin .clear => true
    | .builtin _ => false
    | _ => true
  | _ => false
def lates (hw : List FuncId) (ops : Array Oper) : List Nat := (List.range ops.size).filter fun i => ((ops[i]?).map fun o => lateOp hw o.op).getD false
/-- number i may be taken first -/
def takeQ (P : Program) (N : Nat) (ops : Array Oper) (listed : Array Bool) (ls : List Nat) (i : Nat) : Bool :=
  match ops[i]? with
  | some o => match coper P N ops o with
    | some a => !isLoud a.op && !ls.contains i && Region.free .any ops listed i && (!isLd o.op || ls.all fun t => (aheadL ops t [t]).contains i)
    | none => false
  | none => false
def stepS (P : Program) (N : Nat) (ops : Array Oper) (sb : Bool) (i : Nat) (r : Option ASch) : Option ASch :=
  match ops[i]? with
  | some o => match coper P N ops o, r with
    | some a, some t => some (.one sb a t)
    | _, _ => none
  | none => none
def foldS : List (Option ASch) → Option ASch
  | [] => some .top
  | x :: l => match x, foldS l with
    | some t, some u => some (.two t u)
    | _, _ => none
def planS (P : Program) (N : Nat) (ops : Array Oper) : Nat → Array Bool → List Nat → Option ASch
  | 0, listed, _ => if (Region.ready .any ops listed).isEmpty then some .done else none
  | fuel + 1, listed, ls =>
    let rs := Region.ready .any ops listed
    if rs.isEmpty then some .done else
    match rs.find? (takeQ P N ops listed ls) with
    | some i => stepS P N ops true i (planS P N ops fuel (listed.setIfInBounds i true) ls)
    | none => match rs with
      | [i] => stepS P N ops (!ls.contains i) i (planS P N ops fuel (listed.setIfInBounds i true) (ls.filter (· != i)))
      | rs => foldS (rs.map fun i => stepS P N ops (!ls.contains i) i (planS P N ops fuel (listed.setIfInBounds i true) (ls.filter (· != i))))

section
variable {P : Program} {B : Base} {ops : Array Oper} {Q : Exit → Act → World → Prop} {K : St → Prop}

theorem foldS_mem : ∀ {l : List (Option ASch)} {t : ASch}, foldS l = some t → ∀ x ∈ l, ∃ t', x = some t' ∧ ∀ st K, asch P B t st K → asch P B t' st K
  | [], t, h, x, hx => by cases hx
  | y :: l, t, h, x, hx => by
    cases y with
    | none => simp [foldS] at h
    | some t1 =>
      cases hl : foldS l with
      | none => simp [foldS, hl] at h
      | some t2 =>
        simp only [foldS, hl, Option.some.injEq] at h
        subst h
        rcases List.mem_cons.1 hx with rfl | hx
        · exact ⟨t1, rfl, fun _ _ h => h.1⟩
        · obtain ⟨t', h1, h2⟩ := foldS_mem hl x hx
          exact ⟨t', h1, fun st K h => h2 st K h.2⟩
theorem stepS_some {N : Nat} {sb : Bool} {i : Nat} {r : Option ASch} {t : ASch} (h : stepS P N ops sb i r = some t) : ∃ o ao t', ops[i]? = some o ∧ coper P N ops o = some ao ∧ r = some t' ∧ t = .one sb ao t' := by
  unfold stepS at h
  cases ho : ops[i]? with
  | none => rw [ho] at h; cases h
  | some o =>
    rw [ho] at h
    simp only at h
    cases hao : coper P N ops o with
    | none => rw [hao] at h; simp at h
    | some ao =>
      rw [hao] at h
      cases r with
      | none => simp at h
      | some t' =>
        simp only [Option.some.injEq] at h
        exact ⟨o, ao, t', rfl, hao, rfl, h.symm⟩

/-- one operation carried out in its turn -/
theorem step_sound {hw : List Nat} {w : World} {fuel : Nat} {listed : Array Bool} {i : Nat} {r : Option ASch} {t : ASch} {st : St} {s : Nat → Value} {Z : Cells} {a : Act} (hsz : listed.size = ops.size)
    (h : stepS P B.N ops (!hw.contains i) i r = some t) (hR : Rel B s Z st a w) (hs : asch P B t st K)
    (next : ∀ t', r = some t' → ∀ (st' : St) (s' : Nat → Value) (Z' : Cells) (a' : Act) (w' : World), Rel B s' Z' st' a' w' → asch P B t' st' K → AnyK P .any ops Q ((hw.filter (· != i)).contains ·) w' fuel (listed.setIfInBounds i true) a' w') :
    wpOp P ops Q i (fun a' w' => Kept (hw.contains ·) w (listed.setIfInBounds i true) w' ∧ AnyK P .any ops Q (hw.contains ·) w fuel (listed.setIfInBounds i true) a' w') a w := by
  obtain ⟨o, ao, t', ho, hao, rfl, rfl⟩ := stepS_some h
  have hlt : i < listed.size := by rw [hsz]; exact (Array.getElem?_eq_some_iff.1 ho).1
  have hset : (listed.setIfInBounds i true).getD i false = true := by simp [hlt]
  simp only [asch] at hs
  have hG : Goes (!hw.contains i) B w (fun st' => asch P B t' st' K) (fun a' w' => Kept (hw.contains ·) w (listed.setIfInBounds i true) w' ∧ AnyK P .any ops Q (hw.contains ·) w fuel (listed.setIfInBounds i true) a' w') := fun st' s' Z' a' w' hb hK hR' => by
    have hn := next t' rfl st' s' Z' a' w' hR' hK
    cases hl : hw.contains i with
    | true => exact ⟨.inr ⟨i, hl, hset⟩, anyK_late ⟨i, hl, hset⟩ hn⟩
    | false =>
      have hb := hb (by rw [hl]; rfl)
      refine ⟨.inl hb, ?_⟩
      have hf : hw.filter (· != i) = hw := List.filter_eq_self.2 fun x hx => by
        have : x ≠ i := by rintro rfl; rw [List.contains_iff_mem.2 hx] at hl; cases hl
        simpa using this
      rw [hf] at hn
      exact anyK_base (fun listed' w2 hk => hk.imp (fun h2 => hb.trans (h2.mono hb.size)) id) hn
  obtain ⟨k1, k2⟩ := astep_sound (Q := Q) hR hao hs hG
  unfold wpOp
  simp only [ho]
  cases hw' : Region.wanted o (yielded ops a.tmps) with
  | true => simp only [if_true]; exact .inl (k1 hw')
  | false => simp only [Bool.false_eq_true, if_false]; exact k2 hw'

theorem planS_sound (hns : Region.noSelect ops = true) (hQ : ∀ c a d v w, Q (.panic c) (Act.put a d v) w → Q (.panic c) a w) (hfin : ∀ st' s' Z' a' w', K st' → Rel B s' Z' st' a' w' → Q .normal a' w') :
    ∀ (fuel : Nat) (listed : Array Bool) (hw : List Nat) (t : ASch) (st : St) (s : Nat → Value) (Z : Cells) (a : Act) (w : World), planS P B.N ops fuel listed hw = some t → listed.size = ops.size → Closed .any ops listed → Rel B s Z st a w → asch P B t st K →
      AnyK P .any ops Q (hw.contains ·) w fuel listed a w
  | 0, listed, hw, t, st, s, Z, a, w, h, hsz, hcl, hR, hs => by
    simp only [planS] at h
    split at h
    case isFalse => cases h
    rename_i he
    simp only [Option.some.injEq] at h
    subst h
    exact ⟨List.isEmpty_iff.1 he, hfin _ _ _ _ _ hs hR⟩
  | fuel + 1, listed, hw, t, st, s, Z, a, w, h, hsz, hcl, hR, hs => by
    simp only [planS] at h
    split at h
    · rename_i he
      simp only [Option.some.injEq] at h
      subst h
      have he := List.isEmpty_iff.1 he
      exact ⟨fun _ => hfin _ _ _ _ _ hs hR, fun i hi => by rw [he] at hi; cases hi⟩
    rename_i hne
    have hne : Region.ready .any ops listed ≠ [] := fun e => hne (by rw [e]; rfl)
    have hszs : ∀ i, (listed.setIfInBounds i true).size = ops.size := fun i => by simpa using hsz
    split at h
    · -- one that may be taken first
      rename_i i hfind
      have hir := List.mem_of_find?_eq_some hfind
      have htk := List.find?_some hfind
      obtain ⟨o, ao, t', ho, hao, hr, rfl⟩ := stepS_some h
      unfold takeQ at htk
      simp only [ho, hao, Bool.and_eq_true, Bool.not_eq_true', Bool.or_eq_true] at htk
      obtain ⟨⟨⟨hq, hli⟩, hfree⟩, hld⟩ := htk
      simp only [asch] at hs
      obtain ⟨hdst, op, hop, g, hg, hcase⟩ := astep_cases hR hao hs
      have hqo : isLoud op = false := by
        unfold coper at hao
        split at hao
        case isFalse => cases hao
        rw [hop] at hao
        simp only at hao
        split at hao
        · simp only [Option.some.injEq] at hao; subst hao; exact hq
        · split at hao
          · simp only [Option.some.injEq] at hao; subst hao; exact hq
          · cases hao
      obtain ⟨e1, e2⟩ := quiet_eff hR hdst (copX_quiet hop hqo) hqo hg
      have hun := (mem_ready.1 hir).1
      have hkept : Kept (hw.contains ·) w listed w := .inl (Below.refl _ _)
      obtain ⟨v, st', hK', hR', hy⟩ : ∃ v st', asch P B t' st' K ∧ Rel B s Z st' (a.put o.dst v) w ∧ YieldsIf P ops (fun w' => Ok4 w o w') o v a := by
        rcases hcase with ⟨h1, h2⟩ | ⟨h1, h2⟩
        · obtain ⟨u, st', k1, k2, k3⟩ := e1 h2
          exact ⟨u, st', k1, k2, .inl ⟨h1, k3⟩⟩
        · obtain ⟨st', k1, k2⟩ := e2 h2
          exact ⟨undef, st', k1, k2, .inr ⟨h1, rfl⟩⟩
      have next := planS_sound hns hQ hfin fuel (listed.setIfInBounds i true) hw t' st' s Z (a.put o.dst v) w hr (hszs i) (hcl.set hir) hR' hK'
      refine anyK_first ho (Region.noSelect_spec hns) (fun c a w h => hQ c a _ _ w h) (fun w' => Ok4 w o w') (fun listed' w' hc hu hk => ?_) (by simpa using hli) fuel listed a w hcl (Region.free_spec ho hfree) hir hy hkept next
      rcases hld with hld | hld
      · exact .inr hld
      · refine .inl (More.below (hk.below hu fun t ht hlt => ?_))
        have h3 := List.all_eq_true.1 hld t (by simpa using ht)
        exact aheadL_listed hc t [t] (fun y hy => by rw [List.mem_singleton.1 hy]; exact hlt) i (by simpa using h3)
    · split at h
      · -- the only one
        rename_i i hri
        refine ⟨fun e => absurd e hne, fun j hj => ?_⟩
        have hji : j = i := by rw [hri] at hj; simpa using hj
        subst hji
        exact step_sound hsz h hR hs fun t' ht' st' s' Z' a' w' hR' hs' => planS_sound hns hQ hfin fuel _ _ t' st' s' Z' a' w' ht' (hszs j) (hcl.set hj) hR' hs'
      · refine ⟨fun e => absurd e hne, fun j hj => ?_⟩
        obtain ⟨t', ht', himp⟩ := foldS_mem (P := P) (B := B) h _ (List.mem_map.2 ⟨j, hj, rfl⟩)
        exact step_sound hsz ht' hR (himp _ _ hs) fun t' ht' st' s' Z' a' w' hR' hs' => planS_sound hns hQ hfin fuel _ _ t' st' s' Z' a' w' ht' (hszs j) (hcl.set hj) hR' hs'

/-- a region that draws its order -/
theorem draw_sound {id : Nat} {hw : List FuncId} {t : ASch} {st : St} {s : Nat → Value} {Z : Cells} {a : Act} {w : World} (hm : P.follows .mixedOrders = true) (hns : Region.noSelect ops = true) (hp : planS P B.N ops ops.size (Array.replicate ops.size false) (lates hw ops) = some t)
    (hQ : ∀ c a d v w, Q (.panic c) (Act.put a d v) w → Q (.panic c) a w) (hfin : ∀ st' s' Z' a' w', K st' → Rel B s' Z' st' a' w' → Q .normal a' w') (hR : Rel B s Z st a w) (hs : asch P B t st K) : (Code.region id ops true).wp P Q a w := by
  have hR' : Rel B s Z st a w.drew := ⟨hR.env, hR.elt, hR.size, hR.defers, hR.h.call (Below.refl _ _).drew (Zx.refl hR.h.zok (Below.refl _ _).drew)⟩
  refine wp_region_any hm ?_
  refine any_of_K _ _ _ _ (planS_sound hns hQ hfin _ _ _ t st s Z a w.drew hp (by simp) (fun j oj _ hl => ?_) hR' hs)
  exfalso
  rcases Nat.lt_or_ge j ops.size with h' | h'
  · simp [h'] at hl
  · simp [h'] at hl
end
end Go.Proofs.Ytajimebannjofaa

