/- This text proves, for the kinds that the text before left, that an operation which changes nothing computes what the small machine of the text 'Abs' says. It has no condition of its own. -/
import Derived.Test.YtfkeddefajkobaaAbr
set_option linter.unusedSimpArgs false
set_option linter.unusedVariables false
namespace Go.Proofs.Ytfkeddefajkobaa
open Go.RowKit
section
variable {P : Program} {s : Nat → Value} {Z : Cells} {H : List (Nat × Ob)} {w : World} {ρ : Operand → Value} {ev : Opd → D} {o : Oper}

theorem add_mid' (b o j : Nat) : (⟨b, o, none⟩ : Addr).add j = ⟨b, o + j, none⟩ := Addr.add_mid b o j

/-- cells that lie behind -/
theorem VR.pc_add {ds : List D} {v : Value} (h : VR s Z (.pc ds) v) (n : Nat) : ∃ b o, v = .pointer (some ⟨b, o, none⟩) ∧ VR s Z (.pc (ds.drop n)) (.pointer (some ⟨b, o + n, none⟩)) := by
  cases h with
  | pc _ b o c h1 h2 =>
    refine ⟨b, o, rfl, VT.pc (ds.drop n) b (o + n) (fun j => c (n + j)) (fun j d hd => ?_) (fun j d hd => ?_)⟩
    · rw [List.getElem?_drop] at hd; rw [Nat.add_assoc]; exact h1 _ _ hd
    · rw [List.getElem?_drop] at hd; exact h2 _ _ hd
theorem VR.ptr_add {id j : Nat} {v : Value} (h : VR s Z (.ptr id j) v) (n : Nat) : ∃ b o, v = .pointer (some ⟨b, o, none⟩) ∧ VR s Z (.ptr id (j + n)) (.pointer (some ⟨b, o + n, none⟩)) := by
  obtain ⟨b, hs, rfl⟩ := h
  exact ⟨b, j, rfl, b, hs, rfl⟩
theorem VR.pel_add {id i sz j : Nat} {v : Value} (h : VR s Z (.pel id i sz j) v) (n : Nat) : ∃ b o, v = .pointer (some ⟨b, o, none⟩) ∧ VR s Z (.pel id i sz (j + n)) (.pointer (some ⟨b, o + n, none⟩)) := by
  obtain ⟨b, m, c, hs, rfl⟩ := h
  exact ⟨b, _, rfl, b, m, c, hs, by rw [Nat.add_assoc]⟩

theorem does_fad {t : TypeId} {x : Operand} {i : Nat} (ho : o.op = .fieldAddr t x i) {fs : Array Field} {f : Field} {n : Nat} (ht : P.underlying t = some (.struct fs)) (hf : fs[i]? = some f) (hn : szT P f.type = some n) (h0 : 0 < n)
    {X : Opd} (hx : VR s Z (ev X) (ρ x)) {p : Prop} {d : D} (hq : qv ev H (.fad f.offset X) = some (p, d)) : Does P s Z w ρ o d := by
  have key : ∀ b off, ρ x = .pointer (some ⟨b, off, none⟩) → VR s Z d (.pointer (some ⟨b, off + f.offset, none⟩)) → Does P s Z w ρ o d := fun b off h1 h2 => ⟨_, h2, fun w' _ => by
    unfold execOp; rw [ho]
    have hne : ¬ n = 0 := by omega
    simp only [Instr.fieldAt, Sem.run_bind, run_underlying ht, Result.andThen_ok, hf, h1, Instr.sureAddr, Sem.run_pure, fieldPlace, run_sizeOf' hn, hne, if_false, add_mid']⟩
  simp only [qv] at hq
  generalize ev X = e at *
  cases e <;> simp only [Option.some.injEq, Prod.mk.injEq, reduceCtorEq] at hq <;> obtain ⟨_, rfl⟩ := hq
  · obtain ⟨b, off, h1, h2⟩ := VR.pc_add hx f.offset; exact key b off h1 h2
  · obtain ⟨b, off, h1, h2⟩ := VR.ptr_add hx f.offset; exact key b off h1 h2
  · obtain ⟨b, off, h1, h2⟩ := VR.pel_add hx f.offset; exact key b off h1 h2

theorem does_iada {t e : TypeId} {x i : Operand} {len n : Nat} (ho : o.op = .indexAddr t x i) (ht : P.underlying t = some (.array len e)) (hn : szT P e = some n)
    {X I : Opd} (hx : VR s Z (ev X) (ρ x)) (hi : VR s Z (ev I) (ρ i)) {p : Prop} {d : D} (hq : qv ev H (.iada len n X I) = some (p, d)) (hp : p) : Does P s Z w ρ o d := by
  simp only [qv] at hq
  generalize ev X = ex at *
  generalize ev I = ei at *
  cases ei <;> simp only [reduceCtorEq] at hq
  rename_i k z
  have hi := hi.int_inv
  have key : ∀ b off, 0 ≤ z ∧ z < len → ρ x = .pointer (some ⟨b, off, none⟩) → VR s Z d (.pointer (some ⟨b, off + z.toNat * n, none⟩)) → Does P s Z w ρ o d := fun b off hz h1 h2 => ⟨_, h2, fun w' _ => by
    unfold execOp; rw [ho]
    simp only [Instr.indexAt, Sem.run_bind, run_underlying ht, Result.andThen_ok, hi, asIntOf, h1, Instr.sureAddr, Sem.run_pure, Sem.run_ite, run_sizeOf' hn, hz, and_self, if_true, add_mid']⟩
  cases ex <;> simp only [Option.some.injEq, Prod.mk.injEq, reduceCtorEq] at hq <;> obtain ⟨rfl, rfl⟩ := hq
  · obtain ⟨b, off, h1, h2⟩ := VR.pc_add hx (z.toNat * n); exact key b off hp h1 h2
  · obtain ⟨b, off, h1, h2⟩ := VR.ptr_add hx (z.toNat * n); exact key b off hp h1 h2
  · obtain ⟨b, off, h1, h2⟩ := VR.pel_add hx (z.toNat * n); exact key b off hp h1 h2

theorem VR.rows_inv {sz : Nat} {xs : List (List D)} {v : Value} (h : VR s Z (.rows sz xs) v) : ∃ a cap, v = .slice a xs.length cap ∧ xs.length ≤ cap ∧
    ((∀ i, i < xs.length → ∃ b off, a = some ⟨b, off, none⟩ ∧ VR s Z (.pc (xs.getD i [])) (.pointer (some ⟨b, off + i * sz, none⟩)))) := by
  cases h with
  | rnil _ a cap => exact ⟨a, cap, rfl, Nat.zero_le _, fun i hi => by simp at hi⟩
  | rows _ _ b off cap c hcap h1 h2 =>
    refine ⟨_, cap, rfl, hcap, fun i hi => ⟨b, off, rfl, ?_⟩⟩
    have hx : xs[i]? = some (xs.getD i []) := by rw [List.getD_eq_getElem?_getD, List.getElem?_eq_getElem hi]; rfl
    exact VT.pc _ b (off + i * sz) (fun j => c i j) (fun j d hd => (h1 i _ j d hx hd).2) (fun j d hd => h2 i _ j d hx hd)

theorem RowOk.slice {R : D → Value → Prop} {sz : Nat} {xs : List (List D)} {v : Value} (h : RowOk R w sz xs v) : ∃ a cap, v = .slice a xs.length cap ∧ xs.length ≤ cap ∧ (0 < xs.length → ∃ b, a = some ⟨b, 0, none⟩) := by
  rcases h.2.2 with ⟨rfl, a, rfl⟩ | ⟨g, cap, cur, e, rfl, _, hcap, _⟩
  · exact ⟨a, 0, rfl, by simp, fun h => by simp at h⟩
  · exact ⟨_, cap, rfl, hcap, fun _ => ⟨g, rfl⟩⟩

theorem does_iads {t e : TypeId} {x i : Operand} {n : Nat} (ho : o.op = .indexAddr t x i) (ht : P.underlying t = some (.slice e)) (hn : szT P e = some n) (hk : Know s Z H w)
    {X I : Opd} (hx : VR s Z (ev X) (ρ x)) (hi : VR s Z (ev I) (ρ i)) {p : Prop} {d : D} (hq : qv ev H (.iads n X I) = some (p, d)) (hp : p) : Does P s Z w ρ o d := by
  simp only [qv] at hq
  generalize ev X = ex at *
  generalize ev I = ei at *
  cases ei <;> simp only [reduceCtorEq] at hq
  rename_i k z
  have hi := hi.int_inv
  have key : ∀ b off len cap, 0 ≤ z ∧ z < (len : Nat) → ρ x = .slice (some ⟨b, off, none⟩) len cap → VR s Z d (.pointer (some ⟨b, off + z.toNat * n, none⟩)) → Does P s Z w ρ o d := fun b off len cap hz h1 h2 => ⟨_, h2, fun w' _ => by
    unfold execOp; rw [ho]
    simp only [Instr.indexAt, Sem.run_bind, run_underlying ht, Result.andThen_ok, hi, asIntOf, h1, Sem.run_pure, Sem.run_ite, run_sizeOf' hn, hz, and_self, if_true, add_mid']⟩
  have own : ∀ (R : D → Value → Prop) id sz xs, RowOk R w sz xs (s id) → VR s Z (.own id) (ρ x) → n = sz → 0 ≤ z ∧ z < (xs.length : Nat) → d = .pel id z.toNat n 0 → Does P s Z w ρ o d := fun R id sz xs hr hv hn' hz hd => by
    obtain ⟨hv1, _⟩ := hv
    obtain ⟨a, cap, h1, h2, h3⟩ := hr.slice
    obtain ⟨b, rfl⟩ := h3 (by omega)
    subst hd
    refine key b 0 xs.length cap hz (by rw [hv1, h1]) ⟨b, _, cap, h1, by simp⟩
  cases ex <;> simp only [reduceCtorEq] at hq
  · rename_i sz xs
    simp only [Option.some.injEq, Prod.mk.injEq] at hq
    obtain ⟨rfl, rfl⟩ := hq
    obtain ⟨rfl, hz⟩ := hp
    obtain ⟨a, cap, h1, h2, h3⟩ := hx.rows_inv
    obtain ⟨b, off, rfl, h4⟩ := h3 z.toNat (by omega)
    exact key b off _ cap hz h1 h4
  · rename_i id
    split at hq
    · rename_i sz xs hh
      simp only [Option.some.injEq, Prod.mk.injEq] at hq
      obtain ⟨rfl, rfl⟩ := hq
      exact own _ id sz xs (hk.ob _ _ hh) hx hp.1 hp.2 rfl
    · rename_i sz xs hh
      simp only [Option.some.injEq, Prod.mk.injEq] at hq
      obtain ⟨rfl, rfl⟩ := hq
      exact own _ id sz xs (hk.ob _ _ hh) hx hp.1 hp.2 rfl
    · cases hq

/-- a part of a struct or of an array by value -/
theorem part_sound {t : TypeId} {ag : Bool} {n off : Nat} {ds : List D} {vs : Array Value} {p : Prop} {d : D} (h1 : agT P t = some ag) (h2 : szT P t = some n) (hl : vs.size = ds.length)
    (hc : ∀ j x, ds[j]? = some x → VC s Z x (vs.getD j undef)) (ht : takeD ag n (ds.drop off) = some (p, d)) (hp : p) : ∃ u, VR s Z d u ∧ ∀ w', (part t vs off).run P w' = .ok u w' := by
  obtain ⟨td, hu, hrow⟩ := agT_some h1
  unfold takeD at ht
  cases ag with
  | true =>
    simp only [if_true, Option.some.injEq, Prod.mk.injEq, List.length_drop] at ht
    obtain ⟨rfl, rfl⟩ := ht
    refine ⟨.agg (vs.extract off (off + n)), ⟨_, rfl, by simp; omega, fun j x hx => ?_⟩, fun w' => ?_⟩
    · rw [List.getElem?_take] at hx
      split at hx
      · rename_i hj
        rw [List.getElem?_drop] at hx
        have := hc _ _ hx
        have hlt : off + j < vs.size := by rw [hl]; exact (List.getElem?_eq_some_iff.1 hx).1
        have e : (vs.extract off (off + n)).getD j undef = vs.getD (off + j) undef := by
          rw [Array.getD_eq_getD_getElem?, Array.getD_eq_getD_getElem?, Array.getElem?_extract, if_pos (by omega)]
        rw [e]; exact this
      · cases hx
    · simp only [part, Sem.run_bind, run_isAgg' hu, hrow, Result.andThen_ok, if_true, run_sizeOf' h2, Sem.run_pure]
  | false =>
    simp only [Bool.false_eq_true, if_false, Option.some.injEq, Prod.mk.injEq, List.length_drop] at ht
    obtain ⟨rfl, rfl⟩ := ht
    have hlt : off < ds.length := by omega
    have hx : ds[off]? = some ((ds.drop off).headD .any) := by
      rw [List.headD_eq_head?_getD, List.head?_drop, List.getElem?_eq_getElem hlt]; rfl
    refine ⟨vs.getD off undef, VR.of_vc (hc _ _ hx), fun w' => ?_⟩
    have hlt' : off < vs.size := by omega
    simp only [part, Sem.run_bind, run_isAgg' hu, hrow, Result.andThen_ok, Bool.false_eq_true, if_false, Array.getElem?_eq_getElem hlt', Sem.run_pure]
    simp [Array.getD, hlt']

theorem does_fld {t : TypeId} {x : Operand} {i : Nat} (ho : o.op = .field t x i) {fs : Array Field} {f : Field} {ag : Bool} {n : Nat} (ht : P.underlying t = some (.struct fs)) (hf : fs[i]? = some f) (ha : agT P f.type = some ag) (hn : szT P f.type = some n)
    {X : Opd} (hx : VR s Z (ev X) (ρ x)) {p : Prop} {d : D} (hq : qv ev H (.fld ag f.offset n X) = some (p, d)) (hp : p) : Does P s Z w ρ o d := by
  simp only [qv] at hq
  generalize ev X = e at *
  cases e <;> simp only [reduceCtorEq] at hq
  obtain ⟨vs, hv, hl, hc⟩ := hx.agg_inv
  obtain ⟨u, hu, hr⟩ := part_sound ha hn hl hc hq hp
  refine ⟨u, hu, fun w' _ => ?_⟩
  unfold execOp; rw [ho]
  simp only [Instr.field, Sem.run_bind, run_underlying ht, Result.andThen_ok, hf, hv, asAgg, Sem.run_pure, hr w']

theorem does_ida {t e : TypeId} {x i : Operand} {len n : Nat} {ag : Bool} (ho : o.op = .index t x i) (ht : P.underlying t = some (.array len e)) (ha : agT P e = some ag) (hn : szT P e = some n)
    {X I : Opd} (hx : VR s Z (ev X) (ρ x)) (hi : VR s Z (ev I) (ρ i)) {p : Prop} {d : D} (hq : qv ev H (.ida ag len n X I) = some (p, d)) (hp : p) : Does P s Z w ρ o d := by
  simp only [qv] at hq
  generalize ev X = ex at *
  generalize ev I = ei at *
  cases ei <;> simp only [reduceCtorEq] at hq
  rename_i k z
  have hi := hi.int_inv
  cases ex <;> simp only [reduceCtorEq] at hq
  split at hq <;> simp only [Option.some.injEq, Prod.mk.injEq, reduceCtorEq] at hq
  rename_i p' d' htk
  obtain ⟨rfl, rfl⟩ := hq
  obtain ⟨hz, hp'⟩ := hp
  obtain ⟨vs, hv, hl, hc⟩ := hx.agg_inv
  obtain ⟨u, hu, hr⟩ := part_sound ha hn hl hc htk hp'
  refine ⟨u, hu, fun w' _ => ?_⟩
  unfold execOp; rw [ho]
  simp only [Instr.index, Sem.run_bind, run_underlying ht, Result.andThen_ok, hi, asIntOf, hv, Sem.run_pure, Sem.run_ite, run_sizeOf' hn, hz, and_self, if_true, hr w']

theorem does_cst {c : Call} (ho : o.op = .call c) (hc : c.callee = .builtin .len) {x : Operand} {t : TypeId} (ha : c.args.toList = [x]) (hat : c.argTypes.toList = [t]) {n : Nat}
    (ht : (∃ e, P.underlying t = some (.array n e)) ∨ ∃ e r, P.underlying t = some (.pointer r) ∧ P.underlying r = some (.array n e)) : Does P s Z w ρ o (.int .i64 n) := by
  refine ⟨_, VR.int_mk _ _, fun w' _ => ?_⟩
  obtain ⟨cal, ars, ats⟩ := c
  obtain ⟨ars⟩ := ars
  obtain ⟨ats⟩ := ats
  simp only at ha hat hc
  subst ha hat hc
  unfold execOp; rw [ho]
  rcases ht with ⟨e, ht⟩ | ⟨e, r, ht, hr⟩
  · simp [resolve, invoke, builtin, Builtin.len_, run_underlying ht, goInt]
  · simp [resolve, invoke, builtin, Builtin.len_, run_underlying ht, run_underlying hr, goInt]

theorem does_len {c : Call} (ho : o.op = .call c) (hc : c.callee = .builtin .len) {x : Operand} {t e : TypeId} (ha : c.args.toList = [x]) (hat : c.argTypes.toList = [t]) (ht : P.underlying t = some (.slice e)) (hk : Know s Z H w)
    {X : Opd} (hx : VR s Z (ev X) (ρ x)) {p : Prop} {d : D} (hq : qv ev H (.len X) = some (p, d)) : Does P s Z w ρ o d := by
  obtain ⟨cal, ars, ats⟩ := c
  obtain ⟨ars⟩ := ars
  obtain ⟨ats⟩ := ats
  simp only at ha hat hc
  subst ha hat hc
  have key : ∀ a n cap, ρ x = .slice a n cap → d = .int .i64 n → Does P s Z w ρ o d := fun a n cap h1 h2 => ⟨_, h2 ▸ VR.int_mk _ _, fun w' _ => by
    unfold execOp; rw [ho]
    simp [resolve, invoke, builtin, Builtin.len_, run_underlying ht, goInt, h1]⟩
  simp only [qv] at hq
  generalize ev X = ex at *
  cases ex <;> simp only [reduceCtorEq] at hq
  · simp only [Option.some.injEq, Prod.mk.injEq] at hq
    generalize hv : ρ x = v at hx
    cases hx with | nil0 a => exact key a 0 0 hv hq.2.symm
  · simp only [Option.some.injEq, Prod.mk.injEq] at hq
    obtain ⟨a, cap, h1, _⟩ := hx.rows_inv
    exact key a _ cap h1 hq.2.symm
  · split at hq
    · rename_i sz xs hh
      simp only [Option.some.injEq, Prod.mk.injEq] at hq
      obtain ⟨a, cap, h1, _⟩ := RowOk.slice (hk.ob _ _ hh)
      exact key a _ cap (by rw [hx.1, h1]) hq.2.symm
    · rename_i sz xs hh
      simp only [Option.some.injEq, Prod.mk.injEq] at hq
      obtain ⟨a, cap, h1, _⟩ := RowOk.slice (hk.ob _ _ hh)
      exact key a _ cap (by rw [hx.1, h1]) hq.2.symm
    · cases hq

theorem does_mnx {c : Call} (mx : Bool) (ho : o.op = .call c) (hc : c.callee = .builtin (if mx then .max else .min)) {x y : Operand} (ha : c.args.toList = [x, y]) {X Y : Opd} (hx : VR s Z (ev X) (ρ x)) (hy : VR s Z (ev Y) (ρ y)) {p : Prop} {d : D}
    (hq : qv ev H (if mx then .mx X Y else .mn X Y) = some (p, d)) : Does P s Z w ρ o d := by
  obtain ⟨cal, ars, ats⟩ := c
  obtain ⟨ars⟩ := ars
  simp only at ha hc
  subst ha hc
  cases mx
  · simp only [qv, Bool.false_eq_true, if_false] at hq
    generalize ev X = ex at *
    generalize ev Y = ey at *
    cases ex <;> try (simp only [reduceCtorEq] at hq; done)
    cases ey <;> simp only [Option.some.injEq, Prod.mk.injEq, reduceCtorEq] at hq
    obtain ⟨_, rfl⟩ := hq
    refine ⟨_, VR.int_mk _ _, fun w' _ => ?_⟩
    unfold execOp; rw [ho]
    simp [resolve, invoke, builtin, Builtin.min_, Builtin.min2, hx.int_inv, hy.int_inv]
  · simp only [qv, if_true] at hq
    generalize ev X = ex at *
    generalize ev Y = ey at *
    cases ex <;> try (simp only [reduceCtorEq] at hq; done)
    cases ey <;> simp only [Option.some.injEq, Prod.mk.injEq, reduceCtorEq] at hq
    obtain ⟨_, rfl⟩ := hq
    refine ⟨_, VR.int_mk _ _, fun w' _ => ?_⟩
    unfold execOp; rw [ho]
    simp [resolve, invoke, builtin, Builtin.max_, Builtin.max2, hx.int_inv, hy.int_inv]
end
end Go.Proofs.Ytfkeddefajkobaa
