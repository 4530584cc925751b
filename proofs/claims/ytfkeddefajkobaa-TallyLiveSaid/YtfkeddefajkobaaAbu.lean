/- This text proves, for comparisons of structs, slices of slices, function values and structs that are built, that each computes what the small machine of the text 'Abs' says. It has no condition of its own. -/
import Derived.Test.YtfkeddefajkobaaAbt
set_option linter.unusedSimpArgs false
set_option linter.unusedVariables false
namespace Go.Proofs.Ytfkeddefajkobaa
open Go.RowKit
section
variable {P : Program} {s : Nat → Value} {Z : Cells} {H : List (Nat × Ob)} {w : World} {ρ : Operand → Value} {ev : Opd → D} {o : Oper}

/-- two cells of a kind, and whether they are equal -/
def Scal : Kd → Value → Value → Bool → Prop
  | .i, v, u, e => ∃ k a b, v = .int k a ∧ u = .int k b ∧ e = decide (a = b)
  | .b, v, u, e => ∃ a b, v = .bool a ∧ u = .bool b ∧ e = decide (a = b)
  | .s, v, u, e => ∃ a b, v = .string a ∧ u = .string b ∧ e = decide (a.data = b.data)
def Scals : List Kd → List Value → List Value → Bool → Prop
  | [], [], [], e => e = true
  | k :: ks, v :: vs, u :: us, e => ∃ a b, Scal k v u a ∧ Scals ks vs us b ∧ e = (a && b)
  | _, _, _, _ => False
theorem Scals.split : ∀ (ks ls : List Kd) (vs us : List Value) (e : Bool), Scals (ks ++ ls) vs us e → ∃ a b, Scals ks (vs.take ks.length) (us.take ks.length) a ∧ Scals ls (vs.drop ks.length) (us.drop ks.length) b ∧ e = (a && b)
  | [], ls, vs, us, e, h => ⟨true, e, rfl, h, by simp⟩
  | k :: ks, ls, v :: vs, u :: us, e, h => by
    obtain ⟨a, b, h1, h2, rfl⟩ := h
    obtain ⟨a', b', h3, h4, rfl⟩ := Scals.split ks ls vs us b h2
    exact ⟨a && a', b', ⟨a, a', h1, h3, rfl⟩, h4, by rw [Bool.and_assoc]⟩
  | _ :: _, _, [], _, _, h => h.elim
  | _ :: _, _, _ :: _, [], _, h => h.elim
theorem Scals.len : ∀ (ks : List Kd) (vs us : List Value) (e : Bool), Scals ks vs us e → vs.length = ks.length ∧ us.length = ks.length
  | [], [], [], _, _ => ⟨rfl, rfl⟩
  | _ :: ks, _ :: vs, _ :: us, _, ⟨_, b, _, h, _⟩ => by have := Scals.len ks vs us b h; simp [this]
  | [], _ :: _, _, _, h => h.elim
  | [], [], _ :: _, _, h => h.elim
  | _ :: _, [], _, _, h => h.elim
  | _ :: _, _ :: _, [], _, h => h.elim
theorem deqs_scals : ∀ (ks : List Kd) (ds es : List D) (vs us : List Value) (p : Prop) (b : Bool), deqs ks ds es = some (p, b) → p → vs.length = ds.length → us.length = es.length →
    (∀ j x, ds[j]? = some x → VC s Z x (vs.getD j undef)) → (∀ j x, es[j]? = some x → VC s Z x (us.getD j undef)) → Scals ks vs us b
  | [], [], [], [], [], p, b, h, _, _, _, _, _ => by simp only [deqs, Option.some.injEq, Prod.mk.injEq] at h; exact h.2.symm
  | k :: ks, d :: ds, e :: es, v :: vs, u :: us, p, b, h, hp, hl, hm, h1, h2 => by
    simp only [deqs] at h
    split at h <;> simp only [Option.some.injEq, Prod.mk.injEq, reduceCtorEq] at h
    rename_i p1 b1 p2 b2 hd hr
    obtain ⟨rfl, rfl⟩ := h
    refine ⟨b1, b2, ?_, deqs_scals ks ds es vs us p2 b2 hr hp.2 (by simpa using hl) (by simpa using hm) (fun j x hx => by simpa using h1 (j + 1) x (by simpa using hx)) (fun j x hx => by simpa using h2 (j + 1) x (by simpa using hx)), rfl⟩
    have g1 := h1 0 d rfl
    have g2 := h2 0 e rfl
    simp only [List.getD_cons_zero] at g1 g2
    cases k <;> cases d <;> simp only [deq, reduceCtorEq] at hd <;> cases e <;> simp only [Option.some.injEq, Prod.mk.injEq, reduceCtorEq] at hd
    · obtain ⟨rfl, rfl⟩ := hd
      cases g1; cases g2
      have := hp.1
      subst this
      exact ⟨_, _, _, rfl, rfl, rfl⟩
    · obtain ⟨_, rfl⟩ := hd
      cases g1; cases g2
      exact ⟨_, _, rfl, rfl, rfl⟩
    · obtain ⟨_, rfl⟩ := hd
      cases g1; cases g2
      exact ⟨_, _, rfl, rfl, rfl⟩
  | [], _ :: _, _, _, _, _, _, h, _, _, _, _, _ => by simp [deqs] at h
  | [], [], _ :: _, _, _, _, _, h, _, _, _, _, _ => by simp [deqs] at h
  | _ :: _, [], _, _, _, _, _, h, _, _, _, _, _ => by simp [deqs] at h
  | _ :: _, _ :: _, [], _, _, _, _, h, _, _, _, _, _ => by simp [deqs] at h
  | [], [], [], _ :: _, _, _, _, _, _, hl, _, _, _ => by simp at hl
  | [], [], [], [], _ :: _, _, _, _, _, _, hm, _, _ => by simp at hm
  | _ :: _, _ :: _, _ :: _, [], _, _, _, _, _, hl, _, _, _ => by simp at hl
  | _ :: _, _ :: _, _ :: _, _ :: _, [], _, _, _, _, _, hm, _, _ => by simp at hm

/-- a value of these cells -/
def packV (ag : Bool) (vs : List Value) : Value := if ag then .agg vs.toArray else vs.headD undef
theorem toList_beq (a b : ByteArray) : (a.toList == b.toList) = decide (a.data = b.data) := by
  rw [ByteArray.toList_eq, ByteArray.toList_eq]
  obtain ⟨⟨x⟩⟩ := a
  obtain ⟨⟨y⟩⟩ := b
  by_cases h : x = y
  · simp [h]
  · simp [h]
theorem part_pack {t : TypeId} {ag : Bool} {n off : Nat} (h1 : agT P t = some ag) (h2 : szT P t = some n) (vs : List Value) (h : off + n ≤ vs.length) (h0 : ag = false → n = 1) :
    (part t vs.toArray off).run P w = .ok (packV ag ((vs.drop off).take n)) w := by
  obtain ⟨td, hu, hrow⟩ := agT_some h1
  cases ag with
  | true =>
    simp only [part, Sem.run_bind, run_isAgg' hu, hrow, Result.andThen_ok, if_true, run_sizeOf' h2, Sem.run_pure, packV]
    simp
  | false =>
    obtain rfl := h0 rfl
    have hlt : off < vs.length := by omega
    simp only [part, Sem.run_bind, run_isAgg' hu, hrow, Result.andThen_ok, Bool.false_eq_true, if_false, packV]
    rw [List.getElem?_toArray, List.getElem?_eq_getElem hlt, List.drop_eq_getElem_cons hlt]
    rfl
theorem kinds_eq (P : Program) : ∀ (d : Nat) (t : TypeId) (ks : List Kd), kindsT P d t = some ks → ∃ ag, agT P t = some ag ∧ (ag = false → ks.length = 1) ∧ ∀ (m : Nat) (vs us : List Value) (e : Bool) (w : World), Scals ks vs us e →
    (Op.equalIn (m + d) t (packV ag vs) (packV ag us)).run P w = .ok e w
  | 0, _, _, h => by simp [kindsT] at h
  | d + 1, t, ks, h => by
    have one : ∀ (k : Kd) (vs us : List Value) (e : Bool), Scals [k] vs us e → ∃ v u, vs = [v] ∧ us = [u] ∧ Scal k v u e := fun k vs us e hs => by
      have hl := hs.len
      match vs, us, hl with
      | [v], [u], _ =>
        obtain ⟨a, b, h1, h2, rfl⟩ := hs
        have h2' : b = true := h2
        subst h2'
        exact ⟨v, u, rfl, rfl, by simpa using h1⟩
    have nag : ∀ td, P.underlying t = some td → td.isRow = false → agT P t = some false := fun td htd hr => by
      unfold agT; rw [htd]; cases td <;> first | rfl | (cases hr; done)
    simp only [kindsT] at h
    split at h
    · rename_i k ht
      cases h
      refine ⟨false, nag _ ht rfl, fun _ => rfl, fun m vs us e w hs => ?_⟩
      obtain ⟨v, u, rfl, rfl, k, a, b, rfl, rfl, rfl⟩ := one _ _ _ _ hs
      exact run_equalIn_int w (m + d) t k _ a b ht
    · rename_i ht
      cases h
      refine ⟨false, nag _ ht rfl, fun _ => rfl, fun m vs us e w hs => ?_⟩
      obtain ⟨v, u, rfl, rfl, a, b, rfl, rfl, rfl⟩ := one _ _ _ _ hs
      exact run_equalIn_bool w (m + d) t a b ht
    · rename_i ht
      cases h
      refine ⟨false, nag _ ht rfl, fun _ => rfl, fun m vs us e w hs => ?_⟩
      obtain ⟨v, u, rfl, rfl, a, b, rfl, rfl, rfl⟩ := one _ _ _ _ hs
      have := run_equalIn_string w (m + d) t a b ht
      rw [toList_beq] at this
      exact this
    · rename_i fs ht
      split at h
      · cases h
      rename_i hst
      have hag : agT P t = some true := by unfold agT; rw [ht]; rfl
      refine ⟨true, hag, (fun h => by cases h), fun m vs us e w hs => ?_⟩
      have hf : P.fieldsOf t = fs := by unfold Program.fieldsOf; rw [ht]
      have hr := run_equalIn_struct (P := P) w (m + d) t vs.toArray us.toArray (by rw [hf]; exact ht) (by simpa using hst)
      simp only [packV, if_true]
      rw [show m + (d + 1) = (m + d) + 1 from rfl, hr, hf]
      have key : ∀ (fl : List Field) (off : Nat) (ks : List Kd) (e : Bool), kindsF P (kindsT P d) off fl = some ks → off + ks.length = vs.length → off + ks.length = us.length → Scals ks (vs.drop off) (us.drop off) e →
          (Op.eqFields (m + d) vs.toArray us.toArray fl).run P w = .ok e w := by
        intro fl
        induction fl with
        | nil =>
          intro off ks e hk _ _ hs
          simp only [kindsF, Option.some.injEq] at hk
          subst hk
          have hl := hs.len
          have h1 : vs.drop off = [] := List.eq_nil_of_length_eq_zero (by simpa using hl.1)
          have h2 : us.drop off = [] := List.eq_nil_of_length_eq_zero (by simpa using hl.2)
          rw [h1, h2] at hs
          have : e = true := hs
          subst this
          simp [Op.eqFields]
        | cons f fl ih =>
          intro off ks e hk hlv hlu hs
          simp only [kindsF] at hk
          split at hk
          case isFalse => cases hk
          rename_i hnm
          obtain ⟨hnm, hoff⟩ := hnm
          split at hk
          case h_2 => cases hk
          rename_i k1 ag n hK ha hn
          split at hk
          case isFalse => cases hk
          rename_i hkl
          obtain ⟨ag', ha', h1, hrun⟩ := kinds_eq P d f.type k1 hK
          obtain rfl : ag' = ag := Option.some.inj (ha'.symm.trans ha)
          cases hkf : kindsF P (kindsT P d) (off + n) fl with
          | none => rw [hkf] at hk; cases hk
          | some k2 =>
            rw [hkf] at hk
            simp only [Option.map_some, Option.some.injEq] at hk
            subst hk
            obtain ⟨a, b, g1, g2, rfl⟩ := Scals.split k1 k2 _ _ _ hs
            rw [hkl] at g1 g2
            simp only [List.length_append, hkl] at hlv hlu
            have q1 := part_pack (P := P) (w := w) (off := off) ha hn vs (by omega) (fun h => by rw [← hkl]; exact h1 h)
            have q2 := part_pack (P := P) (w := w) (off := off) ha hn us (by omega) (fun h => by rw [← hkl]; exact h1 h)
            have q3 := hrun m _ _ a w g1
            rw [List.drop_drop, List.drop_drop] at g2
            have q4 := ih (off + n) k2 b hkf (by omega) (by omega) g2
            simp only [Op.eqFields, hnm, ne_eq, not_false_eq_true, if_true, hoff, Sem.run_bind, q1, q2, q3, Result.andThen_ok, Sem.run_ite]
            cases a
            · simp
            · simp [q4]
      have hl := hs.len
      exact key fs.toList 0 ks e h (by omega) (by omega) (by simpa using hs)
    · cases h

theorem does_eqa {t t' : TypeId} {x y : Operand} (ne : Bool) (ho : o.op = .binOp (if ne then .neq else .eql) t x y t') {ks : List Kd} (hks : kindsT P 9 t = some ks) (hst : ∃ fs, P.underlying t = some (.struct fs)) (hg : P.eqGuardType P.depth t = false)
    {X Y : Opd} (hx : VR s Z (ev X) (ρ x)) (hy : VR s Z (ev Y) (ρ y)) {p : Prop} {d : D}
    (hq : qv ev H (.eqa ne ks X Y) = some (p, d)) (hp : p) : Does P s Z w ρ o d := by
  simp only [qv] at hq
  generalize ev X = e at *
  generalize ev Y = f at *
  cases e <;> try (simp only [reduceCtorEq] at hq; done)
  cases f <;> try (simp only [reduceCtorEq] at hq; done)
  rename_i ds es
  simp only at hq
  split at hq <;> simp only [Option.some.injEq, Prod.mk.injEq, reduceCtorEq] at hq
  rename_i q b hd
  obtain ⟨rfl, rfl⟩ := hq
  obtain ⟨vs, hv, hl, hc⟩ := hx.agg_inv
  obtain ⟨us, hu, hm, hc'⟩ := hy.agg_inv
  obtain ⟨vs⟩ := vs
  obtain ⟨us⟩ := us
  have hsc := deqs_scals (s := s) (Z := Z) ks ds es vs us _ _ hd hp (by simpa using hl) (by simpa using hm) (fun j x hx => by simpa using hc j x hx) (fun j x hx => by simpa using hc' j x hx)
  obtain ⟨ag, hag, _, hrun⟩ := kinds_eq P 9 t ks hks
  obtain ⟨fs, hfs⟩ := hst
  have : ag = true := by
    unfold agT at hag; rw [hfs] at hag; simpa using hag.symm
  subst this
  refine ⟨_, VR.bool_mk _, fun w' _ => ?_⟩
  have hr := hrun 9991 vs us b w' hsc
  simp only [packV, if_true] at hr
  unfold execOp; rw [ho]
  have hgd := fun op => run_eqGuard_agg (P := P) w' op t x y vs.toArray us.toArray hg
  cases ne
  · simp [hv, hu, hgd, run_eql_struct, hr]
  · simp [hv, hu, hgd, run_neq_struct, hr]

theorem does_mkfn {f : FuncId} {l cs : Array Operand} (ho : o.op = .makeFunc (.func f) l cs) (hl : l.size = 0) {ys : List Opd} (hys : ys.length = cs.size) (hev : ∀ (j : Nat) (y : Opd), ys[j]? = some y → ∃ x, cs[j]? = some x ∧ VR s Z (ev y) (ρ x)) {p : Prop} {d : D}
    (hq : qv ev H (.mkfn f ys) = some (p, d)) : Does P s Z w ρ o d := by
  simp only [qv] at hq
  split at hq <;> simp only [Option.some.injEq, Prod.mk.injEq, reduceCtorEq] at hq
  rename_i hall
  obtain ⟨_, rfl⟩ := hq
  have hl' : l = #[] := by apply Array.eq_empty_of_size_eq_zero hl
  subst hl'
  refine ⟨.func (.func f) #[] (cs.map ρ), VT.fn f _ _ (by simp [hys]) (fun j d hd => ?_), fun w' _ => ?_⟩
  · rw [List.getElem?_map] at hd
    cases hy : ys[j]? with
    | none => rw [hy] at hd; cases hd
    | some y =>
      rw [hy] at hd
      simp only [Option.map_some, Option.some.injEq] at hd
      subst hd
      obtain ⟨x, hx, hv⟩ := hev j y hy
      have ht : isT (ev y) = true := List.all_eq_true.1 hall _ (List.mem_map.2 ⟨y, List.mem_of_getElem? hy, rfl⟩)
      have : (cs.map ρ).getD j undef = ρ x := by rw [Array.getD_eq_getD_getElem?, Array.getElem?_map, hx]; rfl
      rw [this]
      exact VR.vt hv ht (fun h => by rw [h] at ht; cases ht)
  · unfold execOp; rw [ho]
    simp [Instr.makeFunc]
end
end Go.Proofs.Ytfkeddefajkobaa
