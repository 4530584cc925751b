/- This text proves, for slices of slices and for structs that are built, that each computes what the small machine of the text 'Abs' says, and puts all kinds together. It has no condition of its own. -/
import Derived.Test.YtfkeddefajkobaaAbu
set_option linter.unusedSimpArgs false
set_option linter.unusedVariables false
namespace Go.Proofs.Ytfkeddefajkobaa
open Go.RowKit
section
variable {P : Program} {s : Nat → Value} {Z : Cells} {H : List (Nat × Ob)} {w : World} {ρ : Operand → Value} {ev : Opd → D} {o : Oper}

theorem sliceT_some {t e : TypeId} (h : sliceT P t = some e) : P.underlying t = some (.slice e) := by
  unfold sliceT at h
  split at h
  · rename_i e' he; cases h; exact he
  · cases h
theorem bound_run {x : Option Operand} {X : Option Opd} (hev : ∀ x y, opdC x = some y → VR s Z (ev y) (ρ x)) (hX : optC x = some X) {dflt : Nat} {p : Prop} {n : Nat} (hb : boundD X ev dflt = some (p, n)) (hp : p) :
    (x = none ∧ X = none ∧ n = dflt) ∨ ∃ y k z, x = some y ∧ X.isSome = true ∧ ρ y = .int k z ∧ 0 ≤ z ∧ n = z.toNat := by
  cases x with
  | none =>
    simp only [optC, Option.some.injEq] at hX
    subst hX
    simp only [boundD, Option.some.injEq, Prod.mk.injEq] at hb
    exact .inl ⟨rfl, rfl, hb.2.symm⟩
  | some y =>
    simp only [optC] at hX
    cases hy : opdC y with
    | none => rw [hy] at hX; cases hX
    | some Y =>
      rw [hy] at hX
      simp only [Option.map_some, Option.some.injEq] at hX
      subst hX
      have hv := hev y Y hy
      simp only [boundD] at hb
      generalize ev Y = e at *
      cases e <;> simp only [Option.some.injEq, Prod.mk.injEq, reduceCtorEq] at hb
      obtain ⟨rfl, rfl⟩ := hb
      exact .inr ⟨y, _, _, rfl, rfl, hv.int_inv, hp, rfl⟩
theorem run_bounds {len cap l h m : Nat} {lo hi mx : Option Operand} (hlo : (lo = none ∧ l = 0) ∨ ∃ y k z, lo = some y ∧ ρ y = .int k z ∧ 0 ≤ z ∧ l = z.toNat) (hhi : (hi = none ∧ h = len) ∨ ∃ y k z, hi = some y ∧ ρ y = .int k z ∧ 0 ≤ z ∧ h = z.toNat)
    (hmx : (mx = none ∧ m = cap) ∨ ∃ y k z, mx = some y ∧ ρ y = .int k z ∧ 0 ≤ z ∧ m = z.toNat) (hmh : mx.isSome = true → hi.isSome = true) (h1 : l ≤ h) (h2 : h ≤ m) (h3 : m ≤ cap) (w : World) :
    (Instr.sliceBounds true len cap (lo.map ρ) (hi.map ρ) (mx.map ρ)).run P w = .ok (l, h, m) w := by
  rcases hmx with ⟨rfl, rfl⟩ | ⟨y3, k3, z3, rfl, e3, q3, rfl⟩
  · rcases hhi with ⟨rfl, rfl⟩ | ⟨y2, k2, z2, rfl, e2, q2, rfl⟩
    · rcases hlo with ⟨rfl, rfl⟩ | ⟨y1, k1, z1, rfl, e1, q1, rfl⟩
      · simp [Instr.sliceBounds]
      · have r1 := fun c => run_sliceBound (P := P) w k1 z1 h c q1 (by omega)
        simp [Instr.sliceBounds, e1, r1]
    · have r2 := fun c => run_sliceBound (P := P) w k2 z2 m c q2 (by omega)
      rcases hlo with ⟨rfl, rfl⟩ | ⟨y1, k1, z1, rfl, e1, q1, rfl⟩
      · simp [Instr.sliceBounds, e2, r2]
      · have r1 := fun c => run_sliceBound (P := P) w k1 z1 z2.toNat c q1 (by omega)
        simp [Instr.sliceBounds, e1, r1, e2, r2]
  · rcases hhi with ⟨rfl, rfl⟩ | ⟨y2, k2, z2, rfl, e2, q2, rfl⟩
    · simp at hmh
    · have r3 := fun c => run_sliceBound (P := P) w k3 z3 cap c q3 (by omega)
      have r2 := fun c => run_sliceBound (P := P) w k2 z2 z3.toNat c q2 (by omega)
      rcases hlo with ⟨rfl, rfl⟩ | ⟨y1, k1, z1, rfl, e1, q1, rfl⟩
      · simp [Instr.sliceBounds, e2, r2, e3, r3]
      · have r1 := fun c => run_sliceBound (P := P) w k1 z1 z2.toNat c q1 (by omega)
        simp [Instr.sliceBounds, e1, r1, e2, r2, e3, r3]

theorem does_slc {t e : TypeId} {x : Operand} {lo hi mx : Option Operand} {n : Nat} (ho : o.op = .slice t x lo hi mx) (ht : sliceT P t = some e) (hn : szT P e = some n) (hev : ∀ x y, opdC x = some y → VR s Z (ev y) (ρ x))
    {X : Opd} {LO HI MX : Option Opd} (hx : VR s Z (ev X) (ρ x)) (hlo : optC lo = some LO) (hhi : optC hi = some HI) (hmx : optC mx = some MX) (hmh : mx.isSome = true → hi.isSome = true) {p : Prop} {d : D}
    (hq : qv ev H (.slc n X LO HI MX) = some (p, d)) (hp : p) : Does P s Z w ρ o d := by
  have hu := sliceT_some ht
  have start : ∀ (a : Option Addr) (len cap l h m : Nat) (w' : World), ρ x = .slice a len cap → (Instr.sliceBounds true len cap (lo.map ρ) (hi.map ρ) (mx.map ρ)).run P w' = .ok (l, h, m) w' →
      (execOp ρ o).run P w' = .ok (.value (.slice (if m = l then a else a.map (·.add (l * n))) (h - l) (m - l))) w' := fun a len cap l h m w' h1 h2 => by
    unfold execOp; rw [ho]
    simp only [Instr.sliceAt, Instr.slice, Sem.run_bind, run_underlying hu, Result.andThen_ok, h1, h2, run_sizeOf' hn, Sem.run_pure]
  simp only [qv] at hq
  generalize hX : ev X = ex at *
  cases ex <;> simp only [reduceCtorEq] at hq
  rename_i sz xs
  split at hq
  case h_2 => cases hq
  rename_i p1 m p2 l p3 h hb1 hb2 hb3
  have hmxs : MX.isSome = mx.isSome := by
    cases mx with
    | none => simp only [optC, Option.some.injEq] at hmx; subst hmx; rfl
    | some y =>
      simp only [optC] at hmx
      cases hy : opdC y with
      | none => rw [hy] at hmx; cases hmx
      | some Y => rw [hy] at hmx; simp only [Option.map_some, Option.some.injEq] at hmx; subst hmx; rfl
  generalize hv : ρ x = v at hx
  split at hq <;> simp only [Option.some.injEq, Prod.mk.injEq] at hq <;> obtain ⟨rfl, rfl⟩ := hq
  · rename_i hm0
    simp only [Bool.and_eq_true, beq_iff_eq] at hm0
    obtain ⟨hm0, rfl⟩ := hm0
    obtain ⟨⟨hp1, hp2, hp3⟩, rfl, rfl⟩ := hp
    have g1 := bound_run hev hmx hb1 hp1
    have g2 := bound_run hev hlo hb2 hp2
    have g3 := bound_run hev hhi hb3 hp3
    have g1' : (mx = none ∧ 0 = (0 : Nat)) ∨ ∃ y k z, mx = some y ∧ ρ y = .int k z ∧ 0 ≤ z ∧ 0 = z.toNat := by
      rcases g1 with ⟨h1, h2, _⟩ | ⟨y, k, z, h1, _, h2, h3, h4⟩
      · rw [h2] at hm0; cases hm0
      · exact .inr ⟨y, k, z, h1, h2, h3, h4⟩
    have g2' : (lo = none ∧ 0 = (0 : Nat)) ∨ ∃ y k z, lo = some y ∧ ρ y = .int k z ∧ 0 ≤ z ∧ 0 = z.toNat := by
      rcases g2 with ⟨h1, h2, h3⟩ | ⟨y, k, z, h1, _, h2, h3, h4⟩
      · exact .inl ⟨h1, h3⟩
      · exact .inr ⟨y, k, z, h1, h2, h3, h4⟩
    have hxx := hx
    obtain ⟨a, cap, rfl, hcap, _⟩ := VR.rows_inv hxx
    have g3' : (hi = none ∧ 0 = xs.length) ∨ ∃ y k z, hi = some y ∧ ρ y = .int k z ∧ 0 ≤ z ∧ 0 = z.toNat := by
      rcases g3 with ⟨h1, h2, h3⟩ | ⟨y, k, z, h1, _, h2, h3, h4⟩
      · exact .inl ⟨h1, h3⟩
      · exact .inr ⟨y, k, z, h1, h2, h3, h4⟩
    have g1'' : (mx = none ∧ 0 = cap) ∨ ∃ y k z, mx = some y ∧ ρ y = .int k z ∧ 0 ≤ z ∧ 0 = z.toNat := by
      rcases g1' with ⟨h1, _⟩ | h1
      · rw [hmxs, h1] at hm0; cases hm0
      · exact .inr h1
    refine ⟨.slice a 0 0, VT.nil0 a, fun w' _ => ?_⟩
    have := start a _ cap 0 0 0 w' hv (run_bounds g2' g3' g1'' hmh (Nat.le_refl _) (Nat.le_refl _) (Nat.zero_le _) w')
    simpa using this
  · obtain ⟨⟨hp1, hp2, hp3⟩, rfl, hlh, hhm, hml⟩ := hp
    have g1 := bound_run hev hmx hb1 hp1
    have g2 := bound_run hev hlo hb2 hp2
    have g3 := bound_run hev hhi hb3 hp3
    have g2' : (lo = none ∧ l = 0) ∨ ∃ y k z, lo = some y ∧ ρ y = .int k z ∧ 0 ≤ z ∧ l = z.toNat := by
      rcases g2 with ⟨h1, h2, h3⟩ | ⟨y, k, z, h1, _, h2, h3, h4⟩
      · exact .inl ⟨h1, h3⟩
      · exact .inr ⟨y, k, z, h1, h2, h3, h4⟩
    have g3' : (hi = none ∧ h = xs.length) ∨ ∃ y k z, hi = some y ∧ ρ y = .int k z ∧ 0 ≤ z ∧ h = z.toNat := by
      rcases g3 with ⟨h1, h2, h3⟩ | ⟨y, k, z, h1, _, h2, h3, h4⟩
      · exact .inl ⟨h1, h3⟩
      · exact .inr ⟨y, k, z, h1, h2, h3, h4⟩
    -- the bound above: what was given, or the capacity
    have bounds : ∀ cap, xs.length ≤ cap → ∃ M, h ≤ M ∧ M ≤ cap ∧ ∀ w', (Instr.sliceBounds true xs.length cap (lo.map ρ) (hi.map ρ) (mx.map ρ)).run P w' = .ok (l, h, M) w' := fun cap hcap => by
      rcases g1 with ⟨h1, h2, h3⟩ | ⟨y, k, z, h1, _, h2, h3, h4⟩
      · exact ⟨cap, by omega, Nat.le_refl _, run_bounds g2' g3' (.inl ⟨h1, rfl⟩) hmh hlh (by omega) (Nat.le_refl _)⟩
      · exact ⟨m, hhm, by omega, run_bounds g2' g3' (.inr ⟨y, k, z, h1, h2, h3, h4⟩) hmh hlh hhm (by omega)⟩
    have hxx := hx
    obtain ⟨a, cap, rfl, hcap, _⟩ := VR.rows_inv hxx
    obtain ⟨M, hM1, hM2, hrun⟩ := bounds cap hcap
    refine ⟨_, ?_, fun w' _ => start a _ cap l h M w' hv (hrun w')⟩
    have hlen : ((xs.take h).drop l).length = h - l := by rw [List.length_drop, List.length_take]; omega
    cases hx with
    | rnil _ a cap =>
      simp only [List.length_nil] at hml
      have : l = 0 := by omega
      subst this
      have : h = 0 := by omega
      subst this
      simp only [List.take_nil, List.drop_nil, Nat.sub_self, Nat.sub_zero]
      exact VT.rnil n _ _
    | rows _ _ b off cap c hc h1 h2 =>
      by_cases hMl : M = l
      · rw [if_pos hMl]
        have hh : h = l := by omega
        have e1 : (xs.take h).drop l = [] := List.eq_nil_of_length_eq_zero (by omega)
        rw [e1, show h - l = ([] : List (List D)).length by simp; omega]
        exact VT.rows n [] b off (M - l) c (by simp) (fun i row j d hi => by simp at hi) (fun i row j d hi => by simp at hi)
      · rw [if_neg hMl, Option.map_some, add_mid', show h - l = ((xs.take h).drop l).length from hlen.symm]
        have hget : ∀ (i : Nat) (row : List D), ((xs.take h).drop l)[i]? = some row → xs[l + i]? = some row := fun i row hi => by
          rw [List.getElem?_drop, List.getElem?_take] at hi
          split at hi
          · exact hi
          · cases hi
        refine VT.rows n _ b (off + l * n) (M - l) (fun i j => c (l + i) j) (by omega) (fun i row j d hi hj => ?_) (fun i row j d hi hj => h2 _ row j d (hget i row hi) hj)
        have := h1 _ row j d (hget i row hi) hj
        rwa [show off + (l + i) * n + j = off + l * n + i * n + j by rw [Nat.add_mul]; omega] at this

/-! ### Structs that are built -/
theorem VR.cells {d : D} {v : Value} (h : VR s Z d v) (h0 : 0 < d.cells.length) : v.cells.size = d.cells.length ∧ ∀ j x, d.cells[j]? = some x → VC s Z x (v.cells.getD j undef) := by
  have one : VC s Z d v → d.cells = [d] → v.cells.size = d.cells.length ∧ ∀ j x, d.cells[j]? = some x → VC s Z x (v.cells.getD j undef) := fun hc hd => by
    have h1 := hc.one
    have hcs : v.cells = #[v] := by cases v <;> first | rfl | (cases h1; done)
    rw [hcs, hd]
    refine ⟨rfl, fun j x hx => ?_⟩
    cases j with
    | zero => simp at hx; subst hx; exact hc
    | succ j => simp at hx
  cases d with
  | agg ds =>
    obtain ⟨vs, rfl, hl, hc⟩ := h
    exact ⟨hl, hc⟩
  | any => simp [D.cells] at h0
  | tup _ => simp [D.cells] at h0
  | opt _ _ => simp [D.cells] at h0
  | _ => exact one h rfl

theorem splice_fold (off : Nat) : ∀ (l : List Value) (k : Nat) (cs : Array Value), off + k + l.length ≤ cs.size →
    ((l.zipIdx k).foldl (fun cs (p : Value × Nat) => cs.setIfInBounds (off + p.2) p.1) cs).size = cs.size ∧
    ∀ j, ((l.zipIdx k).foldl (fun cs (p : Value × Nat) => cs.setIfInBounds (off + p.2) p.1) cs).getD j undef = if off + k ≤ j ∧ j < off + k + l.length then l.getD (j - off - k) undef else cs.getD j undef
  | [], k, cs, _ => ⟨rfl, fun j => by rw [if_neg (by simp)]; rfl⟩
  | v :: l, k, cs, h => by
    simp only [List.length_cons] at h
    have ih := splice_fold off l (k + 1) (cs.setIfInBounds (off + k) v) (by simp; omega)
    simp only [List.zipIdx_cons, List.foldl_cons]
    refine ⟨by rw [ih.1]; simp, fun j => ?_⟩
    rw [ih.2 j]
    by_cases h1 : off + (k + 1) ≤ j ∧ j < off + (k + 1) + l.length
    · rw [if_pos h1, if_pos (by simp only [List.length_cons]; omega), show j - off - k = (j - off - (k + 1)) + 1 by omega, List.getD_cons_succ]
    · rw [if_neg h1]
      by_cases h2 : j = off + k
      · subst h2
        rw [if_pos (by simp only [List.length_cons]; omega), show off + k - off - k = 0 by omega, List.getD_cons_zero]
        have : off + k < cs.size := by omega
        simp [Array.getD, this]
      · rw [if_neg (by simp only [List.length_cons]; omega)]
        rw [Array.getD_eq_getD_getElem?, Array.getD_eq_getD_getElem?, Array.getElem?_setIfInBounds, if_neg (fun h => h2 h.symm)]

theorem fill_sound {place : Nat → Option (Nat × Nat)} : ∀ (ps : List (Nat × Value)) (qs : List (Nat × Nat × D)) (cells : Array Value) (z ds : List D), ps.length = qs.length →
    (∀ (j : Nat) (p : Nat × Value) (q : Nat × Nat × D), ps[j]? = some p → qs[j]? = some q → place p.1 = some (q.1, q.2.1) ∧ VR s Z q.2.2 p.2) →
    cells.size = z.length → (∀ j x, z[j]? = some x → VC s Z x (cells.getD j undef)) → fillD z qs = some ds →
    ∃ cs, Instr.fill place cells ps = some cs ∧ cs.size = ds.length ∧ ∀ j x, ds[j]? = some x → VC s Z x (cs.getD j undef)
  | [], [], cells, z, ds, _, _, hl, hc, hf => by
    simp only [fillD, Option.some.injEq] at hf
    subst hf
    exact ⟨cells, rfl, hl, hc⟩
  | (i, v) :: ps, (off, n, d) :: qs, cells, z, ds, hlen, hpq, hl, hc, hf => by
    simp only [fillD] at hf
    split at hf
    case isFalse => cases hf
    rename_i hcond
    obtain ⟨h1, h2, h3⟩ := hcond
    obtain ⟨hpl, hv⟩ := hpq 0 (i, v) (off, n, d) rfl rfl
    simp only at hpl hv
    obtain ⟨hcs, hcc⟩ := hv.cells (by omega)
    have hsp := splice_fold off v.cells.toList 0 cells (by simp; omega)
    simp only [Array.length_toList, Nat.add_zero] at hsp
    have e : v.cells.zipIdx.foldl (fun cs (p : Value × Nat) => cs.setIfInBounds (off + p.2) p.1) cells = (v.cells.toList.zipIdx 0).foldl (fun cs (p : Value × Nat) => cs.setIfInBounds (off + p.2) p.1) cells := by
      rw [← Array.foldl_toList, Array.toList_zipIdx]
    have ih := fill_sound (place := place) ps qs (v.cells.zipIdx.foldl (fun cs (p : Value × Nat) => cs.setIfInBounds (off + p.2) p.1) cells) (z.take off ++ d.cells ++ z.drop (off + n)) ds (by simpa using hlen)
      (fun j p q hp hq => hpq (j + 1) p q (by simpa using hp) (by simpa using hq)) (by rw [e, hsp.1]; simp [h1, List.length_take]; omega) (fun j x hx => ?_) hf
    · obtain ⟨cs, hcs1, hcs2⟩ := ih
      refine ⟨cs, ?_, hcs2⟩
      simp only [Instr.fill, hpl]
      rw [if_neg (by simp; omega)]
      exact hcs1
    · rw [e, hsp.2 j]
      rw [List.append_assoc] at hx
      by_cases hj : off ≤ j ∧ j < off + v.cells.size
      · rw [if_pos hj, show j - off - 0 = j - off by omega]
        rw [List.getElem?_append_right (by simp; omega), List.length_take, Nat.min_eq_left (by omega), List.getElem?_append_left (by omega)] at hx
        have := hcc _ _ hx
        simpa [Array.getD_eq_getD_getElem?, List.getD_eq_getElem?_getD] using this
      · rw [if_neg hj]
        refine hc j x ?_
        by_cases hj2 : j < off
        · rw [List.getElem?_append_left (by simp; omega), List.getElem?_take, if_pos hj2] at hx; exact hx
        · rw [List.getElem?_append_right (by simp; omega), List.length_take, Nat.min_eq_left (by omega), List.getElem?_append_right (by omega), List.getElem?_drop] at hx
          rwa [show off + n + (j - off - d.cells.length) = j by omega] at hx
  | [], _ :: _, _, _, _, h, _, _, _, _ => by simp at h
  | _ :: _, [], _, _, _, h, _, _, _, _ => by simp at h

theorem cellD_sound {v : Value} {d : D} (h : cellD v = some d) : VC s Z d v := by
  unfold cellD at h
  split at h <;> (try simp only [Option.some.injEq, reduceCtorEq] at h) <;> (try subst h)
  · exact VT.int _ _
  · exact VT.bool _
  · exact VT.str _
  · exact VT.nilp
  · exact VT.nil0 _
  · split at h
    · rename_i f l r hlr
      simp only [Option.some.injEq] at h
      subst h
      obtain ⟨h1, h2⟩ := hlr
      have e1 : l = #[] := Array.eq_empty_of_size_eq_zero h1
      have e2 : r = #[] := Array.eq_empty_of_size_eq_zero h2
      subst e1 e2
      exact VT.fn _ [] #[] rfl (fun j d hd => by simp at hd)
    · cases h
theorem cellsD_sound : ∀ (vs : List Value) (ds : List D), cellsD vs = some ds → vs.length = ds.length ∧ ∀ j x, ds[j]? = some x → VC s Z x (vs.getD j undef)
  | [], ds, h => by simp only [cellsD, Option.some.injEq] at h; subst h; exact ⟨rfl, fun j x hx => by simp at hx⟩
  | v :: vs, ds, h => by
    simp only [cellsD] at h
    split at h <;> simp only [Option.some.injEq, reduceCtorEq] at h
    rename_i d ds' h1 h2
    subst h
    obtain ⟨g1, g2⟩ := cellsD_sound vs ds' h2
    refine ⟨by simp [g1], fun j x hx => ?_⟩
    cases j with
    | zero => simp at hx; subst hx; exact cellD_sound h1
    | succ j => simpa using g2 j x (by simpa using hx)
theorem zeroT_sound {t : TypeId} {z : List D} (h : zeroT P t = some z) : ∃ i v, P.info? t = some i ∧ i.zero = some v ∧ i.size = z.length ∧ v.cells.size = z.length ∧ ∀ j x, z[j]? = some x → VC s Z x (v.cells.getD j undef) := by
  unfold zeroT at h
  split at h
  case h_2 => cases h
  rename_i i hi
  split at h
  case h_2 => cases h
  rename_i v hv
  split at h
  case isFalse => cases h
  rename_i hs
  obtain ⟨h1, h2⟩ := cellsD_sound (s := s) (Z := Z) _ _ h
  simp only [Array.length_toList] at h1
  exact ⟨i, v, hi, hv, by omega, h1, fun j x hx => by simpa [Array.getD_eq_getD_getElem?, List.getD_eq_getElem?_getD] using h2 j x hx⟩

theorem partsC_sound {t : TypeId} (hev : ∀ x y, opdC x = some y → VR s Z (ev y) (ρ x)) : ∀ (ps : List (Nat × Operand)) (qs : List (Nat × Nat × Opd)), partsC P t ps = some qs →
    ps.length = qs.length ∧ ∀ (j : Nat) (p : Nat × Operand) (q : Nat × Nat × Opd), ps[j]? = some p → qs[j]? = some q → placeT P t p.1 = some (q.1, q.2.1) ∧ VR s Z (ev q.2.2) (ρ p.2)
  | [], qs, h => by simp only [partsC, Option.some.injEq] at h; subst h; exact ⟨rfl, fun j p q hp => by simp at hp⟩
  | (i, x) :: ps, qs, h => by
    simp only [partsC] at h
    split at h <;> simp only [Option.some.injEq, reduceCtorEq] at h
    rename_i off n y ys h1 h2 h3
    subst h
    obtain ⟨g1, g2⟩ := partsC_sound hev ps ys h3
    refine ⟨by simp [g1], fun j p q hp hq => ?_⟩
    cases j with
    | zero => simp at hp hq; subst hp hq; exact ⟨h1, hev x y h2⟩
    | succ j => exact g2 j p q (by simpa using hp) (by simpa using hq)
theorem run_places' (fs : List Field) (h : ∀ f ∈ fs, (szT P f.type).isSome = true) (w : World) : (fs.mapM (m := Sem) fun f => do pure (f.offset, ← sizeOf f.type)).run P w = .ok (fs.map fun f => (f.offset, (szT P f.type).getD 0)) w := by
  induction fs with
  | nil => rfl
  | cons f fs ih =>
    obtain ⟨n, hn⟩ := Option.isSome_iff_exists.1 (h f (by simp))
    simp only [List.mapM_cons, Sem.run_bind, run_sizeOf' hn, Result.andThen_ok, Sem.run_pure, ih fun g hg => h g (by simp [hg]), List.map_cons, hn, Option.getD_some]

theorem does_build {t : TypeId} {ps : Array (Nat × Operand)} (ho : o.op = .build t ps) (hev : ∀ x y, opdC x = some y → VR s Z (ev y) (ρ x)) {z : List D} {qs : List (Nat × Nat × Opd)} (hz : zeroT P t = some z) (hps : partsC P t ps.toList = some qs)
    (ht : (∃ fs, P.underlying t = some (.struct fs) ∧ ∀ f ∈ fs.toList, (szT P f.type).isSome = true) ∨ ∃ n e m, P.underlying t = some (.array n e) ∧ szT P e = some m) {p : Prop} {d : D}
    (hq : qv ev H (.build z qs) = some (p, d)) : Does P s Z w ρ o d := by
  simp only [qv] at hq
  split at hq <;> simp only [Option.some.injEq, Prod.mk.injEq, reduceCtorEq] at hq
  rename_i ds hds
  obtain ⟨_, rfl⟩ := hq
  obtain ⟨i, v, hi, hv, hsz, hvc, hcc⟩ := zeroT_sound (s := s) (Z := Z) hz
  obtain ⟨hl, hpq⟩ := partsC_sound (P := P) (t := t) hev ps.toList qs hps
  have fill : ∀ place : Nat → Option (Nat × Nat), (∀ i r, placeT P t i = some r → place i = some r) → ∃ cs, Instr.fill place v.cells (ps.toList.map fun q => (q.1, ρ q.2)) = some cs ∧ cs.size = ds.length ∧ ∀ j x, ds[j]? = some x → VC s Z x (cs.getD j undef) := fun place hpl =>
    fill_sound (s := s) (Z := Z) (place := place) (ps.toList.map fun q => (q.1, ρ q.2)) (qs.map fun q => (q.1, q.2.1, ev q.2.2)) v.cells z ds (by simpa using hl)
    (fun j p q hp hq => by
      rw [List.getElem?_map] at hp hq
      cases hp' : ps.toList[j]? with
      | none => rw [hp'] at hp; cases hp
      | some p' =>
        cases hq' : qs[j]? with
        | none => rw [hq'] at hq; cases hq
        | some q' =>
          rw [hp'] at hp; rw [hq'] at hq
          simp only [Option.map_some, Option.some.injEq] at hp hq
          subst hp hq
          obtain ⟨g1, g2⟩ := hpq j p' q' hp' hq'
          exact ⟨hpl _ _ g1, g2⟩) hvc hcc hds
  have hpl : (ps.map fun q => (q.1, ρ q.2)).toList = ps.toList.map fun q => (q.1, ρ q.2) := by simp
  rcases ht with ⟨fs, ht, hfs⟩ | ⟨n, e, m, ht, hm⟩
  · obtain ⟨cs, hcs, hcl, hcv⟩ := fill (fun i => (fs.toList.map fun f => (f.offset, (szT P f.type).getD 0)).toArray[i]?) fun i r hr => by
      unfold placeT at hr
      rw [ht] at hr
      simp only at hr
      split at hr
      case isFalse => cases hr
      split at hr
      case h_2 => cases hr
      rename_i f hf
      cases hs : szT P f.type with
      | none => rw [hs] at hr; cases hr
      | some n =>
        rw [hs] at hr
        simp only [Option.map_some, Option.some.injEq] at hr
        have : fs.toList[i]? = some f := by simpa using hf
        rw [List.getElem?_toArray, List.getElem?_map, this, Option.map_some, hs, ← hr]; rfl
    refine ⟨.agg cs, ⟨cs, rfl, hcl, hcv⟩, fun w' _ => ?_⟩
    unfold execOp; rw [ho]
    have hzr : (zeroValue t).run P w' = .ok v w' := by simp [zeroValue, typeInfo, hi, hv]
    have hp : (fs.mapM (m := Sem) fun f => do pure (f.offset, ← sizeOf f.type)).run P w' = .ok (fs.toList.map fun f => (f.offset, (szT P f.type).getD 0)).toArray w' := by
      rw [Array.mapM_eq_mapM_toList, Sem.run_map, run_places' fs.toList hfs, Result.andThen_ok]
    simp only [Instr.build, Sem.run_bind, hzr, run_underlying ht, Result.andThen_ok, hp, hpl, hcs, Sem.run_pure]
  · obtain ⟨cs, hcs, hcl, hcv⟩ := fill (fun i => some (i * m, m)) fun i r hr => by
      unfold placeT at hr
      rw [ht] at hr
      simp only [hm, Option.map_some] at hr
      exact hr
    refine ⟨.agg cs, ⟨cs, rfl, hcl, hcv⟩, fun w' _ => ?_⟩
    unfold execOp; rw [ho]
    have hzr : (zeroValue t).run P w' = .ok v w' := by simp [zeroValue, typeInfo, hi, hv]
    simp only [Instr.build, Sem.run_bind, hzr, run_underlying ht, run_sizeOf' hm, Result.andThen_ok, hpl, hcs, Sem.run_pure]

/-! ### All kinds -/
theorem opdsC_sound (hev : ∀ x y, opdC x = some y → VR s Z (ev y) (ρ x)) : ∀ (xs : List Operand) (ys : List Opd), opdsC xs = some ys → ys.length = xs.length ∧ ∀ (j : Nat) (y : Opd), ys[j]? = some y → ∃ x, xs[j]? = some x ∧ VR s Z (ev y) (ρ x)
  | [], ys, h => by simp only [opdsC, Option.some.injEq] at h; subst h; exact ⟨rfl, fun j y hy => by simp at hy⟩
  | x :: xs, ys, h => by
    simp only [opdsC] at h
    split at h <;> simp only [Option.some.injEq, reduceCtorEq] at h
    rename_i y ys' h1 h2
    subst h
    obtain ⟨g1, g2⟩ := opdsC_sound hev xs ys' h2
    refine ⟨by simp [g1], fun j z hz => ?_⟩
    cases j with
    | zero => simp at hz; subst hz; exact ⟨x, rfl, hev x y h1⟩
    | succ j => obtain ⟨a, b, c⟩ := g2 j z (by simpa using hz); exact ⟨a, by simpa using b, c⟩
end
end Go.Proofs.Ytfkeddefajkobaa
