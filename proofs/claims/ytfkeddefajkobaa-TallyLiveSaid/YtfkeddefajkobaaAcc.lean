/- This text proves small facts that the proof of the small machine's soundness needs. It has no condition of its own. -/
import Derived.Test.YtfkeddefajkobaaAcb
set_option linter.unusedSimpArgs false
set_option linter.unusedVariables false
namespace Go.Proofs.Ytfkeddefajkobaa
open Go.RowKit

theorem valD_sound {s : Nat → Value} {Z : Cells} {v : Value} {d : D} (h : valD v = some d) : VR s Z d v ∧ LtR 0 d := by
  have one : cellD v = some d → VR s Z d v ∧ LtR 0 d := fun hc => by
    refine ⟨VR.of_vc (cellD_sound hc), ?_⟩
    have h1 := cellD_lt hc
    have h2 := cellD_sound (s := s) (Z := Z) hc
    cases d <;> first | exact h1 | (cases h2; done)
  unfold valD at h
  split at h
  · rename_i cs
    cases hc : cellsD cs.toList with
    | none => rw [hc] at h; cases h
    | some ds =>
      rw [hc] at h
      simp only [Option.map_some, Option.some.injEq] at h
      subst h
      obtain ⟨h1, h2⟩ := cellsD_sound (s := s) (Z := Z) _ _ hc
      exact ⟨⟨cs, rfl, by simpa using h1, fun j x hx => by simpa [Array.getD_eq_getD_getElem?, List.getD_eq_getElem?_getD] using h2 j x hx⟩, cellsD_lt _ _ hc⟩
  · exact one h

/-- what is known of an operand, if it was set -/
def evE (env : List (Nat × D)) (x : Opd) : D := if gS env x then evS env x else .any
theorem evE_aux {s : Nat → Value} {Z : Cells} {d : D} {v : Value} (h : VS s Z d v) : VR s Z (if gof d then strip d else .any) v := by
  cases d with
  | opt g d =>
    cases g
    · trivial
    · exact h.1 rfl
  | _ => exact h
theorem evE_sound {s : Nat → Value} {Z : Cells} {env : List (Nat × D)} {a : Act} (he : ∀ k, VS s Z (eget env k) (a.tmps.getD k undef)) : ∀ x y, opdC x = some y → VR s Z (evE env y) (a.eval x) := by
  intro x y h
  cases x with
  | tmp t =>
    simp only [opdC, Option.some.injEq] at h
    subst h
    exact evE_aux (he t)
  | const v =>
    simp only [opdC] at h
    cases hv : valD v with
    | none => rw [hv] at h; cases h
    | some d =>
      rw [hv] at h
      simp only [Option.map_some, Option.some.injEq] at h
      subst h
      exact (valD_sound hv).1
  | func f =>
    simp only [opdC, Option.some.injEq] at h
    subst h
    exact VT.fn f [] #[] rfl (fun j d hd => by simp at hd)
  | global g => cases h
theorem evE_ok {env : List (Nat × D)} {x : Opd} (h : gS env x = true) : evE env x = evS env x := by simp [evE, h]
theorem evS_lt {env : List (Nat × D)} {n : Nat} (hl : ∀ k, LtS n (eget env k)) {x : Operand} {y : Opd} (h : opdC x = some y) (hg : gS env y = true) : LtR n (evS env y) := by
  cases x with
  | tmp t =>
    simp only [opdC, Option.some.injEq] at h
    subst h
    have h1 := hl t
    simp only [evS]
    simp only [gS] at hg
    cases hd : eget env t <;> rw [hd] at h1 hg <;> first | exact h1 | exact h1 hg
  | const v =>
    simp only [opdC] at h
    cases hv : valD v with
    | none => rw [hv] at h; cases h
    | some d =>
      rw [hv] at h
      simp only [Option.map_some, Option.some.injEq] at h
      subst h
      exact (valD_sound (s := s0) (Z := fun _ _ => none) hv).2.mono (Nat.zero_le _)
  | func f => simp only [opdC, Option.some.injEq] at h; subst h; trivial
  | global g => cases h

theorem boundD_congr {ev ev' : Opd → D} {x : Option Opd} {n : Nat} (h : ∀ y ∈ x.toList, ev y = ev' y) : boundD x ev n = boundD x ev' n := by
  cases x with
  | none => rfl
  | some y => simp only [boundD, h y (by simp)]
theorem qv_congr {ev ev' : Opd → D} {H : List (Nat × Ob)} {op : AOp} (h : ∀ x ∈ opnds op, ev x = ev' x) : qv ev H op = qv ev' H op := by
  cases op with
  | build z ps =>
    have : ps.map (fun p => (p.1, p.2.1, ev p.2.2)) = ps.map (fun p => (p.1, p.2.1, ev' p.2.2)) := List.map_congr_left fun p hp => by
      rw [h _ (List.mem_map.2 ⟨p, hp, rfl⟩)]
    simp only [qv, this]
  | slc sz x lo hi mx =>
    simp only [opnds, List.mem_cons, List.mem_append] at h
    have h1 := boundD_congr (ev := ev) (ev' := ev') (x := lo) (n := 0) fun y hy => h y (by simp [hy])
    simp only [qv, h x (.inl rfl), h1]
    cases ev' x with
    | rows sz' xs =>
      have h2 := boundD_congr (ev := ev) (ev' := ev') (x := hi) (n := xs.length) fun y hy => h y (by simp [hy])
      have h3 := boundD_congr (ev := ev) (ev' := ev') (x := mx) (n := xs.length) fun y hy => h y (by simp [hy])
      simp only [h2, h3]
    | _ => rfl
  | mkfn f cs =>
    have : cs.map ev = cs.map ev' := List.map_congr_left fun x hx => h x hx
    simp only [qv, this]
  | pick _ _ _ => rfl
  | alloc _ => rfl
  | box _ => rfl
  | bslice _ _ _ _ => rfl
  | store _ _ _ => rfl
  | call _ _ => rfl
  | callv _ _ => rfl
  | app _ _ _ _ _ => rfl
  | mks _ _ _ _ _ => rfl
  | xop _ _ _ => rfl
  | cst _ => rfl
  | isnil _ _ => rfl
  | mov x => simp only [qv, h x (by simp [opnds])]
  | load _ _ x => simp only [qv, h x (by simp [opnds])]
  | nchk x => simp only [qv, h x (by simp [opnds])]
  | not x => simp only [qv, h x (by simp [opnds])]
  | neg x => simp only [qv, h x (by simp [opnds])]
  | conv _ x => simp only [qv, h x (by simp [opnds])]
  | fld _ _ _ x => simp only [qv, h x (by simp [opnds])]
  | fad _ x => simp only [qv, h x (by simp [opnds])]
  | ext x _ => simp only [qv, h x (by simp [opnds])]
  | len x => simp only [qv, h x (by simp [opnds])]
  | bin _ x y => simp only [qv, h x (by simp [opnds]), h y (by simp [opnds])]
  | eqa _ _ x y => simp only [qv, h x (by simp [opnds]), h y (by simp [opnds])]
  | eqp _ x y => simp only [qv, h x (by simp [opnds]), h y (by simp [opnds])]
  | eqb _ x y => simp only [qv, h x (by simp [opnds]), h y (by simp [opnds])]
  | iada _ _ x y => simp only [qv, h x (by simp [opnds]), h y (by simp [opnds])]
  | iads _ x y => simp only [qv, h x (by simp [opnds]), h y (by simp [opnds])]
  | ida _ _ _ x y => simp only [qv, h x (by simp [opnds]), h y (by simp [opnds])]
  | mn x y => simp only [qv, h x (by simp [opnds]), h y (by simp [opnds])]
  | mx x y => simp only [qv, h x (by simp [opnds]), h y (by simp [opnds])]

/-- one cell and no more -/
def cellish : D → Prop
  | .agg _ => False
  | .tup _ => False
  | _ => True
theorem VC.cellish {s : Nat → Value} {Z : Cells} {d : D} {v : Value} (h : VC s Z d v) : cellish d := by
  cases d <;> first | trivial | (cases h; done)
theorem VT.lt {Z : Cells} {d : D} {v : Value} (h : VT Z d v) : LtC 0 d ∧ Go.Proofs.Ytfkeddefajkobaa.cellish d := by
  cases h <;> exact ⟨trivial, trivial⟩
theorem LtR.of_c {n : Nat} {d : D} (h : LtC n d) (hc : cellish d) : LtR n d := by
  cases d <;> first | exact h | exact hc.elim
theorem LtR.of_v {n : Nat} {d : D} (h : LtV n d) (hc : ∀ ds, d ≠ .tup ds) : LtR n d := by
  cases d <;> first | exact h | exact absurd rfl (hc _)
theorem takeD_lt {n k : Nat} {ag : Bool} {ds : List D} (hl : ∀ d ∈ ds, LtC n d ∧ cellish d) {p : Prop} {d : D} (h : takeD ag k ds = some (p, d)) : LtR n d := by
  unfold takeD at h
  split at h <;> simp only [Option.some.injEq, Prod.mk.injEq] at h <;> obtain ⟨_, rfl⟩ := h
  · exact fun x hx => (hl x (List.mem_of_mem_take hx)).1
  · cases ds with
    | nil => trivial
    | cons d ds => exact LtR.of_c (hl d (by simp)).1 (hl d (by simp)).2
theorem fillD_mem : ∀ (ps : List (Nat × Nat × D)) (z ds : List D), fillD z ps = some ds → ∀ d ∈ ds, d ∈ z ∨ ∃ p ∈ ps, d ∈ p.2.2.cells
  | [], z, ds, h => by simp only [fillD, Option.some.injEq] at h; subst h; exact fun d hd => .inl hd
  | (off, n, x) :: ps, z, ds, h => by
    simp only [fillD] at h
    split at h
    case isFalse => cases h
    intro d hd
    rcases fillD_mem ps _ ds h d hd with h1 | ⟨p, hp, h1⟩
    · rcases List.mem_append.1 h1 with h1 | h1
      · rcases List.mem_append.1 h1 with h1 | h1
        · exact .inl (List.mem_of_mem_take h1)
        · exact .inr ⟨(off, n, x), by simp, h1⟩
      · exact .inl (List.mem_of_mem_drop h1)
    · exact .inr ⟨p, List.mem_cons_of_mem _ hp, h1⟩

theorem arith_lt {n : Nat} {k : IntKind} {z : Int} {p : Prop} {d : D} (h : arith k z = some (p, d)) : LtR n d := by
  unfold arith at h
  split at h <;> (simp only [Option.some.injEq, Prod.mk.injEq] at h; obtain ⟨_, rfl⟩ := h; trivial)
theorem binD_lt {n : Nat} {op : BinOp} {x y d : D} {p : Prop} (h : binD op x y = some (p, d)) : LtR n d := by
  unfold binD at h
  split at h
  · split at h
    · split at h
      · rename_i he; simp only [Option.some.injEq, Prod.mk.injEq] at h; obtain ⟨_, rfl⟩ := h; exact arith_lt he
      · cases h
    · simp only [Option.some.injEq, Prod.mk.injEq] at h; obtain ⟨_, rfl⟩ := h; trivial
    · split at h
      · split at h
        all_goals first
          | exact arith_lt h
          | (simp only [Option.some.injEq, Prod.mk.injEq] at h; obtain ⟨_, rfl⟩ := h; trivial)
          | (split at h; · (rename_i he; simp only [Option.some.injEq, Prod.mk.injEq] at h; obtain ⟨_, rfl⟩ := h; exact arith_lt he)
             · cases h)
          | cases h
      · cases h
  · split at h
    all_goals first
      | (simp only [Option.some.injEq, Prod.mk.injEq] at h; obtain ⟨_, rfl⟩ := h; trivial)
      | cases h
  · cases h

section
variable {P : Program} {s : Nat → Value} {Z : Cells} {H : List (Nat × Ob)} {w : World} {n : Nat} {ev : Opd → D} {o : Op}
theorem eqC_build {t : TypeId} {ne : Bool} {x y : Opd} {z : List D} {ps : List (Nat × Nat × Opd)} (h : eqC P t ne x y = some (.build z ps)) : False := by
  unfold eqC at h
  split at h <;> (try split at h) <;> simp at h
theorem cop_build {z : List D} {ps : List (Nat × Nat × Opd)} (hc : cop P o = some (.build z ps)) : ∃ t, zeroT P t = some z := by
  cases o with
  | build t qs =>
    simp only [cop] at hc
    split at hc
    case h_2 => cases hc
    rename_i hz _
    split at hc <;> simp only [Option.some.injEq, reduceCtorEq, AOp.build.injEq] at hc
    obtain ⟨rfl, _⟩ := hc
    exact ⟨t, hz⟩
  | binOp op t x y t' =>
    simp only [cop] at hc
    split at hc
    · cases op <;> simp only [Option.some.injEq, reduceCtorEq] at hc <;> exact (eqC_build hc).elim
    · cases hc
  | makeFunc fn l cs =>
    simp only [cop] at hc
    cases fn <;> simp only [reduceCtorEq] at hc
    split at hc <;> simp at hc
  | unOp op t x =>
    simp only [cop] at hc
    cases op <;> simp at hc
  | call c =>
    simp only [cop] at hc
    split at hc
    · split at hc <;> simp at hc
    · split at hc
      · split at hc
        · simp at hc
        · simp at hc
        · split at hc <;> simp at hc
        · cases hc
      · simp at hc
      · simp at hc
      · split at hc
        · split at hc
          · split at hc
            · split at hc <;> simp at hc
            · cases hc
          · cases hc
        · cases hc
      · cases hc
    · cases hc
  | buildSlice t n qs =>
    simp only [cop] at hc
    split at hc
    · split at hc
      · split at hc <;> simp at hc
      · cases hc
    · cases hc
  | slice t x lo hi mx =>
    simp only [cop] at hc
    split at hc
    · split at hc
      · split at hc <;> simp at hc
      · cases hc
    · cases hc
  | fieldAddr t x i =>
    simp only [cop] at hc
    split at hc
    · split at hc
      · split at hc
        · split at hc <;> simp at hc
        · cases hc
      · cases hc
    · cases hc
  | _ => simp only [cop] at hc; first | (cases hc; done) | (simp at hc; done) | (split at hc <;> first | (simp at hc; done) | (split at hc <;> first | (simp at hc; done) | (split at hc <;> first | (simp at hc; done) | (split at hc <;> simp at hc))))
theorem qv_lt (hk : Know s Z H w) (hh : ∀ id ob, hget H id = some ob → LtO n ob) {ao : AOp} (hc : cop P o = some ao) (hl : ∀ x ∈ opnds ao, LtR n (ev x)) (hv : ∀ x ∈ opnds ao, ∃ v, VR s Z (ev x) v) {p : Prop} {d : D}
    (hq : qv ev H ao = some (p, d)) (hp : p) : LtR n d := by
  cases ao with
  | mov x => simp only [qv, Option.some.injEq, Prod.mk.injEq] at hq; obtain ⟨_, rfl⟩ := hq; exact hl x (by simp [opnds])
  | build z ps =>
    simp only [qv] at hq
    split at hq <;> simp only [Option.some.injEq, Prod.mk.injEq, reduceCtorEq] at hq
    rename_i ds hds
    obtain ⟨_, rfl⟩ := hq
    obtain ⟨t, ht⟩ := cop_build hc
    have hz := zeroT_lt ht
    intro x hx
    rcases fillD_mem _ _ _ hds x hx with h1 | ⟨q, hq, h1⟩
    · exact (hz x h1).mono (Nat.zero_le _)
    · obtain ⟨r, hr, rfl⟩ := List.mem_map.1 hq
      exact LtR.cells (hl _ (List.mem_map.2 ⟨r, hr, rfl⟩)) x h1
  | load ag k x =>
    obtain ⟨v, hvx⟩ := hv x (by simp [opnds])
    have hlx := hl x (by simp [opnds])
    simp only [qv] at hq
    cases hx : ev x with
    | pc ds =>
      rw [hx] at hq hvx
      cases hvx with
      | pc _ b o c h1 h2 => exact takeD_lt (fun d hd => by obtain ⟨j, hj⟩ := List.getElem?_of_mem hd; have := (h2 j d hj).lt; exact ⟨this.1.mono (Nat.zero_le _), this.2⟩) hq
    | ptr id j =>
      rw [hx] at hq
      simp only at hq
      split at hq
      · rename_i ds hds
        obtain ⟨b, T, cs, _, _, _, h3⟩ := hk.ob _ _ hds
        exact takeD_lt (fun d hd => by
          have hd' := List.mem_of_mem_drop hd
          obtain ⟨j, hj⟩ := List.getElem?_of_mem hd'
          exact ⟨hh _ _ hds d hd', (h3 j d hj).cellish⟩) hq
      · cases hq
    | pel id i sz j =>
      rw [hx] at hq
      simp only at hq
      have rowcase : ∀ (R : D → Value → Prop) sz' xs, RowOk R w sz' xs (s id) → (∀ row ∈ xs, ∀ d ∈ row, ∀ u, R d u → LtC n d ∧ cellish d) → i < xs.length → ∀ p' d', takeD ag k ((xs.getD i []).drop j) = some (p', d') → LtR n d' := fun R sz' xs ho hR hi p' d' ht => by
        refine takeD_lt (fun d hd => ?_) ht
        have hd' := List.mem_of_mem_drop hd
        have hx : xs[i]? = some (xs.getD i []) := by rw [List.getD_eq_getElem?_getD, List.getElem?_eq_getElem hi]; rfl
        obtain ⟨l, hl⟩ := List.getElem?_of_mem hd'
        rcases ho.2.2 with ⟨rfl, _⟩ | ⟨g, cap, cur, e, _, _, _, _, _, hcc⟩
        · simp at hi
        · exact hR _ (List.mem_of_getElem? hx) d hd' _ (hcc i _ l d hx hl)
      split at hq
      · rename_i sz' xs hds
        split at hq <;> simp only [Option.some.injEq, Prod.mk.injEq, reduceCtorEq] at hq
        rename_i p' d' ht
        obtain ⟨rfl, rfl⟩ := hq
        exact rowcase _ sz' xs (hk.ob _ _ hds) (fun _ _ _ _ _ h => ⟨h.lt.1.mono (Nat.zero_le _), h.lt.2⟩) hp.1.2 _ _ ht
      · rename_i sz' xs hds
        split at hq <;> simp only [Option.some.injEq, Prod.mk.injEq, reduceCtorEq] at hq
        rename_i p' d' ht
        obtain ⟨rfl, rfl⟩ := hq
        exact rowcase _ sz' xs (hk.ob _ _ hds) (fun row hr d hd _ h => ⟨hh _ _ hds row hr d hd, h.cellish⟩) hp.1.2 _ _ ht
      · cases hq
    | _ => rw [hx] at hq; cases hq
  | nchk x =>
    have hlx := hl x (by simp [opnds])
    simp only [qv] at hq
    cases hx : ev x <;> rw [hx] at hq hlx <;> simp only [Option.some.injEq, Prod.mk.injEq, reduceCtorEq] at hq <;> obtain ⟨_, rfl⟩ := hq <;> exact hlx
  | bin op x y => exact binD_lt hq
  | eqa ne ks x y =>
    simp only [qv] at hq
    split at hq
    · split at hq <;> simp only [Option.some.injEq, Prod.mk.injEq, reduceCtorEq] at hq
      obtain ⟨_, rfl⟩ := hq; trivial
    · cases hq
  | eqp ne x y =>
    simp only [qv] at hq
    split at hq <;> simp only [Option.some.injEq, Prod.mk.injEq, reduceCtorEq] at hq
    obtain ⟨_, rfl⟩ := hq; trivial
  | eqb ne x y =>
    simp only [qv] at hq
    split at hq <;> simp only [Option.some.injEq, Prod.mk.injEq, reduceCtorEq] at hq
    obtain ⟨_, rfl⟩ := hq; trivial
  | not x =>
    simp only [qv] at hq
    split at hq <;> simp only [Option.some.injEq, Prod.mk.injEq, reduceCtorEq] at hq
    obtain ⟨_, rfl⟩ := hq; trivial
  | neg x =>
    simp only [qv] at hq
    split at hq
    · exact arith_lt hq
    · cases hq
  | conv k x =>
    simp only [qv] at hq
    split at hq
    · exact arith_lt hq
    · cases hq
  | fld ag off k x =>
    obtain ⟨v, hvx⟩ := hv x (by simp [opnds])
    have hlx := hl x (by simp [opnds])
    simp only [qv] at hq
    cases hx : ev x <;> rw [hx] at hq hlx hvx <;> simp only [reduceCtorEq] at hq
    obtain ⟨vs, _, _, hc⟩ := hvx.agg_inv
    exact takeD_lt (fun d hd => by
      have hd' := List.mem_of_mem_drop hd
      obtain ⟨j, hj⟩ := List.getElem?_of_mem hd'
      exact ⟨hlx d hd', (hc j d hj).cellish⟩) hq
  | fad off x =>
    have hlx := hl x (by simp [opnds])
    simp only [qv] at hq
    cases hx : ev x <;> rw [hx] at hq hlx <;> simp only [Option.some.injEq, Prod.mk.injEq, reduceCtorEq] at hq <;> obtain ⟨_, rfl⟩ := hq <;> first | exact hlx | trivial
  | iada len sz x i =>
    have hlx := hl x (by simp [opnds])
    simp only [qv] at hq
    split at hq
    · cases hx : ev x <;> rw [hx] at hq hlx <;> simp only [Option.some.injEq, Prod.mk.injEq, reduceCtorEq] at hq <;> obtain ⟨_, rfl⟩ := hq <;> first | exact hlx | trivial
    · cases hq
  | iads sz x i =>
    have hlx := hl x (by simp [opnds])
    simp only [qv] at hq
    split at hq
    · cases hx : ev x <;> rw [hx] at hq hlx <;> simp only [reduceCtorEq] at hq
      · simp only [Option.some.injEq, Prod.mk.injEq] at hq; obtain ⟨_, rfl⟩ := hq; trivial
      · split at hq <;> simp only [Option.some.injEq, Prod.mk.injEq, reduceCtorEq] at hq <;> obtain ⟨_, rfl⟩ := hq <;> exact hlx
    · cases hq
  | ida ag len sz x i =>
    obtain ⟨v, hvx⟩ := hv x (by simp [opnds])
    have hlx := hl x (by simp [opnds])
    simp only [qv] at hq
    split at hq
    · cases hx : ev x <;> rw [hx] at hq hlx hvx <;> simp only [reduceCtorEq] at hq
      obtain ⟨vs, _, _, hc⟩ := hvx.agg_inv
      split at hq <;> simp only [Option.some.injEq, Prod.mk.injEq, reduceCtorEq] at hq
      rename_i ht
      obtain ⟨_, rfl⟩ := hq
      exact takeD_lt (fun d hd => by
        have hd' := List.mem_of_mem_drop hd
        obtain ⟨j, hj⟩ := List.getElem?_of_mem hd'
        exact ⟨hlx d hd', (hc j d hj).cellish⟩) ht
    · cases hq
  | ext x i =>
    obtain ⟨v, hvx⟩ := hv x (by simp [opnds])
    have hlx := hl x (by simp [opnds])
    simp only [qv] at hq
    cases hx : ev x <;> rw [hx] at hq hlx hvx <;> simp only [Option.some.injEq, Prod.mk.injEq, reduceCtorEq] at hq
    rename_i ds
    obtain ⟨rfl, rfl⟩ := hq
    obtain ⟨vs, _, _, hc⟩ := hvx.tup_inv
    have hx : ds[i]? = some (ds.getD i .any) := by rw [List.getD_eq_getElem?_getD, List.getElem?_eq_getElem hp]; rfl
    refine LtR.of_v (hlx _ (List.mem_of_getElem? hx)) (fun es he => ?_)
    have := hc i _ hx
    rw [he] at this
    cases this
  | len x =>
    simp only [qv] at hq
    split at hq
    · simp only [Option.some.injEq, Prod.mk.injEq] at hq; obtain ⟨_, rfl⟩ := hq; trivial
    · simp only [Option.some.injEq, Prod.mk.injEq] at hq; obtain ⟨_, rfl⟩ := hq; trivial
    · split at hq <;> simp only [Option.some.injEq, Prod.mk.injEq, reduceCtorEq] at hq <;> obtain ⟨_, rfl⟩ := hq <;> trivial
    · cases hq
  | cst k => simp only [qv, Option.some.injEq, Prod.mk.injEq] at hq; obtain ⟨_, rfl⟩ := hq; trivial
  | mn x y =>
    simp only [qv] at hq
    split at hq <;> simp only [Option.some.injEq, Prod.mk.injEq, reduceCtorEq] at hq
    obtain ⟨_, rfl⟩ := hq; trivial
  | mx x y =>
    simp only [qv] at hq
    split at hq <;> simp only [Option.some.injEq, Prod.mk.injEq, reduceCtorEq] at hq
    obtain ⟨_, rfl⟩ := hq; trivial
  | slc sz x lo hi mx =>
    simp only [qv] at hq
    split at hq
    · split at hq
      · split at hq <;> simp only [Option.some.injEq, Prod.mk.injEq] at hq <;> obtain ⟨_, rfl⟩ := hq <;> trivial
      · cases hq
    · cases hq
  | mkfn f cs =>
    simp only [qv] at hq
    split at hq <;> simp only [Option.some.injEq, Prod.mk.injEq, reduceCtorEq] at hq
    obtain ⟨_, rfl⟩ := hq; trivial
  | _ => cases hq
end
end Go.Proofs.Ytfkeddefajkobaa
