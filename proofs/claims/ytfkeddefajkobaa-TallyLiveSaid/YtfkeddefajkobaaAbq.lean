/- This text proves that an operation which changes nothing computes what the small machine of the text 'Abs' says. It has no condition of its own. -/
import Derived.Test.YtfkeddefajkobaaAbc
import Derived.Laws.StructEq
set_option linter.unusedSimpArgs false
set_option linter.unusedVariables false
namespace Go.Proofs.Ytfkeddefajkobaa
open Go.RowKit

theorem VT.one {Z : Cells} {d : D} {v : Value} (h : VT Z d v) : v.oneCell' = true := by cases h <;> first | rfl | assumption
theorem VC.one {s : Nat → Value} {Z : Cells} {d : D} {v : Value} (h : VC s Z d v) : v.oneCell' = true := by
  cases d <;> first | exact VT.one h | (obtain ⟨_, ⟨_, _, _, rfl⟩ | ⟨_, rfl⟩⟩ := h <;> rfl) | (obtain ⟨_, _, _, _, rfl⟩ := h; rfl) | (obtain ⟨_, _, rfl⟩ := h; rfl) | (obtain ⟨_, _, _, _, rfl⟩ := h; rfl)
theorem VC.of_vt {s : Nat → Value} {Z : Cells} {d : D} {v : Value} (h : VT Z d v) : VC s Z d v := by
  cases d <;> first | exact h | (cases h; done)
theorem VV.of_vc {s : Nat → Value} {Z : Cells} {d : D} {v : Value} (h : VC s Z d v) : VV s Z d v := by
  cases d <;> first | exact h | (cases h; done)
theorem VR.of_vv {s : Nat → Value} {Z : Cells} {d : D} {v : Value} (h : VV s Z d v) : VR s Z d v := by
  cases d <;> first | exact h | trivial | (cases h; done)
theorem VR.of_vc {s : Nat → Value} {Z : Cells} {d : D} {v : Value} (h : VC s Z d v) : VR s Z d v := VR.of_vv (VV.of_vc h)
theorem VC.vt {s : Nat → Value} {Z : Cells} {d : D} {v : Value} (h : VC s Z d v) (hd : isT d = true) : VT Z d v := by
  cases d <;> first | exact h | (cases hd; done)
theorem VR.vt {s : Nat → Value} {Z : Cells} {d : D} {v : Value} (h : VR s Z d v) (hd : isT d = true) (hn : d ≠ .any) : VT Z d v := by
  cases d <;> first | exact h | (cases hd; done) | exact absurd rfl hn

/-- the value of each is known -/
structure Know (s : Nat → Value) (Z : Cells) (H : List (Nat × Ob)) (w : World) : Prop where
  ob : ∀ id ob, hget H id = some ob → ObOk s Z w ob (s id)
  zok : ∀ b o v, Z b o = some v → w.cell? ⟨b, o, none⟩ = some v
/-- what could be read can be read -/
def More (w w' : World) : Prop := ∀ a v, w.cell? a = some v → w'.cell? a = some v
theorem More.refl (w : World) : More w w := fun _ _ h => h
theorem More.below {w w' : World} (h : Below w.heap.size w w') : More w w' := fun a v hv => by
  rw [h.cell (World.block_lt_of_cell? w a hv)]; exact hv

/-- from address v on these cells can be read -/
def Reads (s : Nat → Value) (Z : Cells) (w : World) (v : Value) (ds : List D) : Prop :=
  ∃ b o, v = .pointer (some ⟨b, o, none⟩) ∧ ∀ j d, ds[j]? = some d → ∃ u, w.cell? ⟨b, o + j, none⟩ = some u ∧ VC s Z d u
theorem Reads.drop {s : Nat → Value} {Z : Cells} {w : World} {b o : Nat} {ds : List D} (h : Reads s Z w (.pointer (some ⟨b, o, none⟩)) ds) (n : Nat) : Reads s Z w (.pointer (some ⟨b, o + n, none⟩)) (ds.drop n) := by
  obtain ⟨b', o', he, h⟩ := h
  injection he with he; injection he with he; injection he with h1 h2
  subst h1 h2
  refine ⟨b, o + n, rfl, fun j d hd => ?_⟩
  rw [List.getElem?_drop] at hd
  rw [Nat.add_assoc]
  exact h (n + j) d hd

theorem choose_cells {s : Nat → Value} {Z : Cells} {w : World} {b o : Nat} (ds : List D) (h : ∀ j d, ds[j]? = some d → ∃ u, w.cell? ⟨b, o + j, none⟩ = some u ∧ VC s Z d u) :
    ∃ vs : List Value, vs.length = ds.length ∧ w.rangeAt b o vs ∧ ∀ j d, ds[j]? = some d → VC s Z d (vs.getD j undef) := by
  induction ds generalizing o with
  | nil => exact ⟨[], rfl, fun j v hv => by simp at hv, fun j d hd => by simp at hd⟩
  | cons d ds ih =>
    obtain ⟨u, h1, h2⟩ := h 0 d rfl
    obtain ⟨vs, h3, h4, h5⟩ := ih (o := o + 1) fun j d hd => by
      have := h (j + 1) d (by simpa using hd)
      rwa [show o + (j + 1) = o + 1 + j by omega] at this
    refine ⟨u :: vs, by simp [h3], fun j v hv => ?_, fun j d' hd => ?_⟩
    · cases j with
      | zero => simp at hv; subst hv; exact h1
      | succ j => have := h4 j v (by simpa using hv); rwa [show o + (j + 1) = o + 1 + j by omega]
    · cases j with
      | zero => simp at hd; subst hd; simpa using h2
      | succ j => have := h5 j d' (by simpa using hd); simpa using this

theorem agT_some {P : Program} {t : TypeId} {a : Bool} (h : agT P t = some a) : ∃ d, P.underlying t = some d ∧ (d.isRow = a) := by
  unfold agT at h
  cases hu : P.underlying t with
  | none => rw [hu] at h; cases h
  | some d =>
    rw [hu] at h
    simp only [Option.map_some, Option.some.injEq] at h
    refine ⟨d, rfl, ?_⟩
    rw [← h]
    cases d <;> rfl
theorem run_isAgg' {P : Program} {t : TypeId} {d : TypeDesc} (h : P.underlying t = some d) (w : World) : (isAgg t).run P w = .ok d.isRow w := by
  unfold isAgg
  rw [Sem.run_bind, run_underlying h w]
  cases d <;> simp
theorem run_sizeOf' {P : Program} {t : TypeId} {n : Nat} (h : szT P t = some n) (w : World) : (sizeOf t).run P w = .ok n w := by
  unfold szT at h
  cases hi : P.info? t with
  | none => rw [hi] at h; cases h
  | some i =>
    rw [hi] at h
    simp only [Option.map_some, Option.some.injEq] at h
    simp [sizeOf, typeInfo, hi, h]

theorem load_sound {P : Program} {s : Nat → Value} {Z : Cells} {w : World} {t : TypeId} {ag : Bool} {n : Nat} {v : Value} {ds : List D} {p : Prop} {d : D}
    (h1 : agT P t = some ag) (h2 : szT P t = some n) (hr : Reads s Z w v ds) (ht : takeD ag n ds = some (p, d)) (hp : p) :
    ∃ u, VR s Z d u ∧ ∀ w', More w w' → (Instr.loadAt t v).run P w' = .ok u w' := by
  obtain ⟨b, o, rfl, hc⟩ := hr
  obtain ⟨td, hu, hrow⟩ := agT_some h1
  unfold takeD at ht
  cases ag with
  | true =>
    simp only [if_true, Option.some.injEq, Prod.mk.injEq] at ht
    obtain ⟨rfl, rfl⟩ := ht
    obtain ⟨vs, h3, h4, h5⟩ := choose_cells (s := s) (Z := Z) (w := w) (b := b) (o := o) (ds.take n) fun j d hd => hc j d (by
      rw [List.getElem?_take] at hd; split at hd
      · exact hd
      · cases hd)
    have hl : vs.length = n := by rw [h3, List.length_take]; omega
    refine ⟨.agg vs.toArray, ⟨vs.toArray, rfl, by simp [h3], fun j x hx => ?_⟩, fun w' hm => ?_⟩
    · have := h5 j x hx
      simpa using this
    · exact run_loadAt_mid w' b o t vs td (fun j v hv => hm _ _ (h4 j v hv)) hu hrow (by unfold szT at h2; rw [h2, hl])
  | false =>
    simp only [Bool.false_eq_true, if_false, Option.some.injEq, Prod.mk.injEq] at ht
    obtain ⟨rfl, rfl⟩ := ht
    cases ds with
    | nil => simp at hp
    | cons x ds =>
      obtain ⟨u, h3, h4⟩ := hc 0 x rfl
      refine ⟨u, VR.of_vc h4, fun w' hm => ?_⟩
      have h5 := hm _ _ h3
      rw [Nat.add_zero] at h5
      simp only [Instr.loadAt, Instr.sureAddr, loadVar, Sem.run_bind, Sem.run_pure, Result.andThen_ok, run_isAgg' hu, hrow, Bool.false_eq_true, if_false, run_load, h5]

theorem RowOk.reads {s : Nat → Value} {Z : Cells} {R : D → Value → Prop} (hR : ∀ d v, R d v → VC s Z d v) {w : World} {sz : Nat} {xs : List (List D)} {b n c : Nat} (h : RowOk R w sz xs (.slice (some ⟨b, 0, none⟩) n c)) {i : Nat} (hi : i < xs.length) :
    Reads s Z w (.pointer (some ⟨b, i * sz, none⟩)) (xs.getD i []) := by
  obtain ⟨hsz, hrow, h⟩ := h
  rcases h with ⟨rfl, _⟩ | ⟨g, cap, cur, e, hv, hg, hcap, hm, hs, hc⟩
  · simp at hi
  · injection hv with h1 h2 h3
    injection h1 with h1; injection h1 with h1; subst h1
    refine ⟨b, i * sz, rfl, fun j d hd => ?_⟩
    have hx : xs[i]? = some xs[i] := List.getElem?_eq_getElem hi
    rw [List.getD_eq_getElem?_getD, hx, Option.getD_some] at hd
    have hj : j < sz := by
      have h4 := (List.getElem?_eq_some_iff.1 hd).1
      rwa [hrow _ (List.getElem_mem hi)] at h4
    have hlt : i * sz + j < cur.size := by
      rw [hs]
      have : (i + 1) * sz ≤ cap * sz := Nat.mul_le_mul_right _ (by omega)
      rw [Nat.add_mul] at this; omega
    refine ⟨cur.getD (i * sz + j) undef, ?_, hR _ _ (hc i _ j d hx hd)⟩
    rw [cell_of_row w b _ cur e (0, 0) hg]
    simp [hlt]

/-- what a pointer reads -/
theorem reads_of {s : Nat → Value} {Z : Cells} {H : List (Nat × Ob)} {w : World} (hk : Know s Z H w) {d : D} {v : Value} (hv : VR s Z d v) {ag : Bool} {n : Nat} {x : Opd} {ev : Opd → D} (hx : ev x = d) {p : Prop} {r : D}
    (hq : qv ev H (.load ag n x) = some (p, r)) (hp : p) : ∃ ds p', Reads s Z w v ds ∧ takeD ag n ds = some (p', r) ∧ p' := by
  simp only [qv, hx] at hq
  cases d with
  | pc ds =>
    cases hv with
    | pc _ b o c h1 h2 => exact ⟨ds, p, ⟨b, o, rfl, fun j d hd => ⟨c j, hk.zok _ _ _ (h1 j d hd), VC.of_vt (h2 j d hd)⟩⟩, hq, hp⟩
  | ptr id j =>
    obtain ⟨b, hs, rfl⟩ := hv
    simp only at hq
    split at hq
    · rename_i ds hds
      obtain ⟨b', T, cs, hs', hg, hsz, hc⟩ := hk.ob _ _ hds
      rw [hs] at hs'
      injection hs' with h1; injection h1 with h1; injection h1 with h1 _; subst h1
      have : Reads s Z w (.pointer (some ⟨b, 0, none⟩)) ds := ⟨b, 0, rfl, fun j d hd => ⟨cs.getD j undef, by
        have hlt : j < cs.size := by rw [hsz]; exact (List.getElem?_eq_some_iff.1 hd).1
        rw [Nat.zero_add, cell_of_row w b j cs T (0, 0) hg]; simp [hlt], hc j d hd⟩⟩
      have := this.drop j
      rw [Nat.zero_add] at this
      exact ⟨_, p, this, hq, hp⟩
    · cases hq
  | pel id i sz j =>
    obtain ⟨b, m, c, hs, rfl⟩ := hv
    simp only at hq
    split at hq
    · rename_i sz' xs hds
      split at hq
      · rename_i p' d' ht
        simp only [Option.some.injEq, Prod.mk.injEq] at hq
        obtain ⟨rfl, rfl⟩ := hq
        obtain ⟨⟨rfl, hi⟩, hp'⟩ := hp
        have ho := hk.ob _ _ hds
        simp only [ObOk, hs] at ho
        exact ⟨_, p', (RowOk.reads (s := s) (Z := Z) (fun _ _ => VC.of_vt) ho hi).drop j, ht, hp'⟩
      · cases hq
    · rename_i sz' xs hds
      split at hq
      · rename_i p' d' ht
        simp only [Option.some.injEq, Prod.mk.injEq] at hq
        obtain ⟨rfl, rfl⟩ := hq
        obtain ⟨⟨rfl, hi⟩, hp'⟩ := hp
        have ho := hk.ob _ _ hds
        simp only [ObOk, hs] at ho
        exact ⟨_, p', (RowOk.reads (s := s) (Z := Z) (fun _ _ h => h) ho hi).drop j, ht, hp'⟩
      · cases hq
    · cases hq
  | _ => cases hq
end Go.Proofs.Ytfkeddefajkobaa
