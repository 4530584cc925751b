/- This text proves that a list of operations does what the small machine says ('aops_sound'). It has no condition of its own. -/
import Derived.Test.YtfkeddefajkobaaAcc
set_option linter.unusedSimpArgs false
set_option linter.unusedVariables false
namespace Go.Proofs.Ytfkeddefajkobaa
open Go.RowKit

/-! ### Slots -/
theorem put_get (a : Act) (dst : Option Nat) (v : Value) (k : Nat) (h : ∀ d, dst = some d → d < a.tmps.size) : (a.put dst v).tmps.getD k undef = if dst = some k then v else a.tmps.getD k undef := by
  cases dst with
  | none => simp [Act.put]
  | some d =>
    have := h d rfl
    simp only [Act.put, Option.some.injEq]
    rw [Array.getD_eq_getD_getElem?, Array.getD_eq_getD_getElem?, Array.getElem?_setIfInBounds]
    by_cases hk : d = k
    · subst hk; simp [this]
    · simp [hk]
theorem put_size (a : Act) (dst : Option Nat) (v : Value) : (a.put dst v).tmps.size = a.tmps.size := by cases dst <;> simp [Act.put]
theorem put_defers (a : Act) (dst : Option Nat) (v : Value) : (a.put dst v).defers = a.defers := by cases dst <;> rfl
theorem eget_putO (env : List (Nat × D)) (dst : Option Nat) (d : D) (k : Nat) : eget (putO env dst d) k = if dst = some k then d else eget env k := by
  cases dst with
  | none => simp [putO]
  | some j =>
    simp only [putO, eget_eput, Option.some.injEq]
    by_cases h : k = j
    · subst h; simp
    · rw [if_neg h, if_neg (fun h' => h h'.symm)]

section
variable {P : Program} {B : Base} {w w' : World} {s s' : Nat → Value} {Z Z' : Cells} {st : St} {a : Act}

theorem VS.of_vr {d : D} {v : Value} (h : VR s Z d v) : VS s Z d v := by
  cases d <;> first | exact h | (cases h; done)
theorem LtS.of_r {n : Nat} {d : D} (h : LtR n d) (ho : ∀ g e, d ≠ .opt g e) : LtS n d := by
  cases d <;> first | exact h | exact absurd rfl (ho _ _)
theorem VR.no_opt {d : D} {v : Value} (h : VR s Z d v) : ∀ g e, d ≠ .opt g e := by
  rintro g e rfl; cases h

/-- a slot is set, over whatever has become of memory -/
theorem Rel.step (h : Rel B s Z st a w) {dst : Option Nat} (hdst : ∀ d, dst = some d → d < B.N) {d : D} {v : Value} {H' : List (Nat × Ob)} {nx' : Nat} (hs : ∀ id, id < st.nx → s' id = s id) (hz : ∀ b o v, Z b o = some v → Z' b o = some v) (hn : st.nx ≤ nx')
    (hv : VS s' Z' d v) (hl : LtS nx' d) (hH : RelH B s' Z' H' nx' w') : Rel B s' Z' ⟨putO st.env dst d, H', nx'⟩ (a.put dst v) w' where
  env k := by
    rw [eget_putO, put_get a dst v k (fun d hd => by rw [h.size]; exact hdst d hd)]
    split
    · exact hv
    · exact (h.env k).mono hz hs (h.elt k)
  elt k := by
    rw [eget_putO]
    split
    · exact hl
    · exact (h.elt k).mono hn
  size := by rw [put_size]; exact h.size
  defers := by rw [put_defers]; exact h.defers
  h := hH
theorem Rel.put (h : Rel B s Z st a w) {dst : Option Nat} (hdst : ∀ d, dst = some d → d < B.N) {d : D} {v : Value} (hv : VS s Z d v) (hl : LtS st.nx d) : Rel B s Z ⟨putO st.env dst d, st.heap, st.nx⟩ (a.put dst v) w :=
  h.step hdst (fun _ _ => rfl) (fun _ _ _ h => h) (Nat.le_refl _) hv hl h.h

/-! ### Calls -/
theorem omap_some {α β : Type} {f : α → Option β} : ∀ {l : List α} {r : List β}, omap f l = some r → r.length = l.length ∧ ∀ (j : Nat) (y : β), r[j]? = some y → ∃ x, l[j]? = some x ∧ f x = some y
  | [], r, h => by simp only [omap, Option.some.injEq] at h; subst h; exact ⟨rfl, fun j y hy => by simp at hy⟩
  | x :: l, r, h => by
    simp only [omap] at h
    split at h <;> simp only [Option.some.injEq, reduceCtorEq] at h
    rename_i y ys h1 h2
    subst h
    obtain ⟨g1, g2⟩ := omap_some h2
    refine ⟨by simp [g1], fun j z hz => ?_⟩
    cases j with
    | zero => simp at hz; subst hz; exact ⟨x, rfl, h1⟩
    | succ j => obtain ⟨u, hu, hf⟩ := g2 j z (by simpa using hz); exact ⟨u, by simpa using hu, hf⟩
/-- all cells that there are -/
def allZ (w : World) : Cells := fun b o => w.cell? ⟨b, o, none⟩

theorem brwC_sound {H : List (Nat × Ob)} (hk : Know s Z H w) {Zp : Cells} (hz : ∀ b o v, Z b o = some v → Zp b o = some v) (hp : ∀ id ob b, hget H id = some ob → blk (s id) = some b → ∀ o v, w.cell? ⟨b, o, none⟩ = some v → Zp b o = some v) :
    ∀ (n : Nat) (d e : D) (v : Value), brwC H n d = some e → VC s Z d v → VT Zp e v := by
  have rowv : ∀ (R : D → Value → Prop) (n id sz : Nat) (xs ys : List (List D)) ob, hget H id = some ob → RowOk R w sz xs (s id) → ys.length = xs.length → (∀ (i : Nat) (row : List D) (j : Nat) (e : D), ys[i]? = some row → row[j]? = some e → j < sz ∧ ∃ row' d, xs[i]? = some row' ∧ row'[j]? = some d ∧ ∀ v, R d v → VT Zp e v) → VT Zp (.rows sz ys) (s id) := by
    intro R n id sz xs ys ob hh ho hl hc
    obtain ⟨h0, hrow, ho⟩ := ho
    rcases ho with ⟨rfl, a, hv⟩ | ⟨g, cap, cur, e, hv, hg, hcap, hm, hcs, hcc⟩
    · have : ys = [] := List.eq_nil_of_length_eq_zero (by simpa using hl)
      subst this
      rw [hv]
      exact VT.rnil sz a 0
    · rw [hv, ← hl]
      refine VT.rows sz ys g 0 cap (fun i j => cur.getD (i * sz + j) undef) (by omega) (fun i row j d hi hj => ?_) (fun i row j d hi hj => ?_)
      · obtain ⟨hj', row', x, hx, hxj, _⟩ := hc i row j d hi hj
        refine ⟨hj', ?_⟩
        have hil : i < xs.length := (List.getElem?_eq_some_iff.1 hx).1
        have hlt : i * sz + j < cur.size := by
          rw [hcs]
          have : (i + 1) * sz ≤ cap * sz := Nat.mul_le_mul_right _ (by omega)
          rw [Nat.add_mul] at this; omega
        have hcap0 : cap ≠ 0 := by omega
        refine hp id ob g hh (by rw [hv]; simp [blk, hcap0]) _ _ ?_
        rw [Nat.zero_add, cell_of_row w g _ cur e (0, 0) hg]
        simp [hlt]
      · obtain ⟨hj', row', x, hx, hxj, hR⟩ := hc i row j d hi hj
        exact hR _ (hcc i row' j x hx hxj)
  intro n
  induction n with
  | zero =>
    intro d e v h hv
    cases d <;> simp only [brwC, Option.some.injEq, reduceCtorEq] at h <;> subst h <;> exact VT.mono hz hv
  | succ n ih =>
    intro d e v h hv
    cases d with
    | own id =>
      simp only [brwC] at h
      obtain ⟨rfl, _⟩ := hv
      split at h
      · rename_i sz xs hh
        simp only [Option.some.injEq] at h
        subst h
        have ho := hk.ob _ _ hh
        refine rowv _ n id sz xs xs _ hh ho rfl fun i row j e hi hj => ⟨?_, row, e, hi, hj, fun v h => VT.mono hz h⟩
        have := (List.getElem?_eq_some_iff.1 hj).1
        rwa [ho.2.1 _ (List.mem_of_getElem? hi)] at this
      · rename_i sz xs hh
        cases hm : omap (omap (brwC H n)) xs with
        | none => rw [hm] at h; cases h
        | some ys =>
          rw [hm] at h
          simp only [Option.map_some, Option.some.injEq] at h
          subst h
          obtain ⟨g1, g2⟩ := omap_some hm
          have ho := hk.ob _ _ hh
          refine rowv _ n id sz xs ys _ hh ho g1 fun i row j e hi hj => ?_
          obtain ⟨row', hx, hr⟩ := g2 i row hi
          obtain ⟨f1, f2⟩ := omap_some hr
          obtain ⟨d, hd, hb⟩ := f2 j e hj
          have : j < row'.length := (List.getElem?_eq_some_iff.1 hd).1
          rw [ho.2.1 _ (List.mem_of_getElem? hx)] at this
          exact ⟨this, row', d, hx, hd, fun v h => ih d e v hb h⟩
      · cases h
    | ptr id j =>
      simp only [brwC] at h
      split at h
      · rename_i ds hh
        cases hm : omap (brwC H n) (ds.drop j) with
        | none => rw [hm] at h; cases h
        | some es =>
          rw [hm] at h
          simp only [Option.map_some, Option.some.injEq] at h
          subst h
          obtain ⟨g1, g2⟩ := omap_some hm
          obtain ⟨b, hs, rfl⟩ := hv
          obtain ⟨b', T, cs, hs', hg, hsz, hc⟩ := hk.ob _ _ hh
          rw [hs] at hs'
          injection hs' with e; injection e with e; injection e with e _; subst e
          refine VT.pc es b j (fun k => cs.getD (j + k) undef) (fun k e he => ?_) (fun k e he => ?_)
          · obtain ⟨d, hd, _⟩ := g2 k e he
            rw [List.getElem?_drop] at hd
            have hlt : j + k < cs.size := by rw [hsz]; exact (List.getElem?_eq_some_iff.1 hd).1
            refine hp id _ b hh (by rw [hs]; rfl) _ _ ?_
            rw [cell_of_row w b _ cs T (0, 0) hg]
            simp [hlt]
          · obtain ⟨d, hd, hb⟩ := g2 k e he
            rw [List.getElem?_drop] at hd
            exact ih d e _ hb (hc _ d hd)
      · cases h
    | pel _ _ _ _ => simp [brwC] at h
    | agg _ => simp [brwC] at h
    | tup _ => simp [brwC] at h
    | opt _ _ => simp [brwC] at h
    | _ => simp only [brwC, Option.some.injEq] at h; subst h; exact VT.mono hz hv
end
end Go.Proofs.Ytfkeddefajkobaa
