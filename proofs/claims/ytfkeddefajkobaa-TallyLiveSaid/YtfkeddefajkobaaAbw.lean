/- This text proves that every operation which changes nothing computes what the small machine of the text 'Abs' says. It has no condition of its own. -/
import Derived.Test.YtfkeddefajkobaaAbv
set_option linter.unusedSimpArgs false
set_option linter.unusedVariables false
namespace Go.Proofs.Ytfkeddefajkobaa
open Go.RowKit
section
variable {P : Program} {s : Nat → Value} {Z : Cells} {H : List (Nat × Ob)} {w : World} {ρ : Operand → Value} {ev : Opd → D} {o : Oper}

theorem eqC_sound {t t' : TypeId} {x y : Operand} (ne : Bool) (ho : o.op = .binOp (if ne then .neq else .eql) t x y t') {X Y : Opd} (hx : VR s Z (ev X) (ρ x)) (hy : VR s Z (ev Y) (ρ y)) {ao : AOp} (hc : eqC P t ne X Y = some ao)
    {p : Prop} {d : D} (hq : qv ev H ao = some (p, d)) (hp : p) : Does P s Z w ρ o d := by
  unfold eqC at hc
  split at hc
  · simp only [Option.some.injEq] at hc; subst hc
    exact does_bin ho hx hy hq hp
  · simp only [Option.some.injEq] at hc; subst hc
    exact does_bin ho hx hy hq hp
  · rename_i ht
    simp only [Option.some.injEq] at hc; subst hc
    exact does_eqb ne ho ht hx hy hq
  · rename_i e ht
    split at hc <;> simp only [Option.some.injEq, reduceCtorEq] at hc
    subst hc
    exact does_eqp ne ho ht hx hy hq hp
  · split at hc <;> simp only [Option.some.injEq, reduceCtorEq] at hc
    subst hc
    cases hq
  · rename_i fs ht
    split at hc
    · cases hc
    rename_i hg
    cases hk : kindsT P 9 t with
    | none => rw [hk] at hc; cases hc
    | some ks =>
      rw [hk] at hc
      simp only [Option.map_some, Option.some.injEq] at hc
      subst hc
      exact does_eqa ne ho hk ⟨fs, ht⟩ (by simpa using hg) hx hy hq hp
  · cases hc

theorem optC_isSome {x : Option Operand} {X : Option Opd} (h : optC x = some X) : X.isSome = x.isSome := by
  cases x with
  | none => simp only [optC, Option.some.injEq] at h; subst h; rfl
  | some y =>
    simp only [optC] at h
    cases hy : opdC y with
    | none => rw [hy] at h; cases h
    | some Y => rw [hy] at h; simp only [Option.map_some, Option.some.injEq] at h; subst h; rfl
theorem list_two {α : Type} {l : List α} (h : l.length = 2) : ∃ x y, l = [x, y] := by
  match l, h with
  | [x, y], _ => exact ⟨x, y, rfl⟩
theorem qv_sound (hk : Know s Z H w) (hev : ∀ x y, opdC x = some y → VR s Z (ev y) (ρ x)) {ao : AOp} (hc : cop P o.op = some ao) {p : Prop} {d : D} (hq : qv ev H ao = some (p, d)) (hp : p) : Does P s Z w ρ o d := by
  cases ho : o.op with
  | move x =>
    rw [ho] at hc
    simp only [cop] at hc
    cases hx : opdC x with
    | none => rw [hx] at hc; cases hc
    | some y =>
      rw [hx] at hc; simp only [Option.map_some, Option.some.injEq] at hc; subst hc
      simp only [qv, Option.some.injEq, Prod.mk.injEq] at hq
      obtain ⟨_, rfl⟩ := hq
      exact does_mov (.inl ho) (hev x y hx)
  | assign x =>
    rw [ho] at hc
    simp only [cop] at hc
    cases hx : opdC x with
    | none => rw [hx] at hc; cases hc
    | some y =>
      rw [hx] at hc; simp only [Option.map_some, Option.some.injEq] at hc; subst hc
      simp only [qv, Option.some.injEq, Prod.mk.injEq] at hq
      obtain ⟨_, rfl⟩ := hq
      exact does_mov (.inr ho) (hev x y hx)
  | pick c a b =>
    rw [ho] at hc
    simp only [cop] at hc
    split at hc <;> simp only [Option.some.injEq, reduceCtorEq] at hc
    subst hc
    cases hq
  | alloc t => rw [ho] at hc; simp only [cop] at hc; cases hz : zeroT P t <;> rw [hz] at hc <;> simp only [Option.map_none, Option.map_some, Option.some.injEq, reduceCtorEq] at hc; subst hc; cases hq
  | box t x => rw [ho] at hc; simp only [cop] at hc; cases hz : opdC x <;> rw [hz] at hc <;> simp only [Option.map_none, Option.map_some, Option.some.injEq, reduceCtorEq] at hc; subst hc; cases hq
  | build t ps =>
    rw [ho] at hc
    simp only [cop] at hc
    split at hc
    case h_2 => cases hc
    rename_i z qs hz hqs
    split at hc <;> simp only [Option.some.injEq, reduceCtorEq] at hc
    rename_i hb
    subst hc
    refine does_build ho hev hz hqs ?_ hq
    unfold buildT at hb
    split at hb
    · rename_i fs ht; exact .inl ⟨fs, ht, fun f hf => List.all_eq_true.1 hb f hf⟩
    · rename_i n e ht
      obtain ⟨m, hm⟩ := Option.isSome_iff_exists.1 hb
      exact .inr ⟨n, e, m, ht, hm⟩
    · cases hb
  | load t x =>
    rw [ho] at hc
    simp only [cop] at hc
    split at hc <;> simp only [Option.some.injEq, reduceCtorEq] at hc
    rename_i a n y h1 h2 h3
    subst hc
    exact does_load ho h1 h2 hk (hev x y h3) hq hp
  | nilCheck x =>
    rw [ho] at hc
    simp only [cop] at hc
    cases hx : opdC x with
    | none => rw [hx] at hc; cases hc
    | some y =>
      rw [hx] at hc; simp only [Option.map_some, Option.some.injEq] at hc; subst hc
      exact does_nchk ho (hev x y hx) hq
  | binOp op t x y t' =>
    rw [ho] at hc
    simp only [cop] at hc
    split at hc
    case h_2 => cases hc
    rename_i X Y hX hY
    have hx := hev x X hX
    have hy := hev y Y hY
    cases op <;> simp only [Option.some.injEq] at hc
    case eql => exact eqC_sound false ho hx hy hc hq hp
    case neq => exact eqC_sound true ho hx hy hc hq hp
    all_goals
      subst hc
      exact does_bin ho hx hy hq hp
  | unOp op t x =>
    rw [ho] at hc
    simp only [cop] at hc
    cases op <;> simp only [reduceCtorEq] at hc
    · cases hx : opdC x with
      | none => rw [hx] at hc; cases hc
      | some y =>
        rw [hx] at hc; simp only [Option.map_some, Option.some.injEq] at hc; subst hc
        first | exact does_not ho (hev x y hx) hq | exact does_neg ho (hev x y hx) hq hp
    · cases hx : opdC x with
      | none => rw [hx] at hc; cases hc
      | some y =>
        rw [hx] at hc; simp only [Option.map_some, Option.some.injEq] at hc; subst hc
        first | exact does_not ho (hev x y hx) hq | exact does_neg ho (hev x y hx) hq hp
  | convert u t x =>
    rw [ho] at hc
    simp only [cop] at hc
    split at hc
    case h_2 => cases hc
    rename_i k td ht hu
    cases hx : opdC x with
    | none => rw [hx] at hc; cases hc
    | some y =>
      rw [hx] at hc; simp only [Option.map_some, Option.some.injEq] at hc; subst hc
      exact does_conv ho ht (hev x y hx) (by rw [hu]; rfl) hq hp
  | makeFunc fn l cs =>
    rw [ho] at hc
    simp only [cop] at hc
    cases fn with
    | func f =>
      simp only at hc
      split at hc
      case isFalse => cases hc
      rename_i hl
      cases hys : opdsC cs.toList with
      | none => rw [hys] at hc; cases hc
      | some ys =>
        rw [hys] at hc; simp only [Option.map_some, Option.some.injEq] at hc; subst hc
        obtain ⟨g1, g2⟩ := opdsC_sound hev _ _ hys
        exact does_mkfn ho hl (by simpa using g1) (fun j y hy => by obtain ⟨x, hx, hv⟩ := g2 j y hy; exact ⟨x, by simpa using hx, hv⟩) hq
    | _ => cases hc
  | slice t x lo hi mx =>
    rw [ho] at hc
    simp only [cop] at hc
    split at hc
    case h_2 => cases hc
    rename_i e he
    split at hc
    case h_2 => cases hc
    rename_i n X LO HI MX hn hX hLO hHI hMX
    split at hc
    · cases hc
    rename_i hmh
    simp only [Option.some.injEq] at hc
    subst hc
    exact does_slc ho he hn hev (hev x X hX) hLO hHI hMX (fun h => by
      rw [← optC_isSome hMX] at h; rw [← optC_isSome hHI]
      simp only [h, Bool.true_and, Bool.not_eq_true', Bool.not_eq_false] at hmh; exact hmh) hq hp
  | fieldAddr t x i =>
    rw [ho] at hc
    simp only [cop] at hc
    split at hc
    case h_2 => cases hc
    rename_i fs ht
    split at hc
    case h_2 => cases hc
    rename_i f hf
    split at hc
    case h_2 => cases hc
    rename_i n X hn hX
    split at hc
    case isFalse => cases hc
    rename_i h0
    simp only [Option.some.injEq] at hc
    subst hc
    exact does_fad ho ht hf hn h0 (hev x X hX) hq
  | field t x i =>
    rw [ho] at hc
    simp only [cop] at hc
    split at hc
    case h_2 => cases hc
    rename_i fs ht
    split at hc
    case h_2 => cases hc
    rename_i f hf
    split at hc
    case h_2 => cases hc
    rename_i a n X ha hn hX
    simp only [Option.some.injEq] at hc
    subst hc
    exact does_fld ho ht hf ha hn (hev x X hX) hq hp
  | indexAddr t x i =>
    rw [ho] at hc
    simp only [cop] at hc
    split at hc
    · rename_i e X I ht hX hI
      cases hn : szT P e with
      | none => rw [hn] at hc; cases hc
      | some n =>
        rw [hn] at hc; simp only [Option.map_some, Option.some.injEq] at hc; subst hc
        exact does_iads ho ht hn hk (hev x X hX) (hev i I hI) hq hp
    · rename_i len e X I ht hX hI
      cases hn : szT P e with
      | none => rw [hn] at hc; cases hc
      | some n =>
        rw [hn] at hc; simp only [Option.map_some, Option.some.injEq] at hc; subst hc
        exact does_iada ho ht hn (hev x X hX) (hev i I hI) hq hp
    · cases hc
  | index t x i =>
    rw [ho] at hc
    simp only [cop] at hc
    split at hc
    case h_2 => cases hc
    rename_i len e X I ht hX hI
    split at hc
    case h_2 => cases hc
    rename_i a n ha hn
    simp only [Option.some.injEq] at hc
    subst hc
    exact does_ida ho ht ha hn (hev x X hX) (hev i I hI) hq hp
  | extract x i =>
    rw [ho] at hc
    simp only [cop] at hc
    cases hx : opdC x with
    | none => rw [hx] at hc; cases hc
    | some y =>
      rw [hx] at hc; simp only [Option.map_some, Option.some.injEq] at hc; subst hc
      exact does_ext ho (hev x y hx) hq hp
  | store t x y =>
    rw [ho] at hc
    simp only [cop] at hc
    split at hc <;> simp only [Option.some.injEq, reduceCtorEq] at hc
    subst hc
    cases hq
  | buildSlice t n ps =>
    rw [ho] at hc
    simp only [cop] at hc
    split at hc
    case h_2 => cases hc
    split at hc
    case h_2 => cases hc
    split at hc <;> simp only [Option.some.injEq, reduceCtorEq] at hc
    subst hc
    cases hq
  | makeSlice t l c =>
    rw [ho] at hc
    simp only [cop] at hc
    split at hc
    case h_2 => cases hc
    split at hc
    case h_2 => cases hc
    split at hc <;> simp only [Option.some.injEq, reduceCtorEq] at hc
    subst hc
    cases hq
  | call c =>
    rw [ho] at hc
    simp only [cop] at hc
    split at hc
    · split at hc <;> simp only [Option.some.injEq, reduceCtorEq] at hc
      · subst hc; cases hq
      · subst hc; cases hq
    · rename_i b hcal
      split at hc
      · rename_i X t h1 h2
        obtain ⟨g1, g2⟩ := opdsC_sound hev _ _ h1
        have hone : ∃ x, c.args.toList = [x] := by
          have : c.args.toList.length = 1 := by simpa using g1.symm
          exact List.length_eq_one_iff.1 this
        obtain ⟨x, hx⟩ := hone
        obtain ⟨x', hx', hv⟩ := g2 0 X rfl
        rw [hx] at hx'
        simp at hx'
        subst hx'
        split at hc
        · rename_i e ht
          simp only [Option.some.injEq] at hc; subst hc
          exact does_len ho hcal hx h2 ht hk hv hq
        · rename_i n e ht
          simp only [Option.some.injEq] at hc; subst hc
          simp only [qv, Option.some.injEq, Prod.mk.injEq] at hq
          obtain ⟨_, rfl⟩ := hq
          exact does_cst ho hcal hx h2 (.inl ⟨e, ht⟩)
        · rename_i a ht
          split at hc <;> simp only [Option.some.injEq, reduceCtorEq] at hc
          rename_i n e hr
          subst hc
          simp only [qv, Option.some.injEq, Prod.mk.injEq] at hq
          obtain ⟨_, rfl⟩ := hq
          exact does_cst ho hcal hx h2 (.inr ⟨e, a, ht, hr⟩)
        · cases hc
      · rename_i X Y h1
        simp only [Option.some.injEq] at hc; subst hc
        obtain ⟨g1, g2⟩ := opdsC_sound hev _ _ h1
        have htwo : ∃ x y, c.args.toList = [x, y] := by
          have : c.args.toList.length = 2 := by simpa using g1.symm
          exact list_two this
        obtain ⟨x, y, hxy⟩ := htwo
        obtain ⟨x', hx', hv⟩ := g2 0 X rfl
        obtain ⟨y', hy', hv'⟩ := g2 1 Y rfl
        rw [hxy] at hx' hy'
        simp at hx' hy'
        subst hx' hy'
        exact does_mnx false ho hcal hxy hv hv' hq
      · rename_i X Y h1
        simp only [Option.some.injEq] at hc; subst hc
        obtain ⟨g1, g2⟩ := opdsC_sound hev _ _ h1
        have htwo : ∃ x y, c.args.toList = [x, y] := by
          have : c.args.toList.length = 2 := by simpa using g1.symm
          exact list_two this
        obtain ⟨x, y, hxy⟩ := htwo
        obtain ⟨x', hx', hv⟩ := g2 0 X rfl
        obtain ⟨y', hy', hv'⟩ := g2 1 Y rfl
        rw [hxy] at hx' hy'
        simp at hx' hy'
        subst hx' hy'
        exact does_mnx true ho hcal hxy hv hv' hq
      · split at hc
        case isFalse => cases hc
        split at hc
        case h_2 => cases hc
        split at hc
        case h_2 => cases hc
        split at hc <;> simp only [Option.some.injEq, reduceCtorEq] at hc
        subst hc
        cases hq
      · cases hc
    · cases hc
  | _ => rw [ho] at hc; cases hc
end
end Go.Proofs.Ytfkeddefajkobaa
