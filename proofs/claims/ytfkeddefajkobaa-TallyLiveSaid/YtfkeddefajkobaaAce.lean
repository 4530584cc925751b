/- This text proves that operations do what the small machine says ('aops_sound'). It has no condition of its own. -/
import Derived.Test.YtfkeddefajkobaaAcd
set_option linter.unusedSimpArgs false
set_option linter.unusedVariables false
namespace Go.Proofs.Ytfkeddefajkobaa
open Go.RowKit

section
variable {P : Program} {B : Base} {w w' : World} {s s' : Nat → Value} {Z Z' Zp : Cells} {st : St} {a : Act} {H : List (Nat × Ob)}

theorem VC.of_vt' {d : D} {v : Value} (h : VT Z d v) : VC s Z d v := VC.of_vt h
theorem brwV_sound (hk : Know s Z H w) (hz : ∀ b o v, Z b o = some v → Zp b o = some v) (hp : ∀ id ob b, hget H id = some ob → blk (s id) = some b → ∀ o v, w.cell? ⟨b, o, none⟩ = some v → Zp b o = some v) {d e : D} {v : Value} (h : brwV H d = some e) (hv : VV s Z d v) : VV s0 Zp e v := by
  have one : brwC H 4 d = some e → VC s Z d v → VV s0 Zp e v := fun h1 h2 => VV.of_vc (VC.of_vt (brwC_sound hk hz hp 4 d e v h1 h2))
  cases d with
  | agg ds =>
    simp only [brwV] at h
    cases hm : omap (brwC H 4) ds with
    | none => rw [hm] at h; cases h
    | some es =>
      rw [hm] at h
      simp only [Option.map_some, Option.some.injEq] at h
      subst h
      obtain ⟨vs, rfl, hl, hc⟩ := hv
      obtain ⟨g1, g2⟩ := omap_some hm
      refine ⟨vs, rfl, by omega, fun j x hx => ?_⟩
      obtain ⟨y, hy, hb⟩ := g2 j x hx
      exact VC.of_vt (brwC_sound hk hz hp 4 y x _ hb (hc j y hy))
  | any => simp only [brwV, reduceCtorEq] at h
  | _ => exact one h hv
theorem brwR_sound (hk : Know s Z H w) (hz : ∀ b o v, Z b o = some v → Zp b o = some v) (hp : ∀ id ob b, hget H id = some ob → blk (s id) = some b → ∀ o v, w.cell? ⟨b, o, none⟩ = some v → Zp b o = some v) {d e : D} {v : Value} (h : brwR H d = some e) (hv : VR s Z d v) : VR s0 Zp e v := by
  cases d with
  | tup ds =>
    simp only [brwR] at h
    cases hm : omap (brwV H) ds with
    | none => rw [hm] at h; cases h
    | some es =>
      rw [hm] at h
      simp only [Option.map_some, Option.some.injEq] at h
      subst h
      obtain ⟨vs, rfl, hl, hc⟩ := hv
      obtain ⟨g1, g2⟩ := omap_some hm
      refine ⟨vs, rfl, by omega, fun j x hx => ?_⟩
      obtain ⟨y, hy, hb⟩ := g2 j x hx
      exact brwV_sound hk hz hp hb (hc j y hy)
  | any => simp only [brwR, brwV, reduceCtorEq] at h
  | _ => simp only [brwR] at h; simp only [VR] at hv; exact VR.of_vv (brwV_sound hk hz hp h hv)

theorem brwC_no {n : Nat} {d e : D} (h : brwC H n d = some e) (hn : noC d = true) : e = d := by
  cases d <;> cases n <;> simp only [brwC, Option.some.injEq, reduceCtorEq] at h <;> first | exact h.symm | cases hn
theorem brwV_no {d e : D} (h : brwV H d = some e) (hn : noV d = true) : e = d := by
  cases d with
  | agg ds =>
    simp only [brwV] at h
    cases hm : omap (brwC H 4) ds with
    | none => rw [hm] at h; cases h
    | some es =>
      rw [hm] at h
      simp only [Option.map_some, Option.some.injEq] at h
      subst h
      obtain ⟨g1, g2⟩ := omap_some hm
      congr 1
      refine List.ext_getElem? fun j => ?_
      cases hj : es[j]? with
      | none =>
        rw [List.getElem?_eq_none_iff] at hj
        rw [List.getElem?_eq_none (by omega)]
      | some x =>
        obtain ⟨y, hy, hb⟩ := g2 j x hj
        have := List.all_eq_true.1 hn y (List.mem_of_getElem? hy)
        rw [hy, brwC_no hb this]
  | any => simp only [brwV, reduceCtorEq] at h
  | _ => simp only [brwV, noV] at h hn; exact brwC_no h hn
theorem VC.no {d : D} {v : Value} (h : VC s Z d v) (hn : noC d = true) : VC s' Z d v := by
  cases d <;> first | exact h | cases hn
theorem VV.no {d : D} {v : Value} (h : VV s Z d v) (hn : noV d = true) : VV s' Z d v := by
  cases d with
  | agg ds => obtain ⟨vs, rfl, hl, hc⟩ := h; exact ⟨vs, rfl, hl, fun j x hx => (hc j x hx).no (List.all_eq_true.1 hn x (List.mem_of_getElem? hx))⟩
  | _ => simp only [VV, noV] at h hn ⊢; exact VC.no h hn

theorem VC.flat {d : D} {v : Value} (h : VC s Z d v) (hf : flatC d = true) : VC s' Z' d v := by
  cases d <;> first | (cases hf; done) | (cases h; constructor)
theorem VV.flat {d : D} {v : Value} (h : VV s Z d v) (hf : flatV d = true) : VV s' Z' d v := by
  cases d with
  | agg ds => obtain ⟨vs, rfl, hl, hc⟩ := h; exact ⟨vs, rfl, hl, fun j x hx => (hc j x hx).flat (List.all_eq_true.1 hf x (List.mem_of_getElem? hx))⟩
  | _ => simp only [VV, flatV] at h hf ⊢; exact VC.flat h hf
theorem VR.flat {d : D} {v : Value} (h : VR s Z d v) (hf : flatR d = true) : VR s' Z' d v := by
  cases d with
  | tup ds => obtain ⟨vs, rfl, hl, hc⟩ := h; exact ⟨vs, rfl, hl, fun j x hx => (hc j x hx).flat (List.all_eq_true.1 hf x (List.mem_of_getElem? hx))⟩
  | any => cases hf
  | _ => simp only [VR, flatR] at h hf ⊢; exact VV.flat h hf

/-- what a call leaves -/
def Left (B : Base) (K : St → Prop) (env : List (Nat × D)) (dst : Option Nat) (st : St) (s : Nat → Value) (Z : Cells) (v : Value) (w' : World) : Prop :=
  ∃ d H' nx' s' Z', VR s' Z' d v ∧ LtR nx' d ∧ RelH B s' Z' H' nx' w' ∧ st.nx ≤ nx' ∧ (∀ id, id < st.nx → s' id = s id) ∧ (∀ b o v, Z b o = some v → Z' b o = some v) ∧ K ⟨putO env dst d, H', nx'⟩
/-- a call of f with these data leaves what K says -/
def CallOk (P : Program) (sb : Bool) (B : Base) (f : FuncId) (ds : List D) (dst : Option Nat) (st : St) (K : St → Prop) : Prop :=
  callable P f = true ∧ ∀ (s : Nat → Value) (Z : Cells) (w : World) (vs : Array Value), RelH B s Z st.heap st.nx w → vs.size = ds.length → (∀ j x, ds[j]? = some x → VR s Z x (vs.getD j undef)) →
    Calls P f vs w fun e w' => ∃ v, e = .returned v ∧ (sb = true → Below w.heap.size w w') ∧ Left B K st.env dst st s Z v w'

theorem callFunc_run {f : FuncId} (hc : callable P f = true) (vs : Array Value) : (callFunc f vs).run P w = .ok (.enter f vs) w := by
  unfold callable at hc
  split at hc
  · rename_i fn hf
    simp only [Bool.and_eq_true, Bool.not_eq_true'] at hc
    obtain ⟨h1, h2⟩ := hc
    have h3 : fn.body.isNone = false := by cases hb : fn.body with
      | none => rw [hb] at h1; cases h1
      | some _ => rfl
    simp only [callFunc, Sem.run_bind, run_program, Result.andThen_ok, hf, h2, h3, Bool.false_eq_true, if_false, Sem.run_pure]
  · cases hc
end
end Go.Proofs.Ytfkeddefajkobaa
