/- This text proves the rules for calls: by a contract over data, and by one over memory of one's own that stands anywhere among more memory. It has no condition of its own. -/
import Derived.Test.YtfkeddefajkobaaAcg
set_option linter.unusedSimpArgs false
set_option linter.unusedVariables false
namespace Go.Proofs.Ytfkeddefajkobaa
open Go.RowKit

section
variable {P : Program} {sb : Bool} {B : Base} {w w' : World} {s s' : Nat → Value} {Z Z' : Cells} {st : St} {a : Act} {o : Oper} {K : St → Prop} {K' : Act → World → Prop} {Q : Exit → Act → World → Prop}

theorem eqC_no_call {t : TypeId} {ne : Bool} {x y : Opd} {ao : AOp} (h : eqC P t ne x y = some ao) : isLoud ao = false := eqC_quiet h
theorem cop_call {o : Op} {f : FuncId} {as_ : List Opd} (hc : cop P o = some (.call f as_)) : ∃ c, o = .call c ∧ c.callee = .value (.func f) ∧ opdsC c.args.toList = some as_ := by
  by_cases hl : opLoud o
  · cases o with
    | call c =>
      refine ⟨c, rfl, ?_⟩
      simp only [cop] at hc
      split at hc
      · rename_i g hg
        split at hc <;> simp at hc
        rename_i f' ys hys
        obtain ⟨rfl, rfl⟩ := hc
        exact ⟨hg, hys⟩
      · rename_i b hb
        split at hc
        · split at hc <;> (try split at hc) <;> simp at hc
        · simp at hc
        · simp at hc
        · split at hc
          · split at hc
            · split at hc
              · split at hc <;> simp at hc
              · cases hc
            · cases hc
          · cases hc
        · cases hc
      · cases hc
    | alloc t => simp [cop] at hc
    | box t x => simp [cop] at hc
    | store t x y => simp only [cop] at hc; split at hc <;> simp at hc
    | buildSlice t n qs =>
      simp only [cop] at hc
      split at hc
      · split at hc
        · split at hc <;> simp at hc
        · cases hc
      · cases hc
    | makeSlice t l c =>
      simp only [cop] at hc
      split at hc
      · split at hc
        · split at hc <;> simp at hc
        · cases hc
      · cases hc
    | _ => exact hl.elim
  · have := cop_quiet hl hc
    cases this
theorem cop_callv {o : Op} {x : Opd} {as_ : List Opd} (hc : cop P o = some (.callv x as_)) : ∃ c t, o = .call c ∧ x = .t t ∧ c.callee = .value (.tmp t) ∧ opdsC c.args.toList = some as_ := by
  by_cases hl : opLoud o
  · cases o with
    | call c =>
      simp only [cop] at hc
      split at hc
      · rename_i g hg
        split at hc <;> simp at hc
        rename_i t ys hys
        obtain ⟨rfl, rfl⟩ := hc
        exact ⟨c, t, rfl, rfl, hg, hys⟩
      · rename_i b hb
        split at hc
        · split at hc <;> (try split at hc) <;> simp at hc
        · simp at hc
        · simp at hc
        · split at hc
          · split at hc
            · split at hc
              · split at hc <;> simp at hc
              · cases hc
            · cases hc
          · cases hc
        · cases hc
      · cases hc
    | alloc t => simp [cop] at hc
    | box t x => simp [cop] at hc
    | store t x y => simp only [cop] at hc; split at hc <;> simp at hc
    | buildSlice t n qs =>
      simp only [cop] at hc
      split at hc
      · split at hc
        · split at hc <;> simp at hc
        · cases hc
      · cases hc
    | makeSlice t l c =>
      simp only [cop] at hc
      split at hc
      · split at hc
        · split at hc <;> simp at hc
        · cases hc
      · cases hc
    | _ => exact hl.elim
  · have := cop_quiet hl hc
    cases this

theorem WCall.of {f : FuncId} {as_ : List Opd} {dst : Option Nat} (hok : oks st.env (.call f as_) = true) (hc : CallOk P sb B f (as_.map (evS st.env)) dst st K) : WCall P sb B (.call f as_) dst st K := by
  intro o s Z a w K' Q hcop hd hdst h hG
  obtain ⟨hcal, hc⟩ := hc
  obtain ⟨⟨cal, ars, ats⟩, ho, hcl, hys⟩ := cop_call hcop
  obtain ⟨ars⟩ := ars
  simp only at hcl hys
  subst hcl
  obtain ⟨g1, g2⟩ := args_sound h hys (fun y hy => oks_mem hok hy)
  have hcalls := hc s Z w (ars.map a.eval).toArray h.h (by simp [g1]) (fun j x hx => by simpa [Array.getD_eq_getD_getElem?] using g2 j x hx)
  refine wp_enter (f := f) (vs := (ars.map a.eval).toArray) ?_ (hcalls.mono fun e w' ⟨v, he, hbl, hL⟩ => ⟨v, he, goes_call h (by rw [hd]; exact hdst) hbl (by rw [hd]; exact hL) hG⟩)
  unfold execOp; rw [ho]
  have := callFunc_run (P := P) (w := w) hcal (ars.map a.eval).toArray
  simpa [resolve, invoke, Act.eval, Deferred.ofValue] using this
theorem WCall.ofv {x : Opd} {f : FuncId} {as_ : List Opd} {cs : List D} {dst : Option Nat} (hok : oks st.env (.callv x as_) = true) (hf : evS st.env x = .fn f cs) (hc : CallOk P sb B f (as_.map (evS st.env) ++ cs) dst st K) : WCall P sb B (.callv x as_) dst st K := by
  intro o s Z a w K' Q hcop hd hdst h hG
  obtain ⟨hcal, hc⟩ := hc
  obtain ⟨⟨cal, ars, ats⟩, t, ho, rfl, hcl, hys⟩ := cop_callv hcop
  obtain ⟨ars⟩ := ars
  simp only at hcl hys
  subst hcl
  obtain ⟨g1, g2⟩ := args_sound h hys (fun y hy => oks_mem hok (List.mem_cons_of_mem _ hy))
  have hvf := h.vr (x := .tmp t) (y := .t t) rfl (oks_mem hok (by simp [opnds]))
  rw [hf] at hvf
  generalize hav : a.eval (.tmp t) = fv at hvf
  cases hvf with
  | fn _ _ us hul huc =>
  have hcalls := hc s Z w ((ars.map a.eval).toArray ++ us) h.h (by simp [g1, hul]) (fun j x hx => by
    rw [Array.getD_eq_getD_getElem?]
    by_cases hj : j < as_.length
    · rw [List.getElem?_append_left (by simpa using hj)] at hx
      rw [Array.getElem?_append_left (by simp; omega)]
      simpa using g2 j x hx
    · rw [List.getElem?_append_right (by simpa using hj)] at hx
      rw [Array.getElem?_append_right (by simp; omega)]
      have := huc _ x hx
      rw [Array.getD_eq_getD_getElem?] at this
      simp only [List.length_map, List.size_toArray] at this ⊢
      rw [← g1]
      exact VR.of_vc (VC.of_vt this))
  refine wp_enter (f := f) (vs := (ars.map a.eval).toArray ++ us) ?_ (hcalls.mono fun e w' ⟨v, he, hbl, hL⟩ => ⟨v, he, goes_call h (by rw [hd]; exact hdst) hbl (by rw [hd]; exact hL) hG⟩)
  unfold execOp; rw [ho]
  have := callFunc_run (P := P) (w := w) hcal ((ars.map a.eval).toArray ++ us)
  simpa [resolve, invoke, hav, Deferred.ofValue] using this

/-! ### Calls over data -/
theorem brwV_vv {H : List (Nat × Ob)} {x y : D} (hb : brwV H x = some y) {v : Value} (h : VR s Z x v) : VV s Z x v := by
  cases x <;> simp only [brwV, brwC, reduceCtorEq] at hb <;> exact h
theorem CallOk.pf {f : FuncId} {ds es : List D} {d : D} {dst : Option Nat} (hpf : PF P f es d) (hes : match omap (brwV st.heap) ds with | some e => leVL e es | none => False) (hno : (ds.all noV || flatR d) = true) (hK : K ⟨putO st.env dst d, st.heap, st.nx⟩) : CallOk P sb B f ds dst st K := by
  obtain ⟨hcal, hpf⟩ := hpf
  refine ⟨hcal, fun s Z w vs h hl hv0 => ?_⟩
  split at hes
  case h_2 => exact hes.elim
  rename_i es' hes'
  obtain ⟨g1, g2⟩ := omap_some hes'
  obtain ⟨l1, l2⟩ := leVL_get hes
  have hv : ∀ j x, ds[j]? = some x → VV s Z x (vs.getD j undef) := fun j x hx => by
    have hlt : j < es'.length := by rw [g1]; exact (List.getElem?_eq_some_iff.1 hx).1
    obtain ⟨y, hy, hb⟩ := g2 j _ (List.getElem?_eq_getElem hlt)
    rw [hx] at hy
    cases hy
    exact brwV_vv hb (hv0 j x hx)
  by_cases hall : ds.all noV = true
  · have hee : es' = ds := List.ext_getElem? fun j => by
      cases hj : es'[j]? with
      | none => rw [List.getElem?_eq_none_iff] at hj; rw [List.getElem?_eq_none (by omega)]
      | some x =>
        obtain ⟨y, hy, hb⟩ := g2 j x hj
        rw [hy, brwV_no hb (List.all_eq_true.1 hall y (List.mem_of_getElem? hy))]
    subst hee
    refine (hpf Z w vs h.zok (by omega) fun j x hx => by
      obtain ⟨y, hy, hle⟩ := l2 j x hx
      exact leV_sound hle ((hv j y hy).no (List.all_eq_true.1 hall y (List.mem_of_getElem? hy)))).mono fun e w' ⟨v, Z', he, hr, hzx, hb⟩ => ⟨v, he, fun _ => hb, d, st.heap, st.nx, s, Z', hr.of0.1, hr.lt0.mono (Nat.zero_le _), h.call hb hzx, Nat.le_refl _, fun _ _ => rfl, hzx.old, hK⟩
  · have hf : flatR d = true := by simpa [hall] using hno
    refine (hpf (allZ w) w vs (fun b o v h => h) (by omega) fun j x hx => ?_).mono fun e w' ⟨v, Z', he, hr, hzx, hb⟩ => ⟨v, he, fun _ => hb, d, st.heap, st.nx, s, Z, hr.flat hf, hr.lt0.mono (Nat.zero_le _), h.call hb (Zx.refl h.zok hb), Nat.le_refl _, fun _ _ => rfl, fun _ _ _ h => h, hK⟩
    obtain ⟨x', hx', hle⟩ := l2 j x hx
    obtain ⟨y, hy, hb⟩ := g2 j x' hx'
    exact leV_sound hle (brwV_sound h.know (fun b o v hz => h.zok b o v hz) (fun _ _ _ _ _ o v hc => hc) hb (hv j y hy))
theorem CallOk.pfn {f : FuncId} {ds es : List D} {d : D} {dst : Option Nat} (hpf : PFn P f es d) (hes : match omap (brwV st.heap) ds with | some e => leVL e es | none => False) (hK : K ⟨putO st.env dst d, st.heap, st.nx⟩) : CallOk P sb B f ds dst st K := by
  obtain ⟨hcal, hpf⟩ := hpf
  refine ⟨hcal, fun s Z w vs h hl hv0 => ?_⟩
  split at hes
  case h_2 => exact hes.elim
  rename_i es' hes'
  obtain ⟨g1, g2⟩ := omap_some hes'
  obtain ⟨l1, l2⟩ := leVL_get hes
  have hv : ∀ j x, ds[j]? = some x → VV s Z x (vs.getD j undef) := fun j x hx => by
    have hlt : j < es'.length := by rw [g1]; exact (List.getElem?_eq_some_iff.1 hx).1
    obtain ⟨y, hy, hb⟩ := g2 j _ (List.getElem?_eq_getElem hlt)
    rw [hx] at hy
    cases hy
    exact brwV_vv hb (hv0 j x hx)
  refine (hpf (allZ w) w vs (fun b o v h => h) (by omega) fun j x hx => ?_).mono ?_
  · obtain ⟨x', hx', hle⟩ := l2 j x hx
    obtain ⟨y, hy, hb⟩ := g2 j x' hx'
    exact leV_sound hle (brwV_sound h.know (fun b o v hz => h.zok b o v hz) (fun _ _ _ _ _ o v hc => hc) hb (hv j y hy))
  rintro e w' ⟨v, Zn, he, hr, hn, hb⟩
  have hZ : ∀ b o u, Z b o = some u → b < w.heap.size := fun b o u hu => World.block_lt_of_cell? w _ (h.zok b o u hu)
  have hzx : Zx Z (fun b o => match Z b o with | some u => some u | none => Zn b o) w w' := by
    refine ⟨fun b o u hu => by simp only [hu], fun b o u hu => ?_, fun b o u hu => ?_⟩
    · cases hq : Z b o with
      | none => simp only [hq] at hu; exact .inr (hn b o u hu).1
      | some u' => simp only [hq] at hu; exact .inl (by rw [← hu])
    · cases hq : Z b o with
      | none => simp only [hq] at hu; exact (hn b o u hu).2
      | some u' =>
        simp only [hq, Option.some.injEq] at hu
        subst hu
        have := h.zok b o u' hq
        rw [hb.cell (p := ⟨b, o, none⟩) (World.block_lt_of_cell? w _ this)]; exact this
  refine ⟨v, he, fun _ => hb, d, st.heap, st.nx, s, _, ?_, hr.lt0.mono (Nat.zero_le _), h.call hb hzx, Nat.le_refl _, fun _ _ => rfl, hzx.old, hK⟩
  refine VR.mono (n := 0) (fun b o u hu => ?_) (fun _ h => by omega) hr.lt0 (hr.of0 (s := s)).1
  cases hq : Z b o with
  | none => simp only [hu]
  | some u' => have := hZ b o u' hq; have := (hn b o u hu).1; omega
end
end Go.Proofs.Ytfkeddefajkobaa
