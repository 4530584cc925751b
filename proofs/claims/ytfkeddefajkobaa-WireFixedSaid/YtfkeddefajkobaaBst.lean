/- This text proves the rule for turning bytes into a string, over the small machine. It has no condition of its own. -/
import Derived.Test.YtfkeddefajkobaaMaq
import Derived.Test.YtfkeddefajkobaaWib
import Derived.Laws.BytesString
set_option linter.unusedSimpArgs false
set_option linter.unusedVariables false
namespace Go.Proofs.Ytfkeddefajkobaa
open Go.RowKit
def bytesB (l : List Int) : ByteArray := l.foldl (fun r n => r.push (UInt8.ofNat n.toNat)) ByteArray.empty
section
variable {P : Program} {sb : Bool} {B : Base} {st : St} {K : St → Prop} {dst : Option Nat} {xm : Opd}
theorem XCall.bstr {l : List Int} (hok : oks st.env (.xop 7 [] [xm]) = true) (hm : evS st.env xm = .rows 1 (l.map PB))
    (h : K ⟨putO st.env dst (.str (bytesB l)), st.heap, st.nx⟩) : XCall P sb B (.xop 7 [] [xm]) dst st K := by
  intro o s Z a w K' Q hx hd hdst hr hG
  subst hd
  obtain ⟨u, t, e, m, xm', ho, hu, ht, he, h1, hxs⟩ := xcop_7 hx
  simp only [List.cons.injEq, and_true] at hxs
  subst hxs
  have hv := hr.vr h1 (oks_mem hok (by simp [opnds]))
  rw [hm] at hv
  have hrun : (convert u t (a.eval m)).run P w = .ok (.string (bytesB l)) w := by
    generalize hxs : l.map PB = xs at hv
    generalize a.eval m = v at hv
    cases hv with
    | rnil _ q cap =>
      have hl : l = [] := List.map_eq_nil_iff.1 hxs
      subst hl
      rw [run_convert_bytes_string w u t e _ _ _ hu he ht]
      cases q with
      | none => simp [Conv.bytesToString, bytesB]
      | some q => exact run_bytesToString w q 0 cap [] (run_loadCells_list w q [] (fun j v hj => by simp at hj))
    | rows _ _ b off cap c hcap h2 h3 =>
      rw [run_convert_bytes_string w u t e _ _ _ hu he ht]
      have hlen : xs.length = (l.map (Value.int .u8)).length := by rw [← hxs]; simp
      have := run_bytesToString (P := P) w ⟨b, off, none⟩ xs.length cap l (by
        rw [hlen]
        refine run_loadCells_list w _ _ fun j v hj => ?_
        obtain ⟨z, hz, rfl⟩ := (map_get _ _ _ _).1 hj
        have hrow : xs[j]? = some (PB z) := by rw [← hxs, List.getElem?_map, hz]; rfl
        have g1 := (h2 j _ 0 _ hrow rfl).2
        have g2 := h3 j _ 0 _ hrow rfl
        have g3 : c j 0 = .int .u8 z := VR.int_inv (s := s) (Z := Z) g2
        have g4 := hr.h.zok _ _ _ g1
        rw [g3] at g4
        rw [add_mid']
        simpa using g4)
      exact this
  refine wp_value (v := .string (bytesB l)) (w' := w) ?_ ?_
  · unfold execOp; rw [ho]
    simp only [hrun, Sem.run_bind, Result.andThen_ok, Sem.run_pure]
  · exact hG _ _ _ _ _ (fun _ => Below.refl _ _) h (hr.put hdst (VT.str _) trivial)
end
end Go.Proofs.Ytfkeddefajkobaa
