/- This text opens arguments: a byte, a slice of bytes, and says how long such a slice can be. It has no condition of its own. -/
import Derived.Test.YtfkeddefajkobaaArg
import Derived.Test.YtfkeddefajkobaaWib
import Derived.SizedLaws
set_option linter.unusedSimpArgs false
set_option linter.unusedVariables false
set_option maxRecDepth 100000
namespace Go.Proofs.Ytfkeddefajkobaa
open Go.ChangeShapes Go.WideShapes Go.ChangeAt Go.RowKit
theorem byte_wf {z : Int} (h : (Lit.int .u8 z).wf = true) : Byte z := by
  have h1 : IntKind.u8.min = 0 := rfl
  have h2 : IntKind.u8.max = 255 := rfl
  simp only [Lit.wf, Bool.and_eq_true, decide_eq_true_eq] at h
  exact ⟨by omega, by omega⟩
theorem Elt.byte {P : Program} {t : TypeId} (ht : P.underlying t = some (.int .u8)) : Elt P t 1 (fun z : Int => [Value.int .u8 z]) Byte := fun h => by
  obtain ⟨z, rfl, _, hw⟩ := DataW.trod_int ht h
  exact ⟨z, rfl, rfl, byte_wf hw⟩
theorem vt_bytes {W : World} {v : Value} {l : List Int} (h : Sl W 1 (fun z : Int => [Value.int .u8 z]) v l) : VT (allZ W) (.rows 1 (l.map PB)) v :=
  h.rows fun z _ => ⟨rfl, rfl, fun j d hd => by
    cases j with
    | zero => simp [PB] at hd; subst hd; exact ⟨_, rfl, fun Z => VT.int .u8 z⟩
    | succ j => simp [PB] at hd⟩
theorem open_bytes {H : Type} {enc : TypeId × Value → H} {w : World} {base : Nat} {spare : Nat → Bool} {held : Bool} {r0 : Reach} {b0 : Nat} {t e : TypeId} {v : Value} {d : DataW H} {ps : List MemPlace}
    (ht : Try.prog.underlying t = some (.slice e)) (hc : Try.prog.cellsOf e = 1) (he : Try.prog.underlying e = some (.int .u8)) (hv : Value.okWide Try.prog w r0 b0 t v) (h : DataW.Trod enc Try.prog w base spare held t v d ps) :
    ∃ l : List Int, l.length ≤ maxLen ∧ VV s0 (allZ w) (.rows 1 (l.map PB)) v ∧ ∀ z ∈ l, Byte z := by
  obtain ⟨l, h1, h2, h3⟩ := open_elts ht hc (by omega) (Elt.byte he) hv h
  exact ⟨l, h1, vt_bytes h3, fun z hz => (h2 z hz).2⟩
theorem sized_rows {H : Type} {enc : TypeId × Value → H} {P : Program} {w : World} {base : Nat} {spare : Nat → Bool} {held : Bool} {t e : TypeId} {v : Value} {d : DataW H} {ps : List MemPlace} {sz : Nat} {l : List Int} {Z : Cells}
    (ht : P.underlying t = some (.slice e)) (hb : P.bytesOf e = 1) (h : DataW.Trod enc P w base spare held t v d ps) (hs : VV s0 Z (.rows sz (l.map PB)) v) {ts : List TypeId} {ds : List (DataW H)} (hsz : (DataW.weightsEach P ts ds).all (· ≤ reachBytes) = true) {j : Nat} (hj : ts[j]? = some t) (hd : ds[j]? = some d) :
    l.length ≤ 140737488351232 := by
  obtain ⟨a0, cap0, rfl, _⟩ := VR.rows_inv (s := s0) (VR.of_vv hs)
  obtain ⟨fuel, hf⟩ := h
  rcases Go.Deep.open_slice ht hf with ⟨h0, _⟩ | ⟨a, len, cap, m, k, D, Pl, hcs, _, hl, _, _, hx, _⟩
  · simp only [Value.cells, List.cons.injEq, Value.slice.injEq, and_true, List.length_map] at h0
    omega
  · simp only [Value.cells, List.cons.injEq, Value.slice.injEq, and_true, List.length_map] at hcs
    obtain ⟨e0, e1, e2⟩ := hcs
    have hdd : d = .slice ((List.range len).map D) ((List.range (m - len)).map fun j => D (len + j)) := (Prod.mk.inj hx).1
    rw [hdd] at hd
    have := sized_slice hsz hj hd ht
    rw [hb, Nat.mul_one] at this
    simp only [List.length_map, List.length_range] at this
    have hr : reachBytes = 140737488351232 := by decide
    omega
end Go.Proofs.Ytfkeddefajkobaa
