/- This text opens an argument []Told. -/
import Derived.Test.YtbfmjccbbkijlaaOpen
import Derived.Test.YtbfmjccbbkijlaaTally
namespace Go.Proofs.Ytbfmjccbbkijlaa
open Go.ChangeShapes Go.WideShapes Go.ChangeAt Go.RowKit

theorem laidOut : laidOutB Try.prog = true := by kernel_rfl
def toTold (r : List Int) : Told := ⟨r.getD 0 0, r.getD 1 0, r.getD 2 0, r.getD 3 0, r.getD 4 0⟩
theorem nums_told : Nums Try.prog 63 5 :=
  Nums.struct Try.underlying63 (by kernel_rfl) fun i f h => by
    match i, h with
    | 0, h => obtain rfl := Option.some.inj h; exact ⟨rfl, by kernel_rfl, Try.underlying3⟩
    | 1, h => obtain rfl := Option.some.inj h; exact ⟨rfl, by kernel_rfl, Try.underlying3⟩
    | 2, h => obtain rfl := Option.some.inj h; exact ⟨rfl, by kernel_rfl, Try.underlying3⟩
    | 3, h => obtain rfl := Option.some.inj h; exact ⟨rfl, by kernel_rfl, Try.underlying3⟩
    | 4, h => obtain rfl := Option.some.inj h; exact ⟨rfl, by kernel_rfl, Try.underlying3⟩
    | n + 5, h => exact absurd h (by simp)
theorem open_told {H : Type} {enc : TypeId × Value → H} {w : World} {base : Nat} {spare : Nat → Bool} {held : Bool} {r0 : Reach} {b0 : Nat} {v : Value} {d : DataW H} {ps : List MemPlace}
    (hv : Value.okWide Try.prog w r0 b0 35 v) (h : DataW.Trod enc Try.prog w base spare held 35 v d ps) :
    ∃ l : List Told, l.length ≤ 9223372036854775807 ∧ Sl w 5 toldE v l ∧ ∀ x ∈ l, ToldOk x := by
  obtain ⟨rows, h1, h2, h3⟩ := open_nums Try.underlying35 (by kernel_rfl : Try.prog.cellsOf 63 = 5) (by omega) nums_told hv h
  refine ⟨rows.map toTold, by rw [List.length_map]; exact h1, h3.map toTold fun r hr => ?_, fun x hx => ?_⟩
  · obtain ⟨hl, _⟩ := h2 r hr
    match r, hl with
    | [a, b, c, d, e], _ => rfl
  · obtain ⟨r, hr, rfl⟩ := List.mem_map.1 hx
    obtain ⟨hl, hk⟩ := h2 r hr
    match r, hl, hk with
    | [a, b, c, d, e], _, hk => exact ⟨nums_wf (hk a (by simp)), nums_wf (hk b (by simp)), nums_wf (hk c (by simp)), nums_wf (hk d (by simp)), nums_wf (hk e (by simp))⟩
end Go.Proofs.Ytbfmjccbbkijlaa
