/- This text proves that keys of two numbers can be found in a map. It has no condition of its own. -/
import Derived.Test.YtfkeddefajkobaaMaq
import Derived.Test.YtfkeddefajkobaaArg
import Derived.DeepKeys4
set_option linter.unusedSimpArgs false
set_option linter.unusedVariables false
set_option maxRecDepth 100000
namespace Go.Proofs.Ytfkeddefajkobaa
open Go.RowKit
theorem mapK_row {P : Program} {kt : TypeId} {n : Nat} (h : mapK P kt = some n) : kt < P.types.size := by
  unfold mapK at h
  split at h
  · assumption
  · cases h
theorem wf_inr {z : Int} (h : InR z) : (Lit.int .i64 z).wf = true := by
  have h1 : IntKind.i64.min = -9223372036854775808 := rfl
  have h2 : IntKind.i64.max = 9223372036854775807 := rfl
  simp only [Lit.wf, Bool.and_eq_true, decide_eq_true_eq]
  obtain ⟨h3, h4⟩ := h
  omega
theorem key0 {P : Program} : MapsOk P 0 := fun t kt e ht hkt => by
  have hu : P.underlying kt = some (.int .i64) := by
    unfold mapK at hkt
    split at hkt
    · split at hkt
      · assumption
      · split at hkt
        · split at hkt
          · rename_i ks _ hc
            simp only [Bool.and_eq_true, decide_eq_true_eq] at hc
            simp at hkt
            rw [hkt] at hc
            simp at hc
          · cases hkt
        · cases hkt
      · cases hkt
    · cases hkt
  refine ⟨Maps.int_keyed hu, fun ks hk => ?_⟩
  obtain ⟨h1, h2⟩ := hk
  simp only [if_true] at h1
  match ks, h1 with
  | [z], _ => exact ⟨_, Maps.keyOf_int_mk hu (wf_inr (h2 z (by simp)))⟩
theorem key2_of {P : Program} (hlaid : laidOutB P = true) {kt : TypeId} {f g : Field} (hrow : kt < P.types.size) (hfs : P.underlying kt = some (.struct #[f, g])) (h2 : P.keyTypeAt 3 kt = true) (h4 : P.cellsOf kt = 2) (n1 : f.name ≠ "_" ∧ g.name ≠ "_")
    (g1 : f.offset = 0) (g2 : g.offset = 1) (g3 : P.cellsOf f.type = 1) (g4 : P.cellsOf g.type = 1) (g6 : P.underlying f.type = some (.int .i64) ∧ P.underlying g.type = some (.int .i64)) :
    Maps.Keyed P kt ∧ ∀ ks, goodK 2 ks → ∃ l, keyOf P kt (vInts (2 == 0) ks) = some l := by
  refine ⟨Maps.Keyed.of_law (deep_law_laid hlaid (m := 3) (by omega) hrow h2 (by rw [hfs])), fun ks hk => ?_⟩
  obtain ⟨k1, k2⟩ := hk
  have k1 : ks.length = 2 := k1
  match ks, k1 with
  | [a, b], _ =>
    have wa := wf_inr (k2 a (by simp))
    have wb := wf_inr (k2 b (by simp))
    obtain ⟨s, hs⟩ : ∃ s, P.types.size = s + 1 := ⟨P.types.size - 1, (Nat.succ_pred_eq_of_pos (Nat.lt_of_le_of_lt (Nat.zero_le kt) hrow)).symm⟩
    have h2k : P.keyType kt = true := by
      have h2' := h2
      unfold Program.keyType
      rw [hs]
      simp only [Program.keyTypeAt, hfs, g6.1, g6.2] at h2' ⊢
      simpa [n1.1, n1.2, g6.1, g6.2, Program.keyTypeAt] using h2'
    have hsome : (keyOf P kt (vInts (2 == 0) [a, b])).isSome = true := by
      unfold keyOf
      rw [hfs]
      simp only [vInts, Value.formed, hfs, h4, hs, Program.keyLits, Value.cells]
      simp [g1, g2, g3, g4, g6.1, g6.2, wa, wb, n1.1, n1.2, h2k]
    exact Option.isSome_iff_exists.1 hsome
theorem key2 : MapsOk Try.prog 2 := fun t kt e ht hkt => by
  have hall : ((List.range Try.prog.types.size).all fun kt => mapK Try.prog kt != some 2 || (Try.prog.keyTypeAt 3 kt && (match Try.prog.underlying kt with | some (.struct fs) => fs.size == 2 && (fs.toList.all fun f => f.name != "_") && (match fs[0]?, fs[1]? with | some f, some g => f.offset == 0 && g.offset == 1 && Try.prog.cellsOf f.type == 1 && Try.prog.cellsOf g.type == 1 && (match Try.prog.underlying f.type, Try.prog.underlying g.type with | some (.int .i64), some (.int .i64) => true | _, _ => false) | _, _ => false) | _ => false) && Try.prog.cellsOf kt == 2)) = true := by kernel_rfl
  have hrow := mapK_row hkt
  have h1 := List.all_eq_true.1 hall kt (List.mem_range.2 hrow)
  rw [hkt] at h1
  simp only [bne_self_eq_false, Bool.false_or, Bool.and_eq_true] at h1
  obtain ⟨⟨h2, h3⟩, h4⟩ := h1
  have hlaid : laidOutB Try.prog = true := laidOut
  split at h3
  · rename_i fs hfs
    simp only [Bool.and_eq_true] at h3
    obtain ⟨⟨h5, h6⟩, h7⟩ := h3
    obtain ⟨fs⟩ := fs
    match fs, h5 with
    | [f, g], _ =>
      simp only [List.getElem?_toArray, List.getElem?_cons_zero, List.getElem?_cons_succ, Bool.and_eq_true, beq_iff_eq] at h7
      obtain ⟨⟨⟨⟨g1, g2⟩, g3⟩, g4⟩, g5⟩ := h7
      have g6 : Try.prog.underlying f.type = some (.int .i64) ∧ Try.prog.underlying g.type = some (.int .i64) := by
        split at g5
        · rename_i e1 e2; exact ⟨e1, e2⟩
        · cases g5
      exact key2_of hlaid hrow hfs h2 (by simpa using h4) (by simpa using h6) g1 g2 g3 g4 g6
  · cases h3
end Go.Proofs.Ytfkeddefajkobaa
