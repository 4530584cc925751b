/- This text proves the statement 'CoreFirst': at every input the law returns true, and each argument reads afterwards as it read before. It has no condition. -/
import Derived.Test.YtibemmkfcjlmpaaGreatCtcorefirst
import Derived.Carry
set_option linter.unusedSimpArgs false
namespace Go.Proofs.YtibemmkfcjlmpaaGreat.coreFirst
open Go.ChangeShapes Go.WideShapes Go.ChangeAt Go.RowKit
set_option linter.unusedVariables false
theorem own : ownKnob Tryz.prog.godebug = none := by kernel_rfl
set_option maxRecDepth 100000 in
theorem lifted (os : Os) (started : os.Started) (H : Type) (enc : TypeId × Value → H) :
    ReturnsInHanded {} Tryz.checked os 7 .any (Rows.coreFirstSpec.pre6 enc Tryz.prog Tryz.f7 Rows.coreFirstRow.domain false) (Rows.coreFirstSpec.post enc Tryz.prog Tryz.f7 false true false false) := by
  refine returnsInHanded_of_change (C := Tryz.checked) own started (by kernel_rfl) Tryz.func7
    (ChangeSpec.witness6 (enc := enc) (C := Tryz.checked) false ⟨#[], #[.agg #[.int .i64 0, .int .i64 0, .int .i64 0, .int .i64 0, .int .i64 0, .int .i64 0, .int .i64 0, .int .i64 0, .int .i64 0, .int .i64 0, .int .i64 0, .int .i64 0, .int .i64 0, .int .i64 0, .int .i64 0, .int .i64 0], .int .i64 0, .int .i64 0, .int .i64 0], []⟩ 8 (by kernel_rfl) (by kernel_rfl) (by kernel_rfl) (by kernel_rfl)) ?_
  intro W base args ds gs before hval0 hW hcnd _
  have hval : ∀ (j : Nat) t v, Tryz.f7.params[j]? = some t → args[j]? = some v → Value.okWide Tryz.prog W .any base t v := hval0
  have hW' := hW
  obtain ⟨p, q, hA0, hV, rfl, hfz, hnd⟩ := hW
  have hA : DataW.TrodAll enc Tryz.prog W 0 (fun _ => true) true Tryz.f7.params.toList args.toList ds p := hA0
  rw [Tryz.params7] at hA hval
  obtain ⟨v0, vs0, d0, ds0, p0, q0, hargs, rfl, rfl, h0, r0⟩ := trodAll_cons hA
  obtain ⟨v1, vs1, d1, ds1, p1, q1, rfl, rfl, rfl, h1, r1⟩ := trodAll_cons r0
  obtain ⟨v2, vs2, d2, ds2, p2, q2, rfl, rfl, rfl, h2, r2⟩ := trodAll_cons r1
  obtain ⟨v3, vs3, d3, ds3, p3, q3, rfl, rfl, rfl, h3, r3⟩ := trodAll_cons r2
  obtain ⟨rfl, rfl, rfl⟩ := trodAll_nil r3
  obtain rfl : args = #[v0, v1, v2, v3] := by cases args; simp_all
  obtain ⟨rfl, rfl⟩ := trodVars_none hV
  have nm0 : Nums Tryz.prog 24 16 := Nums.structG Tryz.underlying24 (by kernel_rfl) (by kernel_rfl) fun i f h => by
    match i, h with
    | 0, h => obtain rfl := Option.some.inj h; exact ⟨1, Nums.int Tryz.underlying3⟩
    | 1, h => obtain rfl := Option.some.inj h; exact ⟨1, Nums.int Tryz.underlying3⟩
    | 2, h => obtain rfl := Option.some.inj h; exact ⟨1, Nums.int Tryz.underlying3⟩
    | 3, h => obtain rfl := Option.some.inj h; exact ⟨1, Nums.int Tryz.underlying3⟩
    | 4, h => obtain rfl := Option.some.inj h; exact ⟨1, Nums.int Tryz.underlying3⟩
    | 5, h => obtain rfl := Option.some.inj h; exact ⟨1, Nums.int Tryz.underlying3⟩
    | 6, h => obtain rfl := Option.some.inj h; exact ⟨1, Nums.int Tryz.underlying3⟩
    | 7, h => obtain rfl := Option.some.inj h; exact ⟨1, Nums.int Tryz.underlying3⟩
    | 8, h => obtain rfl := Option.some.inj h; exact ⟨1, Nums.int Tryz.underlying3⟩
    | 9, h => obtain rfl := Option.some.inj h; exact ⟨1, Nums.int Tryz.underlying3⟩
    | 10, h => obtain rfl := Option.some.inj h; exact ⟨3, Nums.arr Tryz.underlying22 Tryz.underlying3 (by kernel_rfl) (by kernel_rfl)⟩
    | 11, h => obtain rfl := Option.some.inj h; exact ⟨3, Nums.arr Tryz.underlying22 Tryz.underlying3 (by kernel_rfl) (by kernel_rfl)⟩
    | n + 12, h => exact absurd h (by simp)
  obtain ⟨l0, hs0, ok0⟩ := open_struct (by omega) nm0 h0
  obtain ⟨a1, rfl, rfl, rfl, w1⟩ := open_int Tryz.underlying3 (hval 1 3 v1 rfl rfl) h1
  obtain ⟨a2, rfl, rfl, rfl, w2⟩ := open_int Tryz.underlying3 (hval 2 3 v2 rfl rfl) h2
  obtain ⟨a3, rfl, rfl, rfl, w3⟩ := open_int Tryz.underlying3 (hval 3 3 v3 rfl rfl) h3
  clear hA0 hval0
  simp only [List.append_nil] at hW'
  refine (law_of_pf (cofst_pf l0 a1 a2 a3 ok0 (nums_wf w1) (nums_wf w2) (nums_wf w3)) W _ rfl (args_cons hs0 (args_cons (VT.int .i64 a1) (args_cons (VT.int .i64 a2) (args_cons (VT.int .i64 a3) args_nil))))).mono fun e W' ⟨he, hg⟩ => ?_
  subst he
  have k0 := Below.trod laidOut (by kernel_rfl) (of_decide_eq_true (by kernel_rfl)) h0 hg (fun x hx => hW'.lt x (by simp [hx]))
  refine ⟨_, rfl, _, _, _, [], _, [], hW', (trodAll_cons_mk (shut_bool Tryz.underlying4 _) trodAll_mk0), (trodAll_cons_mk (k0) (trodAll_cons_mk (shut_int Tryz.underlying3 w1) (trodAll_cons_mk (shut_int Tryz.underlying3 w2) (trodAll_cons_mk (shut_int Tryz.underlying3 w3) trodAll_mk0)))), rfl, hg.frame _, fun h => by cases h⟩
theorem hIn : Rows.coreFirstRow.inPlace = Program.inPlace Tryz.prog 7 := by kernel_rfl
theorem hUn : Rows.coreFirstRow.unfollowed = Program.unfollowed Tryz.prog 7 := by kernel_rfl
theorem hVa : Rows.coreFirstRow.named = Program.varsNamed Tryz.prog 7 := by kernel_rfl
theorem hRe : Rows.coreFirstRow.recurses = Program.recurses Tryz.prog 7 := by unfold Program.recurses; rw [← hUn]; rfl
theorem closed : joinedFacts Tryz.prog 7 Tryz.f7 Rows.coreFirstSpec Rows.coreFirstRow = true := by
  unfold joinedFacts
  rw [← hIn, ← hUn, ← hVa, ← hRe]
  kernel_rfl
theorem over : Rows.coreFirstRow.holds Tryz.pinned (OpenSpec.ofChange Rows.coreFirstSpec) :=
  OpenClaim.holds_of_wide 7 Tryz.f7 rfl rfl rfl rfl rfl rfl rfl ⟨rfl, rfl, rfl, rfl, rfl⟩ rfl rfl rfl rfl rfl (by kernel_rfl) Tryz.func7 closed
    (of_decide_eq_true (by kernel_rfl)) (by unfold Func.isWrapper; first | (rw [if_pos (by decide +kernel)]; kernel_rfl) | (rw [if_neg (by decide +kernel)]; exact ⟨rfl, rfl⟩))
    (fun os started H enc _ => lifted os started H enc)
/-- THE STATEMENT -/
theorem proved : Rows.CoreFirstSaid := over
end Go.Proofs.YtibemmkfcjlmpaaGreat.coreFirst
