/- This text proves the statement 'WheelTurns': at every input the law returns true, and each argument reads afterwards as it read before. It has no condition. -/
import Derived.Test.YtajimebannjofaaMg
import Derived.Test.YtajimebannjofaaMe
import Derived.Carry
set_option linter.unusedSimpArgs false
namespace Go.Proofs.Ytajimebannjofaa.wheelTurns
open Go.ChangeShapes Go.WideShapes Go.ChangeAt Go.RowKit
set_option linter.unusedVariables false
theorem own : ownKnob Try.prog.godebug = none := by kernel_rfl
set_option maxRecDepth 100000 in
theorem lifted (os : Os) (started : os.Started) (H : Type) (enc : TypeId × Value → H) :
    ReturnsInHanded {} Try.checked os 5 .any (Rows.wheelTurnsSpec.pre6 enc Try.prog Try.f5 Rows.wheelTurnsRow.domain false) (Rows.wheelTurnsSpec.post enc Try.prog Try.f5 false true false false) := by
  refine returnsInHanded_of_change (C := Try.checked) own started (by kernel_rfl) Try.func5
    (ChangeSpec.witness6 (enc := enc) (C := Try.checked) false ⟨#[], #[.int .i64 0, .agg #[.int .i64 0, .int .i64 0], .agg #[.int .i64 0, .int .i64 0], .int .i64 0], []⟩ 8 (by kernel_rfl) (by kernel_rfl) (by kernel_rfl) (by kernel_rfl)) ?_
  intro W base args ds gs before hval0 hW hcnd _
  have hval : ∀ (j : Nat) t v, Try.f5.params[j]? = some t → args[j]? = some v → Value.okWide Try.prog W .any base t v := hval0
  have hW' := hW
  obtain ⟨p, q, hA0, hV, rfl, hfz, hnd⟩ := hW
  have hA : DataW.TrodAll enc Try.prog W 0 (fun _ => true) true Try.f5.params.toList args.toList ds p := hA0
  rw [Try.params5] at hA hval
  obtain ⟨v0, vs0, d0, ds0, p0, q0, hargs, rfl, rfl, h0, r0⟩ := trodAll_cons hA
  obtain ⟨v1, vs1, d1, ds1, p1, q1, rfl, rfl, rfl, h1, r1⟩ := trodAll_cons r0
  obtain ⟨v2, vs2, d2, ds2, p2, q2, rfl, rfl, rfl, h2, r2⟩ := trodAll_cons r1
  obtain ⟨v3, vs3, d3, ds3, p3, q3, rfl, rfl, rfl, h3, r3⟩ := trodAll_cons r2
  obtain ⟨rfl, rfl, rfl⟩ := trodAll_nil r3
  obtain rfl : args = #[v0, v1, v2, v3] := by cases args; simp_all
  obtain ⟨rfl, rfl⟩ := trodVars_none hV
  obtain ⟨a0, rfl, rfl, rfl, w0⟩ := open_int Try.underlying3 (hval 0 3 v0 rfl rfl) h0
  have nm1 : Nums Try.prog 42 2 := Nums.struct Try.underlying42 (by kernel_rfl) fun i f h => by
    match i, h with
    | 0, h => obtain rfl := Option.some.inj h; exact ⟨rfl, by kernel_rfl, Try.underlying3⟩
    | 1, h => obtain rfl := Option.some.inj h; exact ⟨rfl, by kernel_rfl, Try.underlying3⟩
    | n + 2, h => exact absurd h (by simp)
  obtain ⟨l1, hs1, ok1⟩ := open_struct (by omega) nm1 h1
  have nm2 : Nums Try.prog 42 2 := Nums.struct Try.underlying42 (by kernel_rfl) fun i f h => by
    match i, h with
    | 0, h => obtain rfl := Option.some.inj h; exact ⟨rfl, by kernel_rfl, Try.underlying3⟩
    | 1, h => obtain rfl := Option.some.inj h; exact ⟨rfl, by kernel_rfl, Try.underlying3⟩
    | n + 2, h => exact absurd h (by simp)
  obtain ⟨l2, hs2, ok2⟩ := open_struct (by omega) nm2 h2
  obtain ⟨a3, rfl, rfl, rfl, w3⟩ := open_int Try.underlying3 (hval 3 3 v3 rfl rfl) h3
  clear hA0 hval0
  simp only [List.append_nil] at hW'
  refine (law_of_pf (wturn_pf a0 l1 l2 a3 (nums_wf w0) ok1 ok2 (nums_wf w3)) W _ rfl (args_cons (VT.int .i64 a0) (args_cons hs1 (args_cons hs2 (args_cons (VT.int .i64 a3) args_nil))))).mono fun e W' ⟨he, hg⟩ => ?_
  subst he
  have k2 := Below.trod laidOut (by kernel_rfl) (of_decide_eq_true (by kernel_rfl)) h2 hg (fun x hx => hW'.lt x (by simp [hx]))
  have k1 := Below.trod laidOut (by kernel_rfl) (of_decide_eq_true (by kernel_rfl)) h1 hg (fun x hx => hW'.lt x (by simp [hx]))
  refine ⟨_, rfl, _, _, _, [], _, [], hW', (trodAll_cons_mk (shut_bool Try.underlying4 _) trodAll_mk0), (trodAll_cons_mk (shut_int Try.underlying3 w0) (trodAll_cons_mk (k1) (trodAll_cons_mk (k2) (trodAll_cons_mk (shut_int Try.underlying3 w3) trodAll_mk0)))), rfl, hg.frame _, fun h => by cases h⟩
theorem over : Rows.wheelTurnsRow.holds Try.pinned (OpenSpec.ofChange Rows.wheelTurnsSpec) :=
  OpenClaim.holds_of_wide 5 Try.f5 rfl rfl rfl rfl rfl rfl rfl ⟨rfl, rfl, rfl, rfl, rfl⟩ rfl rfl rfl rfl rfl (by kernel_rfl) Try.func5 (by kernel_rfl)
    (of_decide_eq_true (by kernel_rfl)) (by unfold Func.isWrapper; first | (rw [if_pos (by decide +kernel)]; kernel_rfl) | (rw [if_neg (by decide +kernel)]; exact ⟨rfl, rfl⟩))
    (fun os started H enc _ => lifted os started H enc)
/-- THE STATEMENT -/
theorem proved : Rows.WheelTurnsSaid := over
end Go.Proofs.Ytajimebannjofaa.wheelTurns
