/- This text proves the statement 'TopCounts': at every input the law returns true, and each argument reads afterwards as it read before. It has no condition. -/
import Derived.Test.YtibemmkfcjlmpaaGreatVaf
import Derived.Carry
set_option linter.unusedSimpArgs false
namespace Go.Proofs.YtibemmkfcjlmpaaGreat.topCounts
open Go.ChangeShapes Go.WideShapes Go.ChangeAt Go.RowKit
set_option linter.unusedVariables false
theorem own:ownKnob Tryz.prog.godebug=none:=by kernel_rfl
set_option maxRecDepth 100000 in
theorem lifted (os : Os) (started : os.Started) (H : Type) (enc : TypeId × Value → H) :
    ReturnsInHanded {} Tryz.checked os 22 .any (Rows.topCountsSpec.pre6 enc Tryz.prog Tryz.f22 Rows.topCountsRow.domain false) (Rows.topCountsSpec.post enc Tryz.prog Tryz.f22 false true false false):=by
  refine returnsInHanded_of_change (C:=Tryz.checked) own started (by kernel_rfl) Tryz.func22
    (ChangeSpec.witness6 (enc:=enc) (C:=Tryz.checked) false ⟨#[], #[.agg #[.int .i64 0, .int .i64 0, .int .i64 0, .int .i64 0, .int .i64 0, .int .i64 0, .int .i64 0, .int .i64 0, .int .i64 0, .int .i64 0, .int .i64 0, .int .i64 0, .int .i64 0, .int .i64 0, .int .i64 0, .int .i64 0], .slice none 0 0], []⟩ 8 (by kernel_rfl) (by kernel_rfl) (by kernel_rfl) (by kernel_rfl)) ?_
  intro W base args ds gs before hval0 hW hcnd _
  have hval:∀ (j:Nat) t v, Tryz.f22.params[j]? = some t → args[j]? = some v → Value.okWide Tryz.prog W .any base t v:=hval0
  have hW':=hW
  obtain ⟨p, q, hA0, hV, rfl, hfz, hnd⟩:=hW
  have hA:DataW.TrodAll enc Tryz.prog W 0 (fun _ => true) true Tryz.f22.params.toList args.toList ds p:=hA0
  rw[Tryz.params22] at hA hval
  obtain ⟨v0, vs0, d0, ds0, p0, q0, hargs, rfl, rfl, h0, r0⟩:=trodAll_cons hA
  obtain ⟨v1, vs1, d1, ds1, p1, q1, rfl, rfl, rfl, h1, r1⟩:=trodAll_cons r0
  obtain ⟨rfl, rfl, rfl⟩:=trodAll_nil r1
  obtain rfl:args=#[v0, v1]:=by cases args; simp_all
  obtain ⟨rfl, rfl⟩:=trodVars_none hV
  have nm0:Nums Tryz.prog 24 16:=Nums.structG Tryz.underlying24 (by kernel_rfl) (by kernel_rfl) fun i f h => by
    match i, h with
    | 0, h => obtain rfl:=Option.some.inj h; exact ⟨1, Nums.int Tryz.underlying3⟩
    | 1, h => obtain rfl:=Option.some.inj h; exact ⟨1, Nums.int Tryz.underlying3⟩
    | 2, h => obtain rfl:=Option.some.inj h; exact ⟨1, Nums.int Tryz.underlying3⟩
    | 3, h => obtain rfl:=Option.some.inj h; exact ⟨1, Nums.int Tryz.underlying3⟩
    | 4, h => obtain rfl:=Option.some.inj h; exact ⟨1, Nums.int Tryz.underlying3⟩
    | 5, h => obtain rfl:=Option.some.inj h; exact ⟨1, Nums.int Tryz.underlying3⟩
    | 6, h => obtain rfl:=Option.some.inj h; exact ⟨1, Nums.int Tryz.underlying3⟩
    | 7, h => obtain rfl:=Option.some.inj h; exact ⟨1, Nums.int Tryz.underlying3⟩
    | 8, h => obtain rfl:=Option.some.inj h; exact ⟨1, Nums.int Tryz.underlying3⟩
    | 9, h => obtain rfl:=Option.some.inj h; exact ⟨1, Nums.int Tryz.underlying3⟩
    | 10, h => obtain rfl:=Option.some.inj h; exact ⟨3, Nums.arr Tryz.underlying22 Tryz.underlying3 (by kernel_rfl) (by kernel_rfl)⟩
    | 11, h => obtain rfl:=Option.some.inj h; exact ⟨3, Nums.arr Tryz.underlying22 Tryz.underlying3 (by kernel_rfl) (by kernel_rfl)⟩
    | n + 12, h => exact absurd h (by simp)
  obtain ⟨l0, hs0, ok0⟩:=open_struct (by omega) nm0 h0
  have nm1:Nums Tryz.prog 109 4:=Nums.struct Tryz.underlying109 (by kernel_rfl) fun i f h => by
    match i, h with
    | 0, h => obtain rfl:=Option.some.inj h; exact ⟨rfl, by kernel_rfl, Tryz.underlying3⟩
    | 1, h => obtain rfl:=Option.some.inj h; exact ⟨rfl, by kernel_rfl, Tryz.underlying3⟩
    | 2, h => obtain rfl:=Option.some.inj h; exact ⟨rfl, by kernel_rfl, Tryz.underlying3⟩
    | 3, h => obtain rfl:=Option.some.inj h; exact ⟨rfl, by kernel_rfl, Tryz.underlying3⟩
    | n + 4, h => exact absurd h (by simp)
  obtain ⟨l1, hl1, hs1, ok1⟩:=open_rows Tryz.underlying25 (by kernel_rfl) (by omega) nm1 (hval 1 25 v1 rfl rfl) h1
  clear hA0 hval0
  simp only[List.append_nil] at hW'
  refine (law_of_pf (tcou_pf l0 l1 ok0 hl1 ok1) W _ rfl (args_cons hs0 (args_cons hs1 args_nil))).mono fun e W' ⟨he, hg⟩ => ?_
  subst he
  have k1:=Below.trod laidOut (by kernel_rfl) (of_decide_eq_true (by kernel_rfl)) h1 hg (fun x hx => hW'.lt x (by simp[hx]))
  have k0:=Below.trod laidOut (by kernel_rfl) (of_decide_eq_true (by kernel_rfl)) h0 hg (fun x hx => hW'.lt x (by simp[hx]))
  refine ⟨_, rfl, _, _, _, [], _, [], hW', (trodAll_cons_mk (shut_bool Tryz.underlying4 _) trodAll_mk0), (trodAll_cons_mk (k0) (trodAll_cons_mk (k1) trodAll_mk0)), rfl, hg.frame _, fun h => by cases h⟩
theorem hIn:Rows.topCountsRow.inPlace=Program.inPlace Tryz.prog 22:=by kernel_rfl
theorem hUn:Rows.topCountsRow.unfollowed=Program.unfollowed Tryz.prog 22:=by kernel_rfl
theorem hVa:Rows.topCountsRow.named=Program.varsNamed Tryz.prog 22:=by kernel_rfl
theorem hRe:Rows.topCountsRow.recurses=Program.recurses Tryz.prog 22:=by unfold Program.recurses; rw[← hUn]; rfl
theorem closed:joinedFacts Tryz.prog 22 Tryz.f22 Rows.topCountsSpec Rows.topCountsRow=true:=by
  unfold joinedFacts
  rw[← hIn, ← hUn, ← hVa, ← hRe]
  kernel_rfl
theorem over:Rows.topCountsRow.holds Tryz.pinned (OpenSpec.ofChange Rows.topCountsSpec):=
  OpenClaim.holds_of_wide 22 Tryz.f22 rfl rfl rfl rfl rfl rfl rfl ⟨rfl, rfl, rfl, rfl, rfl⟩ rfl rfl rfl rfl rfl (by kernel_rfl) Tryz.func22 closed
    (of_decide_eq_true (by kernel_rfl)) (by unfold Func.isWrapper; first | (rw[if_pos (by decide +kernel)]; kernel_rfl) | (rw[if_neg (by decide +kernel)]; exact ⟨rfl, rfl⟩))
    (fun os started H enc _ => lifted os started H enc)
/-- THE STATEMENT -/
theorem proved:Rows.TopCountsSaid:=over
end Go.Proofs.YtibemmkfcjlmpaaGreat.topCounts
