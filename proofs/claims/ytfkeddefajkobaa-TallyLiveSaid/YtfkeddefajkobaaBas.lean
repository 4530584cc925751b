/- This text proves what the helper 'picked' of the statements computes, over the small machine, and how a law's frame uses a contract. It has no condition of its own. -/
import Derived.Test.YtfkeddefajkobaaAcm
import Derived.Test.YtfkeddefajkobaaSlice
import Derived.Test.YtfkeddefajkobaaProg
set_option linter.unusedSimpArgs false
set_option linter.unusedVariables false
namespace Go.Proofs.Ytfkeddefajkobaa
open Go.RowKit
theorem follows_ok : Try.prog.follows .mixedOrders = true := by kernel_rfl
theorem picked_code : cfun Try.prog [] 25 = some ⟨(.seq (.region 0 [⟨(some 4), (.mov (.k (.int .i64 0))), none⟩]) (.seq (.seq (.region 1 [⟨(some 5), (.mov (.t 0)), none⟩, ⟨(some 6), (.bin .lss (.t 5) (.k (.int .i64 0))), none⟩]) (.cond 6 (.region 2 [⟨(some 7), (.mov (.t 0)), none⟩, ⟨(some 8), (.bin .add (.t 7) (.k (.int .i64 1))), none⟩, ⟨(some 9), (.neg (.t 8)), none⟩, ⟨(some 0), (.mov (.t 9)), none⟩]) .skip)) (.seq (.region 3 [⟨(some 10), (.mov (.t 0)), none⟩, ⟨(some 11), (.mov (.t 1)), none⟩, ⟨(some 12), (.bin .rem (.t 10) (.t 11)), none⟩, ⟨(some 4), (.mov (.t 12)), none⟩]) .ret))), [(.t 4)], 13⟩ := by kernel_rfl
theorem picked_pf (n m : Int) (hn : InR n) (hm : 1 ≤ m) : PF Try.prog 25 [.int .i64 n, .int .i64 m] (.int .i64 (pickedZ n m)) := by
  refine PF.of follows_ok picked_code (by simp) (by simp [argOk]) (by simp [noV, noC]) fun B _ _ => acode_sound [0, 1, 4, 6] [] _ _ _ ?_
  simp [AK_at, acode_seq, acode_region, acode_draw, acode_cond, ↓CB_t, ↓CB_f, CB_u, acode_block, acode_loop, acode_exit, acode_scope, acode_ret, acode_skip, seqQ_n, seqQ_e, seqQ_r, blockQ_n, blockQ_e, blockQ_r, TK_at, OK_at, SK_at, aops_nil, aops_cons, asch_done, asch_one, asch_two, asch_top, astep, aop_eq, isLoud, aloud, aloud1, isWrite, qv, evS, strip, gof, eget, hget, putO, eput, herase, oks, opnds, gS, afin, afin0, binD, arith, D.cells, takeD, fillD, keep, trim, envOf, Fin, aresl, aresv, resD, argOk, pickV, isP, deq, deqs, boundD, slD, lenD, isT, chunks, mn_min, mx_max, D.cells, splice_one, splice_more, Rbr_at, brwR, brwV, brwC, leR, leV, leC]
  refine ⟨fun h => ⟨?_, ?_, by omega, ?_⟩, fun h => ⟨by omega, ?_⟩⟩
  · unfold InR at *; omega
  · unfold InR at *; omega
  · have h2 : ¬ 0 < n + 1 := by omega
    simp [pickedZ, h, h2]
  · have : ¬ n < 0 := by omega
    simp [pickedZ, this]
/-- a contract over data, used by a law's frame -/
theorem law_of_pf {f : FuncId} {ds : List D} (h : PF Try.prog f ds (.bool true)) (W : World) (vs : Array Value) (hl : vs.size = ds.length) (hv : ∀ j x, ds[j]? = some x → VV s0 (allZ W) x (vs.getD j undef)) :
    Calls Try.prog f vs W fun e W' => e = .returned (.bool true) ∧ Below W.heap.size W W' :=
  (h.2 (allZ W) W vs (fun b o v h => h) hl hv).mono fun e w' ⟨v, Z', he, hr, _, hb⟩ => ⟨by rw [he, hr.bool_inv], hb⟩
theorem args_nil {Z : Cells} : ∀ (j : Nat) (x : D), ([] : List D)[j]? = some x → VV s0 Z x ((#[] : Array Value).getD j undef) := fun j x h => by simp at h
theorem args_cons {Z : Cells} {d : D} {ds : List D} {v : Value} {vs : List Value} (h : VV s0 Z d v) (ht : ∀ j x, ds[j]? = some x → VV s0 Z x (vs.toArray.getD j undef)) : ∀ (j : Nat) (x : D), (d :: ds)[j]? = some x → VV s0 Z x ((v :: vs).toArray.getD j undef) := fun j x hx => by
  cases j with
  | zero => simp at hx; subst hx; exact h
  | succ j => simpa using ht j x (by simpa using hx)
theorem Sl.rows {α : Type} {W : World} {sz : Nat} {E : α → List Value} {F : α → List D} {v : Value} {xs : List α} (h : Sl W sz E v xs) (hF : ∀ x ∈ xs, (E x).length = sz ∧ (F x).length = sz ∧ ∀ (j : Nat) (d : D), (F x)[j]? = some d → ∃ u, (E x)[j]? = some u ∧ ∀ Z, VT Z d u) : VT (allZ W) (.rows sz (xs.map F)) v := by
  obtain ⟨a, cap, rfl, hcap, h0, h3⟩ := h
  cases xs with
  | nil =>
    exact VT.rnil _ _ _
  | cons x0 xs =>
    obtain ⟨b, off, rfl, hb, hc⟩ := h3 (by simp)
    have key : ∀ (i : Nat) (row : List D) (j : Nat) (d : D), ((x0 :: xs).map F)[i]? = some row → row[j]? = some d → ∃ x u, (x0 :: xs)[i]? = some x ∧ (E x)[j]? = some u ∧ j < sz ∧ ∀ Z, VT Z d u := fun i row j d hi hj => by
      obtain ⟨x, hx, rfl⟩ := (map_get _ _ _ _).1 hi
      obtain ⟨g1, g2, g3⟩ := hF x (List.mem_of_getElem? hx)
      obtain ⟨u, hu, hv⟩ := g3 j d hj
      exact ⟨x, u, hx, hu, by rw [← g2]; exact (List.getElem?_eq_some_iff.1 hj).1, hv⟩
    have hlen : (x0 :: xs).length = ((x0 :: xs).map F).length := by simp
    rw [hlen]
    refine VT.rows sz _ b off cap (fun i j => ((x0 :: xs)[i]?.bind fun x => (E x)[j]?).getD undef) (by rw [← hlen]; exact hcap) (fun i row j d hi hj => ?_) (fun i row j d hi hj => ?_)
    · obtain ⟨x, u, hx, hu, hjs, hv⟩ := key i row j d hi hj
      refine ⟨hjs, ?_⟩
      simp only [hx, Option.bind_some, hu, Option.getD_some]
      exact hc i x j u hx hu
    · obtain ⟨x, u, hx, hu, hjs, hv⟩ := key i row j d hi hj
      simp only [hx, Option.bind_some, hu, Option.getD_some]
      exact hv _
end Go.Proofs.Ytfkeddefajkobaa
