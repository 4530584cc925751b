/- This text proves the rule for a call of a function that is handed data alone and hands back memory of one's own. It has no condition of its own. -/
import Derived.Test.YtfkeddefajkobaaAcn
set_option linter.unusedSimpArgs false
set_option linter.unusedVariables false
namespace Go.Proofs.Ytfkeddefajkobaa
open Go.RowKit
theorem rho_0 (nx id : Nat) : rho [] 0 nx id = nx + id := by simp [rho]
theorem WCall.hf0 {P : Program} {sb : Bool} {B : Base} {st : St} {K : St → Prop} {f : FuncId} {as_ : List Opd} {ds0 : List D} {dst : Option Nat} {R : D → List (Nat × Ob) → Nat → Prop} (hf : HF P f ds0 [] 0 R) (hok : oks st.env (.call f as_) = true)
    (hds : as_.map (evS st.env) = ds0) (hao : ds0.all argOk = true) (hno : ds0.all noV = true)
    (hK : ∀ d H' nx', R d H' nx' → K ⟨putO st.env dst (rnR (rho [] 0 st.nx) d), hputs (rho [] 0 st.nx) H' st.heap, st.nx + nx'⟩) : WCall P sb B (.call f as_) dst st K := by
  have hlt : ∀ d ∈ ds0, LtV 0 d := fun d hd => noV_lt (List.all_eq_true.1 hno d hd)
  have hid : ∀ d ∈ ds0, rnV (rho [] 0 st.nx) d = d := fun d hd => by
    have h := List.all_eq_true.1 hno d hd
    have hc : ∀ x, noC x = true → rnC (rho [] 0 st.nx) x = x := fun x hx => by cases x <;> first | rfl | cases hx
    cases d with
    | agg ds =>
      simp only [rnV]
      congr 1
      refine (List.map_congr_left fun x hx => ?_).trans (List.map_id ds)
      exact hc x (List.all_eq_true.1 h x hx)
    | _ => first | rfl | cases h
  refine WCall.of hok (CallOk.hf hf (fun _ => rfl) [] rfl List.nodup_nil (fun k hk => by cases hk) ?_ hao hlt (fun p hp => by cases hp) fun d H' nx' _ hR => hK d H' nx' hR)
  rw [hds]
  conv => lhs; rw [← List.map_id ds0]
  exact List.map_congr_left fun d hd => (hid d hd).symm
/-- a cell that holds no slice at all holds rows of nothing -/
theorem Gh.nilC {B : Base} {st : St} (id j sz : Nat) (ds : List D) (hh : hget st.heap id = some (.cells ds)) (hk : ds[j]? = some .nil0) : Gh B st ⟨st.env, eput st.heap id (.cells (ds.set j (.rows sz []))), st.nx⟩ := by
  intro s Z a w hr
  obtain ⟨b, T, cs, hb, hg, hsz, hc⟩ := hr.h.ob _ _ hh
  have hv : VT Z .nil0 (cs.getD j undef) := hc j _ hk
  refine ⟨s, Z, hr.env, hr.elt, hr.size, hr.defers, ?_⟩
  refine hr.h.write (k := b) hh (by rw [hb]; rfl) ⟨rfl, rfl, rfl, rfl, fun _ _ => rfl⟩ ?_ ?_
  · refine ⟨b, T, cs, hb, hg, by simpa using hsz, fun i x hx => ?_⟩
    rw [List.getElem?_set] at hx
    split at hx
    · rename_i e
      subst e
      split at hx
      · simp only [Option.some.injEq] at hx
        subst hx
        generalize cs.getD j undef = v at hv
        cases hv
        exact VT.rnil _ _ _
      · cases hx
    · exact hc i x hx
  · intro x hx
    rcases List.mem_or_eq_of_mem_set hx with hx | rfl
    · exact (hr.h.lt _ _ hh).2 x hx
    · trivial
end Go.Proofs.Ytfkeddefajkobaa
