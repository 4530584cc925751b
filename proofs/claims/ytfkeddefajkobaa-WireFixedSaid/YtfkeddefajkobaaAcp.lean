/- This text gives the rule for a call of a function that stands in a slot. It has no condition of its own. -/
import Derived.Test.YtfkeddefajkobaaAco
set_option linter.unusedSimpArgs false
set_option linter.unusedVariables false
namespace Go.Proofs.Ytfkeddefajkobaa
open Go.RowKit
theorem WCall.pfv {P : Program} {sb : Bool} {B : Base} {st : St} {K : St → Prop} {x : Opd} {f : FuncId} {cs : List D} {as_ : List Opd} {es : List D} {d : D} {dst : Option Nat} (hpf : PF P f es d) (hok : oks st.env (.callv x as_) = true) (hf : evS st.env x = .fn f cs)
    (hes : match omap (brwV st.heap) (as_.map (evS st.env) ++ cs) with | some e => leVL e es | none => False) (hno : ((as_.map (evS st.env) ++ cs).all noV || flatR d) = true)
    (hK : K ⟨putO st.env dst d, st.heap, st.nx⟩) : WCall P sb B (.callv x as_) dst st K := WCall.ofv hok hf (CallOk.pf hpf hes hno hK)
end Go.Proofs.Ytfkeddefajkobaa
