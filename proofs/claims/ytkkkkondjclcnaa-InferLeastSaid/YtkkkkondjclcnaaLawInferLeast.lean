/- InferLeast: what is inferred fits, and flows to whatever fits. For every input; nothing is assumed. -/
import Derived.Test.YtkkkkondjclcnaaInfL
import Derived.Test.YtkkkkondjclcnaaInferLeastRow
set_option linter.unusedSectionVars false
set_option linter.unusedVariables false
set_option linter.unusedSimpArgs false
namespace Go.Proofs.Ytkkkkondjclcnaa
open A Go
theorem inferLeast_proved:Rows.InferLeastSaid:=by
 obtain ⟨L⟩:=Gk
 refine AN fun ys hg=>?_
 obtain ⟨p,l,hv,_,rfl⟩:=hg
 have hp:∀ f∈p.Funcs,f.Params.length≤9223372036854775807:=fun f hf=>Nat.le_trans (hv.2.2.2.2.2.1.2 f hf).1.1 (by decide)
 exact wO p l true (AA p l hp)
end Go.Proofs.Ytkkkkondjclcnaa
