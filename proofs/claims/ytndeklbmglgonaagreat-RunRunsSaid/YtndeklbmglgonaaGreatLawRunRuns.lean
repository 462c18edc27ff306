/- RunRuns: run.Run answers just what the document says. For every input; nothing is assumed. -/
import Derived.Test.YtndeklbmglgonaaGreatRunU
import Derived.Test.YtndeklbmglgonaaGreatRunRunsRow
set_option linter.unusedSectionVars false
set_option linter.unusedVariables false
set_option linter.unusedSimpArgs false
namespace Go.Proofs.YtndeklbmglgonaaGreat
open A Go
theorem runRuns_proved:Rows.RunRunsSaid:=by
 obtain ⟨L⟩:=Ju
 refine HQ fun ys hg=>?_
 obtain ⟨p,ins,fuel,hv,_,_,rfl⟩:=hg
 have hp:∀ f∈p.Funcs,f.Params.length≤9223372036854775807:=fun f hf=>Nat.le_trans (hv.2.2.2.2.2.1.2 f hf).1.1 (by decide)
 exact Eh p ins fuel true (HC p ins fuel hp)
end Go.Proofs.YtndeklbmglgonaaGreat
