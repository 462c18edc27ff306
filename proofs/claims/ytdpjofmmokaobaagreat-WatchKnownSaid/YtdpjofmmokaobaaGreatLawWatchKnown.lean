/- WatchKnown: what is known never has a level that does not flow to its label's. For every input; nothing is assumed. -/
import Derived.Test.YtdpjofmmokaobaaGreatWatK
import Derived.Test.YtdpjofmmokaobaaGreatWatchKnownRow
set_option linter.unusedSectionVars false
set_option linter.unusedVariables false
set_option linter.unusedSimpArgs false
namespace Go.Proofs.YtdpjofmmokaobaaGreat
open A Go
theorem watchKnown_proved:Rows.WatchKnownSaid:=by
 obtain ⟨L⟩:=JP
 refine DM fun ys hg=>?_
 obtain ⟨p,ins,fuel,hv,_,_,rfl⟩:=hg
 have hp:∀ f∈p.Funcs,f.Params.length≤9223372036854775807:=fun f hf=>Nat.le_trans (hv.2.2.2.2.2.1.2 f hf).1.1 (by decide)
 exact Ae p ins fuel true (DB p ins fuel hp)
end Go.Proofs.YtdpjofmmokaobaaGreat
