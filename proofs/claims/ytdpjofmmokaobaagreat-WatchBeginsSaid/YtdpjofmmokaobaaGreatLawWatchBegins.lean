/- WatchBegins: what happens watched is the beginning of what happens unwatched. For every input; nothing is assumed. -/
import Derived.Test.YtdpjofmmokaobaaGreatWatB
import Derived.Test.YtdpjofmmokaobaaGreatWatchBeginsRow
set_option linter.unusedSectionVars false
set_option linter.unusedVariables false
set_option linter.unusedSimpArgs false
namespace Go.Proofs.YtdpjofmmokaobaaGreat
open A Go
theorem watchBegins_proved:Rows.WatchBeginsSaid:=by
 obtain ⟨L⟩:=Kw
 refine Di fun ys hg=>?_
 obtain ⟨p,ins,fuel,hv,_,_,rfl⟩:=hg
 have hp:∀ f∈p.Funcs,f.Params.length≤9223372036854775807:=fun f hf=>Nat.le_trans (hv.2.2.2.2.2.1.2 f hf).1.1 (by decide)
 exact zG p ins fuel true (C2 p ins fuel hp)
end Go.Proofs.YtdpjofmmokaobaaGreat
