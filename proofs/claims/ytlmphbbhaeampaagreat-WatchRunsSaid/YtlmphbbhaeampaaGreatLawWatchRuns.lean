/- WatchRuns: watch.Watch answers just what the document says, levels and errors too. For every input; nothing is assumed. -/
import Derived.Test.YtlmphbbhaeampaaGreatWrU
import Derived.Test.YtlmphbbhaeampaaGreatDec
set_option linter.all false
namespace Go.Proofs.YtlmphbbhaeampaaGreat
open A Go
theorem watchRuns_proved:Rows.WatchRunsSaid:=by
 obtain ⟨L⟩:=VL
 refine OL fun ys hg=>?_
 obtain ⟨p,ins,fuel,hv,_,_,rfl⟩:=hg
 have hp:∀ f∈p.Funcs,f.Params.length≤9223372036854775807:=fun f hf=>eC (hv.2.2.2.2.2.1.2 f hf).1.1 (by decide)
 exact J1 p ins fuel true (OK p ins fuel hp)
end Go.Proofs.YtlmphbbhaeampaaGreat
