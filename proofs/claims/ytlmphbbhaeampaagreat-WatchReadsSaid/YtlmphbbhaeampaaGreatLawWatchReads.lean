/- WatchReads: whatever the program is, watched, who sees the same coming in sees the same happen. For every input; nothing is assumed. -/
import Derived.Test.YtlmphbbhaeampaaGreatWrN
import Derived.Test.YtlmphbbhaeampaaGreatDec
set_option linter.all false
namespace Go.Proofs.YtlmphbbhaeampaaGreat
open A Go
theorem watchReads_proved:Rows.WatchReadsSaid:=by
 obtain ⟨L⟩:=R0
 refine JI fun ys hg=>?_
 obtain ⟨p,who,ins,others,fuel,hv,_,_,_,_,rfl⟩:=hg
 have hp:∀ f∈p.Funcs,f.Params.length≤9223372036854775807:=fun f hf=>di (hv.2.2.2.2.2.1.2 f hf).1.1 (by decide)
 exact Fv p who ins others fuel true (JG p who ins others fuel hp)
end Go.Proofs.YtlmphbbhaeampaaGreat
