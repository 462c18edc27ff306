/- JudgeTells: what is told is what the document tells. For every input; nothing is assumed. -/
import Derived.Test.YtkkkkondjclcnaaGreatFK
import Derived.Test.YtkkkkondjclcnaaGreatDec
set_option linter.all false
namespace Go.Proofs.YtkkkkondjclcnaaGreat
open A Go
theorem judgeTells_proved:Rows.JudgeTellsSaid:=by
 obtain ⟨L⟩:=Uy
 refine Mg fun ys hg=>?_
 obtain ⟨p,hv,rfl⟩:=hg
 have hp:∀ f∈p.Funcs,f.Params.length≤9223372036854775807:=fun f hf=>bS (hv.2.2.2.2.2.1.2 f hf).1.1 (by decide)
 exact HO p true (Mc p hp)
end Go.Proofs.YtkkkkondjclcnaaGreat
