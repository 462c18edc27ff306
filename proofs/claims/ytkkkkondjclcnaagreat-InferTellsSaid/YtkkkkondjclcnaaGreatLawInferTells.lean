/- InferTells: Of, Infer and Fits answer what the document says. For every input; nothing is assumed. -/
import Derived.Test.YtkkkkondjclcnaaGreatFM
import Derived.Test.YtkkkkondjclcnaaGreatDec
set_option linter.all false
namespace Go.Proofs.YtkkkkondjclcnaaGreat
open A Go
theorem inferTells_proved:Rows.InferTellsSaid:=by
 obtain ⟨L⟩:=Rb
 refine JD fun ys hg=>?_
 obtain ⟨p,l,x,hv,_,_,rfl⟩:=hg
 have hp:∀ f∈p.Funcs,f.Params.length≤9223372036854775807:=fun f hf=>bU (hv.2.2.2.2.2.1.2 f hf).1.1 (by decide)
 rw [dm x]
 exact E8 p l x true (JA p l x hp)
end Go.Proofs.YtkkkkondjclcnaaGreat
