/- The library's contracts, as calls that change nothing. -/
import Derived.Test.YtkkkkondjclcnaaAbsG
import Derived.Test.YtkkkkondjclcnaaAbsO
import Derived.Below
import Derived.Lib.AtoiErrMem
import Derived.Lib.AppendIntMem
import Derived.Lib.LaidTab
set_option linter.unusedSectionVars false
set_option linter.unusedVariables false
set_option linter.unusedSimpArgs false
set_option linter.constructorNameAsVariable false
namespace Go.Proofs.Ytkkkkondjclcnaa.A
open Go Go.RowKit
variable [aP]
theorem Hk{α:Type}{a:Array α}(h:a.size=2)(d:α):a=#[a.getD 0 d,a.getD 1 d]:=by
 apply Array.ext (by simpa using h)
 intro i h1 h2
 have:i=0∨i=1:=by omega
 rcases this with rfl | rfl<;>simp [Array.getD,h1]
theorem Iy{u:TypeId}{ys:List AV}{x:AV}(h:lR u ys=some x)(hp:x.pure=true):False:=by
 unfold lR at h
 split at h
 ·split at h
  ·obtain rfl:=Option.some.inj h
   cases hp
  ·cases h
 ·cases h
end Go.Proofs.Ytkkkkondjclcnaa.A
