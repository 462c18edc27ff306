/- Functions of the program as plain functions, by program. -/
import Derived.Test.YtndeklbmglgonaaGreatTypes
import Derived.Test.YtndeklbmglgonaaGreatLift
set_option maxRecDepth 100000
set_option linter.unusedSectionVars false
set_option linter.unusedVariables false
set_option linter.unusedSimpArgs false
set_option linter.constructorNameAsVariable false
namespace Go.Proofs.YtndeklbmglgonaaGreat.A
open Go
noncomputable section
variable [Lp]
abbrev FL(r:Bool):Prop:=call G Ω0 E0 7 [] H0=some (.ret (.b r),H0)
def sL:Option Bool:=some true
theorem B6(r:Bool)(h:sL=some r):FL r:=by
 obtain rfl:=Option.some.inj h
 exact pA (mq 100000) E0 7 [] H0 _ (by kernel_rfl)
end
end Go.Proofs.YtndeklbmglgonaaGreat.A
