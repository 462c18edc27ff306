/- Functions of the program as plain functions, by program. -/
import Derived.Test.YtogbakbmphadfaaGreatDoorTypes
import Derived.Test.YtogbakbmphadfaaGreatDoorLift
set_option maxRecDepth 100000
set_option linter.unusedSectionVars false
set_option linter.unusedVariables false
set_option linter.unusedSimpArgs false
set_option linter.constructorNameAsVariable false
namespace Go.Proofs.YtogbakbmphadfaaGreatDoor.A
open Go
noncomputable section
variable [Lp]
abbrev DO(r:Bool):Prop:=call G Ω0 E0 7 [] H0=some (.ret (.b r),H0)
def rv:Option Bool:=some true
theorem zl(r:Bool)(h:rv=some r):DO r:=by
 obtain rfl:=Option.some.inj h
 exact pC (l8 100000) E0 7 [] H0 _ (by kernel_rfl)
end
end Go.Proofs.YtogbakbmphadfaaGreatDoor.A
