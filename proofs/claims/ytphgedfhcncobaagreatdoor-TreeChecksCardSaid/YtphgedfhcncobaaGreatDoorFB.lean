/- Functions of the program as plain functions, by program. -/
import Derived.Test.YtphgedfhcncobaaGreatDoorTypes
import Derived.Test.YtphgedfhcncobaaGreatDoorLift
set_option maxRecDepth 100000
set_option linter.unusedSectionVars false
set_option linter.unusedVariables false
set_option linter.unusedSimpArgs false
set_option linter.constructorNameAsVariable false
namespace Go.Proofs.YtphgedfhcncobaaGreatDoor.A
open Go
noncomputable section
variable [Lp]
abbrev zi(r:Bool):Prop:=call G Ω0 E0 4 [] H0=some (.ret (.b r),H0)
def oI:Option Bool:=some true
theorem uP(r:Bool)(h:oI=some r):zi r:=by
 obtain rfl:=Option.some.inj h
 exact mH (jP 100000) E0 4 [] H0 _ (by kernel_rfl)
end
end Go.Proofs.YtphgedfhcncobaaGreatDoor.A
