/- Functions of the program as plain functions, by program. -/
import Derived.Test.YtkkkkondjclcnaaTypes
import Derived.Test.YtkkkkondjclcnaaLift
set_option maxRecDepth 100000
set_option linter.unusedSectionVars false
set_option linter.unusedVariables false
set_option linter.unusedSimpArgs false
set_option linter.constructorNameAsVariable false
namespace Go.Proofs.Ytkkkkondjclcnaa.A
open Go
noncomputable section
variable [Lp]
abbrev zP(r:Bool):Prop:=call G Ω0 E0 5 [] H0=some (.ret (.b r),H0)
def oQ:Option Bool:=some true
theorem wD(r:Bool)(h:oQ=some r):zP r:=by
 obtain rfl:=Option.some.inj h
 exact lQ (iF 100000) E0 5 [] H0 _ (by kernel_rfl)
abbrev zQ(r:Bool):Prop:=call G Ω0 E0 6 [] H0=some (.ret (.b r),H0)
def oR:Option Bool:=some true
theorem wE(r:Bool)(h:oR=some r):zQ r:=by
 obtain rfl:=Option.some.inj h
 exact lQ (iF 100000) E0 6 [] H0 _ (by kernel_rfl)
end
end Go.Proofs.Ytkkkkondjclcnaa.A
