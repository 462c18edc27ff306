/- Functions of the program as plain functions, by program. -/
import Derived.Test.YtdpjofmmokaobaaGreatTypes
import Derived.Test.YtdpjofmmokaobaaGreatLift
set_option maxRecDepth 100000
set_option linter.unusedSectionVars false
set_option linter.unusedVariables false
set_option linter.unusedSimpArgs false
set_option linter.constructorNameAsVariable false
namespace Go.Proofs.YtdpjofmmokaobaaGreat.A
open Go
noncomputable section
variable [Lp]
abbrev CT(r:Bool):Prop:=call G Ω0 E0 9 [] H0=some (.ret (.b r),H0)
def q9:Option Bool:=some true
theorem zV(r:Bool)(h:q9=some r):CT r:=by
 obtain rfl:=Option.some.inj h
 exact nQ (kl 100000) E0 9 [] H0 _ (by kernel_rfl)
abbrev CU(r:Bool):Prop:=call G Ω0 E0 12 [] H0=some (.ret (.b r),H0)
def ra:Option Bool:=some true
theorem zW(r:Bool)(h:ra=some r):CU r:=by
 obtain rfl:=Option.some.inj h
 exact nQ (kl 100000) E0 12 [] H0 _ (by kernel_rfl)
end
end Go.Proofs.YtdpjofmmokaobaaGreat.A
