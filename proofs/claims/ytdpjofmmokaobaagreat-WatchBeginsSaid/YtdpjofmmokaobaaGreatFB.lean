/- Functions of the program as plain functions, by program. -/
import Derived.Test.YtdpjofmmokaobaaGreatTypes
import Derived.Test.YtdpjofmmokaobaaGreatLift
set_option maxRecDepth 100000
set_option linter.unusedSectionVars false
set_option linter.unusedVariables false
set_option linter.unusedSimpArgs false
namespace Go.Proofs.YtdpjofmmokaobaaGreat.A
open Go
noncomputable section
variable [Lp]
abbrev DB(r:Bool):Prop:=call G Ω0 E0 9 [] H0=some (.ret (.b r),H0)
def rk:Option Bool:=some true
theorem Ax(r:Bool)(h:rk=some r):DB r:=by
 obtain rfl:=Option.some.inj h
 exact n7 (kA 100000) E0 9 [] H0 _ (by kernel_rfl)
abbrev F7(r:Bool):Prop:=call G Ω0 E0 16 [] H0=some (.ret (.b r),H0)
def tX:Option Bool:=some true
theorem Cd(r:Bool)(h:tX=some r):F7 r:=by
 obtain rfl:=Option.some.inj h
 exact n7 (kA 100000) E0 16 [] H0 _ (by kernel_rfl)
end
end Go.Proofs.YtdpjofmmokaobaaGreat.A
