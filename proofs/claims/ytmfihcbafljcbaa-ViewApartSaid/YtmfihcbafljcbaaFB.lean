/- Functions of the program as plain functions, by program. -/
import Derived.Test.YtmfihcbafljcbaaTypes
import Derived.Test.YtmfihcbafljcbaaLift
set_option maxRecDepth 100000
set_option linter.unusedSectionVars false
set_option linter.unusedVariables false
set_option linter.unusedSimpArgs false
set_option linter.constructorNameAsVariable false
namespace Go.Proofs.Ytmfihcbafljcbaa.A
open Go
variable [Lp]
abbrev O_L_viewBegun (r : Bool) : Prop := call G Ω0 E0 4 [] H0 = some (.ret (.b r), H0)
noncomputable def F_L_viewBegun : Option Bool := some true
theorem lift_L_viewBegun (r : Bool) (h : F_L_viewBegun = some r) : O_L_viewBegun r := by
  obtain rfl := Option.some.inj h
  exact callF_mono (run_ge 100000) E0 4 [] H0 _ (by kernel_rfl)
end Go.Proofs.Ytmfihcbafljcbaa.A
