/- Functions of the program as plain functions, by program. -/
import Derived.Test.YtphgedfhcncobaaGreatDoorTypes
import Derived.Test.YtphgedfhcncobaaGreatDoorLift
import Derived.Test.YtphgedfhcncobaaGreatDoorFR
set_option maxRecDepth 100000
set_option linter.unusedSectionVars false
set_option linter.unusedVariables false
set_option linter.unusedSimpArgs false
set_option linter.constructorNameAsVariable false
namespace Go.Proofs.YtphgedfhcncobaaGreatDoor.A
open Go
noncomputable section
variable [Lp]
section
variable (a0:Tree)
abbrev yx(a0:Tree)(r:Bool):aW×HP:=(.ret (.b r),H0)
def nX:Option Bool:=
 (oI).bind fun (r1:Bool)=>
 if r1=true then
  (mY a0).bind fun (r4:Int)=>
  (l6 a0).bind fun (r6:Int)=>
  some (r4==r6)
 else
  none
theorem uq(r:Bool)(h:nX a0=some r):call G Ω0 E0 3 [(.a [(.l 41 (a0.Decls.map ay)),(.l 36 (a0.Main.map ab))])] H0=some (yx a0 r):=
 aG G3 (xB fun r1=>gu<|xI fun r4=>gu<|xI fun r6=>b9<|.nil) fun L=>ai tt<|ai tt<|ar h (uP) fun r1 h=>ai tt<|ai tt<|IW h (fun h3 h=>ai (g1 h3)<|ai (rfl:Z0)<|ai tt<|ai (g1 h3)<|ar h (vY a0) fun r4 h=>ai tt<|ai (g1 h3)<|ai (rfl:Z0)<|ai tt<|ai (g1 h3)<|ar h (u1 a0) fun r6 h=>fX h3<|L h) (fun _ h=>NC h)
end
end
end Go.Proofs.YtphgedfhcncobaaGreatDoor.A
