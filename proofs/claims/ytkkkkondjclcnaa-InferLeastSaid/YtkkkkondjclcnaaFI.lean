/- Functions of the program as plain functions, by program. -/
import Derived.Test.YtkkkkondjclcnaaTypes
import Derived.Test.YtkkkkondjclcnaaLift
import Derived.Test.YtkkkkondjclcnaaRawG
import Derived.Test.YtkkkkondjclcnaaFR
set_option maxRecDepth 100000
set_option linter.unusedSectionVars false
set_option linter.unusedVariables false
set_option linter.unusedSimpArgs false
set_option linter.constructorNameAsVariable false
namespace Go.Proofs.Ytkkkkondjclcnaa.A
open Go
noncomputable section
variable [Lp]
section
variable (a0:Program)
abbrev BM(a0:Program)(r:(aT×Int)):aR×HP:=(.ret (.tp [(.a [(.l 44 (r.1.Vars.map ah)),(.l 44 (r.1.Funcs.map ah))]),(I r.2)]),H0)
def p5:Option (aT×Int):=
 (jU a0).bind fun (r1:Int)=>
 if (r1 !=0)=true then
  some ((⟨([]:List Level),([]:List Level)⟩:aT),r1)
 else
  (j0 a0).bind fun (r4:aT)=>
  some (r4,0)
theorem xS(r:(aT×Int))(h:p5 a0=some r):call G Ω0 E0 4 [(.a (an a0))] H0=some (BM a0 r):=
 aH G4 (bt<|xI fun r1=>.or (fO<|.nil) (bf<|bt<|.ex fun (r4:aT)=>ao (.v (.a [(.l 44 (r4.Vars.map ah)),(.l 44 (r4.Funcs.map ah))]))<|iI<|.nil)) fun L=>ai tt<|ai tt<|ai (rfl:Z0)<|aJ h (q9 a0) fun r1 h=>bb h (fun h3 h=>ai h3<|ai ff<|ai (rfl:Z0)<|ai tt<|ai (rfl:Z0)<|ai (rfl:Z0)<|L h) (fun h3 h=>p9 h3<|aJ h (Aw a0) fun r4 h=>ai ff<|ai (rfl:Z0)<|ai tt<|ai (rfl:Z0)<|ai (rfl:Z0)<|L h)
end
end
end Go.Proofs.Ytkkkkondjclcnaa.A
