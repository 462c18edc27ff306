/- Functions of the program as plain functions, by program. -/
import Derived.Test.YtogbakbmphadfaaGreatDoorTypes
import Derived.Test.YtogbakbmphadfaaGreatDoorLift
import Derived.Test.YtogbakbmphadfaaGreatDoorFS
set_option maxRecDepth 100000
set_option linter.unusedSectionVars false
set_option linter.unusedVariables false
set_option linter.unusedSimpArgs false
set_option linter.constructorNameAsVariable false
namespace Go.Proofs.YtogbakbmphadfaaGreatDoor.A
open Go
noncomputable section
variable [Lp]
section
variable (a0:Tree)
def kZ(r1:((List UInt8)×Int))(r3:Int)(w0_1:(List UInt8)):Option Bool:=
 (rv).bind fun (r8:Bool)=>
 if r8=true then
  if (r1.2==r3)=true then
   some (r1.1==w0_1)
  else
   none
 else
  none
abbrev zQ(r1:((List UInt8)×Int))(r3:Int)(w0_1:(List UInt8))(x:Bool):aK×St:=(.ret,⟨[(2,(.b x))],[],H0⟩)
theorem rW(r1:((List UInt8)×Int))(r3:Int)(w0_1:(List UInt8))(x:Bool)(h:kZ r1 r3 w0_1=some x):run G Ω0 E0 NP ⟨[(3,(.s r1.1)),(4,(I r1.2)),(5,(I r3)),(6,(.s w0_1))],[],H0⟩=some (zQ r1 r3 w0_1 x):=
 fP (xB fun r8=>bt<|bt<|bt<|bt<|bt<|bt<|bt<|bt<|.nil) fun L=>aw h (zl) fun r8 h=>Kx h (fun h10 h=>ru h10<|Kx h (fun h11 h=>ru h11<|L h) (fun _ h=>Mp h)) (fun _ h=>Mp h)
abbrev Eu(a0:Tree)(r:Bool):aZ×HP:=(.ret (.b r),H0)
def rJ:Option Bool:=
 (q3 a0).bind fun (r1:((List UInt8)×Int))=>
 (oF a0).bind fun (r3:Int)=>
 if (r3==0)=true then
  (p6 a0).bind fun (r6:(List UInt8))=>
  (kZ r1 r3 r6).bind fun (x8:Bool)=>
  some x8
 else
  (kZ r1 r3 ([]:List UInt8)).bind fun (x6:Bool)=>
  some x6
theorem zR(r:Bool)(h:rJ a0=some r):call G Ω0 E0 3 [(.a [(.l 46 (a0.Decls.map au)),(.l 68 (a0.Main.map ab))])] H0=some (Eu a0 r):=
 aH G3 (bt<|.ex fun (r1:((List UInt8)×Int))=>ao (.v (.tp [(.s r1.1),(I r1.2)]))<|bt<|xI fun r3=>.or (cu<|.ex fun (r6:(List UInt8))=>ao (.v (.s r6))<|.fb<|.ex fun (x8:Bool)=>ao (.fr .ret ⟨[(2,(.b x8))],[],H0⟩)<|.nil) (bf<|.fb<|.ex fun (x6:Bool)=>ao (.fr .ret ⟨[(2,(.b x6))],[],H0⟩)<|.nil)) fun L=>od<|aw h (C1 a0) fun r1 h=>ai (rfl:Z0)<|aw h (zz a0) fun r3 h=>aJ h (fun h5 h=>fO h5<|aw h (Be a0) fun r6 h=>aw h (rW r1 r3 r6) fun x8 h=>L h) (fun h5 h=>ai h5<|aw h (rW r1 r3 ([]:List UInt8)) fun x6 h=>L h)
end
end
end Go.Proofs.YtogbakbmphadfaaGreatDoor.A
