/- Functions of the program as plain functions, by program. -/
import Derived.Test.YtkkkkondjclcnaaTypes
import Derived.Test.YtkkkkondjclcnaaLift
import Derived.Test.YtkkkkondjclcnaaFE
set_option maxRecDepth 100000
set_option linter.unusedSectionVars false
set_option linter.unusedVariables false
set_option linter.unusedSimpArgs false
set_option linter.constructorNameAsVariable false
namespace Go.Proofs.Ytkkkkondjclcnaa.A
open Go
noncomputable section
variable [Lp]
section
variable (a0:Level)(a1:Program)
abbrev zj(a0:Level)(a1:Program)(r:Bool):aR×HP:=(.ret (.b r),H0)
def kE:Option Bool:=
 (jV a1.aa a0).bind fun (r1:Bool)=>
 some (!r1)
theorem vB(r:Bool)(h:kE a0 a1=some r):call G Ω0 E0 43 [(.a [(.l 4 (a0.Readers.map AV.b)),(.l 4 (a0.Writers.map AV.b))]),(.e (.a (an a1)) 0)] H0=some (zj a0 a1 r):=
 aH TT (bt<|xB fun r1=>.nil) fun L=>ai tt<|ai (rfl:Z0)<|aJ h (ra a1.aa a0) fun r1 h=>L h
end
section
variable (a0:(List Level))(a1:Program)
def fF(v0_8:Nat):Option (Nat⊕(Nat⊕(Nat×Bool))):=
 if (v0_8:Int)<(a0.length:Int) then
  (a0[v0_8]?).bind fun (y2:Level)=>
  (kE y2 a1).bind fun (r4:Bool)=>
  if r4=true then
   some (.inr (.inl v0_8))
  else
   if IntKind.i64.wrap ((v0_8:Int)+1)=((v0_8+1:Nat):Int) then
    some (.inl (v0_8+1))
   else none
 else
  some (.inr (.inr (v0_8,decide ((v0_8:Int)<(a0.length:Int)))))
abbrev mo(v:Nat):St:=⟨[(0,(.l 44 (a0.map ah))),(1,(.f 43 [(.e (.a (an a1)) 0)])),(7,(I (a0.length:Int))),(8,(I (v:Int)))],[],H0⟩
abbrev mq(x:(Nat⊕(Nat×Bool))):aE×St:=match x with | .inl z1=>(.ret,⟨[(4,(I (z1:Int)))],[],H0⟩) | .inr (z1,z2)=>((.ex 0),⟨[(0,(.l 44 (a0.map ah))),(1,(.f 43 [(.e (.a (an a1)) 0)])),(7,(I (a0.length:Int))),(8,(I (z1:Int))),(9,(.b z2))],[],H0⟩)
theorem lF(v0_8:Nat)(o:Nat⊕(Nat⊕(Nat×Bool)))(h:fF a0 a1 v0_8=some o):bG E0 Fj (mo a0 a1) (mq a0 a1) v0_8 o:=
 bO (.or (bt<|ao (.n v0_8)<|.ex fun (y2:Level)=>ao (.v (.a [(.l 4 (y2.Readers.map AV.b)),(.l 4 (y2.Writers.map AV.b))]))<|xB fun r4=>oN (ao (.i ((v0_8+1:Nat):Int))<|.nil)) (bf<|.nil)) fun L=>bQ h (fun h1 h=>ai (decide_eq_true h1)<|ai (rI v0_8)<|cw h fun y2 h3 h=>ai (aZ ah h3)<|aJ h (vB y2 a1) fun r4 h=>bb h (fun h6 h=>ai h6<|L h) (fun h6 h=>ai h6<|aV h fun w7 h=>ai w7<|L h)) (fun h1 h=>ai (decide_eq_false h1)<|L h)
abbrev na(a0:(List Level))(a1:Program)(r:Int):aR×HP:=(.ret (I r),H0)
def gx:Option Int:=
 (lp (fun v=>fF a0 a1 v) 0).bind fun (x1:(Nat⊕(Nat×Bool)))=>match x1 with
 | .inl ya_2=>
  some (ya_2:Int)
 | .inr yb_2=>
  some (-1)
theorem lG(r:Int)(h:gx a0 a1=some r):call G Ω0 E0 73 [(.l 44 (a0.map ah)),(.f 43 [(.e (.a (an a1)) 0)])] H0=some (na a0 a1 r):=
 aH Sy (ao (.i (a0.length:Int))<|.or (.ex fun (ya_2:Nat)=>ao (.lp .ret ⟨[(4,(I (ya_2:Int)))],[],H0⟩)<|.nil) (.ex fun (yb_2:(Nat×Bool))=>ao (.lp (.ex 0) ⟨[(0,(.l 44 (a0.map ah))),(1,(.f 43 [(.e (.a (an a1)) 0)])),(7,(I (a0.length:Int))),(8,(I (yb_2.1:Int))),(9,(.b yb_2.2))],[],H0⟩)<|.nil)) fun L=>ai (ay ah a0)<|dT h (gu (lF a0 a1) 0) (fun ya_2 h=>L h) (fun yb_2 h=>L h)
abbrev lH(a0:(List Level))(a1:Program)(r:Bool):aR×HP:=(.ret (.b r),H0)
def cu:Option Bool:=
 (gx a0 a1).bind fun (r1:Int)=>
 some (decide (0≤r1))
theorem eH(r:Bool)(h:cu a0 a1=some r):call G Ω0 E0 45 [(.l 44 (a0.map ah)),(.f 43 [(.e (.a (an a1)) 0)])] H0=some (lH a0 a1 r):=
 aH Sw (xI fun r1=>.nil) fun L=>aJ h (lG a0 a1) fun r1 h=>L h
def xM:List cV:=(gF 13 0 3)::(gQ 14 13)::(gp 15 (.ln false 14))::(gF 16 5 2)::(gQ 17 16)::(gp 18 (.ln false 17))::(gB 19 .neq 15 18)::(gM 20 19)::⟨some 21,.fa 1 3,some ⟨20,false⟩,false⟩::⟨some 22,.ld none 21,some ⟨20,false⟩,false⟩::⟨some 23,.ln false 22,some ⟨20,false⟩,false⟩::⟨some 24,.fa 6 2,some ⟨20,false⟩,false⟩::⟨some 25,.ld none 24,some ⟨20,false⟩,false⟩::⟨some 26,.ln false 25,some ⟨20,false⟩,false⟩::⟨some 27,.bo .neq false 23 26,some ⟨20,false⟩,false⟩::(gp 28 (.pk 20 (.c (.b true)) 27))::(gM 29 28)::⟨some 30,.fa 0 3,some ⟨29,false⟩,false⟩::⟨some 31,.ld none 30,some ⟨29,false⟩,false⟩::⟨some 32,.mv 6,some ⟨29,false⟩,false⟩::⟨some 33,.c2 45 [31,32],some ⟨29,false⟩,false⟩::(gp 34 (.pk 29 (.c (.b true)) 33))::(gM 35 34)::⟨some 36,.fa 1 3,some ⟨35,false⟩,false⟩::⟨some 37,.ld none 36,some ⟨35,false⟩,false⟩::⟨some 38,.mv 6,some ⟨35,false⟩,false⟩::⟨some 39,.c2 45 [37,38],some ⟨35,false⟩,false⟩::(gp 40 (.pk 35 (.c (.b true)) 39))::[]
end
section
variable (a0:Program)(a1:aT)
def jP:Option Bool:=
 if ((a1.Vars.length:Int) !=(a0.Vars.length:Int))=true then
  some true
 else
  if ((a1.Funcs.length:Int) !=(a0.Funcs.length:Int))=true then
   some true
  else
   (cu a1.Vars a0).bind fun (r6:Bool)=>
   if r6=true then
    some true
   else
    (cu a1.Funcs a0).bind fun (r9:Bool)=>
    some r9
abbrev xO(a0:Program)(a1:aT)(x:Bool):St:=⟨[(40,(.b x))],[],H0⟩
theorem wM(x:Bool)(h:jP a0 a1=some x):jF G Ω0 E0 [40] [] xM ⟨[(2,(.e (.a (an a0)) 0)),(3,(.p ⟨0,3⟩ 0)),(6,(.f 43 [(.e (.a (an a0)) 0)]))],[(3,[(.l 44 (a1.Vars.map ah)),(.l 44 (a1.Funcs.map ah))])],H0⟩=some (xO a0 a1 x):=
 jk (bt<|ao (.i (a1.Vars.length:Int))<|ao (.i (a0.Vars.length:Int))<|.or (bf<|bf<|bf<|bf<|bf<|bf<|bf<|bt<|bf<|bf<|bf<|bf<|bt<|bf<|bf<|bf<|bf<|bt<|.nil) (uM<|ao (.i (a1.Funcs.length:Int))<|fO<|ao (.i (a0.Funcs.length:Int))<|sd<|.or (Mm<|.nil) (oi<|xB fun r6=>bf<|.or (yz<|.nil) (oi<|xB fun r9=>bf<|.nil)))) fun L=>ai (rfl:Z0)<|ai (ay ah a1.Vars)<|ai (ay bB a0.Vars)<|bb h (fun h4 h=>ai (g0 h4)<|ai (g0 h4)<|ai (g0 h4)<|ai (g0 h4)<|ai (g0 h4)<|ai (g0 h4)<|ai (g0 h4)<|ai h4<|ai ht<|ai ht<|ai ht<|ai ht<|ai tt<|ai ht<|ai ht<|ai ht<|ai ht<|ai tt<|L h) (fun h4 h=>Ej h4<|ai (ay ah a1.Funcs)<|yx h4<|ai (ay bC a0.Funcs)<|uL h4<|bb h (fun h5 h=>ai (g0 h5)<|ai (g0 h5)<|ai (g0 h5)<|ai (g0 h5)<|ai h5<|ai ht<|ai ht<|ai ht<|ai ht<|ai tt<|L h) (fun h5 h=>ai (g0 h5)<|ai (g0 h5)<|ai (rfl:Z0)<|ai (g0 h5)<|ai (g0 h5)<|aJ h (eH a1.Vars a0) fun r6 h=>ai h5<|bb h (fun h8 h=>yw h8<|L h) (fun h8 h=>ai (g0 h8)<|ai (g0 h8)<|ai (rfl:Z0)<|ai (g0 h8)<|ai (g0 h8)<|aJ h (eH a1.Funcs a0) fun r9 h=>ai h8<|L h)))
abbrev BL(a0:Program)(a1:aT)(r:Int):aR×HP:=(.ret (I r),H0)
def nD:Option Int:=
 (jU a0).bind fun (r1:Int)=>
 if (r1 !=0)=true then
  some r1
 else
  (jP a0 a1).bind fun (x4:Bool)=>
  if x4=true then
   some 1
  else
   some 0
theorem xP(r:Int)(h:nD a0 a1=some r):call G Ω0 E0 22 [(.a (an a0)),(.a [(.l 44 (a1.Vars.map ah)),(.l 44 (a1.Funcs.map ah))])] H0=some (BL a0 a1 r):=
 aH Tz (bt<|xI fun r1=>oN (.jb (some 13) 27<|.ex fun (x4:Bool)=>ao (.jn ⟨[(40,(.b x4))],[],H0⟩)<|oN (.nil))) fun L=>ai tt<|ai tt<|ai (rfl:Z0)<|aJ h (q9 a0) fun r1 h=>bb h (fun h3 h=>ai h3<|L h) (fun h3 h=>p9 h3<|aJ h (wM a0 a1) fun x4 h=>bb h (fun h6 h=>ai h6<|L h) (fun h6 h=>ai h6<|L h))
end
end
end Go.Proofs.Ytkkkkondjclcnaa.A
