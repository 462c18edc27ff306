/- Functions of the program as plain functions, by program. -/
import Derived.Test.YtkkkkondjclcnaaGreatTypes
import Derived.Test.YtkkkkondjclcnaaGreatLift
import Derived.Test.YtkkkkondjclcnaaGreatRawF
import Derived.Test.YtkkkkondjclcnaaGreatJudgeF
set_option maxRecDepth 100000
set_option linter.unusedSectionVars false
set_option linter.unusedVariables false
set_option linter.unusedSimpArgs false
set_option linter.constructorNameAsVariable false
namespace Go.Proofs.YtkkkkondjclcnaaGreat.A
open Go
noncomputable section
variable [Lp]
section
variable (a0:Program)
abbrev Gm(a0:Program)(r:(fp×Int)):aQ×HP:=(.ret (.tp [(.a [(.l 45 (r.1.Vars.map aE)),(.l 45 (r.1.Funcs.map aE))]),(I r.2)]),H0)
def nm:Option (fp×Int):=
 (kS a0).bind fun (r1:Int)=>
 if (r1 !=0)=true then
  some ((⟨([]:List Level),([]:List Level)⟩:fp),r1)
 else
  (jL a0).bind fun (r4:fp)=>
  some (r4,0)
theorem wa(r:(fp×Int))(h:nm a0=some r):call G Ω0 E0 7 [(.a (ar a0))] H0=some (Gm a0 r):=
 aJ G7 (bt<|xI fun r1=>.or (ew<|.nil) (bf<|bt<|.ex fun (r4:fp)=>ao (.v (.a [(.l 45 (r4.Vars.map aE)),(.l 45 (r4.Funcs.map aE))]))<|gT<|.nil)) fun L=>bJ<|ai (rfl:Z0)<|aT h (vH a0) fun r1 h=>bE h (fun h3 h=>ai h3<|jd<|dO<|ai (rfl:Z0)<|L h) (fun h3 h=>uA h3<|aT h (yf a0) fun r4 h=>Ll<|L h)
end
end
noncomputable section
variable [Lp]
section
variable (a0:Program)
abbrev ER(a0:Program)(r:((List nL)×Int)):aQ×HP:=(.ret (.tp [(.l 133 (r.1.map vv)),(I r.2)]),H0)
def mC:Option ((List nL)×Int):=
 (kS a0).bind fun (r1:Int)=>
 if (r1 !=0)=true then
  some (([]:List nL),r1)
 else
  (tw a0).bind fun (r4:(List nL))=>
  some (r4,0)
theorem BH(r:((List nL)×Int))(h:mC a0=some r):call G Ω0 E0 28 [(.a (ar a0))] H0=some (ER a0 r):=
 aJ G28 (bt<|xI fun r1=>oN (bt<|.ex fun (r4:(List nL))=>ao (.v (.l 133 (r4.map vv)))<|.nil)) fun L=>dO<|aT h (vH a0) fun r1 h=>bE h (fun h3 h=>ai h3<|L h) (fun h3 h=>uA h3<|aT h (EM a0) fun r4 h=>L h)
abbrev Il(a0:Program)(r:(Bool×Int)):aQ×HP:=(.ret (.tp [(.b r.1),(I r.2)]),H0)
def mD:Option (Bool×Int):=
 (mC a0).bind fun (r1:((List nL)×Int))=>
 if (r1.2==0)=true then
  some (((r1.1.length:Int)==0),r1.2)
 else
  some (false,r1.2)
theorem wW(r:(Bool×Int))(h:mD a0=some r):call G Ω0 E0 29 [(.a (ar a0))] H0=some (Il a0 r):=
 aJ G29 (bt<|.ex fun (r1:((List nL)×Int))=>ao (.v (.tp [(.l 133 (r1.1.map vv)),(I r1.2)]))<|.or (gT<|ao (.i (r1.1.length:Int))<|gT<|.nil) (bf<|bf<|bf<|bf<|.nil)) fun L=>dO<|aT h (BH a0) fun r1 h=>bE h (fun h3 h=>bG h3<|ai (aG vv r1.1)<|sj h3<|L h) (fun h3 h=>bG h3<|sj h3<|L h)
end
end
noncomputable section
variable [Lp]
abbrev ES(r:Bool):Prop:=call G Ω0 E0 16 [] H0=some (.ret (.b r),H0)
def ET:Option Bool:=some true
theorem uD(r:Bool)(h:ET=some r):ES r:=by
 obtain rfl:=Option.some.inj h
 exact iu (gP 100000) E0 16 [] H0 _ (by kernel_rfl)
abbrev EU(r:Bool):Prop:=call G Ω0 E0 33 [] H0=some (.ret (.b r),H0)
def EV:Option Bool:=some true
theorem uE(r:Bool)(h:EV=some r):EU r:=by
 obtain rfl:=Option.some.inj h
 exact iu (gP 100000) E0 33 [] H0 _ (by kernel_rfl)
end
end Go.Proofs.YtkkkkondjclcnaaGreat.A
