/- Functions of the program as plain functions, by program. -/
import Derived.Test.YtndeklbmglgonaaGreatAP1
set_option maxRecDepth 100000
set_option linter.unusedSectionVars false
set_option linter.unusedVariables false
set_option linter.unusedSimpArgs false
set_option linter.constructorNameAsVariable false
namespace Go.Proofs.YtndeklbmglgonaaGreat.A
open Go
noncomputable section
variable [Lp]
section
variable (dp:Nat)(hp:HP)(k0:Key)(c0:Runner)(a0:Stmt)
theorem uY(hk_k0:k0.dp<dp)(hz:bm dp hp)(c0:Runner)(x1:((List Int)×Nat×Bool))(y5:Func)(v1_38:Nat)(v1_k0_12:(List Int))(o:(Nat×(List Int))⊕(Nat×Bool×(List Int)))(h:iB c0 x1 y5 v1_38 v1_k0_12=some o):bu ⟨dp,false⟩ Jl (vK dp hp k0 c0 x1 y5) (vL dp hp k0 c0 x1 y5) (v1_38,v1_k0_12) o:=
 bD (.or (bt<|ao (.n v1_38)<|xI fun y8=>bf<|ao (.l ((bF c0).set 12 (.o 3 (v1_k0_12.map (I)))))<|ao (.n v1_38)<|xI fun y10=>ao (.v (I y10))<|xN fun j12=>bf<|ao (.l ((bF c0).set 12 (.o 3 (v1_k0_12.map (I)))))<|xI fun y14=>bf<|ao (.l ((bF c0).set 12 (.o 3 (v1_k0_12.map (I)))))<|ao (.v (I y14))<|ao (.l ((v1_k0_12.set j12 y10).map (I)))<|bf<|ao (.l ((bF c0).set 12 (.o 3 (v1_k0_12.map (I)))))<|bf<|ao (.h (ad hp k0 ((bF c0).set 12 (.o 3 ((v1_k0_12.set j12 y10).map (I))))))<|ao (.i ((v1_38+1:Nat):Int))<|.nil) (bf<|.nil)) fun L=>bB h (fun h7 h=>ai (decide_eq_true h7)<|ai (rI v1_38)<|ba h fun y8 h9 h=>ai (ay (I) h9)<|lK<|ai (Nat.ne_of_lt hk_k0)<|ai (aq hp k0 ((bF c0).set 12 (.o 3 (v1_k0_12.map (I)))))<|pD<|ai (rI v1_38)<|ba h fun y10 h11 h=>ai (ay (I) h11)<|ai tt<|ai (ay (I) h11)<|ai tt<|fG h fun j12 h13 h=>ai h13<|ai (Nat.ne_of_lt hk_k0)<|ai (aq hp k0 ((bF c0).set 12 (.o 3 (v1_k0_12.map (I)))))<|ba h fun y14 h15 h=>ai (ay (I) h15)<|ai ff<|ai (Nat.ne_of_lt hk_k0)<|ai (aq hp k0 ((bF c0).set 12 (.o 3 (v1_k0_12.map (I)))))<|ai (ay (I) h15)<|ai (map_set .. : (v1_k0_12.map (I)).set j12 (I y10)=(v1_k0_12.set j12 y10).map (I))<|ai (Nat.ne_of_lt hk_k0)<|ai (aq hp k0 ((bF c0).set 12 (.o 3 (v1_k0_12.map (I)))))<|ai (Nat.ne_of_lt hk_k0)<|ai (aV hp k0 ((bF c0).set 12 (.o 3 (v1_k0_12.map (I)))) ((bF c0).set 12 (.o 3 ((v1_k0_12.set j12 y10).map (I)))))<|aA h fun w16 h=>ai w16<|L h) (fun h7 h=>ai (decide_eq_false h7)<|L h)
abbrev xS(dp:Nat)(hp:HP)(k0:Key)(c0:Runner)(a0:Stmt)(r:Runner):bh×HP:=(.ret (.tp []),ad hp k0 (aa r))
def jM:Option Runner:=
 (lp (fun v=>iA c0 a0 v.1 v.2) (([]:List Int),0)).bind fun (x1:((List Int)×Nat×Bool))=>
 (dU a0.Other).bind fun (j3:Nat)=>
 (c0.p.Funcs[j3]?).bind fun (y5:Func)=>
 (lp (fun v=>iB c0 x1 y5 v.1 v.2) (0,c0.aE.Vars)).bind fun (x7:(Nat×Bool×(List Int)))=>
 some (⟨c0.p,c0.ins,c0.fuel,c0.first,(⟨c0.aE.Events,x7.2.2,c0.aE.Taken,c0.aE.Steps,c0.aE.End,c0.aE.Stop⟩:RunT)⟩:Runner)
theorem uZ(hk_k0:k0.dp<dp)(hz:bm dp hp)(c0:Runner)(a0:Stmt)(r:Runner)(h:jM c0 a0=some r):call G Ω0 ⟨dp,false⟩ 102 [(.p k0 0),(.a (af a0))] (ad hp k0 (aa c0))=some (xS dp hp k0 c0 a0 r):=
 aO aax (bt<|ao (.i (a0.Args.length:Int))<|.ex fun (x1:((List Int)×Nat×Bool))=>ao (.lp (.ex 0) ⟨[(0,(.p k0 0)),(3,(.p ⟨dp,3⟩ 0)),(4,(.o 3 (x1.1.map (I)))),(10,(.l 63 (a0.Args.map aD))),(11,(I (a0.Args.length:Int))),(12,(I (x1.2.1:Int))),(13,(.b x1.2.2))],[(3,(af a0))],ad hp k0 (aa c0)⟩)<|bf<|ao (.l (aa c0))<|bt<|xN fun j3=>.ex fun (y5:Func)=>ao (.v (.a (bL y5)))<|ao (.i (y5.Params.length:Int))<|.ex fun (x7:(Nat×Bool×(List Int)))=>ao (.lp (.ex 2) ⟨[(0,(.p k0 0)),(4,(.o 3 (x1.1.map (I)))),(36,(.l 3 (y5.Params.map (I)))),(37,(I (y5.Params.length:Int))),(38,(I (x7.1:Int))),(39,(.b x7.2.1))],[],ad hp k0 ((bF c0).set 12 (.o 3 (x7.2.2.map (I))))⟩)<|.nil) fun L=>ai ((by simp [af,AV.aQ,AV.aN,AV.deep,AV.b6,aG hk_k0,Nat.le_of_lt hk_k0]):(((.a (af a0)):AV).deep dp&&(([(0,(.p k0 0)),(1,(.a (af a0)))]:List (Nat×AV)).all (fun y=>y.2.aQ ⟨dp,3⟩)&&([]:List (Nat×List AV)).all (fun y=>AV.aN ⟨dp,3⟩ y.2)))=true)<|ai (rN dp)<|ai (ax aD a0.Args)<|aB h (cV (fun v=>uX dp hp k0 hk_k0 hz c0 a0 v.1 v.2) (([]:List Int),0)) fun x1 h=>lK<|ai (Nat.ne_of_lt hk_k0)<|ai (aq hp k0 (aa c0))<|cD<|ai (rN dp)<|ai tt<|fG h fun j3 h4 h=>ai h4<|ba h fun y5 h6 h=>ai (ay bc h6)<|gG<|ai (ax (I) y5.Params)<|cD<|aB h (cV (fun v=>uY dp hp k0 hk_k0 hz c0 x1 y5 v.1 v.2) (0,c0.aE.Vars)) fun x7 h=>L h
abbrev xT(dp:Nat)(hp:HP)(k0:Key)(c0:Runner)(a0:Stmt)(r:Runner):bh×HP:=(.ret (.tp []),ad hp k0 (aa r))
def jN:Option Runner:=
 (dU a0.Other).bind fun (j1:Nat)=>
 (c0.p.Funcs[j1]?).bind fun (y3:Func)=>
 (km y3.Result c0.aE.Vars).bind fun (r5:Int)=>
 (dU a0.Var).bind fun (j7:Nat)=>
 (c0.aE.Vars[j7]?).bind fun (y9:Int)=>
 some (⟨c0.p,c0.ins,c0.fuel,c0.first,(⟨c0.aE.Events,c0.aE.Vars.set j7 r5,c0.aE.Taken,c0.aE.Steps,c0.aE.End,c0.aE.Stop⟩:RunT)⟩:Runner)
theorem u0(hk_k0:k0.dp<dp)(hz:bm dp hp)(c0:Runner)(a0:Stmt)(r:Runner)(h:jN c0 a0=some r):call G Ω0 ⟨dp,false⟩ 103 [(.p k0 0),(.a (af a0))] (ad hp k0 (aa c0))=some (xT dp hp k0 c0 a0 r):=
 aO aay (bf<|ao (.l (aa c0))<|fF<|ao (.l (aa c0))<|bt<|xN fun j1=>.ex fun (y3:Func)=>ao (.v (.a (bL y3)))<|bf<|ao (.l (aa c0))<|bf<|ao (.l (aa c0))<|xI fun r5=>xN fun j7=>bf<|ao (.l (aa c0))<|xI fun y9=>bf<|ao (.l (aa c0))<|ao (.v (I y9))<|ao (.l ((c0.aE.Vars.set j7 r5).map (I)))<|bf<|ao (.l (aa c0))<|bf<|ao (.h (ad hp k0 ((bF c0).set 12 (.o 3 ((c0.aE.Vars.set j7 r5).map (I))))))<|.nil) fun L=>ai ((by simp [af,AV.aQ,AV.aN,AV.deep,AV.b6,aG hk_k0,Nat.le_of_lt hk_k0]):(((.a (af a0)):AV).deep dp&&(([(0,(.p k0 0)),(1,(.a (af a0)))]:List (Nat×AV)).all (fun y=>y.2.aQ ⟨dp,3⟩)&&([]:List (Nat×List AV)).all (fun y=>AV.aN ⟨dp,3⟩ y.2)))=true)<|lK<|ai (Nat.ne_of_lt hk_k0)<|ai (aq hp k0 (aa c0))<|cD<|ai (rN dp)<|lK<|ai (Nat.ne_of_lt hk_k0)<|ai (aq hp k0 (aa c0))<|cD<|ai (rN dp)<|ai tt<|fG h fun j1 h2 h=>ai h2<|ba h fun y3 h4 h=>ai (ay bc h4)<|ai tt<|ai tt<|ai tt<|ai tt<|ai tt<|ai tt<|ai tt<|ai (Nat.ne_of_lt hk_k0)<|ai (aq hp k0 (aa c0))<|ai tt<|ai (Nat.ne_of_lt hk_k0)<|ai (aq hp k0 (aa c0))<|aB h (na y3.Result c0.aE.Vars) fun r5 h=>gG<|fG h fun j7 h8 h=>ai h8<|ai (Nat.ne_of_lt hk_k0)<|ai (aq hp k0 (aa c0))<|ba h fun y9 h10 h=>ai (ay (I) h10)<|ai ff<|ai (Nat.ne_of_lt hk_k0)<|ai (aq hp k0 (aa c0))<|ai (ay (I) h10)<|ai (map_set .. : (c0.aE.Vars.map (I)).set j7 (I r5)=(c0.aE.Vars.set j7 r5).map (I))<|ai (Nat.ne_of_lt hk_k0)<|ai (aq hp k0 (aa c0))<|ai (Nat.ne_of_lt hk_k0)<|ai (aV hp k0 (aa c0) ((bF c0).set 12 (.o 3 ((c0.aE.Vars.set j7 r5).map (I)))))<|L h
end
section
variable (dp:Nat)(hp:HP)(k0:Key)(c0:Runner)(a0:ag)
abbrev zH(dp:Nat)(hp:HP)(k0:Key)(c0:Runner)(a0:ag)(r:Bool):bh×HP:=(.ret (.b r),ad hp k0 (aa c0))
def hD:Option Bool:=
 (km a0 c0.aE.Vars).bind fun (r1:Int)=>
 some (r1 !=0)
theorem pK(hk_k0:k0.dp<dp)(hz:bm dp hp)(c0:Runner)(a0:ag)(r:Bool)(h:hD c0 a0=some r):call G Ω0 ⟨dp,true⟩ 105 [(.p k0 0),(.a (bn a0))] (ad hp k0 (aa c0))=some (zH dp hp k0 c0 a0 r):=
 aO aaA (fF<|ao (.l (aa c0))<|bf<|ao (.l (aa c0))<|xI fun r1=>.nil) fun L=>ai ((by simp [bn,AV.aQ,AV.aN,AV.deep,AV.b6,aG hk_k0,Nat.le_of_lt hk_k0]):(((.a (bn a0)):AV).deep dp&&(([(0,(.p k0 0)),(1,(.a (bn a0)))]:List (Nat×AV)).all (fun y=>y.2.aQ ⟨dp,3⟩)&&([]:List (Nat×List AV)).all (fun y=>AV.aN ⟨dp,3⟩ y.2)))=true)<|ai tt<|ai (rN dp)<|lK<|ai (Nat.ne_of_lt hk_k0)<|ai (aq hp k0 (aa c0))<|ai tt<|ai (Nat.ne_of_lt hk_k0)<|ai (aq hp k0 (aa c0))<|aB h (na a0 c0.aE.Vars) fun r1 h=>cD<|L h
end
section
variable (dp:Nat)(hp:HP)(k0:Key)(c0:Runner)(a0:Stmt)(a1:Int)
abbrev zI(dp:Nat)(hp:HP)(k0:Key)(c0:Runner)(a0:Stmt)(a1:Int)(r:((List Stmt)×Int)):bh×HP:=(.ret (.tp [(.l 65 (r.1.map au)),(I r.2)]),ad hp k0 (aa c0))
def oi:Option ((List Stmt)×Int):=
 (hD c0 a0.Expr).bind fun (r1:Bool)=>
 if r1=true then
  if IntKind.i64.wrap (a1+1)=a1+1 then
   some (a0.Then,(a1+1))
  else none
 else
  if IntKind.i64.wrap (a1+1)=a1+1 then
   (lg a0.Then).bind fun (r5:Int)=>
   if IntKind.i64.wrap ((a1+1)+r5)=(a1+1)+r5 then
    some (a0.Else,((a1+1)+r5))
   else none
  else none
theorem vM(hk_k0:k0.dp<dp)(hz:bm dp hp)(c0:Runner)(a0:Stmt)(a1:Int)(r:((List Stmt)×Int))(h:oi c0 a0 a1=some r):call G Ω0 ⟨dp,true⟩ 104 [(.p k0 0),(.a (af a0)),(I a1)] (ad hp k0 (aa c0))=some (zI dp hp k0 c0 a0 a1 r):=
 aO aaz (bt<|xB fun r1=>ao (.h (boxes dp [(4,(af a0))] (ad hp k0 (aa c0))))<|.or (b5<|ao (.i (a1+1))<|.nil) (rT<|ao (.i (a1+1))<|bt<|xI fun r5=>ao (.i ((a1+1)+r5))<|.nil)) fun L=>ai ((by simp [af,AV.aQ,AV.aN,AV.deep,AV.b6,aG hk_k0,Nat.le_of_lt hk_k0]):(((.a (af a0)):AV).deep dp&&(([(0,(.p k0 0)),(1,(.a (af a0))),(2,(I a1))]:List (Nat×AV)).all (fun y=>y.2.aQ ⟨dp,4⟩)&&([]:List (Nat×List AV)).all (fun y=>AV.aN ⟨dp,4⟩ y.2)))=true)<|ai (rN dp)<|ai tt<|ba h fun r1 ek2 h=>have ek2:call G Ω0 ⟨dp+1,true⟩ 105 [(.p k0 0),(.a (bn a0.Expr))] (boxes dp [(4,(af a0))] (ad hp k0 (aa c0)))=some (.ret (.b r1),boxes dp [(4,(af a0))] (ad hp k0 (aa c0))):=ey (bZ (hp1:=ad hp k0 (aa c0)) (Nat.ne_of_lt hk_k0) (aV ..)) (bZ (hp1:=ad hp k0 (aa c0)) (Nat.ne_of_lt hk_k0) (aV ..)) (pK (dp+1) (boxes dp [(4,(af a0))] (ad hp k0 (aa c0))) k0 (Nat.lt_succ_of_lt hk_k0) (a9 (aH hk_k0 (hz))) c0 a0.Expr _ ek2);ai ek2<|aM h (fun h3 h=>ai h3<|ai (rN dp)<|aA h fun w4 h=>ai w4<|L h) (fun h3 h=>FC h3<|ai (rN dp)<|cD<|aA h fun w4 h=>ai w4<|cD<|ai (rN dp)<|ai tt<|aB h (oQ a0.Then) fun r5 h=>ai tt<|aA h fun w7 h=>ai w7<|cD<|L h)
end
section
variable (dp:Nat)(hp:HP)(k0:Key)(c0:Runner)(a0:Int)(a1:Int)(a2:Int)(a3:Int)
abbrev wM(dp:Nat)(hp:HP)(k0:Key)(c0:Runner)(a0:Int)(a1:Int)(a2:Int)(a3:Int)(r:Runner):bh×HP:=(.ret (.tp []),ad hp k0 (aa r))
def eS:Option Runner:=
 if c0.aE.Events.length+([(⟨a0,a1,a2,a3⟩:Event)]).length≤1000000000 then
  some (⟨c0.p,c0.ins,c0.fuel,c0.first,(⟨c0.aE.Events++([(⟨a0,a1,a2,a3⟩:Event)]),c0.aE.Vars,c0.aE.Taken,c0.aE.Steps,c0.aE.End,c0.aE.Stop⟩:RunT)⟩:Runner)
 else none
theorem kn(hk_k0:k0.dp<dp)(hz:bm dp hp)(c0:Runner)(a0:Int)(a1:Int)(a2:Int)(a3:Int)(r:Runner)(h:eS c0 a0 a1 a2 a3=some r):call G Ω0 ⟨dp,false⟩ 106 [(.p k0 0),(I a0),(I a1),(I a2),(I a3)] (ad hp k0 (aa c0))=some (wM dp hp k0 c0 a0 a1 a2 a3 r):=
 aO aaB (bf<|ao (.l (aa c0))<|ao (.l (([(⟨a0,a1,a2,a3⟩:Event)]).map aw))<|bf<|ao (.l (aa c0))<|bf<|ao (.l (aa c0))<|bf<|ao (.h (ad hp k0 ((cG c0).set 11 .u)))<|ao (.l ((c0.aE.Events++([(⟨a0,a1,a2,a3⟩:Event)])).map aw))<|bf<|ao (.l ((cG c0).set 11 .u))<|bf<|ao (.h (ad hp k0 ((cG c0).set 11 (.o 73 ((c0.aE.Events++([(⟨a0,a1,a2,a3⟩:Event)])).map aw)))))<|.nil) fun L=>ai (Nat.ne_of_lt hk_k0)<|ai (aq hp k0 (aa c0))<|ai (rfl:[(.a [(I a0),(I a1),(I a2),(I a3)])]=([(⟨a0,a1,a2,a3⟩:Event)]).map aw)<|ai ff<|ai (Nat.ne_of_lt hk_k0)<|ai (aq hp k0 (aa c0))<|ai (Nat.ne_of_lt hk_k0)<|ai (aq hp k0 (aa c0))<|ai (Nat.ne_of_lt hk_k0)<|ai (aV hp k0 (aa c0) ((cG c0).set 11 .u))<|aA h fun h1 h=>ai ((dR aw (n:=4) (fun _=>rfl) ([(⟨a0,a1,a2,a3⟩:Event)])):(([(⟨a0,a1,a2,a3⟩:Event)]).map aw).all (fun e=>e.nc==4)=true)<|ai ((fl h1 (by decide)):((c0.aE.Events.map aw).length+(([(⟨a0,a1,a2,a3⟩:Event)]).map aw).length)*32≤140737488355328)<|ai ((fm h1):(c0.aE.Events.map aw).length+(([(⟨a0,a1,a2,a3⟩:Event)]).map aw).length≤maxLen)<|ai (List.map_append.symm:c0.aE.Events.map aw++([(⟨a0,a1,a2,a3⟩:Event)]).map aw=(c0.aE.Events++([(⟨a0,a1,a2,a3⟩:Event)])).map aw)<|ai ff<|ai (Nat.ne_of_lt hk_k0)<|ai (aq hp k0 ((cG c0).set 11 .u))<|ai (Nat.ne_of_lt hk_k0)<|ai (aV hp k0 ((cG c0).set 11 .u) ((cG c0).set 11 (.o 73 ((c0.aE.Events++([(⟨a0,a1,a2,a3⟩:Event)])).map aw))))<|L h
end
section
variable (c0:Runner)(a0:Stmt)(dp:Nat)(hp:HP)(k0:Key)(a1:Int)
def gn(w0_1:Int):Option ((List Int)×(List Int)):=
 (dU a0.Other).bind fun (j13:Nat)=>
 (c0.aE.Taken[j13]?).bind fun (y15:Int)=>
 if IntKind.i64.wrap (y15+1)=y15+1 then
  (dU a0.Var).bind fun (j18:Nat)=>
  (c0.aE.Vars[j18]?).bind fun (y20:Int)=>
  some (c0.aE.Vars.set j18 w0_1,c0.aE.Taken.set j13 (y15+1))
 else none
abbrev xU(dp:Nat)(hp:HP)(k0:Key)(c0:Runner)(a0:Stmt)(w0_1:Int)(x:((List Int)×(List Int))):aJ×St:=(.ret,⟨[],[],ad hp k0 (((ly c0).set 12 (.o 3 (x.1.map (I)))).set 13 (.o 3 (x.2.map (I))))⟩)
theorem p9(hk_k0:k0.dp<dp)(hz:bm dp hp)(c0:Runner)(a0:Stmt)(w0_1:Int)(x:((List Int)×(List Int)))(h:gn c0 a0 w0_1=some x):run G Ω0 ⟨dp,false⟩ Mk ⟨[(0,(.p k0 0)),(4,(.p ⟨dp,4⟩ 0)),(6,(I w0_1))],[(4,(af a0))],ad hp k0 (aa c0)⟩=some (xU dp hp k0 c0 a0 w0_1 x):=
 ga (bf<|ao (.l (aa c0))<|bt<|xN fun j13=>bf<|ao (.l (aa c0))<|xI fun y15=>bf<|ao (.l (aa c0))<|ao (.v (I y15))<|ao (.i (y15+1))<|ao (.n j13)<|bf<|ao (.l (aa c0))<|ao (.v (I y15))<|bf<|ao (.l (aa c0))<|ao (.v (I y15))<|ao (.l ((c0.aE.Taken.set j13 (y15+1)).map (I)))<|bf<|ao (.l (aa c0))<|bf<|ao (.h (ad hp k0 ((cN c0).set 13 (.o 3 ((c0.aE.Taken.set j13 (y15+1)).map (I))))))<|bf<|ao (.l ((cN c0).set 13 (.o 3 ((c0.aE.Taken.set j13 (y15+1)).map (I)))))<|bt<|xN fun j18=>bf<|ao (.l ((cN c0).set 13 (.o 3 ((c0.aE.Taken.set j13 (y15+1)).map (I)))))<|xI fun y20=>bf<|ao (.l ((cN c0).set 13 (.o 3 ((c0.aE.Taken.set j13 (y15+1)).map (I)))))<|ao (.v (I y20))<|ao (.l ((c0.aE.Vars.set j18 w0_1).map (I)))<|bf<|ao (.l ((cN c0).set 13 (.o 3 ((c0.aE.Taken.set j13 (y15+1)).map (I)))))<|bf<|ao (.h (ad hp k0 (((ly c0).set 12 (.o 3 ((c0.aE.Vars.set j18 w0_1).map (I)))).set 13 (.o 3 ((c0.aE.Taken.set j13 (y15+1)).map (I))))))<|.nil) fun L=>lK<|ai (Nat.ne_of_lt hk_k0)<|ai (aq hp k0 (aa c0))<|cD<|ai (rN dp)<|ai tt<|fG h fun j13 h14 h=>ai h14<|ai (Nat.ne_of_lt hk_k0)<|ai (aq hp k0 (aa c0))<|ba h fun y15 h16 h=>ai (ay (I) h16)<|ai (Nat.ne_of_lt hk_k0)<|ai (aq hp k0 (aa c0))<|ai (ay (I) h16)<|aA h fun w17 h=>ai w17<|ai h14<|ai (Nat.ne_of_lt hk_k0)<|ai (aq hp k0 (aa c0))<|ai (ay (I) h16)<|ai ff<|ai (Nat.ne_of_lt hk_k0)<|ai (aq hp k0 (aa c0))<|ai (ay (I) h16)<|ai (map_set .. : (c0.aE.Taken.map (I)).set j13 (I (y15+1))=(c0.aE.Taken.set j13 (y15+1)).map (I))<|ai (Nat.ne_of_lt hk_k0)<|ai (aq hp k0 (aa c0))<|ai (Nat.ne_of_lt hk_k0)<|ai (aV hp k0 (aa c0) ((cN c0).set 13 (.o 3 ((c0.aE.Taken.set j13 (y15+1)).map (I)))))<|lK<|ai (Nat.ne_of_lt hk_k0)<|ai (aq hp k0 ((cN c0).set 13 (.o 3 ((c0.aE.Taken.set j13 (y15+1)).map (I)))))<|cD<|ai (rN dp)<|cD<|fG h fun j18 h19 h=>ai h19<|ai (Nat.ne_of_lt hk_k0)<|ai (aq hp k0 ((cN c0).set 13 (.o 3 ((c0.aE.Taken.set j13 (y15+1)).map (I)))))<|ba h fun y20 h21 h=>ai (ay (I) h21)<|ai ff<|ai (Nat.ne_of_lt hk_k0)<|ai (aq hp k0 ((cN c0).set 13 (.o 3 ((c0.aE.Taken.set j13 (y15+1)).map (I)))))<|ai (ay (I) h21)<|ai (map_set .. : (c0.aE.Vars.map (I)).set j18 (I w0_1)=(c0.aE.Vars.set j18 w0_1).map (I))<|ai (Nat.ne_of_lt hk_k0)<|ai (aq hp k0 ((cN c0).set 13 (.o 3 ((c0.aE.Taken.set j13 (y15+1)).map (I)))))<|ai (Nat.ne_of_lt hk_k0)<|ai (aV hp k0 ((cN c0).set 13 (.o 3 ((c0.aE.Taken.set j13 (y15+1)).map (I)))) (((ly c0).set 12 (.o 3 ((c0.aE.Vars.set j18 w0_1).map (I)))).set 13 (.o 3 ((c0.aE.Taken.set j13 (y15+1)).map (I)))))<|L h
def gq(r2:Int)(w2_1:(List Int)):Option (Runner⊕Runner):=
 if (a0.Kind==4)=true then
  (eS (⟨c0.p,c0.ins,c0.fuel,c0.first,(⟨c0.aE.Events,w2_1,c0.aE.Taken,c0.aE.Steps,c0.aE.End,c0.aE.Stop⟩:RunT)⟩:Runner) 1 a1 a0.Other r2).bind fun (r10:Runner)=>
  some (.inl r10)
 else
  if (a0.Kind==5)=true then
   (eS (⟨c0.p,c0.ins,c0.fuel,c0.first,(⟨c0.aE.Events,w2_1,c0.aE.Taken,c0.aE.Steps,c0.aE.End,c0.aE.Stop⟩:RunT)⟩:Runner) 2 a1 a0.Var r2).bind fun (r11:Runner)=>
   some (.inl r11)
  else
   if (a0.Kind==6)=true then
    (eS (⟨c0.p,c0.ins,c0.fuel,c0.first,(⟨c0.aE.Events,w2_1,c0.aE.Taken,c0.aE.Steps,c0.aE.End,c0.aE.Stop⟩:RunT)⟩:Runner) 3 a1 a0.Var r2).bind fun (r12:Runner)=>
    some (.inl r12)
   else
    some (.inr (⟨c0.p,c0.ins,c0.fuel,c0.first,(⟨c0.aE.Events,w2_1,c0.aE.Taken,c0.aE.Steps,c0.aE.End,c0.aE.Stop⟩:RunT)⟩:Runner))
abbrev xV(c0:Runner)(a0:Stmt)(a1:Int)(r2:Int)(w2_1:(List Int))(x:(Runner⊕Runner)):aJ×St:=match x with | .inl z1=>(.nrm,⟨[],[],ad hp k0 (aa z1)⟩) | .inr z1=>(.nrm,⟨[(0,(.p k0 0)),(2,(I a1)),(4,(.p ⟨dp,4⟩ 0)),(8,(I r2)),(102,(.b (a0.Kind==6)))],[(4,(af a0))],ad hp k0 (aa z1)⟩)
theorem qa(hk_k0:k0.dp<dp)(hz:bm dp hp)(c0:Runner)(a0:Stmt)(a1:Int)(r2:Int)(w2_1:(List Int))(x:(Runner⊕Runner))(h:gq c0 a0 a1 r2 w2_1=some x):run G Ω0 ⟨dp,false⟩ Ml ⟨[(0,(.p k0 0)),(2,(I a1)),(4,(.p ⟨dp,4⟩ 0)),(8,(I r2))],[(4,(af a0))],ad hp k0 ((bF c0).set 12 (.o 3 (w2_1.map (I))))⟩=some (xV dp hp k0 c0 a0 a1 r2 w2_1 x):=
 ga (bt<|.or (b5<|.ex fun (r10:Runner)=>ao (.v (.tp []))<|ao (.h (boxes dp [(4,(af a0))] (ad hp k0 (aa r10))))<|ao (.bx [(4,(af a0))])<|ao (.h (ad hp k0 (aa r10)))<|.nil) (bf<|.or (b5<|.ex fun (r11:Runner)=>ao (.v (.tp []))<|ao (.h (boxes dp [(4,(af a0))] (ad hp k0 (aa r11))))<|ao (.bx [(4,(af a0))])<|ao (.h (ad hp k0 (aa r11)))<|.nil) (bf<|.or (b5<|.ex fun (r12:Runner)=>ao (.v (.tp []))<|ao (.h (boxes dp [(4,(af a0))] (ad hp k0 (aa r12))))<|ao (.bx [(4,(af a0))])<|ao (.h (ad hp k0 (aa r12)))<|.nil) (bf<|.nil)))) fun L=>ai (rN dp)<|aM h (fun h9 h=>ai h9<|ai (rN dp)<|gI<|ba h fun r10 ek11 h=>have ek11:=cO hk_k0 (kn (dp+1) (boxes dp [(4,(af a0))] (ad hp k0 ((bF c0).set 12 (.o 3 (w2_1.map (I)))))) k0 (Nat.lt_succ_of_lt hk_k0) (a9 (aH hk_k0 (hz))) (⟨c0.p,c0.ins,c0.fuel,c0.first,(⟨c0.aE.Events,w2_1,c0.aE.Taken,c0.aE.Steps,c0.aE.End,c0.aE.Stop⟩:RunT)⟩:Runner) 1 a1 a0.Other r2 _ ek11);ai ek11<|ai (er ek11 (by kernel_rfl) (by kernel_rfl))<|ai (et ek11 (aH hk_k0 (hz)))<|L h) (fun h9 h=>ai h9<|aM h (fun h10 h=>ai h10<|ai (rN dp)<|gI<|ba h fun r11 ek12 h=>have ek12:=cO hk_k0 (kn (dp+1) (boxes dp [(4,(af a0))] (ad hp k0 ((bF c0).set 12 (.o 3 (w2_1.map (I)))))) k0 (Nat.lt_succ_of_lt hk_k0) (a9 (aH hk_k0 (hz))) (⟨c0.p,c0.ins,c0.fuel,c0.first,(⟨c0.aE.Events,w2_1,c0.aE.Taken,c0.aE.Steps,c0.aE.End,c0.aE.Stop⟩:RunT)⟩:Runner) 2 a1 a0.Var r2 _ ek12);ai ek12<|ai (er ek12 (by kernel_rfl) (by kernel_rfl))<|ai (et ek12 (aH hk_k0 (hz)))<|L h) (fun h10 h=>ai h10<|aM h (fun h11 h=>ai h11<|ai (rN dp)<|gI<|ba h fun r12 ek13 h=>have ek13:=cO hk_k0 (kn (dp+1) (boxes dp [(4,(af a0))] (ad hp k0 ((bF c0).set 12 (.o 3 (w2_1.map (I)))))) k0 (Nat.lt_succ_of_lt hk_k0) (a9 (aH hk_k0 (hz))) (⟨c0.p,c0.ins,c0.fuel,c0.first,(⟨c0.aE.Events,w2_1,c0.aE.Taken,c0.aE.Steps,c0.aE.End,c0.aE.Stop⟩:RunT)⟩:Runner) 3 a1 a0.Var r2 _ ek13);ai ek13<|ai (er ek13 (by kernel_rfl) (by kernel_rfl))<|ai (et ek13 (aH hk_k0 (hz)))<|L h) (fun h11 h=>ai h11<|L h)))
abbrev Cu(dp:Nat)(hp:HP)(k0:Key)(c0:Runner)(a0:Stmt)(a1:Int)(r:Runner):bh×HP:=(.ret (.tp []),ad hp k0 (aa r))
def l3:Option Runner:=
 if (a0.Kind==3)=true then
  (dU a0.Other).bind fun (j2:Nat)=>
  (c0.ins[j2]?).bind fun (y4:(List Int))=>
  (c0.aE.Taken[j2]?).bind fun (y6:Int)=>
  if y6<(y4.length:Int) then
   (dU y6).bind fun (j9:Nat)=>
   (y4[j9]?).bind fun (y11:Int)=>
   (gn c0 a0 y11).bind fun (x13:((List Int)×(List Int)))=>
   some (⟨c0.p,c0.ins,c0.fuel,c0.first,(⟨c0.aE.Events,x13.1,x13.2,c0.aE.Steps,c0.aE.End,c0.aE.Stop⟩:RunT)⟩:Runner)
  else
   (gn c0 a0 0).bind fun (x9:((List Int)×(List Int)))=>
   some (⟨c0.p,c0.ins,c0.fuel,c0.first,(⟨c0.aE.Events,x9.1,x9.2,c0.aE.Steps,c0.aE.End,c0.aE.Stop⟩:RunT)⟩:Runner)
 else
  (km a0.Expr c0.aE.Vars).bind fun (r2:Int)=>
  if (a0.Kind !=4)=true then
   (dU a0.Var).bind fun (j5:Nat)=>
   (c0.aE.Vars[j5]?).bind fun (y7:Int)=>
   (gq c0 a0 a1 r2 (c0.aE.Vars.set j5 r2)).bind fun (x9:(Runner⊕Runner))=>match x9 with
   | .inl ya_10=>
    some ya_10
   | .inr yb_10=>
    some yb_10
  else
   (gq c0 a0 a1 r2 c0.aE.Vars).bind fun (x5:(Runner⊕Runner))=>match x5 with
   | .inl ya_6=>
    some ya_6
   | .inr yb_6=>
    some yb_6
theorem xW(hk_k0:k0.dp<dp)(hz:bm dp hp)(c0:Runner)(a0:Stmt)(a1:Int)(r:Runner)(h:l3 c0 a0 a1=some r):call G Ω0 ⟨dp,false⟩ 90 [(.p k0 0),(.a (af a0)),(I a1)] (ad hp k0 (aa c0))=some (Cu dp hp k0 c0 a0 a1 r):=
 aO G90 (bt<|.or (fF<|ao (.l (aa c0))<|bt<|xN fun j2=>.ex fun (y4:(List Int))=>ao (.v (.l 3 (y4.map (I))))<|bf<|ao (.l (aa c0))<|bt<|ao (.n j2)<|bf<|ao (.l (aa c0))<|xI fun y6=>bf<|ao (.l (aa c0))<|ao (.v (I y6))<|ao (.i (y4.length:Int))<|.or (fF<|ao (.l (aa c0))<|bt<|ao (.n j2)<|bf<|ao (.l (aa c0))<|ao (.v (I y6))<|bf<|ao (.l (aa c0))<|ao (.v (I y6))<|xN fun j9=>xI fun y11=>.fb<|.ex fun (x13:((List Int)×(List Int)))=>ao (.fr .ret ⟨[],[],ad hp k0 (((ly c0).set 12 (.o 3 (x13.1.map (I)))).set 13 (.o 3 (x13.2.map (I))))⟩)<|.nil) (bf<|.fb<|.ex fun (x9:((List Int)×(List Int)))=>ao (.fr .ret ⟨[],[],ad hp k0 (((ly c0).set 12 (.o 3 (x9.1.map (I)))).set 13 (.o 3 (x9.2.map (I))))⟩)<|.nil)) (bf<|bt<|bf<|ao (.l (aa c0))<|bf<|ao (.l (aa c0))<|xI fun r2=>bt<|.or (fF<|ao (.l (aa c0))<|bt<|xN fun j5=>bf<|ao (.l (aa c0))<|xI fun y7=>bf<|ao (.l (aa c0))<|ao (.v (I y7))<|ao (.l ((c0.aE.Vars.set j5 r2).map (I)))<|bf<|ao (.l (aa c0))<|bf<|ao (.h (ad hp k0 ((bF c0).set 12 (.o 3 ((c0.aE.Vars.set j5 r2).map (I))))))<|.fb<|.or (.ex fun (ya_10:Runner)=>ao (.fr .nrm ⟨[],[],ad hp k0 (aa ya_10)⟩)<|.nil) (.ex fun (yb_10:Runner)=>ao (.fr .nrm ⟨[(0,(.p k0 0)),(2,(I a1)),(4,(.p ⟨dp,4⟩ 0)),(8,(I r2)),(102,(.b (a0.Kind==6)))],[(4,(af a0))],ad hp k0 (aa yb_10)⟩)<|.nil)) (bf<|.fb<|.or (.ex fun (ya_6:Runner)=>ao (.fr .nrm ⟨[],[],ad hp k0 (aa ya_6)⟩)<|.nil) (.ex fun (yb_6:Runner)=>ao (.fr .nrm ⟨[(0,(.p k0 0)),(2,(I a1)),(4,(.p ⟨dp,4⟩ 0)),(8,(I r2)),(102,(.b (a0.Kind==6)))],[(4,(af a0))],ad hp k0 (aa yb_6)⟩)<|.nil)))) fun L=>ai ((by simp [af,AV.aQ,AV.aN,AV.deep,AV.b6,aG hk_k0,Nat.le_of_lt hk_k0]):(((.a (af a0)):AV).deep dp&&(([(0,(.p k0 0)),(1,(.a (af a0))),(2,(I a1))]:List (Nat×AV)).all (fun y=>y.2.aQ ⟨dp,4⟩)&&([]:List (Nat×List AV)).all (fun y=>AV.aN ⟨dp,4⟩ y.2)))=true)<|ai (rN dp)<|aM h (fun h1 h=>Ds h1<|ai (Nat.ne_of_lt hk_k0)<|ai (aq hp k0 (aa c0))<|cD<|ai (rN dp)<|ai tt<|fG h fun j2 h3 h=>ai h3<|ba h fun y4 h5 h=>ai (ay (bM 3 (I)) h5)<|ai tt<|ai tt<|ai tt<|ai tt<|ai tt<|ai tt<|ai tt<|ai tt<|ai (Nat.ne_of_lt hk_k0)<|ai (aq hp k0 (aa c0))<|cD<|ai (rN dp)<|ai tt<|ai h3<|ai (Nat.ne_of_lt hk_k0)<|ai (aq hp k0 (aa c0))<|ba h fun y6 h7 h=>ai (ay (I) h7)<|ai tt<|ai (Nat.ne_of_lt hk_k0)<|ai (aq hp k0 (aa c0))<|ai (ay (I) h7)<|cD<|ai (ax (I) y4)<|ai tt<|bB h (fun h8 h=>ai (decide_eq_true h8)<|ai tt<|ai tt<|ai tt<|ai tt<|ai tt<|ai tt<|ai (Nat.ne_of_lt hk_k0)<|ai (aq hp k0 (aa c0))<|cD<|ai (rN dp)<|ai tt<|ai h3<|ai (Nat.ne_of_lt hk_k0)<|ai (aq hp k0 (aa c0))<|ai (ay (I) h7)<|ai tt<|ai (Nat.ne_of_lt hk_k0)<|ai (aq hp k0 (aa c0))<|ai (ay (I) h7)<|ai tt<|fG h fun j9 h10 h=>ai h10<|ba h fun y11 h12 h=>ai (ay (I) h12)<|aB h (p9 dp hp k0 hk_k0 hz c0 a0 y11) fun x13 h=>L h) (fun h8 h=>ai (decide_eq_false h8)<|aB h (p9 dp hp k0 hk_k0 hz c0 a0 0) fun x9 h=>L h)) (fun h1 h=>FC h1<|ai (rN dp)<|lK<|ai (Nat.ne_of_lt hk_k0)<|ai (aq hp k0 (aa c0))<|ai tt<|ai (Nat.ne_of_lt hk_k0)<|ai (aq hp k0 (aa c0))<|aB h (na a0.Expr c0.aE.Vars) fun r2 h=>cD<|ai (rN dp)<|aM h (fun h4 h=>ai h4<|ai tt<|ai tt<|ai tt<|ai tt<|ai tt<|ai (Nat.ne_of_lt hk_k0)<|ai (aq hp k0 (aa c0))<|cD<|ai (rN dp)<|cD<|fG h fun j5 h6 h=>ai h6<|ai (Nat.ne_of_lt hk_k0)<|ai (aq hp k0 (aa c0))<|ba h fun y7 h8 h=>ai (ay (I) h8)<|ai ff<|ai (Nat.ne_of_lt hk_k0)<|ai (aq hp k0 (aa c0))<|ai (ay (I) h8)<|ai (map_set .. : (c0.aE.Vars.map (I)).set j5 (I r2)=(c0.aE.Vars.set j5 r2).map (I))<|ai (Nat.ne_of_lt hk_k0)<|ai (aq hp k0 (aa c0))<|ai (Nat.ne_of_lt hk_k0)<|ai (aV hp k0 (aa c0) ((bF c0).set 12 (.o 3 ((c0.aE.Vars.set j5 r2).map (I)))))<|bO h (qa dp hp k0 hk_k0 hz c0 a0 a1 r2 (c0.aE.Vars.set j5 r2)) (fun ya_10 h=>L h) (fun yb_10 h=>L h)) (fun h4 h=>ai h4<|bO h (qa dp hp k0 hk_k0 hz c0 a0 a1 r2 c0.aE.Vars) (fun ya_6 h=>L h) (fun yb_6 h=>L h)))
end
section
variable (dp:Nat)(hp:HP)(k0:Key)(c0:Runner)(a0:(List Stmt))(a1:Int)
abbrev A4(dp:Nat)(hp:HP)(k0:Key)(c0:Runner)(a0:(List Stmt))(a1:Int)(r:(Bool×Runner)):bh×HP:=(.ret (.b r.1),ad hp k0 (aa r.2))
abbrev o8(r:(Bool×Runner)):Prop:=call G Ω0 ⟨dp,false⟩ 32 [(.p k0 0),(.l 65 (a0.map au)),(I a1)] (ad hp k0 (aa c0))=some (A4 dp hp k0 c0 a0 a1 r)
end
section
variable (dp:Nat)(hp:HP)(k0:Key)(c0:Runner)(a0:Stmt)(a1:Int)
abbrev zJ(dp:Nat)(hp:HP)(k0:Key)(c0:Runner)(a0:Stmt)(r:(Bool×Runner)):bh×HP:=(.ret (.b r.1),ad hp k0 (aa r.2))
abbrev rU(r:(Bool×Runner)):Prop:=call G Ω0 ⟨dp,false⟩ 88 [(.p k0 0),(.a (af a0))] (ad hp k0 (aa c0))=some (zJ dp hp k0 c0 a0 r)
abbrev xX(dp:Nat)(hp:HP)(k0:Key)(c0:Runner)(a0:Stmt)(a1:Int)(r:(Bool×Runner)):bh×HP:=(.ret (.b r.1),ad hp k0 (aa r.2))
abbrev rb(r:(Bool×Runner)):Prop:=call G Ω0 ⟨dp,false⟩ 89 [(.p k0 0),(.a (af a0)),(I a1)] (ad hp k0 (aa c0))=some (xX dp hp k0 c0 a0 a1 r)
abbrev A5(dp:Nat)(hp:HP)(k0:Key)(c0:Runner)(a0:Stmt)(a1:Int)(r:(Bool×Runner)):bh×HP:=(.ret (.b r.1),ad hp k0 (aa r.2))
abbrev sZ(r:(Bool×Runner)):Prop:=call G Ω0 ⟨dp,false⟩ 59 [(.p k0 0),(.a (af a0)),(I a1)] (ad hp k0 (aa c0))=some (A5 dp hp k0 c0 a0 a1 r)
end
structure bJ where
 f_run_Runner_all:Runner→(List Stmt)→Int→Option (Bool×Runner)
 f_run_Runner_call:Runner→Stmt→Option (Bool×Runner)
 f_run_Runner_inner:Runner→Stmt→Int→Option (Bool×Runner)
 f_run_Runner_one:Runner→Stmt→Int→Option (Bool×Runner)
structure aU(R:bJ):Prop where
 f_run_Runner_all:∀ (dp:Nat)(hp:HP)(k0:Key)(hk_k0:k0.dp<dp)(hz:bm dp hp)(c0:Runner)(a0:(List Stmt))(a1:Int)(r:(Bool×Runner)),R.f_run_Runner_all c0 a0 a1=some r→o8 dp hp k0 c0 a0 a1 r
 f_run_Runner_call:∀ (dp:Nat)(hp:HP)(k0:Key)(hk_k0:k0.dp<dp)(hz:bm dp hp)(c0:Runner)(a0:Stmt)(r:(Bool×Runner)),R.f_run_Runner_call c0 a0=some r→rU dp hp k0 c0 a0 r
 f_run_Runner_inner:∀ (dp:Nat)(hp:HP)(k0:Key)(hk_k0:k0.dp<dp)(hz:bm dp hp)(c0:Runner)(a0:Stmt)(a1:Int)(r:(Bool×Runner)),R.f_run_Runner_inner c0 a0 a1=some r→rb dp hp k0 c0 a0 a1 r
 f_run_Runner_one:∀ (dp:Nat)(hp:HP)(k0:Key)(hk_k0:k0.dp<dp)(hz:bm dp hp)(c0:Runner)(a0:Stmt)(a1:Int)(r:(Bool×Runner)),R.f_run_Runner_one c0 a0 a1=some r→sZ dp hp k0 c0 a0 a1 r
section
variable (R:bJ)(a0:(List Stmt))(c0:Runner)
def jO(v0_k0:Runner)(v0_2:Int)(v0_11:Nat):Option ((Runner×Int×Nat)⊕(Runner⊕(Int×Nat×Bool×Runner))):=
 if (v0_11:Int)<(a0.length:Int) then
  (a0[v0_11]?).bind fun (y2:Stmt)=>
  (R.f_run_Runner_one v0_k0 y2 v0_2).bind fun (r4:(Bool×Runner))=>
  if r4.1=true then
   (lg y2.Then).bind fun (r7:Int)=>
   if IntKind.i64.wrap (1+r7)=1+r7 then
    (lg y2.Else).bind fun (r10:Int)=>
    if IntKind.i64.wrap ((1+r7)+r10)=(1+r7)+r10 then
     if IntKind.i64.wrap (v0_2+((1+r7)+r10))=v0_2+((1+r7)+r10) then
      if IntKind.i64.wrap ((v0_11:Int)+1)=((v0_11+1:Nat):Int) then
       some (.inl (r4.2,v0_2+((1+r7)+r10),v0_11+1))
      else none
     else none
    else none
   else none
  else
   some (.inr (.inl r4.2))
 else
  some (.inr (.inr (v0_2,v0_11,decide ((v0_11:Int)<(a0.length:Int)),v0_k0)))
abbrev xY(dp:Nat)(hp:HP)(k0:Key)(a0:(List Stmt))(v:(Runner×Int×Nat)):St:=⟨[(0,(.p k0 0)),(2,(I v.2.1)),(9,(.l 65 (a0.map au))),(10,(I (a0.length:Int))),(11,(I (v.2.2:Int)))],[],ad hp k0 (aa v.1)⟩
abbrev xZ(dp:Nat)(hp:HP)(k0:Key)(a0:(List Stmt))(x:(Runner⊕(Int×Nat×Bool×Runner))):aJ×St:=match x with | .inl z1=>(.ret,⟨[(6,(.b false))],[],ad hp k0 (aa z1)⟩) | .inr (z1,z2,z3,z4)=>((.ex 0),⟨[(0,(.p k0 0)),(2,(I z1)),(9,(.l 65 (a0.map au))),(10,(I (a0.length:Int))),(11,(I (z2:Int))),(12,(.b z3))],[],ad hp k0 (aa z4)⟩)
theorem wN(hR:aU R)(dp:Nat)(hp:HP)(k0:Key)(hk_k0:k0.dp<dp)(hz:bm dp hp)(a0:(List Stmt))(v0_k0:Runner)(v0_2:Int)(v0_11:Nat)(o:(Runner×Int×Nat)⊕(Runner⊕(Int×Nat×Bool×Runner)))(h:jO R a0 v0_k0 v0_2 v0_11=some o):bu ⟨dp,false⟩ LI (xY dp hp k0 a0) (xZ dp hp k0 a0) (v0_k0,v0_2,v0_11) o:=
 bD (.or (bt<|ao (.n v0_11)<|.ex fun (y2:Stmt)=>ao (.v (.a (af y2)))<|cR<|.ex fun (r4:(Bool×Runner))=>ao (.v (.b r4.1))<|ao (.h (boxes dp [(8,(af y2))] (ad hp k0 (aa r4.2))))<|ao (.bx [(8,(af y2))])<|ao (.h (ad hp k0 (aa r4.2)))<|.or (rT<|xI fun r7=>ao (.i (1+r7))<|bt<|xI fun r10=>ao (.i ((1+r7)+r10))<|ao (.i (v0_2+((1+r7)+r10)))<|ao (.i ((v0_11+1:Nat):Int))<|.nil) (bt<|.nil)) (bf<|.nil)) fun L=>bB h (fun h1 h=>ai (decide_eq_true h1)<|ai (rI v0_11)<|ba h fun y2 h3 h=>ai (cF au h3 (ea _))<|ai ((by simp [af,AV.aQ,AV.aN,AV.deep,AV.b6,aG hk_k0,Nat.le_of_lt hk_k0]):(([(14,(.a (af y2))),(13,(.e (.a (af y2)) 0)),(0,(.p k0 0)),(2,(I v0_2)),(9,(.l 65 (a0.map au))),(10,(I (a0.length:Int))),(11,(I (v0_11:Int)))]:List (Nat×AV)).all (fun y=>y.2.aQ ⟨dp,8⟩)&&([]:List (Nat×List AV)).all (fun y=>AV.aN ⟨dp,8⟩ y.2))=true)<|ai ff<|ai (rN dp)<|ai tt<|ai (rN dp)<|ai (rN dp)<|gI<|ba h fun r4 ek5 h=>have ek5:=cO hk_k0 (hR.f_run_Runner_one (dp+1) (boxes dp [(8,(af y2))] (ad hp k0 (aa v0_k0))) k0 (Nat.lt_succ_of_lt hk_k0) (a9 (aH hk_k0 (hz))) v0_k0 y2 v0_2 _ ek5);ai ek5<|ai (er ek5 (by kernel_rfl) (by kernel_rfl))<|ai (et ek5 (aH hk_k0 (hz)))<|aM h (fun h6 h=>FD (congrArg not h6)<|ai (rN dp)<|ai tt<|aB h (oQ y2.Then) fun r7 h=>ai tt<|aA h fun w9 h=>ai w9<|cD<|ai (rN dp)<|ai tt<|aB h (oQ y2.Else) fun r10 h=>ai tt<|aA h fun w12 h=>ai w12<|ai tt<|aA h fun w13 h=>ai w13<|aA h fun w14 h=>ai w14<|L h) (fun h6 h=>ai (congrArg not h6)<|L h)) (fun h1 h=>ai (decide_eq_false h1)<|L h)
def ku(a0:(List Stmt))(a1:Int):Option (Bool×Runner):=
 (lp (fun v=>jO R a0 v.1 v.2.1 v.2.2) (c0,a1,0)).bind fun (x1:(Runner⊕(Int×Nat×Bool×Runner)))=>match x1 with
 | .inl ya_2=>
  some (false,ya_2)
 | .inr yb_2=>
  some (true,yb_2.2.2.2)
theorem vN(hR:aU R)(dp:Nat)(hp:HP)(k0:Key)(hk_k0:k0.dp<dp)(hz:bm dp hp)(c0:Runner)(a0:(List Stmt))(a1:Int)(r:(Bool×Runner))(h:ku R c0 a0 a1=some r):o8 dp hp k0 c0 a0 a1 r:=
 aO G32 (ao (.i (a0.length:Int))<|.or (.ex fun (ya_2:Runner)=>ao (.lp .ret ⟨[(6,(.b false))],[],ad hp k0 (aa ya_2)⟩)<|.nil) (.ex fun (yb_2:(Int×Nat×Bool×Runner))=>ao (.lp (.ex 0) ⟨[(0,(.p k0 0)),(2,(I yb_2.1)),(9,(.l 65 (a0.map au))),(10,(I (a0.length:Int))),(11,(I (yb_2.2.1:Int))),(12,(.b yb_2.2.2.1))],[],ad hp k0 (aa yb_2.2.2.2)⟩)<|.nil)) fun L=>ai (ax au a0)<|bO h (cV (fun v=>wN R hR dp hp k0 hk_k0 hz a0 v.1 v.2.1 v.2.2) (c0,a1,0)) (fun ya_2 h=>L h) (fun yb_2 h=>L h)
end
section
variable (R:bJ)(c0:Runner)(a0:Stmt)(dp:Nat)(hp:HP)(k0:Key)(a1:Int)
def jP:Option (Bool×Runner):=
 (jM c0 a0).bind fun (r1:Runner)=>
 (dU a0.Other).bind fun (j3:Nat)=>
 (r1.p.Funcs[j3]?).bind fun (y5:Func)=>
 (r1.first[j3]?).bind fun (y7:Int)=>
 (R.f_run_Runner_all r1 y5.Body y7).bind fun (r9:(Bool×Runner))=>
 if r9.1=true then
  (jN r9.2 a0).bind fun (r12:Runner)=>
  some (true,r12)
 else
  some (false,r9.2)
theorem u4(hR:aU R)(dp:Nat)(hp:HP)(k0:Key)(hk_k0:k0.dp<dp)(hz:bm dp hp)(c0:Runner)(a0:Stmt)(r:(Bool×Runner))(h:jP R c0 a0=some r):rU dp hp k0 c0 a0 r:=
 aO G88 (bt<|.ex fun (r1:Runner)=>ao (.v (.tp []))<|ao (.h (boxes dp [(3,(af a0))] (ad hp k0 (aa r1))))<|ao (.bx [(3,(af a0))])<|ao (.h (ad hp k0 (aa r1)))<|bf<|ao (.l (aa r1))<|bt<|xN fun j3=>.ex fun (y5:Func)=>ao (.v (.a (bL y5)))<|bf<|ao (.l (aa r1))<|bt<|ao (.n j3)<|bf<|ao (.l (aa r1))<|xI fun y7=>bf<|ao (.l (aa r1))<|ao (.v (I y7))<|.ex fun (r9:(Bool×Runner))=>ao (.v (.b r9.1))<|ao (.h (boxes dp [(3,(af a0))] (ad hp k0 (aa r9.2))))<|ao (.bx [(3,(af a0))])<|ao (.h (ad hp k0 (aa r9.2)))<|.or (rT<|.ex fun (r12:Runner)=>ao (.v (.tp []))<|ao (.h (boxes dp [(3,(af a0))] (ad hp k0 (aa r12))))<|ao (.bx [(3,(af a0))])<|ao (.h (ad hp k0 (aa r12)))<|.nil) (bt<|.nil)) fun L=>ai ((by simp [af,AV.aQ,AV.aN,AV.deep,AV.b6,aG hk_k0,Nat.le_of_lt hk_k0]):(((.a (af a0)):AV).deep dp&&(([(0,(.p k0 0)),(1,(.a (af a0)))]:List (Nat×AV)).all (fun y=>y.2.aQ ⟨dp,3⟩)&&([]:List (Nat×List AV)).all (fun y=>AV.aN ⟨dp,3⟩ y.2)))=true)<|ai (rN dp)<|gI<|ba h fun r1 ek2 h=>have ek2:=cO hk_k0 (uZ (dp+1) (boxes dp [(3,(af a0))] (ad hp k0 (aa c0))) k0 (Nat.lt_succ_of_lt hk_k0) (a9 (aH hk_k0 (hz))) c0 a0 _ ek2);ai ek2<|ai (er ek2 (by kernel_rfl) (by kernel_rfl))<|ai (et ek2 (aH hk_k0 (hz)))<|ai tt<|ai tt<|ai tt<|ai tt<|ai tt<|ai tt<|ai (Nat.ne_of_lt hk_k0)<|ai (aq hp k0 (aa r1))<|cD<|ai (rN dp)<|ai tt<|fG h fun j3 h4 h=>ai h4<|ba h fun y5 h6 h=>ai (ay bc h6)<|ai tt<|ai tt<|ai tt<|ai tt<|ai tt<|ai tt<|ai (Nat.ne_of_lt hk_k0)<|ai (aq hp k0 (aa r1))<|cD<|ai (rN dp)<|ai tt<|ai h4<|ai (Nat.ne_of_lt hk_k0)<|ai (aq hp k0 (aa r1))<|ba h fun y7 h8 h=>ai (ay (I) h8)<|ai tt<|ai (Nat.ne_of_lt hk_k0)<|ai (aq hp k0 (aa r1))<|ai (ay (I) h8)<|ai tt<|ai ff<|ai tt<|ba h fun r9 ek10 h=>have ek10:=cO hk_k0 (hR.f_run_Runner_all (dp+1) (boxes dp [(3,(af a0))] (ad hp k0 (aa r1))) k0 (Nat.lt_succ_of_lt hk_k0) (a9 (aH hk_k0 (hz))) r1 y5.Body y7 _ ek10);ai ek10<|ai (er ek10 (by kernel_rfl) (by kernel_rfl))<|ai (et ek10 (aH hk_k0 (hz)))<|aM h (fun h11 h=>ai (congrArg not h11)<|ai (rN dp)<|gI<|ba h fun r12 ek13 h=>have ek13:=cO hk_k0 (u0 (dp+1) (boxes dp [(3,(af a0))] (ad hp k0 (aa r9.2))) k0 (Nat.lt_succ_of_lt hk_k0) (a9 (aH hk_k0 (hz))) r9.2 a0 _ ek13);ai ek13<|ai (er ek13 (by kernel_rfl) (by kernel_rfl))<|ai (et ek13 (aH hk_k0 (hz)))<|L h) (fun h11 h=>ai (congrArg not h11)<|L h)
def iC(v0_k0:Runner):Option (Runner⊕(Runner⊕(Bool×Runner))):=
 (hD v0_k0 a0.Expr).bind fun (r2:Bool)=>
 if r2=true then
  if IntKind.i64.wrap (a1+1)=a1+1 then
   (R.f_run_Runner_all v0_k0 a0.Then (a1+1)).bind fun (r6:(Bool×Runner))=>
   if r6.1=true then
    (g9 r6.2).bind fun (r9:(Bool×Runner))=>
    if r9.1=true then
     some (.inl r9.2)
    else
     some (.inr (.inl r9.2))
   else
    some (.inr (.inl r6.2))
  else none
 else
  some (.inr (.inr (r2,v0_k0)))
abbrev vO(a0:Stmt)(a1:Int)(v:Runner):St:=⟨[(0,(.p k0 0)),(2,(I a1)),(4,(.p ⟨dp,4⟩ 0))],[(4,(af a0))],ad hp k0 (aa v)⟩
abbrev vP(a0:Stmt)(a1:Int)(x:(Runner⊕(Bool×Runner))):aJ×St:=match x with | .inl z1=>(.ret,⟨[(6,(.b false))],[],ad hp k0 (aa z1)⟩) | .inr (z1,z2)=>((.ex 0),⟨[(0,(.p k0 0)),(2,(I a1)),(4,(.p ⟨dp,4⟩ 0)),(26,(.b z1))],[(4,(af a0))],ad hp k0 (aa z2)⟩)
theorem u5(hR:aU R)(dp:Nat)(hp:HP)(k0:Key)(hk_k0:k0.dp<dp)(hz:bm dp hp)(a0:Stmt)(a1:Int)(v0_k0:Runner)(o:Runner⊕(Runner⊕(Bool×Runner)))(h:iC R a0 a1 v0_k0=some o):bu ⟨dp,false⟩ Mj (vO dp hp k0 a0 a1) (vP dp hp k0 a0 a1) v0_k0 o:=
 bD (bt<|xB fun r2=>ao (.h (boxes dp [(4,(af a0))] (ad hp k0 (aa v0_k0))))<|.or (b5<|ao (.i (a1+1))<|.ex fun (r6:(Bool×Runner))=>ao (.v (.b r6.1))<|ao (.h (boxes dp [(4,(af a0))] (ad hp k0 (aa r6.2))))<|ao (.bx [(4,(af a0))])<|ao (.h (ad hp k0 (aa r6.2)))<|.or (b5<|.ex fun (r9:(Bool×Runner))=>ao (.v (.b r9.1))<|ao (.h (boxes dp [(4,(af a0))] (ad hp k0 (aa r9.2))))<|ao (.bx [(4,(af a0))])<|ao (.h (ad hp k0 (aa r9.2)))<|fF<|.or (bf<|.nil) (bt<|.nil)) (Ky<|.nil)) (bf<|.nil)) fun L=>ai (rN dp)<|ai tt<|ba h fun r2 ek3 h=>have ek3:call G Ω0 ⟨dp+1,true⟩ 105 [(.p k0 0),(.a (bn a0.Expr))] (boxes dp [(4,(af a0))] (ad hp k0 (aa v0_k0)))=some (.ret (.b r2),boxes dp [(4,(af a0))] (ad hp k0 (aa v0_k0))):=ey (bZ (hp1:=ad hp k0 (aa v0_k0)) (Nat.ne_of_lt hk_k0) (aV ..)) (bZ (hp1:=ad hp k0 (aa v0_k0)) (Nat.ne_of_lt hk_k0) (aV ..)) (pK (dp+1) (boxes dp [(4,(af a0))] (ad hp k0 (aa v0_k0))) k0 (Nat.lt_succ_of_lt hk_k0) (a9 (aH hk_k0 (hz))) v0_k0 a0.Expr _ ek3);ai ek3<|aM h (fun h4 h=>ai h4<|ai (rN dp)<|aA h fun w5 h=>ai w5<|gI<|ba h fun r6 ek7 h=>have ek7:=cO hk_k0 (hR.f_run_Runner_all (dp+1) (boxes dp [(4,(af a0))] (ad hp k0 (aa v0_k0))) k0 (Nat.lt_succ_of_lt hk_k0) (a9 (aH hk_k0 (hz))) v0_k0 a0.Then (a1+1) _ ek7);ai ek7<|ai (er ek7 (by kernel_rfl) (by kernel_rfl))<|ai (et ek7 (aH hk_k0 (hz)))<|aM h (fun h8 h=>AF (congrArg not h8)<|ba h fun r9 ek10 h=>have ek10:=cO hk_k0 (pJ (dp+1) (boxes dp [(4,(af a0))] (ad hp k0 (aa r6.2))) k0 (Nat.lt_succ_of_lt hk_k0) (a9 (aH hk_k0 (hz))) r6.2 _ ek10);ai ek10<|ai (er ek10 (by kernel_rfl) (by kernel_rfl))<|ai (et ek10 (aH hk_k0 (hz)))<|nX (congrArg not h8)<|aM h (fun h11 h=>ai (congrArg not h11)<|L h) (fun h11 h=>ai (congrArg not h11)<|L h)) (fun h8 h=>ai (g0 (congrArg not h8))<|ai (g0 (congrArg not h8))<|ai (g0 (congrArg not h8))<|ai (congrArg not h8)<|ai tt<|L h)) (fun h4 h=>ai h4<|L h)
def jo:Option (Bool×Runner):=
 if (a0.Kind==7)=true then
  (oi c0 a0 a1).bind fun (r2:((List Stmt)×Int))=>
  (R.f_run_Runner_all c0 r2.1 r2.2).bind fun (r4:(Bool×Runner))=>
  some (r4.1,r4.2)
 else
  (lp (fun v=>iC R a0 a1 v) c0).bind fun (x2:(Runner⊕(Bool×Runner)))=>match x2 with
  | .inl ya_3=>
   some (false,ya_3)
  | .inr yb_3=>
   some (true,yb_3.2)
theorem ux(hR:aU R)(dp:Nat)(hp:HP)(k0:Key)(hk_k0:k0.dp<dp)(hz:bm dp hp)(c0:Runner)(a0:Stmt)(a1:Int)(r:(Bool×Runner))(h:jo R c0 a0 a1=some r):rb dp hp k0 c0 a0 a1 r:=
 aO G89 (bt<|.or (b5<|.ex fun (r2:((List Stmt)×Int))=>ao (.v (.tp [(.l 65 (r2.1.map au)),(I r2.2)]))<|ao (.h (boxes dp [(4,(af a0))] (ad hp k0 (aa c0))))<|.ex fun (r4:(Bool×Runner))=>ao (.v (.b r4.1))<|ao (.h (boxes dp [] (ad hp k0 (aa r4.2))))<|ao (.bx [])<|ao (.h (ad hp k0 (aa r4.2)))<|.nil) (bf<|.or (.ex fun (ya_3:Runner)=>ao (.lp .ret ⟨[(6,(.b false))],[],ad hp k0 (aa ya_3)⟩)<|.nil) (.ex fun (yb_3:(Bool×Runner))=>ao (.lp (.ex 0) ⟨[(0,(.p k0 0)),(2,(I a1)),(4,(.p ⟨dp,4⟩ 0)),(26,(.b yb_3.1))],[(4,(af a0))],ad hp k0 (aa yb_3.2)⟩)<|.nil))) fun L=>ai ((by simp [af,AV.aQ,AV.aN,AV.deep,AV.b6,aG hk_k0,Nat.le_of_lt hk_k0]):(((.a (af a0)):AV).deep dp&&(([(0,(.p k0 0)),(1,(.a (af a0))),(2,(I a1))]:List (Nat×AV)).all (fun y=>y.2.aQ ⟨dp,4⟩)&&([]:List (Nat×List AV)).all (fun y=>AV.aN ⟨dp,4⟩ y.2)))=true)<|ai (rN dp)<|aM h (fun h1 h=>ai h1<|ai (rN dp)<|ai tt<|ba h fun r2 ek3 h=>have ek3:call G Ω0 ⟨dp+1,true⟩ 104 [(.p k0 0),(.a (af a0)),(I a1)] (boxes dp [(4,(af a0))] (ad hp k0 (aa c0)))=some (.ret (.tp [(.l 65 (r2.1.map au)),(I r2.2)]),boxes dp [(4,(af a0))] (ad hp k0 (aa c0))):=ey (bZ (hp1:=ad hp k0 (aa c0)) (Nat.ne_of_lt hk_k0) (aV ..)) (bZ (hp1:=ad hp k0 (aa c0)) (Nat.ne_of_lt hk_k0) (aV ..)) (vM (dp+1) (boxes dp [(4,(af a0))] (ad hp k0 (aa c0))) k0 (Nat.lt_succ_of_lt hk_k0) (a9 (aH hk_k0 (hz))) c0 a0 a1 _ ek3);ai ek3<|gI<|ba h fun r4 ek5 h=>have ek5:=cO hk_k0 (hR.f_run_Runner_all (dp+1) (boxes dp [] (ad hp k0 (aa c0))) k0 (Nat.lt_succ_of_lt hk_k0) (a9 (aH hk_k0 (hz))) c0 r2.1 r2.2 _ ek5);ai ek5<|ai (er ek5 (by kernel_rfl) (by kernel_rfl))<|ai (et ek5 (aH hk_k0 (hz)))<|L h) (fun h1 h=>ai h1<|bO h (cV (u5 R hR dp hp k0 hk_k0 hz a0 a1) c0) (fun ya_3 h=>L h) (fun yb_3 h=>L h))
def kv:Option (Bool×Runner):=
 (g9 c0).bind fun (r1:(Bool×Runner))=>
 if r1.1=true then
  if (a0.Kind==2)=true then
   (R.f_run_Runner_call r1.2 a0).bind fun (r5:(Bool×Runner))=>
   some (r5.1,r5.2)
  else
   if 7≤a0.Kind then
    (R.f_run_Runner_inner r1.2 a0 a1).bind fun (r6:(Bool×Runner))=>
    some (r6.1,r6.2)
   else
    (l3 r1.2 a0 a1).bind fun (r6:Runner)=>
    some (true,r6)
 else
  some (false,r1.2)
theorem vQ(hR:aU R)(dp:Nat)(hp:HP)(k0:Key)(hk_k0:k0.dp<dp)(hz:bm dp hp)(c0:Runner)(a0:Stmt)(a1:Int)(r:(Bool×Runner))(h:kv R c0 a0 a1=some r):sZ dp hp k0 c0 a0 a1 r:=
 aO G59 (.ex fun (r1:(Bool×Runner))=>ao (.v (.b r1.1))<|ao (.h (boxes dp [(4,(af a0))] (ad hp k0 (aa r1.2))))<|ao (.bx [(4,(af a0))])<|ao (.h (ad hp k0 (aa r1.2)))<|.or (rT<|.or (b5<|.ex fun (r5:(Bool×Runner))=>ao (.v (.b r5.1))<|ao (.h (boxes dp [(4,(af a0))] (ad hp k0 (aa r5.2))))<|ao (.bx [(4,(af a0))])<|ao (.h (ad hp k0 (aa r5.2)))<|.nil) (rT<|.or (b5<|.ex fun (r6:(Bool×Runner))=>ao (.v (.b r6.1))<|ao (.h (boxes dp [(4,(af a0))] (ad hp k0 (aa r6.2))))<|ao (.bx [(4,(af a0))])<|ao (.h (ad hp k0 (aa r6.2)))<|.nil) (rT<|.ex fun (r6:Runner)=>ao (.v (.tp []))<|ao (.h (boxes dp [(4,(af a0))] (ad hp k0 (aa r6))))<|ao (.bx [(4,(af a0))])<|ao (.h (ad hp k0 (aa r6)))<|.nil))) (bt<|.nil)) fun L=>ai ((by simp [af,AV.aQ,AV.aN,AV.deep,AV.b6,aG hk_k0,Nat.le_of_lt hk_k0]):(((.a (af a0)):AV).deep dp&&(([(0,(.p k0 0)),(1,(.a (af a0))),(2,(I a1))]:List (Nat×AV)).all (fun y=>y.2.aQ ⟨dp,4⟩)&&([]:List (Nat×List AV)).all (fun y=>AV.aN ⟨dp,4⟩ y.2)))=true)<|gI<|ba h fun r1 ek2 h=>have ek2:=cO hk_k0 (pJ (dp+1) (boxes dp [(4,(af a0))] (ad hp k0 (aa c0))) k0 (Nat.lt_succ_of_lt hk_k0) (a9 (aH hk_k0 (hz))) c0 _ ek2);ai ek2<|ai (er ek2 (by kernel_rfl) (by kernel_rfl))<|ai (et ek2 (aH hk_k0 (hz)))<|aM h (fun h3 h=>ai (congrArg not h3)<|ai (rN dp)<|aM h (fun h4 h=>ai h4<|ai (rN dp)<|gI<|ba h fun r5 ek6 h=>have ek6:=cO hk_k0 (hR.f_run_Runner_call (dp+1) (boxes dp [(4,(af a0))] (ad hp k0 (aa r1.2))) k0 (Nat.lt_succ_of_lt hk_k0) (a9 (aH hk_k0 (hz))) r1.2 a0 _ ek6);ai ek6<|ai (er ek6 (by kernel_rfl) (by kernel_rfl))<|ai (et ek6 (aH hk_k0 (hz)))<|L h) (fun h4 h=>ai h4<|ai (rN dp)<|bB h (fun h5 h=>ai (decide_eq_true h5)<|ai (rN dp)<|gI<|ba h fun r6 ek7 h=>have ek7:=cO hk_k0 (hR.f_run_Runner_inner (dp+1) (boxes dp [(4,(af a0))] (ad hp k0 (aa r1.2))) k0 (Nat.lt_succ_of_lt hk_k0) (a9 (aH hk_k0 (hz))) r1.2 a0 a1 _ ek7);ai ek7<|ai (er ek7 (by kernel_rfl) (by kernel_rfl))<|ai (et ek7 (aH hk_k0 (hz)))<|L h) (fun h5 h=>ai (decide_eq_false h5)<|ai (rN dp)<|gI<|ba h fun r6 ek7 h=>have ek7:=cO hk_k0 (xW (dp+1) (boxes dp [(4,(af a0))] (ad hp k0 (aa r1.2))) k0 (Nat.lt_succ_of_lt hk_k0) (a9 (aH hk_k0 (hz))) r1.2 a0 a1 _ ek7);ai ek7<|ai (er ek7 (by kernel_rfl) (by kernel_rfl))<|ai (et ek7 (aH hk_k0 (hz)))<|L h))) (fun h3 h=>ai (congrArg not h3)<|L h)
def aW:Nat→bJ
 | 0=>⟨fun z0 z1 z2=>none,fun z0 z1=>none,fun z0 z1 z2=>none,fun z0 z1 z2=>none⟩
 | n+1=>⟨ku (aW n),jP (aW n),jo (aW n),kv (aW n)⟩
theorem bC:∀ n,aU (aW n)
 | 0=>⟨fun _ _ _ _ _ _ _ _ r h=>(by cases h),fun _ _ _ _ _ _ _ r h=>(by cases h),fun _ _ _ _ _ _ _ _ r h=>(by cases h),fun _ _ _ _ _ _ _ _ r h=>(by cases h)⟩
 | n+1=>⟨fun dp hp k0 hk_k0 hz c0 a0 a1 r h=>vN _ (bC n) dp hp k0 hk_k0 hz c0 a0 a1 r h,fun dp hp k0 hk_k0 hz c0 a0 r h=>u4 _ (bC n) dp hp k0 hk_k0 hz c0 a0 r h,fun dp hp k0 hk_k0 hz c0 a0 a1 r h=>ux _ (bC n) dp hp k0 hk_k0 hz c0 a0 a1 r h,fun dp hp k0 hk_k0 hz c0 a0 a1 r h=>vQ _ (bC n) dp hp k0 hk_k0 hz c0 a0 a1 r h⟩
end
section
variable (c0:Runner)(a0:(List Stmt))(a1:Int)(dp:Nat)(hp:HP)(k0:Key)
def lh:Option (Bool×Runner):=ev fun n=>(aW n).f_run_Runner_all c0 a0 a1
theorem wO(hk_k0:k0.dp<dp)(hz:bm dp hp)(c0:Runner)(a0:(List Stmt))(a1:Int)(r:(Bool×Runner))(h:lh c0 a0 a1=some r):o8 dp hp k0 c0 a0 a1 r:=by
 obtain ⟨n,hn⟩:=iO h
 exact (bC n).f_run_Runner_all dp hp k0 hk_k0 hz c0 a0 a1 r hn
def jQ(r3:(Bool×Runner))(w0_1:Int):Option (Int×Int):=
 some (w0_1,w0_1)
abbrev ya(r3:(Bool×Runner))(w0_1:Int)(x:(Int×Int)):aJ×St:=(.ret,⟨[(2,(.p ⟨dp,2⟩ 0))],[(2,((fp r3.2.aE).set 4 (I x.1)))],ad hp k0 ((eX r3.2).set 15 (I x.2))⟩)
theorem qb(hk_k0:k0.dp<dp)(hz:bm dp hp)(r3:(Bool×Runner))(w0_1:Int)(x:(Int×Int))(h:jQ r3 w0_1=some x):run G Ω0 ⟨dp,false⟩ Ln ⟨[(0,(.p k0 0)),(2,(.p ⟨dp,2⟩ 0))],[(2,[(.l 73 (([]:List Event).map aw)),(.l 3 (([]:List Int).map (I))),(.l 3 (([]:List Int).map (I))),(I 0),(I 0),(I 0)])],ad hp k0 ((aa r3.2).set 15 (I w0_1))⟩=some (ya dp hp k0 r3 w0_1 x):=
 ga (bf<|ao (.l ((aa r3.2).set 15 (I w0_1)))<|bf<|ao (.h (ad hp k0 ((cG r3.2).set 15 (I w0_1))))<|bf<|ao (.l ((cG r3.2).set 15 (I w0_1)))<|bf<|ao (.h (ad hp k0 ((lz r3.2).set 15 (I w0_1))))<|bf<|ao (.l ((lz r3.2).set 15 (I w0_1)))<|bf<|ao (.h (ad hp k0 ((eX r3.2).set 15 (I w0_1))))<|bf<|ao (.l ((eX r3.2).set 15 (I w0_1)))<|b5<|.nil) fun L=>ai ff<|ai (Nat.ne_of_lt hk_k0)<|ai (aq hp k0 ((aa r3.2).set 15 (I w0_1)))<|ai (Nat.ne_of_lt hk_k0)<|ai (aV hp k0 ((aa r3.2).set 15 (I w0_1)) ((cG r3.2).set 15 (I w0_1)))<|ai ff<|ai (Nat.ne_of_lt hk_k0)<|ai (aq hp k0 ((cG r3.2).set 15 (I w0_1)))<|ai (Nat.ne_of_lt hk_k0)<|ai (aV hp k0 ((cG r3.2).set 15 (I w0_1)) ((lz r3.2).set 15 (I w0_1)))<|ai ff<|ai (Nat.ne_of_lt hk_k0)<|ai (aq hp k0 ((lz r3.2).set 15 (I w0_1)))<|ai (Nat.ne_of_lt hk_k0)<|ai (aV hp k0 ((lz r3.2).set 15 (I w0_1)) ((eX r3.2).set 15 (I w0_1)))<|ai (Nat.ne_of_lt hk_k0)<|ai (aq hp k0 ((eX r3.2).set 15 (I w0_1)))<|ai ff<|ai (rN dp)<|ai tt<|ai (rN dp)<|L h
abbrev Cv(dp:Nat)(hp:HP)(k0:Key)(c0:Runner)(r:(RunT×Runner)):bh×HP:=(.ret (.a (fp r.1)),ad hp k0 (eX r.2))
def pL:Option (RunT×Runner):=
 (c0.first[c0.p.Funcs.length]?).bind fun (y1:Int)=>
 (lh c0 c0.p.Main y1).bind fun (r3:(Bool×Runner))=>
 if r3.1=true then
  (jQ r3 1).bind fun (x6:(Int×Int))=>
  some ((⟨r3.2.aE.Events,r3.2.aE.Vars,r3.2.aE.Taken,r3.2.aE.Steps,x6.1,r3.2.aE.Stop⟩:RunT),(⟨r3.2.p,r3.2.ins,r3.2.fuel,r3.2.first,(⟨r3.2.aE.Events,r3.2.aE.Vars,r3.2.aE.Taken,r3.2.aE.Steps,x6.2,r3.2.aE.Stop⟩:RunT)⟩:Runner))
 else
  (jQ r3 r3.2.aE.End).bind fun (x6:(Int×Int))=>
  some ((⟨r3.2.aE.Events,r3.2.aE.Vars,r3.2.aE.Taken,r3.2.aE.Steps,x6.1,r3.2.aE.Stop⟩:RunT),(⟨r3.2.p,r3.2.ins,r3.2.fuel,r3.2.first,(⟨r3.2.aE.Events,r3.2.aE.Vars,r3.2.aE.Taken,r3.2.aE.Steps,x6.2,r3.2.aE.Stop⟩:RunT)⟩:Runner))
theorem yb(hk_k0:k0.dp<dp)(hz:bm dp hp)(c0:Runner)(r:(RunT×Runner))(h:pL c0=some r):call G Ω0 ⟨dp,false⟩ 11 [(.p k0 0)] (ad hp k0 (aa c0))=some (Cv dp hp k0 c0 r):=
 aO G11 (bf<|ao (.l (aa c0))<|bf<|ao (.l (aa c0))<|bf<|ao (.l (aa c0))<|ao (.i (c0.p.Funcs.length:Int))<|ao (.n c0.p.Funcs.length)<|bf<|ao (.l (aa c0))<|xI fun y1=>bf<|ao (.l (aa c0))<|ao (.v (I y1))<|.ex fun (r3:(Bool×Runner))=>ao (.v (.b r3.1))<|ao (.h (boxes dp [(2,[(.l 73 (([]:List Event).map aw)),(.l 3 (([]:List Int).map (I))),(.l 3 (([]:List Int).map (I))),(I 0),(I 0),(I 0)])] (ad hp k0 (aa r3.2))))<|ao (.bx [(2,[(.l 73 (([]:List Event).map aw)),(.l 3 (([]:List Int).map (I))),(.l 3 (([]:List Int).map (I))),(I 0),(I 0),(I 0)])])<|ao (.h (ad hp k0 (aa r3.2)))<|.or (fF<|ao (.l (aa r3.2))<|bf<|ao (.h (ad hp k0 ((aa r3.2).set 15 (I 1))))<|.fb<|.ex fun (x6:(Int×Int))=>ao (.fr .ret ⟨[(2,(.p ⟨dp,2⟩ 0))],[(2,((fp r3.2.aE).set 4 (I x6.1)))],ad hp k0 ((eX r3.2).set 15 (I x6.2))⟩)<|.nil) (bf<|.fb<|.ex fun (x6:(Int×Int))=>ao (.fr .ret ⟨[(2,(.p ⟨dp,2⟩ 0))],[(2,((fp r3.2.aE).set 4 (I x6.1)))],ad hp k0 ((eX r3.2).set 15 (I x6.2))⟩)<|.nil)) fun L=>ai ((by simp [AV.aQ,AV.aN,AV.deep,AV.b6,aG hk_k0,Nat.le_of_lt hk_k0]):(([(0,(.p k0 0))]:List (Nat×AV)).all (fun y=>y.2.aQ ⟨dp,2⟩)&&([]:List (Nat×List AV)).all (fun y=>AV.aN ⟨dp,2⟩ y.2))=true)<|ai tt<|ai tt<|ai tt<|ai tt<|ai tt<|ai tt<|ai (Nat.ne_of_lt hk_k0)<|ai (aq hp k0 (aa c0))<|pD<|ai (Nat.ne_of_lt hk_k0)<|ai (aq hp k0 (aa c0))<|lK<|ai (Nat.ne_of_lt hk_k0)<|ai (aq hp k0 (aa c0))<|ai tt<|ai (ax bc c0.p.Funcs)<|ai tt<|ai (rfl:(c0.p.Funcs.length:Int)=(c0.p.Funcs.length:Int))<|ai (Nat.ne_of_lt hk_k0)<|ai (aq hp k0 (aa c0))<|ba h fun y1 h2 h=>ai (ay (I) h2)<|ai tt<|ai (Nat.ne_of_lt hk_k0)<|ai (aq hp k0 (aa c0))<|ai (ay (I) h2)<|ai tt<|ai ff<|ai tt<|ba h fun r3 ek4 h=>have ek4:=cO hk_k0 (wO (dp+1) (boxes dp [(2,[(.l 73 (([]:List Event).map aw)),(.l 3 (([]:List Int).map (I))),(.l 3 (([]:List Int).map (I))),(I 0),(I 0),(I 0)])] (ad hp k0 (aa c0))) k0 (Nat.lt_succ_of_lt hk_k0) (a9 (aH hk_k0 (hz))) c0 c0.p.Main y1 _ ek4);ai ek4<|ai (er ek4 (by kernel_rfl) (by kernel_rfl))<|ai (et ek4 (aH hk_k0 (hz)))<|aM h (fun h5 h=>ai h5<|ai ff<|ai (Nat.ne_of_lt hk_k0)<|ai (aq hp k0 (aa r3.2))<|ai tt<|ai (Nat.ne_of_lt hk_k0)<|ai (aV hp k0 (aa r3.2) ((aa r3.2).set 15 (I 1)))<|aB h (qb dp hp k0 hk_k0 hz r3 1) fun x6 h=>ai (rN dp)<|L h) (fun h5 h=>ai h5<|aB h (qb dp hp k0 hk_k0 hz r3 r3.2.aE.End) fun x6 h=>ai (rN dp)<|L h)
end
section
variable (a0:Program)(a1:(List (List Int)))(a2:Int)
abbrev JA(a0:Program)(a1:(List (List Int)))(a2:Int)(r:(RunT×Int)):bh×HP:=(.ret (.tp [(.a (fp r.1)),(I r.2)]),H0)
def re:Option (RunT×Int):=
 (qK a0 a1 a2).bind fun (r1:Int)=>
 if (r1 !=0)=true then
  some ((⟨([]:List Event),([]:List Int),([]:List Int),0,0,0⟩:RunT),r1)
 else
  (tV a0 a1 a2).bind fun (r4:Runner)=>
  (pL r4).bind fun (r6:(RunT×Runner))=>
  some (r6.1,0)
theorem FW(r:(RunT×Int))(h:re a0 a1 a2=some r):call G Ω0 E0 4 [(.a (ah a0)),(.l 25 (a1.map (bM 3 (I)))),(I a2)] H0=some (JA a0 a1 a2 r):=
 aO G4 (bt<|xI fun r1=>.or (cR<|.nil) (rT<|.ex fun (r4:Runner)=>ao (.l (aa r4))<|ao (.h (boxes 0 [(3,(ah a0)),(6,[(.l 73 (([]:List Event).map aw)),(.l 3 (([]:List Int).map (I))),(.l 3 (([]:List Int).map (I))),(I 0),(I 0),(I 0)])] H0))<|ao (.bx [(3,(ah a0)),(6,[(.l 73 (([]:List Event).map aw)),(.l 3 (([]:List Int).map (I))),(.l 3 (([]:List Int).map (I))),(I 0),(I 0),(I 0)])])<|ao (.h (H0))<|.ex fun (r6:(RunT×Runner))=>ao (.v (.a (fp r6.1)))<|ao (.h (boxes 0 [(20,(eX r6.2)),(3,(ah a0)),(6,[(.l 73 (([]:List Event).map aw)),(.l 3 (([]:List Int).map (I))),(.l 3 (([]:List Int).map (I))),(I 0),(I 0),(I 0)])] H0))<|ao (.bx [(20,(eX r6.2)),(3,(ah a0)),(6,[(.l 73 (([]:List Event).map aw)),(.l 3 (([]:List Int).map (I))),(.l 3 (([]:List Int).map (I))),(I 0),(I 0),(I 0)])])<|ao (.h (H0))<|b5<|.nil)) fun L=>ai tt<|ai tt<|ai (rfl:Z0)<|aB h (DO a0 a1 a2) fun r1 h=>aM h (fun h3 h=>ai h3<|ai ff<|ai (rfl:Z0)<|ai tt<|ai (rfl:Z0)<|ai (rfl:Z0)<|L h) (fun h3 h=>ai h3<|ai (rfl:Z0)<|ai ff<|ai tt<|ba h fun r4 ek5 h=>have ek5:call G Ω0 ⟨0+1,false⟩ 10 [(.a (ah a0)),(.l 25 (a1.map (bM 3 (I)))),(I a2)] (boxes 0 [(3,(ah a0)),(6,[(.l 73 (([]:List Event).map aw)),(.l 3 (([]:List Int).map (I))),(.l 3 (([]:List Int).map (I))),(I 0),(I 0),(I 0)])] H0)=some (.new (aa r4),boxes 0 [(3,(ah a0)),(6,[(.l 73 (([]:List Event).map aw)),(.l 3 (([]:List Int).map (I))),(.l 3 (([]:List Int).map (I))),(I 0),(I 0),(I 0)])] H0):=FV (0+1) (boxes 0 [(3,(ah a0)),(6,[(.l 73 (([]:List Event).map aw)),(.l 3 (([]:List Int).map (I))),(.l 3 (([]:List Int).map (I))),(I 0),(I 0),(I 0)])] H0) (a9 (dw 0)) a0 a1 a2 _ ek5;ai ek5<|ai (er ek5 (by kernel_rfl) (by kernel_rfl))<|ai (et ek5 (dw 0))<|ai tt<|ai ff<|ai tt<|ba h fun r6 ek7 h=>have ek7:call G Ω0 ⟨0+1,false⟩ 11 [(.p ⟨0,20⟩ 0)] (boxes 0 [(20,(aa r4)),(3,(ah a0)),(6,[(.l 73 (([]:List Event).map aw)),(.l 3 (([]:List Int).map (I))),(.l 3 (([]:List Int).map (I))),(I 0),(I 0),(I 0)])] H0)=some (.ret (.a (fp r6.1)),boxes 0 [(20,(eX r6.2)),(3,(ah a0)),(6,[(.l 73 (([]:List Event).map aw)),(.l 3 (([]:List Int).map (I))),(.l 3 (([]:List Int).map (I))),(I 0),(I 0),(I 0)])] H0):=ey (cY (bx1:=[(20,(aa r4)),(3,(ah a0)),(6,[(.l 73 (([]:List Event).map aw)),(.l 3 (([]:List Int).map (I))),(.l 3 (([]:List Int).map (I))),(I 0),(I 0),(I 0)])]) (by kernel_rfl) (by kernel_rfl)) (cY (bx1:=[(20,(eX r6.2)),(3,(ah a0)),(6,[(.l 73 (([]:List Event).map aw)),(.l 3 (([]:List Int).map (I))),(.l 3 (([]:List Int).map (I))),(I 0),(I 0),(I 0)])]) (by kernel_rfl) (by kernel_rfl)) (yb (0+1) (boxes 0 [(20,(aa r4)),(3,(ah a0)),(6,[(.l 73 (([]:List Event).map aw)),(.l 3 (([]:List Int).map (I))),(.l 3 (([]:List Int).map (I))),(I 0),(I 0),(I 0)])] H0) ⟨0,20⟩ (Nat.lt_succ_self 0) (a9 (dw 0)) r4 _ ek7);ai ek7<|ai (er ek7 (by kernel_rfl) (by kernel_rfl))<|ai (et ek7 (dw 0))<|ai ff<|ai (rfl:Z0)<|ai tt<|ai (rfl:Z0)<|ai (rfl:Z0)<|L h)
end
end
end Go.Proofs.YtndeklbmglgonaaGreat.A
