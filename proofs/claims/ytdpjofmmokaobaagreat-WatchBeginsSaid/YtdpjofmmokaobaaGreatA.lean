/- Functions of the program as plain functions, by program. -/
import Derived.Test.YtdpjofmmokaobaaGreatAP1
set_option maxRecDepth 100000
set_option linter.unusedSectionVars false
set_option linter.unusedVariables false
set_option linter.unusedSimpArgs false
namespace Go.Proofs.YtdpjofmmokaobaaGreat.A
open Go
noncomputable section
variable [Lp]
section
variable (dp:Nat)(hp:HP)(k0:Key)(c0:Runner)(a0:Stmt)
abbrev zf(dp:Nat)(hp:HP)(k0:Key)(c0:Runner)(a0:Stmt)(r:Runner):aW×HP:=(.ret (.tp []),ad hp k0 (aa r))
def gP:Option Runner:=
 (cX a0.Other).bind fun (j1:Nat)=>
 (c0.p.Funcs[j1]?).bind fun (y3:Func)=>
 (k9 y3.Result c0.aA.Vars).bind fun (r5:Int)=>
 (cX a0.Var).bind fun (j7:Nat)=>
 (c0.aA.Vars[j7]?).bind fun (y9:Int)=>
 some (⟨c0.p,c0.ins,c0.fuel,c0.first,(⟨c0.aA.Events,c0.aA.Vars.set j7 r5,c0.aA.Taken,c0.aA.Steps,c0.aA.End,c0.aA.Stop⟩:RunT)⟩:Runner)
theorem qn(hk_k0:k0.dp<dp)(hz:aN dp hp)(c0:Runner)(a0:Stmt)(r:Runner)(h:gP c0 a0=some r):call G Ω0 ⟨dp,false⟩ 145 [(.p k0 0),(.a (af a0))] (ad hp k0 (aa c0))=some (zf dp hp k0 c0 a0 r):=
 aK ZJ (bf<|ao (.l (aa c0))<|kD<|ao (.l (aa c0))<|bt<|xN fun j1=>.ex fun (y3:Func)=>ao (.v (.a (cD y3)))<|bf<|ao (.l (aa c0))<|bf<|ao (.l (aa c0))<|xI fun r5=>xN fun j7=>bf<|ao (.l (aa c0))<|xI fun y9=>bf<|ao (.l (aa c0))<|ao (.v (I y9))<|ao (.l ((c0.aA.Vars.set j7 r5).map (I)))<|bf<|ao (.l (aa c0))<|bf<|ao (.h (ad hp k0 ((bA c0).set 12 (.o 3 ((c0.aA.Vars.set j7 r5).map (I))))))<|.nil) fun L=>ai ((by simp [af,AV.aI,AV.aJ,AV.deep,AV.bn,aj hk_k0,Nat.le_of_lt hk_k0]):(((.a (af a0)):AV).deep dp&&(([(0,(.p k0 0)),(1,(.a (af a0)))]:List (Nat×AV)).all (fun y=>y.2.aI ⟨dp,3⟩)&&([]:List (Nat×List AV)).all (fun y=>AV.aJ ⟨dp,3⟩ y.2)))=true)<|oT<|ai (Nat.ne_of_lt hk_k0)<|ai (aG hp k0 (aa c0))<|cF<|ai (rN dp)<|oT<|ai (Nat.ne_of_lt hk_k0)<|ai (aG hp k0 (aa c0))<|cF<|ai (rN dp)<|ai tt<|eN h fun j1 h2 h=>ai h2<|aP h fun y3 h4 h=>ai (aD ba h4)<|ai tt<|ai tt<|ai tt<|ai tt<|ai tt<|ai tt<|ai tt<|ai (Nat.ne_of_lt hk_k0)<|ai (aG hp k0 (aa c0))<|ai tt<|ai (Nat.ne_of_lt hk_k0)<|ai (aG hp k0 (aa c0))<|aQ h (oc y3.Result c0.aA.Vars) fun r5 h=>sf<|eN h fun j7 h8 h=>ai h8<|ai (Nat.ne_of_lt hk_k0)<|ai (aG hp k0 (aa c0))<|aP h fun y9 h10 h=>ai (aD (I) h10)<|ai ff<|ai (Nat.ne_of_lt hk_k0)<|ai (aG hp k0 (aa c0))<|ai (aD (I) h10)<|ai (map_set .. : (c0.aA.Vars.map (I)).set j7 (I r5)=(c0.aA.Vars.set j7 r5).map (I))<|ai (Nat.ne_of_lt hk_k0)<|ai (aG hp k0 (aa c0))<|ai (Nat.ne_of_lt hk_k0)<|ai (bh hp k0 (aa c0) ((bA c0).set 12 (.o 3 ((c0.aA.Vars.set j7 r5).map (I)))))<|L h
end
section
variable (dp:Nat)(hp:HP)(k0:Key)(c0:Runner)(a0:aE)
abbrev AG(dp:Nat)(hp:HP)(k0:Key)(c0:Runner)(a0:aE)(r:Bool):aW×HP:=(.ret (.b r),ad hp k0 (aa c0))
def fN:Option Bool:=
 (k9 a0 c0.aA.Vars).bind fun (r1:Int)=>
 some (r1 !=0)
theorem mg(hk_k0:k0.dp<dp)(hz:aN dp hp)(c0:Runner)(a0:aE)(r:Bool)(h:fN c0 a0=some r):call G Ω0 ⟨dp,true⟩ 148 [(.p k0 0),(.a (bF a0))] (ad hp k0 (aa c0))=some (AG dp hp k0 c0 a0 r):=
 aK ZM (kD<|ao (.l (aa c0))<|bf<|ao (.l (aa c0))<|xI fun r1=>.nil) fun L=>ai ((by simp [bF,AV.aI,AV.aJ,AV.deep,AV.bn,aj hk_k0,Nat.le_of_lt hk_k0]):(((.a (bF a0)):AV).deep dp&&(([(0,(.p k0 0)),(1,(.a (bF a0)))]:List (Nat×AV)).all (fun y=>y.2.aI ⟨dp,3⟩)&&([]:List (Nat×List AV)).all (fun y=>AV.aJ ⟨dp,3⟩ y.2)))=true)<|ai tt<|ai (rN dp)<|oT<|ai (Nat.ne_of_lt hk_k0)<|ai (aG hp k0 (aa c0))<|ai tt<|ai (Nat.ne_of_lt hk_k0)<|ai (aG hp k0 (aa c0))<|aQ h (oc a0 c0.aA.Vars) fun r1 h=>cF<|L h
end
section
variable (dp:Nat)(hp:HP)(k0:Key)(c0:Runner)(a0:Stmt)(a1:Int)
abbrev AH(dp:Nat)(hp:HP)(k0:Key)(c0:Runner)(a0:Stmt)(a1:Int)(r:((List Stmt)×Int)):aW×HP:=(.ret (.tp [(.l 88 (r.1.map aH)),(I r.2)]),ad hp k0 (aa c0))
def iM:Option ((List Stmt)×Int):=
 (fN c0 a0.Expr).bind fun (r1:Bool)=>
 if r1=true then
  if IntKind.i64.wrap (a1+1)=a1+1 then
   some (a0.Then,(a1+1))
  else none
 else
  if IntKind.i64.wrap (a1+1)=a1+1 then
   (je a0.Then).bind fun (r5:Int)=>
   if IntKind.i64.wrap ((a1+1)+r5)=(a1+1)+r5 then
    some (a0.Else,((a1+1)+r5))
   else none
  else none
theorem qK(hk_k0:k0.dp<dp)(hz:aN dp hp)(c0:Runner)(a0:Stmt)(a1:Int)(r:((List Stmt)×Int))(h:iM c0 a0 a1=some r):call G Ω0 ⟨dp,true⟩ 147 [(.p k0 0),(.a (af a0)),(I a1)] (ad hp k0 (aa c0))=some (AH dp hp k0 c0 a0 a1 r):=
 aK ZL (bt<|xB fun r1=>ao (.h (boxes dp [(4,(af a0))] (ad hp k0 (aa c0))))<|.or (du<|ao (.i (a1+1))<|.nil) (sg<|ao (.i (a1+1))<|bt<|xI fun r5=>ao (.i ((a1+1)+r5))<|.nil)) fun L=>ai ((by simp [af,AV.aI,AV.aJ,AV.deep,AV.bn,aj hk_k0,Nat.le_of_lt hk_k0]):(((.a (af a0)):AV).deep dp&&(([(0,(.p k0 0)),(1,(.a (af a0))),(2,(I a1))]:List (Nat×AV)).all (fun y=>y.2.aI ⟨dp,4⟩)&&([]:List (Nat×List AV)).all (fun y=>AV.aJ ⟨dp,4⟩ y.2)))=true)<|ai (rN dp)<|ai tt<|aP h fun r1 ek2 h=>have ek2:=cO hk_k0 (mg (dp+1) (boxes dp [(4,(af a0))] (ad hp k0 (aa c0))) k0 (Nat.lt_succ_of_lt hk_k0) (az (ab hk_k0 (hz))) c0 a0.Expr _ ek2);ai ek2<|a8 h (fun h3 h=>ai h3<|ai (rN dp)<|aS h fun w4 h=>ai w4<|L h) (fun h3 h=>F1 h3<|ai (rN dp)<|cF<|aS h fun w4 h=>ai w4<|cF<|ai (rN dp)<|ai tt<|aQ h (kv a0.Then) fun r5 h=>ai tt<|aS h fun w7 h=>ai w7<|cF<|L h)
end
section
variable (dp:Nat)(hp:HP)(k0:Key)(c0:Runner)(a0:Int)(a1:Int)(a2:Int)(a3:Int)
abbrev yG(dp:Nat)(hp:HP)(k0:Key)(c0:Runner)(a0:Int)(a1:Int)(a2:Int)(a3:Int)(r:Runner):aW×HP:=(.ret (.tp []),ad hp k0 (aa r))
def eX:Option Runner:=
 if c0.aA.Events.length+([(⟨a0,a1,a2,a3⟩:Event)]).length≤1000000000 then
  some (⟨c0.p,c0.ins,c0.fuel,c0.first,(⟨c0.aA.Events++([(⟨a0,a1,a2,a3⟩:Event)]),c0.aA.Vars,c0.aA.Taken,c0.aA.Steps,c0.aA.End,c0.aA.Stop⟩:RunT)⟩:Runner)
 else none
theorem la(hk_k0:k0.dp<dp)(hz:aN dp hp)(c0:Runner)(a0:Int)(a1:Int)(a2:Int)(a3:Int)(r:Runner)(h:eX c0 a0 a1 a2 a3=some r):call G Ω0 ⟨dp,false⟩ 151 [(.p k0 0),(I a0),(I a1),(I a2),(I a3)] (ad hp k0 (aa c0))=some (yG dp hp k0 c0 a0 a1 a2 a3 r):=
 aK ZP (bf<|ao (.l (aa c0))<|ao (.l (([(⟨a0,a1,a2,a3⟩:Event)]).map aO))<|bf<|ao (.l (aa c0))<|bf<|ao (.l (aa c0))<|bf<|ao (.h (ad hp k0 ((cG c0).set 11 .u)))<|ao (.l ((c0.aA.Events++([(⟨a0,a1,a2,a3⟩:Event)])).map aO))<|bf<|ao (.l ((cG c0).set 11 .u))<|bf<|ao (.h (ad hp k0 ((cG c0).set 11 (.o 106 ((c0.aA.Events++([(⟨a0,a1,a2,a3⟩:Event)])).map aO)))))<|.nil) fun L=>ai (Nat.ne_of_lt hk_k0)<|ai (aG hp k0 (aa c0))<|ai (rfl:[(.a [(I a0),(I a1),(I a2),(I a3)])]=([(⟨a0,a1,a2,a3⟩:Event)]).map aO)<|ai ff<|ai (Nat.ne_of_lt hk_k0)<|ai (aG hp k0 (aa c0))<|ai (Nat.ne_of_lt hk_k0)<|ai (aG hp k0 (aa c0))<|ai (Nat.ne_of_lt hk_k0)<|ai (bh hp k0 (aa c0) ((cG c0).set 11 .u))<|aS h fun h1 h=>ai ((gi aO (n:=4) (fun _=>rfl) ([(⟨a0,a1,a2,a3⟩:Event)])):(([(⟨a0,a1,a2,a3⟩:Event)]).map aO).all (fun e=>e.nc==4)=true)<|ai ((lh h1 (by decide)):((c0.aA.Events.map aO).length+(([(⟨a0,a1,a2,a3⟩:Event)]).map aO).length)*32≤140737488355328)<|ai ((lj h1):(c0.aA.Events.map aO).length+(([(⟨a0,a1,a2,a3⟩:Event)]).map aO).length≤maxLen)<|ai (List.map_append.symm:c0.aA.Events.map aO++([(⟨a0,a1,a2,a3⟩:Event)]).map aO=(c0.aA.Events++([(⟨a0,a1,a2,a3⟩:Event)])).map aO)<|ai ff<|ai (Nat.ne_of_lt hk_k0)<|ai (aG hp k0 ((cG c0).set 11 .u))<|ai (Nat.ne_of_lt hk_k0)<|ai (bh hp k0 ((cG c0).set 11 .u) ((cG c0).set 11 (.o 106 ((c0.aA.Events++([(⟨a0,a1,a2,a3⟩:Event)])).map aO))))<|L h
end
section
variable (c0:Runner)(a0:Stmt)(dp:Nat)(hp:HP)(k0:Key)(a1:Int)
def gR(w0_1:Int):Option ((List Int)×(List Int)):=
 (cX a0.Other).bind fun (j13:Nat)=>
 (c0.aA.Taken[j13]?).bind fun (y15:Int)=>
 if IntKind.i64.wrap (y15+1)=y15+1 then
  (cX a0.Var).bind fun (j18:Nat)=>
  (c0.aA.Vars[j18]?).bind fun (y20:Int)=>
  some (c0.aA.Vars.set j18 w0_1,c0.aA.Taken.set j13 (y15+1))
 else none
abbrev zg(dp:Nat)(hp:HP)(k0:Key)(c0:Runner)(a0:Stmt)(w0_1:Int)(x:((List Int)×(List Int))):aR×St:=(.ret,⟨[],[],ad hp k0 (((mr c0).set 12 (.o 3 (x.1.map (I)))).set 13 (.o 3 (x.2.map (I))))⟩)
theorem q7(hk_k0:k0.dp<dp)(hz:aN dp hp)(c0:Runner)(a0:Stmt)(w0_1:Int)(x:((List Int)×(List Int)))(h:gR c0 a0 w0_1=some x):run G Ω0 ⟨dp,false⟩ J3 ⟨[(0,(.p k0 0)),(4,(.p ⟨dp,4⟩ 0)),(6,(I w0_1))],[(4,(af a0))],ad hp k0 (aa c0)⟩=some (zg dp hp k0 c0 a0 w0_1 x):=
 tc (bf<|ao (.l (aa c0))<|bt<|xN fun j13=>bf<|ao (.l (aa c0))<|xI fun y15=>bf<|ao (.l (aa c0))<|ao (.v (I y15))<|ao (.i (y15+1))<|ao (.n j13)<|bf<|ao (.l (aa c0))<|ao (.v (I y15))<|bf<|ao (.l (aa c0))<|ao (.v (I y15))<|ao (.l ((c0.aA.Taken.set j13 (y15+1)).map (I)))<|bf<|ao (.l (aa c0))<|bf<|ao (.h (ad hp k0 ((cS c0).set 13 (.o 3 ((c0.aA.Taken.set j13 (y15+1)).map (I))))))<|bf<|ao (.l ((cS c0).set 13 (.o 3 ((c0.aA.Taken.set j13 (y15+1)).map (I)))))<|bt<|xN fun j18=>bf<|ao (.l ((cS c0).set 13 (.o 3 ((c0.aA.Taken.set j13 (y15+1)).map (I)))))<|xI fun y20=>bf<|ao (.l ((cS c0).set 13 (.o 3 ((c0.aA.Taken.set j13 (y15+1)).map (I)))))<|ao (.v (I y20))<|ao (.l ((c0.aA.Vars.set j18 w0_1).map (I)))<|bf<|ao (.l ((cS c0).set 13 (.o 3 ((c0.aA.Taken.set j13 (y15+1)).map (I)))))<|bf<|ao (.h (ad hp k0 (((mr c0).set 12 (.o 3 ((c0.aA.Vars.set j18 w0_1).map (I)))).set 13 (.o 3 ((c0.aA.Taken.set j13 (y15+1)).map (I))))))<|.nil) fun L=>oT<|ai (Nat.ne_of_lt hk_k0)<|ai (aG hp k0 (aa c0))<|cF<|ai (rN dp)<|ai tt<|eN h fun j13 h14 h=>ai h14<|ai (Nat.ne_of_lt hk_k0)<|ai (aG hp k0 (aa c0))<|aP h fun y15 h16 h=>ai (aD (I) h16)<|ai (Nat.ne_of_lt hk_k0)<|ai (aG hp k0 (aa c0))<|ai (aD (I) h16)<|aS h fun w17 h=>ai w17<|ai h14<|ai (Nat.ne_of_lt hk_k0)<|ai (aG hp k0 (aa c0))<|ai (aD (I) h16)<|ai ff<|ai (Nat.ne_of_lt hk_k0)<|ai (aG hp k0 (aa c0))<|ai (aD (I) h16)<|ai (map_set .. : (c0.aA.Taken.map (I)).set j13 (I (y15+1))=(c0.aA.Taken.set j13 (y15+1)).map (I))<|ai (Nat.ne_of_lt hk_k0)<|ai (aG hp k0 (aa c0))<|ai (Nat.ne_of_lt hk_k0)<|ai (bh hp k0 (aa c0) ((cS c0).set 13 (.o 3 ((c0.aA.Taken.set j13 (y15+1)).map (I)))))<|oT<|ai (Nat.ne_of_lt hk_k0)<|ai (aG hp k0 ((cS c0).set 13 (.o 3 ((c0.aA.Taken.set j13 (y15+1)).map (I)))))<|cF<|ai (rN dp)<|cF<|eN h fun j18 h19 h=>ai h19<|ai (Nat.ne_of_lt hk_k0)<|ai (aG hp k0 ((cS c0).set 13 (.o 3 ((c0.aA.Taken.set j13 (y15+1)).map (I)))))<|aP h fun y20 h21 h=>ai (aD (I) h21)<|ai ff<|ai (Nat.ne_of_lt hk_k0)<|ai (aG hp k0 ((cS c0).set 13 (.o 3 ((c0.aA.Taken.set j13 (y15+1)).map (I)))))<|ai (aD (I) h21)<|ai (map_set .. : (c0.aA.Vars.map (I)).set j18 (I w0_1)=(c0.aA.Vars.set j18 w0_1).map (I))<|ai (Nat.ne_of_lt hk_k0)<|ai (aG hp k0 ((cS c0).set 13 (.o 3 ((c0.aA.Taken.set j13 (y15+1)).map (I)))))<|ai (Nat.ne_of_lt hk_k0)<|ai (bh hp k0 ((cS c0).set 13 (.o 3 ((c0.aA.Taken.set j13 (y15+1)).map (I)))) (((mr c0).set 12 (.o 3 ((c0.aA.Vars.set j18 w0_1).map (I)))).set 13 (.o 3 ((c0.aA.Taken.set j13 (y15+1)).map (I)))))<|L h
def gT(r2:Int)(w2_1:(List Int)):Option (Runner⊕Runner):=
 if (a0.Kind==4)=true then
  (eX (⟨c0.p,c0.ins,c0.fuel,c0.first,(⟨c0.aA.Events,w2_1,c0.aA.Taken,c0.aA.Steps,c0.aA.End,c0.aA.Stop⟩:RunT)⟩:Runner) 1 a1 a0.Other r2).bind fun (r10:Runner)=>
  some (.inl r10)
 else
  if (a0.Kind==5)=true then
   (eX (⟨c0.p,c0.ins,c0.fuel,c0.first,(⟨c0.aA.Events,w2_1,c0.aA.Taken,c0.aA.Steps,c0.aA.End,c0.aA.Stop⟩:RunT)⟩:Runner) 2 a1 a0.Var r2).bind fun (r11:Runner)=>
   some (.inl r11)
  else
   if (a0.Kind==6)=true then
    (eX (⟨c0.p,c0.ins,c0.fuel,c0.first,(⟨c0.aA.Events,w2_1,c0.aA.Taken,c0.aA.Steps,c0.aA.End,c0.aA.Stop⟩:RunT)⟩:Runner) 3 a1 a0.Var r2).bind fun (r12:Runner)=>
    some (.inl r12)
   else
    some (.inr (⟨c0.p,c0.ins,c0.fuel,c0.first,(⟨c0.aA.Events,w2_1,c0.aA.Taken,c0.aA.Steps,c0.aA.End,c0.aA.Stop⟩:RunT)⟩:Runner))
abbrev zh(c0:Runner)(a0:Stmt)(a1:Int)(r2:Int)(w2_1:(List Int))(x:(Runner⊕Runner)):aR×St:=match x with | .inl z1=>(.nrm,⟨[],[],ad hp k0 (aa z1)⟩) | .inr z1=>(.nrm,⟨[(0,(.p k0 0)),(2,(I a1)),(4,(.p ⟨dp,4⟩ 0)),(8,(I r2)),(102,(.b (a0.Kind==6)))],[(4,(af a0))],ad hp k0 (aa z1)⟩)
theorem q8(hk_k0:k0.dp<dp)(hz:aN dp hp)(c0:Runner)(a0:Stmt)(a1:Int)(r2:Int)(w2_1:(List Int))(x:(Runner⊕Runner))(h:gT c0 a0 a1 r2 w2_1=some x):run G Ω0 ⟨dp,false⟩ J4 ⟨[(0,(.p k0 0)),(2,(I a1)),(4,(.p ⟨dp,4⟩ 0)),(8,(I r2))],[(4,(af a0))],ad hp k0 ((bA c0).set 12 (.o 3 (w2_1.map (I))))⟩=some (zh dp hp k0 c0 a0 a1 r2 w2_1 x):=
 tc (bt<|.or (du<|.ex fun (r10:Runner)=>ao (.v (.tp []))<|ao (.h (boxes dp [(4,(af a0))] (ad hp k0 (aa r10))))<|ao (.bx [(4,(af a0))])<|ao (.h (ad hp k0 (aa r10)))<|.nil) (bf<|.or (du<|.ex fun (r11:Runner)=>ao (.v (.tp []))<|ao (.h (boxes dp [(4,(af a0))] (ad hp k0 (aa r11))))<|ao (.bx [(4,(af a0))])<|ao (.h (ad hp k0 (aa r11)))<|.nil) (bf<|.or (du<|.ex fun (r12:Runner)=>ao (.v (.tp []))<|ao (.h (boxes dp [(4,(af a0))] (ad hp k0 (aa r12))))<|ao (.bx [(4,(af a0))])<|ao (.h (ad hp k0 (aa r12)))<|.nil) (bf<|.nil)))) fun L=>ai (rN dp)<|a8 h (fun h9 h=>ai h9<|ai (rN dp)<|eY<|aP h fun r10 ek11 h=>have ek11:=cO hk_k0 (la (dp+1) (boxes dp [(4,(af a0))] (ad hp k0 ((bA c0).set 12 (.o 3 (w2_1.map (I)))))) k0 (Nat.lt_succ_of_lt hk_k0) (az (ab hk_k0 (hz))) (⟨c0.p,c0.ins,c0.fuel,c0.first,(⟨c0.aA.Events,w2_1,c0.aA.Taken,c0.aA.Steps,c0.aA.End,c0.aA.Stop⟩:RunT)⟩:Runner) 1 a1 a0.Other r2 _ ek11);ai ek11<|ai (cL ek11 (by kernel_rfl) (by kernel_rfl))<|ai (cM ek11 (ab hk_k0 (hz)))<|L h) (fun h9 h=>ai h9<|a8 h (fun h10 h=>ai h10<|ai (rN dp)<|eY<|aP h fun r11 ek12 h=>have ek12:=cO hk_k0 (la (dp+1) (boxes dp [(4,(af a0))] (ad hp k0 ((bA c0).set 12 (.o 3 (w2_1.map (I)))))) k0 (Nat.lt_succ_of_lt hk_k0) (az (ab hk_k0 (hz))) (⟨c0.p,c0.ins,c0.fuel,c0.first,(⟨c0.aA.Events,w2_1,c0.aA.Taken,c0.aA.Steps,c0.aA.End,c0.aA.Stop⟩:RunT)⟩:Runner) 2 a1 a0.Var r2 _ ek12);ai ek12<|ai (cL ek12 (by kernel_rfl) (by kernel_rfl))<|ai (cM ek12 (ab hk_k0 (hz)))<|L h) (fun h10 h=>ai h10<|a8 h (fun h11 h=>ai h11<|ai (rN dp)<|eY<|aP h fun r12 ek13 h=>have ek13:=cO hk_k0 (la (dp+1) (boxes dp [(4,(af a0))] (ad hp k0 ((bA c0).set 12 (.o 3 (w2_1.map (I)))))) k0 (Nat.lt_succ_of_lt hk_k0) (az (ab hk_k0 (hz))) (⟨c0.p,c0.ins,c0.fuel,c0.first,(⟨c0.aA.Events,w2_1,c0.aA.Taken,c0.aA.Steps,c0.aA.End,c0.aA.Stop⟩:RunT)⟩:Runner) 3 a1 a0.Var r2 _ ek13);ai ek13<|ai (cL ek13 (by kernel_rfl) (by kernel_rfl))<|ai (cM ek13 (ab hk_k0 (hz)))<|L h) (fun h11 h=>ai h11<|L h)))
abbrev CD(dp:Nat)(hp:HP)(k0:Key)(c0:Runner)(a0:Stmt)(a1:Int)(r:Runner):aW×HP:=(.ret (.tp []),ad hp k0 (aa r))
def kK:Option Runner:=
 if (a0.Kind==3)=true then
  (cX a0.Other).bind fun (j2:Nat)=>
  (c0.ins[j2]?).bind fun (y4:(List Int))=>
  (c0.aA.Taken[j2]?).bind fun (y6:Int)=>
  if y6<(y4.length:Int) then
   (cX y6).bind fun (j9:Nat)=>
   (y4[j9]?).bind fun (y11:Int)=>
   (gR c0 a0 y11).bind fun (x13:((List Int)×(List Int)))=>
   some (⟨c0.p,c0.ins,c0.fuel,c0.first,(⟨c0.aA.Events,x13.1,x13.2,c0.aA.Steps,c0.aA.End,c0.aA.Stop⟩:RunT)⟩:Runner)
  else
   (gR c0 a0 0).bind fun (x9:((List Int)×(List Int)))=>
   some (⟨c0.p,c0.ins,c0.fuel,c0.first,(⟨c0.aA.Events,x9.1,x9.2,c0.aA.Steps,c0.aA.End,c0.aA.Stop⟩:RunT)⟩:Runner)
 else
  (k9 a0.Expr c0.aA.Vars).bind fun (r2:Int)=>
  if (a0.Kind !=4)=true then
   (cX a0.Var).bind fun (j5:Nat)=>
   (c0.aA.Vars[j5]?).bind fun (y7:Int)=>
   (gT c0 a0 a1 r2 (c0.aA.Vars.set j5 r2)).bind fun (x9:(Runner⊕Runner))=>match x9 with
   | .inl ya_10=>
    some ya_10
   | .inr yb_10=>
    some yb_10
  else
   (gT c0 a0 a1 r2 c0.aA.Vars).bind fun (x5:(Runner⊕Runner))=>match x5 with
   | .inl ya_6=>
    some ya_6
   | .inr yb_6=>
    some yb_6
theorem sA(hk_k0:k0.dp<dp)(hz:aN dp hp)(c0:Runner)(a0:Stmt)(a1:Int)(r:Runner)(h:kK c0 a0 a1=some r):call G Ω0 ⟨dp,false⟩ 107 [(.p k0 0),(.a (af a0)),(I a1)] (ad hp k0 (aa c0))=some (CD dp hp k0 c0 a0 a1 r):=
 aK Zo (bt<|.or (kD<|ao (.l (aa c0))<|bt<|xN fun j2=>.ex fun (y4:(List Int))=>ao (.v (.l 3 (y4.map (I))))<|bf<|ao (.l (aa c0))<|bt<|ao (.n j2)<|bf<|ao (.l (aa c0))<|xI fun y6=>bf<|ao (.l (aa c0))<|ao (.v (I y6))<|ao (.i (y4.length:Int))<|.or (kD<|ao (.l (aa c0))<|bt<|ao (.n j2)<|bf<|ao (.l (aa c0))<|ao (.v (I y6))<|bf<|ao (.l (aa c0))<|ao (.v (I y6))<|xN fun j9=>xI fun y11=>.fb<|.ex fun (x13:((List Int)×(List Int)))=>ao (.fr .ret ⟨[],[],ad hp k0 (((mr c0).set 12 (.o 3 (x13.1.map (I)))).set 13 (.o 3 (x13.2.map (I))))⟩)<|.nil) (bf<|.fb<|.ex fun (x9:((List Int)×(List Int)))=>ao (.fr .ret ⟨[],[],ad hp k0 (((mr c0).set 12 (.o 3 (x9.1.map (I)))).set 13 (.o 3 (x9.2.map (I))))⟩)<|.nil)) (bf<|bt<|bf<|ao (.l (aa c0))<|bf<|ao (.l (aa c0))<|xI fun r2=>bt<|.or (kD<|ao (.l (aa c0))<|bt<|xN fun j5=>bf<|ao (.l (aa c0))<|xI fun y7=>bf<|ao (.l (aa c0))<|ao (.v (I y7))<|ao (.l ((c0.aA.Vars.set j5 r2).map (I)))<|bf<|ao (.l (aa c0))<|bf<|ao (.h (ad hp k0 ((bA c0).set 12 (.o 3 ((c0.aA.Vars.set j5 r2).map (I))))))<|.fb<|.or (.ex fun (ya_10:Runner)=>ao (.fr .nrm ⟨[],[],ad hp k0 (aa ya_10)⟩)<|.nil) (.ex fun (yb_10:Runner)=>ao (.fr .nrm ⟨[(0,(.p k0 0)),(2,(I a1)),(4,(.p ⟨dp,4⟩ 0)),(8,(I r2)),(102,(.b (a0.Kind==6)))],[(4,(af a0))],ad hp k0 (aa yb_10)⟩)<|.nil)) (bf<|.fb<|.or (.ex fun (ya_6:Runner)=>ao (.fr .nrm ⟨[],[],ad hp k0 (aa ya_6)⟩)<|.nil) (.ex fun (yb_6:Runner)=>ao (.fr .nrm ⟨[(0,(.p k0 0)),(2,(I a1)),(4,(.p ⟨dp,4⟩ 0)),(8,(I r2)),(102,(.b (a0.Kind==6)))],[(4,(af a0))],ad hp k0 (aa yb_6)⟩)<|.nil)))) fun L=>ai ((by simp [af,AV.aI,AV.aJ,AV.deep,AV.bn,aj hk_k0,Nat.le_of_lt hk_k0]):(((.a (af a0)):AV).deep dp&&(([(0,(.p k0 0)),(1,(.a (af a0))),(2,(I a1))]:List (Nat×AV)).all (fun y=>y.2.aI ⟨dp,4⟩)&&([]:List (Nat×List AV)).all (fun y=>AV.aJ ⟨dp,4⟩ y.2)))=true)<|ai (rN dp)<|a8 h (fun h1 h=>A8 h1<|ai (Nat.ne_of_lt hk_k0)<|ai (aG hp k0 (aa c0))<|cF<|ai (rN dp)<|ai tt<|eN h fun j2 h3 h=>ai h3<|aP h fun y4 h5 h=>ai (aD (bD 3 (I)) h5)<|ai tt<|ai tt<|ai tt<|ai tt<|ai tt<|ai tt<|ai tt<|ai tt<|ai (Nat.ne_of_lt hk_k0)<|ai (aG hp k0 (aa c0))<|cF<|ai (rN dp)<|ai tt<|ai h3<|ai (Nat.ne_of_lt hk_k0)<|ai (aG hp k0 (aa c0))<|aP h fun y6 h7 h=>ai (aD (I) h7)<|ai tt<|ai (Nat.ne_of_lt hk_k0)<|ai (aG hp k0 (aa c0))<|ai (aD (I) h7)<|cF<|ai (aL (I) y4)<|ai tt<|cb h (fun h8 h=>ai (decide_eq_true h8)<|ai tt<|ai tt<|ai tt<|ai tt<|ai tt<|ai tt<|ai (Nat.ne_of_lt hk_k0)<|ai (aG hp k0 (aa c0))<|cF<|ai (rN dp)<|ai tt<|ai h3<|ai (Nat.ne_of_lt hk_k0)<|ai (aG hp k0 (aa c0))<|ai (aD (I) h7)<|ai tt<|ai (Nat.ne_of_lt hk_k0)<|ai (aG hp k0 (aa c0))<|ai (aD (I) h7)<|ai tt<|eN h fun j9 h10 h=>ai h10<|aP h fun y11 h12 h=>ai (aD (I) h12)<|aQ h (q7 dp hp k0 hk_k0 hz c0 a0 y11) fun x13 h=>L h) (fun h8 h=>ai (decide_eq_false h8)<|aQ h (q7 dp hp k0 hk_k0 hz c0 a0 0) fun x9 h=>L h)) (fun h1 h=>F1 h1<|ai (rN dp)<|oT<|ai (Nat.ne_of_lt hk_k0)<|ai (aG hp k0 (aa c0))<|ai tt<|ai (Nat.ne_of_lt hk_k0)<|ai (aG hp k0 (aa c0))<|aQ h (oc a0.Expr c0.aA.Vars) fun r2 h=>cF<|ai (rN dp)<|a8 h (fun h4 h=>ai h4<|ai tt<|ai tt<|ai tt<|ai tt<|ai tt<|ai (Nat.ne_of_lt hk_k0)<|ai (aG hp k0 (aa c0))<|cF<|ai (rN dp)<|cF<|eN h fun j5 h6 h=>ai h6<|ai (Nat.ne_of_lt hk_k0)<|ai (aG hp k0 (aa c0))<|aP h fun y7 h8 h=>ai (aD (I) h8)<|ai ff<|ai (Nat.ne_of_lt hk_k0)<|ai (aG hp k0 (aa c0))<|ai (aD (I) h8)<|ai (map_set .. : (c0.aA.Vars.map (I)).set j5 (I r2)=(c0.aA.Vars.set j5 r2).map (I))<|ai (Nat.ne_of_lt hk_k0)<|ai (aG hp k0 (aa c0))<|ai (Nat.ne_of_lt hk_k0)<|ai (bh hp k0 (aa c0) ((bA c0).set 12 (.o 3 ((c0.aA.Vars.set j5 r2).map (I)))))<|cN h (q8 dp hp k0 hk_k0 hz c0 a0 a1 r2 (c0.aA.Vars.set j5 r2)) (fun ya_10 h=>L h) (fun yb_10 h=>L h)) (fun h4 h=>ai h4<|cN h (q8 dp hp k0 hk_k0 hz c0 a0 a1 r2 c0.aA.Vars) (fun ya_6 h=>L h) (fun yb_6 h=>L h)))
end
section
variable (dp:Nat)(hp:HP)(k0:Key)(c0:Runner)(a0:(List Stmt))(a1:Int)
abbrev Bq(dp:Nat)(hp:HP)(k0:Key)(c0:Runner)(a0:(List Stmt))(a1:Int)(r:(Bool×Runner)):aW×HP:=(.ret (.b r.1),ad hp k0 (aa r.2))
abbrev pZ(r:(Bool×Runner)):Prop:=call G Ω0 ⟨dp,false⟩ 89 [(.p k0 0),(.l 88 (a0.map aH)),(I a1)] (ad hp k0 (aa c0))=some (Bq dp hp k0 c0 a0 a1 r)
end
section
variable (dp:Nat)(hp:HP)(k0:Key)(c0:Runner)(a0:Stmt)(a1:Int)
abbrev AI(dp:Nat)(hp:HP)(k0:Key)(c0:Runner)(a0:Stmt)(r:(Bool×Runner)):aW×HP:=(.ret (.b r.1),ad hp k0 (aa r.2))
abbrev s0(r:(Bool×Runner)):Prop:=call G Ω0 ⟨dp,false⟩ 156 [(.p k0 0),(.a (af a0))] (ad hp k0 (aa c0))=some (AI dp hp k0 c0 a0 r)
abbrev zi(dp:Nat)(hp:HP)(k0:Key)(c0:Runner)(a0:Stmt)(a1:Int)(r:(Bool×Runner)):aW×HP:=(.ret (.b r.1),ad hp k0 (aa r.2))
abbrev sB(r:(Bool×Runner)):Prop:=call G Ω0 ⟨dp,false⟩ 157 [(.p k0 0),(.a (af a0)),(I a1)] (ad hp k0 (aa c0))=some (zi dp hp k0 c0 a0 a1 r)
abbrev Br(dp:Nat)(hp:HP)(k0:Key)(c0:Runner)(a0:Stmt)(a1:Int)(r:(Bool×Runner)):aW×HP:=(.ret (.b r.1),ad hp k0 (aa r.2))
abbrev uq(r:(Bool×Runner)):Prop:=call G Ω0 ⟨dp,false⟩ 127 [(.p k0 0),(.a (af a0)),(I a1)] (ad hp k0 (aa c0))=some (Br dp hp k0 c0 a0 a1 r)
end
structure bK where
 f_run_Runner_all:Runner→(List Stmt)→Int→Option (Bool×Runner)
 f_run_Runner_call:Runner→Stmt→Option (Bool×Runner)
 f_run_Runner_inner:Runner→Stmt→Int→Option (Bool×Runner)
 f_run_Runner_one:Runner→Stmt→Int→Option (Bool×Runner)
structure aU(R:bK):Prop where
 f_run_Runner_all:∀ (dp:Nat)(hp:HP)(k0:Key)(hk_k0:k0.dp<dp)(hz:aN dp hp)(c0:Runner)(a0:(List Stmt))(a1:Int)(r:(Bool×Runner)),R.f_run_Runner_all c0 a0 a1=some r→pZ dp hp k0 c0 a0 a1 r
 f_run_Runner_call:∀ (dp:Nat)(hp:HP)(k0:Key)(hk_k0:k0.dp<dp)(hz:aN dp hp)(c0:Runner)(a0:Stmt)(r:(Bool×Runner)),R.f_run_Runner_call c0 a0=some r→s0 dp hp k0 c0 a0 r
 f_run_Runner_inner:∀ (dp:Nat)(hp:HP)(k0:Key)(hk_k0:k0.dp<dp)(hz:aN dp hp)(c0:Runner)(a0:Stmt)(a1:Int)(r:(Bool×Runner)),R.f_run_Runner_inner c0 a0 a1=some r→sB dp hp k0 c0 a0 a1 r
 f_run_Runner_one:∀ (dp:Nat)(hp:HP)(k0:Key)(hk_k0:k0.dp<dp)(hz:aN dp hp)(c0:Runner)(a0:Stmt)(a1:Int)(r:(Bool×Runner)),R.f_run_Runner_one c0 a0 a1=some r→uq dp hp k0 c0 a0 a1 r
section
variable (R:bK)(a0:(List Stmt))(c0:Runner)
def kL(v0_k0:Runner)(v0_2:Int)(v0_11:Nat):Option ((Runner×Int×Nat)⊕(Runner⊕(Int×Nat×Bool×Runner))):=
 if (v0_11:Int)<(a0.length:Int) then
  (a0[v0_11]?).bind fun (y2:Stmt)=>
  (R.f_run_Runner_one v0_k0 y2 v0_2).bind fun (r4:(Bool×Runner))=>
  if r4.1=true then
   (je y2.Then).bind fun (r7:Int)=>
   if IntKind.i64.wrap (1+r7)=1+r7 then
    (je y2.Else).bind fun (r10:Int)=>
    if IntKind.i64.wrap ((1+r7)+r10)=(1+r7)+r10 then
     if IntKind.i64.wrap (v0_2+((1+r7)+r10))=v0_2+((1+r7)+r10) then
      if IntKind.i64.wrap ((v0_11:Int)+1)=((v0_11+1:Nat):Int) then
       some (.inl (r4.2,v0_2+((1+r7)+r10),v0_11+1))
      else none
     else none
    else none
   else none
  else
   some (.inr (.inl r4.2))
 else
  some (.inr (.inr (v0_2,v0_11,decide ((v0_11:Int)<(a0.length:Int)),v0_k0)))
abbrev zj(dp:Nat)(hp:HP)(k0:Key)(a0:(List Stmt))(v:(Runner×Int×Nat)):St:=⟨[(0,(.p k0 0)),(2,(I v.2.1)),(9,(.l 88 (a0.map aH))),(10,(I (a0.length:Int))),(11,(I (v.2.2:Int)))],[],ad hp k0 (aa v.1)⟩
abbrev zk(dp:Nat)(hp:HP)(k0:Key)(a0:(List Stmt))(x:(Runner⊕(Int×Nat×Bool×Runner))):aR×St:=match x with | .inl z1=>(.ret,⟨[(6,(.b false))],[],ad hp k0 (aa z1)⟩) | .inr (z1,z2,z3,z4)=>((.ex 0),⟨[(0,(.p k0 0)),(2,(I z1)),(9,(.l 88 (a0.map aH))),(10,(I (a0.length:Int))),(11,(I (z2:Int))),(12,(.b z3))],[],ad hp k0 (aa z4)⟩)
theorem yH(hR:aU R)(dp:Nat)(hp:HP)(k0:Key)(hk_k0:k0.dp<dp)(hz:aN dp hp)(a0:(List Stmt))(v0_k0:Runner)(v0_2:Int)(v0_11:Nat)(o:(Runner×Int×Nat)⊕(Runner⊕(Int×Nat×Bool×Runner)))(h:kL R a0 v0_k0 v0_2 v0_11=some o):bI ⟨dp,false⟩ NV (zj dp hp k0 a0) (zk dp hp k0 a0) (v0_k0,v0_2,v0_11) o:=
 bP (.or (bt<|ao (.n v0_11)<|.ex fun (y2:Stmt)=>ao (.v (.a (af y2)))<|dE<|.ex fun (r4:(Bool×Runner))=>ao (.v (.b r4.1))<|ao (.h (boxes dp [(8,(af y2))] (ad hp k0 (aa r4.2))))<|ao (.bx [(8,(af y2))])<|ao (.h (ad hp k0 (aa r4.2)))<|.or (sg<|xI fun r7=>ao (.i (1+r7))<|bt<|xI fun r10=>ao (.i ((1+r7)+r10))<|ao (.i (v0_2+((1+r7)+r10)))<|ao (.i ((v0_11+1:Nat):Int))<|.nil) (bt<|.nil)) (bf<|.nil)) fun L=>cb h (fun h1 h=>ai (decide_eq_true h1)<|ai (rI v0_11)<|aP h fun y2 h3 h=>ai (iy aH h3 (kY _))<|ai ((by simp [af,AV.aI,AV.aJ,AV.deep,AV.bn,aj hk_k0,Nat.le_of_lt hk_k0]):(([(14,(.a (af y2))),(13,(.e (.a (af y2)) 0)),(0,(.p k0 0)),(2,(I v0_2)),(9,(.l 88 (a0.map aH))),(10,(I (a0.length:Int))),(11,(I (v0_11:Int)))]:List (Nat×AV)).all (fun y=>y.2.aI ⟨dp,8⟩)&&([]:List (Nat×List AV)).all (fun y=>AV.aJ ⟨dp,8⟩ y.2))=true)<|ai ff<|ai (rN dp)<|ai tt<|ai (rN dp)<|ai (rN dp)<|eY<|aP h fun r4 ek5 h=>have ek5:=cO hk_k0 (hR.f_run_Runner_one (dp+1) (boxes dp [(8,(af y2))] (ad hp k0 (aa v0_k0))) k0 (Nat.lt_succ_of_lt hk_k0) (az (ab hk_k0 (hz))) v0_k0 y2 v0_2 _ ek5);ai ek5<|ai (cL ek5 (by kernel_rfl) (by kernel_rfl))<|ai (cM ek5 (ab hk_k0 (hz)))<|a8 h (fun h6 h=>A9 (congrArg not h6)<|ai (rN dp)<|ai tt<|aQ h (kv y2.Then) fun r7 h=>ai tt<|aS h fun w9 h=>ai w9<|cF<|ai (rN dp)<|ai tt<|aQ h (kv y2.Else) fun r10 h=>ai tt<|aS h fun w12 h=>ai w12<|ai tt<|aS h fun w13 h=>ai w13<|aS h fun w14 h=>ai w14<|L h) (fun h6 h=>ai (congrArg not h6)<|L h)) (fun h1 h=>ai (decide_eq_false h1)<|L h)
def ll(a0:(List Stmt))(a1:Int):Option (Bool×Runner):=
 (lp (fun v=>kL R a0 v.1 v.2.1 v.2.2) (c0,a1,0)).bind fun (x1:(Runner⊕(Int×Nat×Bool×Runner)))=>match x1 with
 | .inl ya_2=>
  some (false,ya_2)
 | .inr yb_2=>
  some (true,yb_2.2.2.2)
theorem xL(hR:aU R)(dp:Nat)(hp:HP)(k0:Key)(hk_k0:k0.dp<dp)(hz:aN dp hp)(c0:Runner)(a0:(List Stmt))(a1:Int)(r:(Bool×Runner))(h:ll R c0 a0 a1=some r):pZ dp hp k0 c0 a0 a1 r:=
 aK G89 (ao (.i (a0.length:Int))<|.or (.ex fun (ya_2:Runner)=>ao (.lp .ret ⟨[(6,(.b false))],[],ad hp k0 (aa ya_2)⟩)<|.nil) (.ex fun (yb_2:(Int×Nat×Bool×Runner))=>ao (.lp (.ex 0) ⟨[(0,(.p k0 0)),(2,(I yb_2.1)),(9,(.l 88 (a0.map aH))),(10,(I (a0.length:Int))),(11,(I (yb_2.2.1:Int))),(12,(.b yb_2.2.2.1))],[],ad hp k0 (aa yb_2.2.2.2)⟩)<|.nil)) fun L=>ai (aL aH a0)<|cN h (ef (fun v=>yH R hR dp hp k0 hk_k0 hz a0 v.1 v.2.1 v.2.2) (c0,a1,0)) (fun ya_2 h=>L h) (fun yb_2 h=>L h)
end
section
variable (R:bK)(c0:Runner)(a0:Stmt)(dp:Nat)(hp:HP)(k0:Key)(a1:Int)
def kM:Option (Bool×Runner):=
 (gO c0 a0).bind fun (r1:Runner)=>
 (cX a0.Other).bind fun (j3:Nat)=>
 (r1.p.Funcs[j3]?).bind fun (y5:Func)=>
 (r1.first[j3]?).bind fun (y7:Int)=>
 (R.f_run_Runner_all r1 y5.Body y7).bind fun (r9:(Bool×Runner))=>
 if r9.1=true then
  (gP r9.2 a0).bind fun (r12:Runner)=>
  some (true,r12)
 else
  some (false,r9.2)
theorem wU(hR:aU R)(dp:Nat)(hp:HP)(k0:Key)(hk_k0:k0.dp<dp)(hz:aN dp hp)(c0:Runner)(a0:Stmt)(r:(Bool×Runner))(h:kM R c0 a0=some r):s0 dp hp k0 c0 a0 r:=
 aK ZS (bt<|.ex fun (r1:Runner)=>ao (.v (.tp []))<|ao (.h (boxes dp [(3,(af a0))] (ad hp k0 (aa r1))))<|ao (.bx [(3,(af a0))])<|ao (.h (ad hp k0 (aa r1)))<|bf<|ao (.l (aa r1))<|bt<|xN fun j3=>.ex fun (y5:Func)=>ao (.v (.a (cD y5)))<|bf<|ao (.l (aa r1))<|bt<|ao (.n j3)<|bf<|ao (.l (aa r1))<|xI fun y7=>bf<|ao (.l (aa r1))<|ao (.v (I y7))<|.ex fun (r9:(Bool×Runner))=>ao (.v (.b r9.1))<|ao (.h (boxes dp [(3,(af a0))] (ad hp k0 (aa r9.2))))<|ao (.bx [(3,(af a0))])<|ao (.h (ad hp k0 (aa r9.2)))<|.or (sg<|.ex fun (r12:Runner)=>ao (.v (.tp []))<|ao (.h (boxes dp [(3,(af a0))] (ad hp k0 (aa r12))))<|ao (.bx [(3,(af a0))])<|ao (.h (ad hp k0 (aa r12)))<|.nil) (bt<|.nil)) fun L=>ai ((by simp [af,AV.aI,AV.aJ,AV.deep,AV.bn,aj hk_k0,Nat.le_of_lt hk_k0]):(((.a (af a0)):AV).deep dp&&(([(0,(.p k0 0)),(1,(.a (af a0)))]:List (Nat×AV)).all (fun y=>y.2.aI ⟨dp,3⟩)&&([]:List (Nat×List AV)).all (fun y=>AV.aJ ⟨dp,3⟩ y.2)))=true)<|ai (rN dp)<|eY<|aP h fun r1 ek2 h=>have ek2:=cO hk_k0 (qm (dp+1) (boxes dp [(3,(af a0))] (ad hp k0 (aa c0))) k0 (Nat.lt_succ_of_lt hk_k0) (az (ab hk_k0 (hz))) c0 a0 _ ek2);ai ek2<|ai (cL ek2 (by kernel_rfl) (by kernel_rfl))<|ai (cM ek2 (ab hk_k0 (hz)))<|ai tt<|ai tt<|ai tt<|ai tt<|ai tt<|ai tt<|ai (Nat.ne_of_lt hk_k0)<|ai (aG hp k0 (aa r1))<|cF<|ai (rN dp)<|ai tt<|eN h fun j3 h4 h=>ai h4<|aP h fun y5 h6 h=>ai (aD ba h6)<|ai tt<|ai tt<|ai tt<|ai tt<|ai tt<|ai tt<|ai (Nat.ne_of_lt hk_k0)<|ai (aG hp k0 (aa r1))<|cF<|ai (rN dp)<|ai tt<|ai h4<|ai (Nat.ne_of_lt hk_k0)<|ai (aG hp k0 (aa r1))<|aP h fun y7 h8 h=>ai (aD (I) h8)<|ai tt<|ai (Nat.ne_of_lt hk_k0)<|ai (aG hp k0 (aa r1))<|ai (aD (I) h8)<|xy<|aP h fun r9 ek10 h=>have ek10:=cO hk_k0 (hR.f_run_Runner_all (dp+1) (boxes dp [(3,(af a0))] (ad hp k0 (aa r1))) k0 (Nat.lt_succ_of_lt hk_k0) (az (ab hk_k0 (hz))) r1 y5.Body y7 _ ek10);ai ek10<|ai (cL ek10 (by kernel_rfl) (by kernel_rfl))<|ai (cM ek10 (ab hk_k0 (hz)))<|a8 h (fun h11 h=>ai (congrArg not h11)<|ai (rN dp)<|eY<|aP h fun r12 ek13 h=>have ek13:=cO hk_k0 (qn (dp+1) (boxes dp [(3,(af a0))] (ad hp k0 (aa r9.2))) k0 (Nat.lt_succ_of_lt hk_k0) (az (ab hk_k0 (hz))) r9.2 a0 _ ek13);ai ek13<|ai (cL ek13 (by kernel_rfl) (by kernel_rfl))<|ai (cM ek13 (ab hk_k0 (hz)))<|L h) (fun h11 h=>ai (congrArg not h11)<|L h)
def ji(v0_k0:Runner):Option (Runner⊕(Runner⊕(Bool×Runner))):=
 (fN v0_k0 a0.Expr).bind fun (r2:Bool)=>
 if r2=true then
  if IntKind.i64.wrap (a1+1)=a1+1 then
   (R.f_run_Runner_all v0_k0 a0.Then (a1+1)).bind fun (r6:(Bool×Runner))=>
   if r6.1=true then
    (eQ r6.2).bind fun (r9:(Bool×Runner))=>
    if r9.1=true then
     some (.inl r9.2)
    else
     some (.inr (.inl r9.2))
   else
    some (.inr (.inl r6.2))
  else none
 else
  some (.inr (.inr (r2,v0_k0)))
abbrev xM(a0:Stmt)(a1:Int)(v:Runner):St:=⟨[(0,(.p k0 0)),(2,(I a1)),(4,(.p ⟨dp,4⟩ 0))],[(4,(af a0))],ad hp k0 (aa v)⟩
abbrev xO(a0:Stmt)(a1:Int)(x:(Runner⊕(Bool×Runner))):aR×St:=match x with | .inl z1=>(.ret,⟨[(6,(.b false))],[],ad hp k0 (aa z1)⟩) | .inr (z1,z2)=>((.ex 0),⟨[(0,(.p k0 0)),(2,(I a1)),(4,(.p ⟨dp,4⟩ 0)),(26,(.b z1))],[(4,(af a0))],ad hp k0 (aa z2)⟩)
theorem wV(hR:aU R)(dp:Nat)(hp:HP)(k0:Key)(hk_k0:k0.dp<dp)(hz:aN dp hp)(a0:Stmt)(a1:Int)(v0_k0:Runner)(o:Runner⊕(Runner⊕(Bool×Runner)))(h:ji R a0 a1 v0_k0=some o):bI ⟨dp,false⟩ Kj (xM dp hp k0 a0 a1) (xO dp hp k0 a0 a1) v0_k0 o:=
 bP (bt<|xB fun r2=>ao (.h (boxes dp [(4,(af a0))] (ad hp k0 (aa v0_k0))))<|.or (du<|ao (.i (a1+1))<|.ex fun (r6:(Bool×Runner))=>ao (.v (.b r6.1))<|ao (.h (boxes dp [(4,(af a0))] (ad hp k0 (aa r6.2))))<|ao (.bx [(4,(af a0))])<|ao (.h (ad hp k0 (aa r6.2)))<|.or (du<|.ex fun (r9:(Bool×Runner))=>ao (.v (.b r9.1))<|ao (.h (boxes dp [(4,(af a0))] (ad hp k0 (aa r9.2))))<|ao (.bx [(4,(af a0))])<|ao (.h (ad hp k0 (aa r9.2)))<|kD<|.or (bf<|.nil) (bt<|.nil)) (ML<|.nil)) (bf<|.nil)) fun L=>ai (rN dp)<|ai tt<|aP h fun r2 ek3 h=>have ek3:=cO hk_k0 (mg (dp+1) (boxes dp [(4,(af a0))] (ad hp k0 (aa v0_k0))) k0 (Nat.lt_succ_of_lt hk_k0) (az (ab hk_k0 (hz))) v0_k0 a0.Expr _ ek3);ai ek3<|a8 h (fun h4 h=>ai h4<|ai (rN dp)<|aS h fun w5 h=>ai w5<|eY<|aP h fun r6 ek7 h=>have ek7:=cO hk_k0 (hR.f_run_Runner_all (dp+1) (boxes dp [(4,(af a0))] (ad hp k0 (aa v0_k0))) k0 (Nat.lt_succ_of_lt hk_k0) (az (ab hk_k0 (hz))) v0_k0 a0.Then (a1+1) _ ek7);ai ek7<|ai (cL ek7 (by kernel_rfl) (by kernel_rfl))<|ai (cM ek7 (ab hk_k0 (hz)))<|a8 h (fun h8 h=>A7 (congrArg not h8)<|aP h fun r9 ek10 h=>have ek10:=cO hk_k0 (jf (dp+1) (boxes dp [(4,(af a0))] (ad hp k0 (aa r6.2))) k0 (Nat.lt_succ_of_lt hk_k0) (az (ab hk_k0 (hz))) r6.2 _ ek10);ai ek10<|ai (cL ek10 (by kernel_rfl) (by kernel_rfl))<|ai (cM ek10 (ab hk_k0 (hz)))<|tU (congrArg not h8)<|a8 h (fun h11 h=>ai (congrArg not h11)<|L h) (fun h11 h=>ai (congrArg not h11)<|L h)) (fun h8 h=>ai (g0 (congrArg not h8))<|ai (g0 (congrArg not h8))<|ai (g0 (congrArg not h8))<|ai (congrArg not h8)<|ai tt<|L h)) (fun h4 h=>ai h4<|L h)
def kj:Option (Bool×Runner):=
 if (a0.Kind==7)=true then
  (iM c0 a0 a1).bind fun (r2:((List Stmt)×Int))=>
  (R.f_run_Runner_all c0 r2.1 r2.2).bind fun (r4:(Bool×Runner))=>
  some (r4.1,r4.2)
 else
  (lp (fun v=>ji R a0 a1 v) c0).bind fun (x2:(Runner⊕(Bool×Runner)))=>match x2 with
  | .inl ya_3=>
   some (false,ya_3)
  | .inr yb_3=>
   some (true,yb_3.2)
theorem we(hR:aU R)(dp:Nat)(hp:HP)(k0:Key)(hk_k0:k0.dp<dp)(hz:aN dp hp)(c0:Runner)(a0:Stmt)(a1:Int)(r:(Bool×Runner))(h:kj R c0 a0 a1=some r):sB dp hp k0 c0 a0 a1 r:=
 aK ZT (bt<|.or (du<|.ex fun (r2:((List Stmt)×Int))=>ao (.v (.tp [(.l 88 (r2.1.map aH)),(I r2.2)]))<|ao (.h (boxes dp [(4,(af a0))] (ad hp k0 (aa c0))))<|.ex fun (r4:(Bool×Runner))=>ao (.v (.b r4.1))<|ao (.h (boxes dp [] (ad hp k0 (aa r4.2))))<|ao (.bx [])<|ao (.h (ad hp k0 (aa r4.2)))<|.nil) (bf<|.or (.ex fun (ya_3:Runner)=>ao (.lp .ret ⟨[(6,(.b false))],[],ad hp k0 (aa ya_3)⟩)<|.nil) (.ex fun (yb_3:(Bool×Runner))=>ao (.lp (.ex 0) ⟨[(0,(.p k0 0)),(2,(I a1)),(4,(.p ⟨dp,4⟩ 0)),(26,(.b yb_3.1))],[(4,(af a0))],ad hp k0 (aa yb_3.2)⟩)<|.nil))) fun L=>ai ((by simp [af,AV.aI,AV.aJ,AV.deep,AV.bn,aj hk_k0,Nat.le_of_lt hk_k0]):(((.a (af a0)):AV).deep dp&&(([(0,(.p k0 0)),(1,(.a (af a0))),(2,(I a1))]:List (Nat×AV)).all (fun y=>y.2.aI ⟨dp,4⟩)&&([]:List (Nat×List AV)).all (fun y=>AV.aJ ⟨dp,4⟩ y.2)))=true)<|ai (rN dp)<|a8 h (fun h1 h=>ai h1<|ai (rN dp)<|ai tt<|aP h fun r2 ek3 h=>have ek3:=cO hk_k0 (qK (dp+1) (boxes dp [(4,(af a0))] (ad hp k0 (aa c0))) k0 (Nat.lt_succ_of_lt hk_k0) (az (ab hk_k0 (hz))) c0 a0 a1 _ ek3);ai ek3<|eY<|aP h fun r4 ek5 h=>have ek5:=cO hk_k0 (hR.f_run_Runner_all (dp+1) (boxes dp [] (ad hp k0 (aa c0))) k0 (Nat.lt_succ_of_lt hk_k0) (az (ab hk_k0 (hz))) c0 r2.1 r2.2 _ ek5);ai ek5<|ai (cL ek5 (by kernel_rfl) (by kernel_rfl))<|ai (cM ek5 (ab hk_k0 (hz)))<|L h) (fun h1 h=>ai h1<|cN h (ef (wV R hR dp hp k0 hk_k0 hz a0 a1) c0) (fun ya_3 h=>L h) (fun yb_3 h=>L h))
def lq:Option (Bool×Runner):=
 (eQ c0).bind fun (r1:(Bool×Runner))=>
 if r1.1=true then
  if (a0.Kind==2)=true then
   (R.f_run_Runner_call r1.2 a0).bind fun (r5:(Bool×Runner))=>
   some (r5.1,r5.2)
  else
   if 7≤a0.Kind then
    (R.f_run_Runner_inner r1.2 a0 a1).bind fun (r6:(Bool×Runner))=>
    some (r6.1,r6.2)
   else
    (kK r1.2 a0 a1).bind fun (r6:Runner)=>
    some (true,r6)
 else
  some (false,r1.2)
theorem xP(hR:aU R)(dp:Nat)(hp:HP)(k0:Key)(hk_k0:k0.dp<dp)(hz:aN dp hp)(c0:Runner)(a0:Stmt)(a1:Int)(r:(Bool×Runner))(h:lq R c0 a0 a1=some r):uq dp hp k0 c0 a0 a1 r:=
 aK Zt (.ex fun (r1:(Bool×Runner))=>ao (.v (.b r1.1))<|ao (.h (boxes dp [(4,(af a0))] (ad hp k0 (aa r1.2))))<|ao (.bx [(4,(af a0))])<|ao (.h (ad hp k0 (aa r1.2)))<|.or (sg<|.or (du<|.ex fun (r5:(Bool×Runner))=>ao (.v (.b r5.1))<|ao (.h (boxes dp [(4,(af a0))] (ad hp k0 (aa r5.2))))<|ao (.bx [(4,(af a0))])<|ao (.h (ad hp k0 (aa r5.2)))<|.nil) (sg<|.or (du<|.ex fun (r6:(Bool×Runner))=>ao (.v (.b r6.1))<|ao (.h (boxes dp [(4,(af a0))] (ad hp k0 (aa r6.2))))<|ao (.bx [(4,(af a0))])<|ao (.h (ad hp k0 (aa r6.2)))<|.nil) (sg<|.ex fun (r6:Runner)=>ao (.v (.tp []))<|ao (.h (boxes dp [(4,(af a0))] (ad hp k0 (aa r6))))<|ao (.bx [(4,(af a0))])<|ao (.h (ad hp k0 (aa r6)))<|.nil))) (bt<|.nil)) fun L=>ai ((by simp [af,AV.aI,AV.aJ,AV.deep,AV.bn,aj hk_k0,Nat.le_of_lt hk_k0]):(((.a (af a0)):AV).deep dp&&(([(0,(.p k0 0)),(1,(.a (af a0))),(2,(I a1))]:List (Nat×AV)).all (fun y=>y.2.aI ⟨dp,4⟩)&&([]:List (Nat×List AV)).all (fun y=>AV.aJ ⟨dp,4⟩ y.2)))=true)<|eY<|aP h fun r1 ek2 h=>have ek2:=cO hk_k0 (jf (dp+1) (boxes dp [(4,(af a0))] (ad hp k0 (aa c0))) k0 (Nat.lt_succ_of_lt hk_k0) (az (ab hk_k0 (hz))) c0 _ ek2);ai ek2<|ai (cL ek2 (by kernel_rfl) (by kernel_rfl))<|ai (cM ek2 (ab hk_k0 (hz)))<|a8 h (fun h3 h=>ai (congrArg not h3)<|ai (rN dp)<|a8 h (fun h4 h=>ai h4<|ai (rN dp)<|eY<|aP h fun r5 ek6 h=>have ek6:=cO hk_k0 (hR.f_run_Runner_call (dp+1) (boxes dp [(4,(af a0))] (ad hp k0 (aa r1.2))) k0 (Nat.lt_succ_of_lt hk_k0) (az (ab hk_k0 (hz))) r1.2 a0 _ ek6);ai ek6<|ai (cL ek6 (by kernel_rfl) (by kernel_rfl))<|ai (cM ek6 (ab hk_k0 (hz)))<|L h) (fun h4 h=>ai h4<|ai (rN dp)<|cb h (fun h5 h=>ai (decide_eq_true h5)<|ai (rN dp)<|eY<|aP h fun r6 ek7 h=>have ek7:=cO hk_k0 (hR.f_run_Runner_inner (dp+1) (boxes dp [(4,(af a0))] (ad hp k0 (aa r1.2))) k0 (Nat.lt_succ_of_lt hk_k0) (az (ab hk_k0 (hz))) r1.2 a0 a1 _ ek7);ai ek7<|ai (cL ek7 (by kernel_rfl) (by kernel_rfl))<|ai (cM ek7 (ab hk_k0 (hz)))<|L h) (fun h5 h=>ai (decide_eq_false h5)<|ai (rN dp)<|eY<|aP h fun r6 ek7 h=>have ek7:=cO hk_k0 (sA (dp+1) (boxes dp [(4,(af a0))] (ad hp k0 (aa r1.2))) k0 (Nat.lt_succ_of_lt hk_k0) (az (ab hk_k0 (hz))) r1.2 a0 a1 _ ek7);ai ek7<|ai (cL ek7 (by kernel_rfl) (by kernel_rfl))<|ai (cM ek7 (ab hk_k0 (hz)))<|L h))) (fun h3 h=>ai (congrArg not h3)<|L h)
def aY:Nat→bK
 | 0=>⟨fun z0 z1 z2=>none,fun z0 z1=>none,fun z0 z1 z2=>none,fun z0 z1 z2=>none⟩
 | n+1=>⟨ll (aY n),kM (aY n),kj (aY n),lq (aY n)⟩
theorem bq:∀ n,aU (aY n)
 | 0=>⟨fun _ _ _ _ _ _ _ _ r h=>(by cases h),fun _ _ _ _ _ _ _ r h=>(by cases h),fun _ _ _ _ _ _ _ _ r h=>(by cases h),fun _ _ _ _ _ _ _ _ r h=>(by cases h)⟩
 | n+1=>⟨fun dp hp k0 hk_k0 hz c0 a0 a1 r h=>xL _ (bq n) dp hp k0 hk_k0 hz c0 a0 a1 r h,fun dp hp k0 hk_k0 hz c0 a0 r h=>wU _ (bq n) dp hp k0 hk_k0 hz c0 a0 r h,fun dp hp k0 hk_k0 hz c0 a0 a1 r h=>we _ (bq n) dp hp k0 hk_k0 hz c0 a0 a1 r h,fun dp hp k0 hk_k0 hz c0 a0 a1 r h=>xP _ (bq n) dp hp k0 hk_k0 hz c0 a0 a1 r h⟩
end
section
variable (c0:Runner)(a0:(List Stmt))(a1:Int)(dp:Nat)(hp:HP)(k0:Key)
def mh:Option (Bool×Runner):=ev fun n=>(aY n).f_run_Runner_all c0 a0 a1
theorem yI(hk_k0:k0.dp<dp)(hz:aN dp hp)(c0:Runner)(a0:(List Stmt))(a1:Int)(r:(Bool×Runner))(h:mh c0 a0 a1=some r):pZ dp hp k0 c0 a0 a1 r:=by
 obtain ⟨n,hn⟩:=qh h
 exact (bq n).f_run_Runner_all dp hp k0 hk_k0 hz c0 a0 a1 r hn
def kN(r3:(Bool×Runner))(w0_1:Int):Option (Int×Int):=
 some (w0_1,w0_1)
abbrev zl(r3:(Bool×Runner))(w0_1:Int)(x:(Int×Int)):aR×St:=(.ret,⟨[(2,(.p ⟨dp,2⟩ 0))],[(2,((iU r3.2.aA).set 4 (I x.1)))],ad hp k0 ((e8 r3.2).set 15 (I x.2))⟩)
theorem q9(hk_k0:k0.dp<dp)(hz:aN dp hp)(r3:(Bool×Runner))(w0_1:Int)(x:(Int×Int))(h:kN r3 w0_1=some x):run G Ω0 ⟨dp,false⟩ NH ⟨[(0,(.p k0 0)),(2,(.p ⟨dp,2⟩ 0))],[(2,[(.l 106 (([]:List Event).map aO)),(.l 3 (([]:List Int).map (I))),(.l 3 (([]:List Int).map (I))),(I 0),(I 0),(I 0)])],ad hp k0 ((aa r3.2).set 15 (I w0_1))⟩=some (zl dp hp k0 r3 w0_1 x):=
 tc (bf<|ao (.l ((aa r3.2).set 15 (I w0_1)))<|bf<|ao (.h (ad hp k0 ((cG r3.2).set 15 (I w0_1))))<|bf<|ao (.l ((cG r3.2).set 15 (I w0_1)))<|bf<|ao (.h (ad hp k0 ((mu r3.2).set 15 (I w0_1))))<|bf<|ao (.l ((mu r3.2).set 15 (I w0_1)))<|bf<|ao (.h (ad hp k0 ((e8 r3.2).set 15 (I w0_1))))<|bf<|ao (.l ((e8 r3.2).set 15 (I w0_1)))<|du<|.nil) fun L=>ai ff<|ai (Nat.ne_of_lt hk_k0)<|ai (aG hp k0 ((aa r3.2).set 15 (I w0_1)))<|ai (Nat.ne_of_lt hk_k0)<|ai (bh hp k0 ((aa r3.2).set 15 (I w0_1)) ((cG r3.2).set 15 (I w0_1)))<|ai ff<|ai (Nat.ne_of_lt hk_k0)<|ai (aG hp k0 ((cG r3.2).set 15 (I w0_1)))<|ai (Nat.ne_of_lt hk_k0)<|ai (bh hp k0 ((cG r3.2).set 15 (I w0_1)) ((mu r3.2).set 15 (I w0_1)))<|ai ff<|ai (Nat.ne_of_lt hk_k0)<|ai (aG hp k0 ((mu r3.2).set 15 (I w0_1)))<|ai (Nat.ne_of_lt hk_k0)<|ai (bh hp k0 ((mu r3.2).set 15 (I w0_1)) ((e8 r3.2).set 15 (I w0_1)))<|ai (Nat.ne_of_lt hk_k0)<|ai (aG hp k0 ((e8 r3.2).set 15 (I w0_1)))<|ai ff<|ai (rN dp)<|ai tt<|ai (rN dp)<|L h
abbrev CE(dp:Nat)(hp:HP)(k0:Key)(c0:Runner)(r:(RunT×Runner)):aW×HP:=(.ret (.a (iU r.1)),ad hp k0 (e8 r.2))
def qL:Option (RunT×Runner):=
 (c0.first[c0.p.Funcs.length]?).bind fun (y1:Int)=>
 (mh c0 c0.p.Main y1).bind fun (r3:(Bool×Runner))=>
 if r3.1=true then
  (kN r3 1).bind fun (x6:(Int×Int))=>
  some ((⟨r3.2.aA.Events,r3.2.aA.Vars,r3.2.aA.Taken,r3.2.aA.Steps,x6.1,r3.2.aA.Stop⟩:RunT),(⟨r3.2.p,r3.2.ins,r3.2.fuel,r3.2.first,(⟨r3.2.aA.Events,r3.2.aA.Vars,r3.2.aA.Taken,r3.2.aA.Steps,x6.2,r3.2.aA.Stop⟩:RunT)⟩:Runner))
 else
  (kN r3 r3.2.aA.End).bind fun (x6:(Int×Int))=>
  some ((⟨r3.2.aA.Events,r3.2.aA.Vars,r3.2.aA.Taken,r3.2.aA.Steps,x6.1,r3.2.aA.Stop⟩:RunT),(⟨r3.2.p,r3.2.ins,r3.2.fuel,r3.2.first,(⟨r3.2.aA.Events,r3.2.aA.Vars,r3.2.aA.Taken,r3.2.aA.Steps,x6.2,r3.2.aA.Stop⟩:RunT)⟩:Runner))
theorem zm(hk_k0:k0.dp<dp)(hz:aN dp hp)(c0:Runner)(r:(RunT×Runner))(h:qL c0=some r):call G Ω0 ⟨dp,false⟩ 47 [(.p k0 0)] (ad hp k0 (aa c0))=some (CE dp hp k0 c0 r):=
 aK G47 (bf<|ao (.l (aa c0))<|bf<|ao (.l (aa c0))<|bf<|ao (.l (aa c0))<|ao (.i (c0.p.Funcs.length:Int))<|ao (.n c0.p.Funcs.length)<|bf<|ao (.l (aa c0))<|xI fun y1=>bf<|ao (.l (aa c0))<|ao (.v (I y1))<|.ex fun (r3:(Bool×Runner))=>ao (.v (.b r3.1))<|ao (.h (boxes dp [(2,[(.l 106 (([]:List Event).map aO)),(.l 3 (([]:List Int).map (I))),(.l 3 (([]:List Int).map (I))),(I 0),(I 0),(I 0)])] (ad hp k0 (aa r3.2))))<|ao (.bx [(2,[(.l 106 (([]:List Event).map aO)),(.l 3 (([]:List Int).map (I))),(.l 3 (([]:List Int).map (I))),(I 0),(I 0),(I 0)])])<|ao (.h (ad hp k0 (aa r3.2)))<|.or (kD<|ao (.l (aa r3.2))<|bf<|ao (.h (ad hp k0 ((aa r3.2).set 15 (I 1))))<|.fb<|.ex fun (x6:(Int×Int))=>ao (.fr .ret ⟨[(2,(.p ⟨dp,2⟩ 0))],[(2,((iU r3.2.aA).set 4 (I x6.1)))],ad hp k0 ((e8 r3.2).set 15 (I x6.2))⟩)<|.nil) (bf<|.fb<|.ex fun (x6:(Int×Int))=>ao (.fr .ret ⟨[(2,(.p ⟨dp,2⟩ 0))],[(2,((iU r3.2.aA).set 4 (I x6.1)))],ad hp k0 ((e8 r3.2).set 15 (I x6.2))⟩)<|.nil)) fun L=>ai ((by simp [AV.aI,AV.aJ,AV.deep,AV.bn,aj hk_k0,Nat.le_of_lt hk_k0]):(([(0,(.p k0 0))]:List (Nat×AV)).all (fun y=>y.2.aI ⟨dp,2⟩)&&([]:List (Nat×List AV)).all (fun y=>AV.aJ ⟨dp,2⟩ y.2))=true)<|ai tt<|ai tt<|ai tt<|ai tt<|ai tt<|ai tt<|ai (Nat.ne_of_lt hk_k0)<|ai (aG hp k0 (aa c0))<|lz<|ai (Nat.ne_of_lt hk_k0)<|ai (aG hp k0 (aa c0))<|oT<|ai (Nat.ne_of_lt hk_k0)<|ai (aG hp k0 (aa c0))<|ai tt<|ai (aL ba c0.p.Funcs)<|ai tt<|ai (rfl:(c0.p.Funcs.length:Int)=(c0.p.Funcs.length:Int))<|ai (Nat.ne_of_lt hk_k0)<|ai (aG hp k0 (aa c0))<|aP h fun y1 h2 h=>ai (aD (I) h2)<|ai tt<|ai (Nat.ne_of_lt hk_k0)<|ai (aG hp k0 (aa c0))<|ai (aD (I) h2)<|xy<|aP h fun r3 ek4 h=>have ek4:=cO hk_k0 (yI (dp+1) (boxes dp [(2,[(.l 106 (([]:List Event).map aO)),(.l 3 (([]:List Int).map (I))),(.l 3 (([]:List Int).map (I))),(I 0),(I 0),(I 0)])] (ad hp k0 (aa c0))) k0 (Nat.lt_succ_of_lt hk_k0) (az (ab hk_k0 (hz))) c0 c0.p.Main y1 _ ek4);ai ek4<|ai (cL ek4 (by kernel_rfl) (by kernel_rfl))<|ai (cM ek4 (ab hk_k0 (hz)))<|a8 h (fun h5 h=>ai h5<|ai ff<|ai (Nat.ne_of_lt hk_k0)<|ai (aG hp k0 (aa r3.2))<|ai tt<|ai (Nat.ne_of_lt hk_k0)<|ai (bh hp k0 (aa r3.2) ((aa r3.2).set 15 (I 1)))<|aQ h (q9 dp hp k0 hk_k0 hz r3 1) fun x6 h=>ai (rN dp)<|L h) (fun h5 h=>ai h5<|aQ h (q9 dp hp k0 hk_k0 hz r3 r3.2.aA.End) fun x6 h=>ai (rN dp)<|L h)
end
section
variable (a0:Program)(a1:(List (List Int)))(a2:Int)
abbrev KA(a0:Program)(a1:(List (List Int)))(a2:Int)(r:(RunT×Int)):aW×HP:=(.ret (.tp [(.a (iU r.1)),(I r.2)]),H0)
def sC:Option (RunT×Int):=
 (pC a0 a1 a2).bind fun (r1:Int)=>
 if (r1 !=0)=true then
  some ((⟨([]:List Event),([]:List Int),([]:List Int),0,0,0⟩:RunT),r1)
 else
  (sw a0 a1 a2).bind fun (r4:Runner)=>
  (qL r4).bind fun (r6:(RunT×Runner))=>
  some (r6.1,0)
theorem Gj(r:(RunT×Int))(h:sC a0 a1 a2=some r):call G Ω0 E0 15 [(.a (ay a0)),(.l 25 (a1.map (bD 3 (I)))),(I a2)] H0=some (KA a0 a1 a2 r):=
 aK G15 (bt<|xI fun r1=>.or (dE<|.nil) (sg<|.ex fun (r4:Runner)=>ao (.l (aa r4))<|ao (.h (boxes 0 [(3,(ay a0)),(6,[(.l 106 (([]:List Event).map aO)),(.l 3 (([]:List Int).map (I))),(.l 3 (([]:List Int).map (I))),(I 0),(I 0),(I 0)])] H0))<|ao (.bx [(3,(ay a0)),(6,[(.l 106 (([]:List Event).map aO)),(.l 3 (([]:List Int).map (I))),(.l 3 (([]:List Int).map (I))),(I 0),(I 0),(I 0)])])<|ao (.h (H0))<|.ex fun (r6:(RunT×Runner))=>ao (.v (.a (iU r6.1)))<|ao (.h (boxes 0 [(20,(e8 r6.2)),(3,(ay a0)),(6,[(.l 106 (([]:List Event).map aO)),(.l 3 (([]:List Int).map (I))),(.l 3 (([]:List Int).map (I))),(I 0),(I 0),(I 0)])] H0))<|ao (.bx [(20,(e8 r6.2)),(3,(ay a0)),(6,[(.l 106 (([]:List Event).map aO)),(.l 3 (([]:List Int).map (I))),(.l 3 (([]:List Int).map (I))),(I 0),(I 0),(I 0)])])<|ao (.h (H0))<|du<|.nil)) fun L=>ai tt<|ai tt<|ai (rfl:Z0)<|aQ h (wR a0 a1 a2) fun r1 h=>a8 h (fun h3 h=>ai h3<|ai ff<|ai (rfl:Z0)<|ai tt<|ai (rfl:Z0)<|ai (rfl:Z0)<|L h) (fun h3 h=>ai h3<|ai (rfl:Z0)<|ai ff<|ai tt<|aP h fun r4 ek5 h=>have ek5:call G Ω0 ⟨0+1,false⟩ 20 [(.a (ay a0)),(.l 25 (a1.map (bD 3 (I)))),(I a2)] (boxes 0 [(3,(ay a0)),(6,[(.l 106 (([]:List Event).map aO)),(.l 3 (([]:List Int).map (I))),(.l 3 (([]:List Int).map (I))),(I 0),(I 0),(I 0)])] H0)=some (.new (aa r4),boxes 0 [(3,(ay a0)),(6,[(.l 106 (([]:List Event).map aO)),(.l 3 (([]:List Int).map (I))),(.l 3 (([]:List Int).map (I))),(I 0),(I 0),(I 0)])] H0):=zd (0+1) (boxes 0 [(3,(ay a0)),(6,[(.l 106 (([]:List Event).map aO)),(.l 3 (([]:List Int).map (I))),(.l 3 (([]:List Int).map (I))),(I 0),(I 0),(I 0)])] H0) (az (dJ 0)) a0 a1 a2 _ ek5;ai ek5<|ai (cL ek5 (by kernel_rfl) (by kernel_rfl))<|ai (cM ek5 (dJ 0))<|xy<|aP h fun r6 ek7 h=>have ek7:call G Ω0 ⟨0+1,false⟩ 47 [(.p ⟨0,20⟩ 0)] (boxes 0 [(20,(aa r4)),(3,(ay a0)),(6,[(.l 106 (([]:List Event).map aO)),(.l 3 (([]:List Int).map (I))),(.l 3 (([]:List Int).map (I))),(I 0),(I 0),(I 0)])] H0)=some (.ret (.a (iU r6.1)),boxes 0 [(20,(e8 r6.2)),(3,(ay a0)),(6,[(.l 106 (([]:List Event).map aO)),(.l 3 (([]:List Int).map (I))),(.l 3 (([]:List Int).map (I))),(I 0),(I 0),(I 0)])] H0):=cT (cz (bx1:=[(20,(aa r4)),(3,(ay a0)),(6,[(.l 106 (([]:List Event).map aO)),(.l 3 (([]:List Int).map (I))),(.l 3 (([]:List Int).map (I))),(I 0),(I 0),(I 0)])]) (by kernel_rfl) (by kernel_rfl)) (cz (bx1:=[(20,(e8 r6.2)),(3,(ay a0)),(6,[(.l 106 (([]:List Event).map aO)),(.l 3 (([]:List Int).map (I))),(.l 3 (([]:List Int).map (I))),(I 0),(I 0),(I 0)])]) (by kernel_rfl) (by kernel_rfl)) (zm (0+1) (boxes 0 [(20,(aa r4)),(3,(ay a0)),(6,[(.l 106 (([]:List Event).map aO)),(.l 3 (([]:List Int).map (I))),(.l 3 (([]:List Int).map (I))),(I 0),(I 0),(I 0)])] H0) ⟨0,20⟩ (Nat.lt_succ_self 0) (az (dJ 0)) r4 _ ek7);ai ek7<|ai (cL ek7 (by kernel_rfl) (by kernel_rfl))<|ai (cM ek7 (dJ 0))<|Ji<|L h)
end
end
end Go.Proofs.YtdpjofmmokaobaaGreat.A
