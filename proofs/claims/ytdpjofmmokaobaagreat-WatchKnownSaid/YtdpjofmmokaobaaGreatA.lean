/- Functions of the program as plain functions, by program. -/
import Derived.Test.YtdpjofmmokaobaaGreatAP1
set_option maxRecDepth 100000
set_option linter.unusedSectionVars false
set_option linter.unusedVariables false
set_option linter.unusedSimpArgs false
set_option linter.constructorNameAsVariable false
namespace Go.Proofs.YtdpjofmmokaobaaGreat.A
open Go
noncomputable section
variable [Lp]
section
variable (dp:Nat)(hp:HP)(k0:Key)(c0:Runner)(a0:Stmt)
abbrev yI(dp:Nat)(hp:HP)(k0:Key)(c0:Runner)(a0:Stmt)(r:Runner):aX×HP:=(.ret (.tp []),ad hp k0 (aa r))
def kv:Option Runner:=
 (cQ a0.Other).bind fun (j1:Nat)=>
 (c0.p.Funcs[j1]?).bind fun (y3:Func)=>
 (kK y3.Result c0.aK.Vars).bind fun (r5:Int)=>
 (cQ a0.Var).bind fun (j7:Nat)=>
 (c0.aK.Vars[j7]?).bind fun (y9:Int)=>
 some (⟨c0.p,c0.ins,c0.fuel,c0.first,(⟨c0.aK.Events,c0.aK.Vars.set j7 r5,c0.aK.Taken,c0.aK.Steps,c0.aK.End,c0.aK.Stop⟩:RunT)⟩:Runner)
theorem wv(hk_k0:k0.dp<dp)(hz:aO dp hp)(c0:Runner)(a0:Stmt)(r:Runner)(h:kv c0 a0=some r):call G Ω0 ⟨dp,false⟩ 145 [(.p k0 0),(.a (ah a0))] (ad hp k0 (aa c0))=some (yI dp hp k0 c0 a0 r):=
 aF ZP (bf<|ao (.l (aa c0))<|kT<|ao (.l (aa c0))<|bt<|xN fun j1=>.ex fun (y3:Func)=>ao (.v (.a (ct y3)))<|bf<|ao (.l (aa c0))<|bf<|ao (.l (aa c0))<|xI fun r5=>xN fun j7=>bf<|ao (.l (aa c0))<|xI fun y9=>bf<|ao (.l (aa c0))<|ao (.v (I y9))<|ao (.l ((c0.aK.Vars.set j7 r5).map (I)))<|bf<|ao (.l (aa c0))<|bf<|ao (.h (ad hp k0 ((br c0).set 12 (.o 3 ((c0.aK.Vars.set j7 r5).map (I))))))<|.nil) fun L=>ai ((by simp [ah,AV.aG,AV.aI,AV.deep,AV.bz,aj hk_k0,Nat.le_of_lt hk_k0]):(((.a (ah a0)):AV).deep dp&&(([(0,(.p k0 0)),(1,(.a (ah a0)))]:List (Nat×AV)).all (fun y=>y.2.aG ⟨dp,3⟩)&&([]:List (Nat×List AV)).all (fun y=>AV.aI ⟨dp,3⟩ y.2)))=true)<|oD<|ai (Nat.ne_of_lt hk_k0)<|ai (aN hp k0 (aa c0))<|cR<|ai (rN dp)<|oD<|ai (Nat.ne_of_lt hk_k0)<|ai (aN hp k0 (aa c0))<|cR<|ai (rN dp)<|ai tt<|eS h fun j1 h2 h=>ai h2<|aZ h fun y3 h4 h=>ai (aD a7 h4)<|ai tt<|ai tt<|ai tt<|ai tt<|ai tt<|ai tt<|ai tt<|ai (Nat.ne_of_lt hk_k0)<|ai (aN hp k0 (aa c0))<|ai tt<|ai (Nat.ne_of_lt hk_k0)<|ai (aN hp k0 (aa c0))<|aP h (nV y3.Result c0.aK.Vars) fun r5 h=>qR<|eS h fun j7 h8 h=>ai h8<|ai (Nat.ne_of_lt hk_k0)<|ai (aN hp k0 (aa c0))<|aZ h fun y9 h10 h=>ai (aD (I) h10)<|ai ff<|ai (Nat.ne_of_lt hk_k0)<|ai (aN hp k0 (aa c0))<|ai (aD (I) h10)<|ai (map_set .. : (c0.aK.Vars.map (I)).set j7 (I r5)=(c0.aK.Vars.set j7 r5).map (I))<|ai (Nat.ne_of_lt hk_k0)<|ai (aN hp k0 (aa c0))<|ai (Nat.ne_of_lt hk_k0)<|ai (bh hp k0 (aa c0) ((br c0).set 12 (.o 3 ((c0.aK.Vars.set j7 r5).map (I)))))<|L h
end
section
variable (dp:Nat)(hp:HP)(k0:Key)(c0:Runner)(a0:aC)
abbrev Aa(dp:Nat)(hp:HP)(k0:Key)(c0:Runner)(a0:aC)(r:Bool):aX×HP:=(.ret (.b r),ad hp k0 (aa c0))
def iD:Option Bool:=
 (kK a0 c0.aK.Vars).bind fun (r1:Int)=>
 some (r1 !=0)
theorem qF(hk_k0:k0.dp<dp)(hz:aO dp hp)(c0:Runner)(a0:aC)(r:Bool)(h:iD c0 a0=some r):call G Ω0 ⟨dp,true⟩ 148 [(.p k0 0),(.a (bA a0))] (ad hp k0 (aa c0))=some (Aa dp hp k0 c0 a0 r):=
 aF ZS (kT<|ao (.l (aa c0))<|bf<|ao (.l (aa c0))<|xI fun r1=>.nil) fun L=>ai ((by simp [bA,AV.aG,AV.aI,AV.deep,AV.bz,aj hk_k0,Nat.le_of_lt hk_k0]):(((.a (bA a0)):AV).deep dp&&(([(0,(.p k0 0)),(1,(.a (bA a0)))]:List (Nat×AV)).all (fun y=>y.2.aG ⟨dp,3⟩)&&([]:List (Nat×List AV)).all (fun y=>AV.aI ⟨dp,3⟩ y.2)))=true)<|ai tt<|ai (rN dp)<|oD<|ai (Nat.ne_of_lt hk_k0)<|ai (aN hp k0 (aa c0))<|ai tt<|ai (Nat.ne_of_lt hk_k0)<|ai (aN hp k0 (aa c0))<|aP h (nV a0 c0.aK.Vars) fun r1 h=>cR<|L h
end
section
variable (dp:Nat)(hp:HP)(k0:Key)(c0:Runner)(a0:Stmt)(a1:Int)
abbrev Ab(dp:Nat)(hp:HP)(k0:Key)(c0:Runner)(a0:Stmt)(a1:Int)(r:((List Stmt)×Int)):aX×HP:=(.ret (.tp [(.l 88 (r.1.map aH)),(I r.2)]),ad hp k0 (aa c0))
def oT:Option ((List Stmt)×Int):=
 (iD c0 a0.Expr).bind fun (r1:Bool)=>
 if r1=true then
  if IntKind.i64.wrap (a1+1)=a1+1 then
   some (a0.Then,(a1+1))
  else none
 else
  if IntKind.i64.wrap (a1+1)=a1+1 then
   (lO a0.Then).bind fun (r5:Int)=>
   if IntKind.i64.wrap ((a1+1)+r5)=(a1+1)+r5 then
    some (a0.Else,((a1+1)+r5))
   else none
  else none
theorem xp(hk_k0:k0.dp<dp)(hz:aO dp hp)(c0:Runner)(a0:Stmt)(a1:Int)(r:((List Stmt)×Int))(h:oT c0 a0 a1=some r):call G Ω0 ⟨dp,true⟩ 147 [(.p k0 0),(.a (ah a0)),(I a1)] (ad hp k0 (aa c0))=some (Ab dp hp k0 c0 a0 a1 r):=
 aF ZR (bt<|xB fun r1=>ao (.h (boxes dp [(4,(ah a0))] (ad hp k0 (aa c0))))<|.or (dE<|ao (.i (a1+1))<|.nil) (Ai<|ao (.i (a1+1))<|bt<|xI fun r5=>ao (.i ((a1+1)+r5))<|.nil)) fun L=>ai ((by simp [ah,AV.aG,AV.aI,AV.deep,AV.bz,aj hk_k0,Nat.le_of_lt hk_k0]):(((.a (ah a0)):AV).deep dp&&(([(0,(.p k0 0)),(1,(.a (ah a0))),(2,(I a1))]:List (Nat×AV)).all (fun y=>y.2.aG ⟨dp,4⟩)&&([]:List (Nat×List AV)).all (fun y=>AV.aI ⟨dp,4⟩ y.2)))=true)<|ai (rN dp)<|ai tt<|aZ h fun r1 ek2 h=>have ek2:=cO hk_k0 (qF (dp+1) (boxes dp [(4,(ah a0))] (ad hp k0 (aa c0))) k0 (Nat.lt_succ_of_lt hk_k0) (aE (ab hk_k0 (hz))) c0 a0.Expr _ ek2);ai ek2<|ba h (fun h3 h=>ai h3<|ai (rN dp)<|aW h fun w4 h=>ai w4<|L h) (fun h3 h=>Fg h3<|ai (rN dp)<|cR<|aW h fun w4 h=>ai w4<|cR<|ai (rN dp)<|ai tt<|aP h (pG a0.Then) fun r5 h=>ai tt<|aW h fun w7 h=>ai w7<|cR<|L h)
end
section
variable (dp:Nat)(hp:HP)(k0:Key)(c0:Runner)(a0:Int)(a1:Int)(a2:Int)(a3:Int)
abbrev yi(dp:Nat)(hp:HP)(k0:Key)(c0:Runner)(a0:Int)(a1:Int)(a2:Int)(a3:Int)(r:Runner):aX×HP:=(.ret (.tp []),ad hp k0 (aa r))
def eR:Option Runner:=
 if c0.aK.Events.length+([(⟨a0,a1,a2,a3⟩:Event)]).length≤1000000000 then
  some (⟨c0.p,c0.ins,c0.fuel,c0.first,(⟨c0.aK.Events++([(⟨a0,a1,a2,a3⟩:Event)]),c0.aK.Vars,c0.aK.Taken,c0.aK.Steps,c0.aK.End,c0.aK.Stop⟩:RunT)⟩:Runner)
 else none
theorem kL(hk_k0:k0.dp<dp)(hz:aO dp hp)(c0:Runner)(a0:Int)(a1:Int)(a2:Int)(a3:Int)(r:Runner)(h:eR c0 a0 a1 a2 a3=some r):call G Ω0 ⟨dp,false⟩ 151 [(.p k0 0),(I a0),(I a1),(I a2),(I a3)] (ad hp k0 (aa c0))=some (yi dp hp k0 c0 a0 a1 a2 a3 r):=
 aF ZV (bf<|ao (.l (aa c0))<|ao (.l (([(⟨a0,a1,a2,a3⟩:Event)]).map bL))<|bf<|ao (.l (aa c0))<|bf<|ao (.l (aa c0))<|bf<|ao (.h (ad hp k0 ((e9 c0).set 11 .u)))<|ao (.l ((c0.aK.Events++([(⟨a0,a1,a2,a3⟩:Event)])).map bL))<|bf<|ao (.l ((e9 c0).set 11 .u))<|bf<|ao (.h (ad hp k0 ((e9 c0).set 11 (.o 106 ((c0.aK.Events++([(⟨a0,a1,a2,a3⟩:Event)])).map bL)))))<|.nil) fun L=>ai (Nat.ne_of_lt hk_k0)<|ai (aN hp k0 (aa c0))<|ai (rfl:[(.a [(I a0),(I a1),(I a2),(I a3)])]=([(⟨a0,a1,a2,a3⟩:Event)]).map bL)<|ai ff<|ai (Nat.ne_of_lt hk_k0)<|ai (aN hp k0 (aa c0))<|ai (Nat.ne_of_lt hk_k0)<|ai (aN hp k0 (aa c0))<|ai (Nat.ne_of_lt hk_k0)<|ai (bh hp k0 (aa c0) ((e9 c0).set 11 .u))<|aW h fun h1 h=>ai ((gw bL (n:=4) (fun _=>rfl) ([(⟨a0,a1,a2,a3⟩:Event)])):(([(⟨a0,a1,a2,a3⟩:Event)]).map bL).all (fun e=>e.nc==4)=true)<|ai ((kO h1 (by decide)):((c0.aK.Events.map bL).length+(([(⟨a0,a1,a2,a3⟩:Event)]).map bL).length)*32≤140737488355328)<|ai ((kP h1):(c0.aK.Events.map bL).length+(([(⟨a0,a1,a2,a3⟩:Event)]).map bL).length≤maxLen)<|ai (List.map_append.symm:c0.aK.Events.map bL++([(⟨a0,a1,a2,a3⟩:Event)]).map bL=(c0.aK.Events++([(⟨a0,a1,a2,a3⟩:Event)])).map bL)<|ai ff<|ai (Nat.ne_of_lt hk_k0)<|ai (aN hp k0 ((e9 c0).set 11 .u))<|ai (Nat.ne_of_lt hk_k0)<|ai (bh hp k0 ((e9 c0).set 11 .u) ((e9 c0).set 11 (.o 106 ((c0.aK.Events++([(⟨a0,a1,a2,a3⟩:Event)])).map bL))))<|L h
end
section
variable (c0:Runner)(a0:Stmt)(dp:Nat)(hp:HP)(k0:Key)(a1:Int)
def gD(w0_1:Int):Option ((List Int)×(List Int)):=
 (cQ a0.Other).bind fun (j13:Nat)=>
 (c0.aK.Taken[j13]?).bind fun (y15:Int)=>
 if IntKind.i64.wrap (y15+1)=y15+1 then
  (cQ a0.Var).bind fun (j18:Nat)=>
  (c0.aK.Vars[j18]?).bind fun (y20:Int)=>
  some (c0.aK.Vars.set j18 w0_1,c0.aK.Taken.set j13 (y15+1))
 else none
abbrev yJ(dp:Nat)(hp:HP)(k0:Key)(c0:Runner)(a0:Stmt)(w0_1:Int)(x:((List Int)×(List Int))):aQ×St:=(.ret,⟨[],[],ad hp k0 (((lU c0).set 12 (.o 3 (x.1.map (I)))).set 13 (.o 3 (x.2.map (I))))⟩)
theorem qU(hk_k0:k0.dp<dp)(hz:aO dp hp)(c0:Runner)(a0:Stmt)(w0_1:Int)(x:((List Int)×(List Int)))(h:gD c0 a0 w0_1=some x):run G Ω0 ⟨dp,false⟩ Jl ⟨[(0,(.p k0 0)),(4,(.p ⟨dp,4⟩ 0)),(6,(I w0_1))],[(4,(ah a0))],ad hp k0 (aa c0)⟩=some (yJ dp hp k0 c0 a0 w0_1 x):=
 va (bf<|ao (.l (aa c0))<|bt<|xN fun j13=>bf<|ao (.l (aa c0))<|xI fun y15=>bf<|ao (.l (aa c0))<|ao (.v (I y15))<|ao (.i (y15+1))<|ao (.n j13)<|bf<|ao (.l (aa c0))<|ao (.v (I y15))<|bf<|ao (.l (aa c0))<|ao (.v (I y15))<|ao (.l ((c0.aK.Taken.set j13 (y15+1)).map (I)))<|bf<|ao (.l (aa c0))<|bf<|ao (.h (ad hp k0 ((cH c0).set 13 (.o 3 ((c0.aK.Taken.set j13 (y15+1)).map (I))))))<|bf<|ao (.l ((cH c0).set 13 (.o 3 ((c0.aK.Taken.set j13 (y15+1)).map (I)))))<|bt<|xN fun j18=>bf<|ao (.l ((cH c0).set 13 (.o 3 ((c0.aK.Taken.set j13 (y15+1)).map (I)))))<|xI fun y20=>bf<|ao (.l ((cH c0).set 13 (.o 3 ((c0.aK.Taken.set j13 (y15+1)).map (I)))))<|ao (.v (I y20))<|ao (.l ((c0.aK.Vars.set j18 w0_1).map (I)))<|bf<|ao (.l ((cH c0).set 13 (.o 3 ((c0.aK.Taken.set j13 (y15+1)).map (I)))))<|bf<|ao (.h (ad hp k0 (((lU c0).set 12 (.o 3 ((c0.aK.Vars.set j18 w0_1).map (I)))).set 13 (.o 3 ((c0.aK.Taken.set j13 (y15+1)).map (I))))))<|.nil) fun L=>oD<|ai (Nat.ne_of_lt hk_k0)<|ai (aN hp k0 (aa c0))<|cR<|ai (rN dp)<|ai tt<|eS h fun j13 h14 h=>ai h14<|ai (Nat.ne_of_lt hk_k0)<|ai (aN hp k0 (aa c0))<|aZ h fun y15 h16 h=>ai (aD (I) h16)<|ai (Nat.ne_of_lt hk_k0)<|ai (aN hp k0 (aa c0))<|ai (aD (I) h16)<|aW h fun w17 h=>ai w17<|ai h14<|ai (Nat.ne_of_lt hk_k0)<|ai (aN hp k0 (aa c0))<|ai (aD (I) h16)<|ai ff<|ai (Nat.ne_of_lt hk_k0)<|ai (aN hp k0 (aa c0))<|ai (aD (I) h16)<|ai (map_set .. : (c0.aK.Taken.map (I)).set j13 (I (y15+1))=(c0.aK.Taken.set j13 (y15+1)).map (I))<|ai (Nat.ne_of_lt hk_k0)<|ai (aN hp k0 (aa c0))<|ai (Nat.ne_of_lt hk_k0)<|ai (bh hp k0 (aa c0) ((cH c0).set 13 (.o 3 ((c0.aK.Taken.set j13 (y15+1)).map (I)))))<|oD<|ai (Nat.ne_of_lt hk_k0)<|ai (aN hp k0 ((cH c0).set 13 (.o 3 ((c0.aK.Taken.set j13 (y15+1)).map (I)))))<|cR<|ai (rN dp)<|cR<|eS h fun j18 h19 h=>ai h19<|ai (Nat.ne_of_lt hk_k0)<|ai (aN hp k0 ((cH c0).set 13 (.o 3 ((c0.aK.Taken.set j13 (y15+1)).map (I)))))<|aZ h fun y20 h21 h=>ai (aD (I) h21)<|ai ff<|ai (Nat.ne_of_lt hk_k0)<|ai (aN hp k0 ((cH c0).set 13 (.o 3 ((c0.aK.Taken.set j13 (y15+1)).map (I)))))<|ai (aD (I) h21)<|ai (map_set .. : (c0.aK.Vars.map (I)).set j18 (I w0_1)=(c0.aK.Vars.set j18 w0_1).map (I))<|ai (Nat.ne_of_lt hk_k0)<|ai (aN hp k0 ((cH c0).set 13 (.o 3 ((c0.aK.Taken.set j13 (y15+1)).map (I)))))<|ai (Nat.ne_of_lt hk_k0)<|ai (bh hp k0 ((cH c0).set 13 (.o 3 ((c0.aK.Taken.set j13 (y15+1)).map (I)))) (((lU c0).set 12 (.o 3 ((c0.aK.Vars.set j18 w0_1).map (I)))).set 13 (.o 3 ((c0.aK.Taken.set j13 (y15+1)).map (I)))))<|L h
def gE(r2:Int)(w2_1:(List Int)):Option (Runner⊕Runner):=
 if (a0.Kind==4)=true then
  (eR (⟨c0.p,c0.ins,c0.fuel,c0.first,(⟨c0.aK.Events,w2_1,c0.aK.Taken,c0.aK.Steps,c0.aK.End,c0.aK.Stop⟩:RunT)⟩:Runner) 1 a1 a0.Other r2).bind fun (r10:Runner)=>
  some (.inl r10)
 else
  if (a0.Kind==5)=true then
   (eR (⟨c0.p,c0.ins,c0.fuel,c0.first,(⟨c0.aK.Events,w2_1,c0.aK.Taken,c0.aK.Steps,c0.aK.End,c0.aK.Stop⟩:RunT)⟩:Runner) 2 a1 a0.Var r2).bind fun (r11:Runner)=>
   some (.inl r11)
  else
   if (a0.Kind==6)=true then
    (eR (⟨c0.p,c0.ins,c0.fuel,c0.first,(⟨c0.aK.Events,w2_1,c0.aK.Taken,c0.aK.Steps,c0.aK.End,c0.aK.Stop⟩:RunT)⟩:Runner) 3 a1 a0.Var r2).bind fun (r12:Runner)=>
    some (.inl r12)
   else
    some (.inr (⟨c0.p,c0.ins,c0.fuel,c0.first,(⟨c0.aK.Events,w2_1,c0.aK.Taken,c0.aK.Steps,c0.aK.End,c0.aK.Stop⟩:RunT)⟩:Runner))
abbrev yK(c0:Runner)(a0:Stmt)(a1:Int)(r2:Int)(w2_1:(List Int))(x:(Runner⊕Runner)):aQ×St:=match x with | .inl z1=>(.nrm,⟨[],[],ad hp k0 (aa z1)⟩) | .inr z1=>(.nrm,⟨[(0,(.p k0 0)),(2,(I a1)),(4,(.p ⟨dp,4⟩ 0)),(8,(I r2)),(102,(.b (a0.Kind==6)))],[(4,(ah a0))],ad hp k0 (aa z1)⟩)
theorem qV(hk_k0:k0.dp<dp)(hz:aO dp hp)(c0:Runner)(a0:Stmt)(a1:Int)(r2:Int)(w2_1:(List Int))(x:(Runner⊕Runner))(h:gE c0 a0 a1 r2 w2_1=some x):run G Ω0 ⟨dp,false⟩ Jm ⟨[(0,(.p k0 0)),(2,(I a1)),(4,(.p ⟨dp,4⟩ 0)),(8,(I r2))],[(4,(ah a0))],ad hp k0 ((br c0).set 12 (.o 3 (w2_1.map (I))))⟩=some (yK dp hp k0 c0 a0 a1 r2 w2_1 x):=
 va (bt<|.or (dE<|.ex fun (r10:Runner)=>ao (.v (.tp []))<|ao (.h (boxes dp [(4,(ah a0))] (ad hp k0 (aa r10))))<|ao (.bx [(4,(ah a0))])<|ao (.h (ad hp k0 (aa r10)))<|.nil) (bf<|.or (dE<|.ex fun (r11:Runner)=>ao (.v (.tp []))<|ao (.h (boxes dp [(4,(ah a0))] (ad hp k0 (aa r11))))<|ao (.bx [(4,(ah a0))])<|ao (.h (ad hp k0 (aa r11)))<|.nil) (bf<|.or (dE<|.ex fun (r12:Runner)=>ao (.v (.tp []))<|ao (.h (boxes dp [(4,(ah a0))] (ad hp k0 (aa r12))))<|ao (.bx [(4,(ah a0))])<|ao (.h (ad hp k0 (aa r12)))<|.nil) (bf<|.nil)))) fun L=>ai (rN dp)<|ba h (fun h9 h=>ai h9<|ai (rN dp)<|js<|aZ h fun r10 ek11 h=>have ek11:=cO hk_k0 (kL (dp+1) (boxes dp [(4,(ah a0))] (ad hp k0 ((br c0).set 12 (.o 3 (w2_1.map (I)))))) k0 (Nat.lt_succ_of_lt hk_k0) (aE (ab hk_k0 (hz))) (⟨c0.p,c0.ins,c0.fuel,c0.first,(⟨c0.aK.Events,w2_1,c0.aK.Taken,c0.aK.Steps,c0.aK.End,c0.aK.Stop⟩:RunT)⟩:Runner) 1 a1 a0.Other r2 _ ek11);ai ek11<|ai (dC ek11 (by kernel_rfl) (by kernel_rfl))<|ai (dD ek11 (ab hk_k0 (hz)))<|L h) (fun h9 h=>ai h9<|ba h (fun h10 h=>ai h10<|ai (rN dp)<|js<|aZ h fun r11 ek12 h=>have ek12:=cO hk_k0 (kL (dp+1) (boxes dp [(4,(ah a0))] (ad hp k0 ((br c0).set 12 (.o 3 (w2_1.map (I)))))) k0 (Nat.lt_succ_of_lt hk_k0) (aE (ab hk_k0 (hz))) (⟨c0.p,c0.ins,c0.fuel,c0.first,(⟨c0.aK.Events,w2_1,c0.aK.Taken,c0.aK.Steps,c0.aK.End,c0.aK.Stop⟩:RunT)⟩:Runner) 2 a1 a0.Var r2 _ ek12);ai ek12<|ai (dC ek12 (by kernel_rfl) (by kernel_rfl))<|ai (dD ek12 (ab hk_k0 (hz)))<|L h) (fun h10 h=>ai h10<|ba h (fun h11 h=>ai h11<|ai (rN dp)<|js<|aZ h fun r12 ek13 h=>have ek13:=cO hk_k0 (kL (dp+1) (boxes dp [(4,(ah a0))] (ad hp k0 ((br c0).set 12 (.o 3 (w2_1.map (I)))))) k0 (Nat.lt_succ_of_lt hk_k0) (aE (ab hk_k0 (hz))) (⟨c0.p,c0.ins,c0.fuel,c0.first,(⟨c0.aK.Events,w2_1,c0.aK.Taken,c0.aK.Steps,c0.aK.End,c0.aK.Stop⟩:RunT)⟩:Runner) 3 a1 a0.Var r2 _ ek13);ai ek13<|ai (dC ek13 (by kernel_rfl) (by kernel_rfl))<|ai (dD ek13 (ab hk_k0 (hz)))<|L h) (fun h11 h=>ai h11<|L h)))
abbrev B4(dp:Nat)(hp:HP)(k0:Key)(c0:Runner)(a0:Stmt)(a1:Int)(r:Runner):aX×HP:=(.ret (.tp []),ad hp k0 (aa r))
def mB:Option Runner:=
 if (a0.Kind==3)=true then
  (cQ a0.Other).bind fun (j2:Nat)=>
  (c0.ins[j2]?).bind fun (y4:(List Int))=>
  (c0.aK.Taken[j2]?).bind fun (y6:Int)=>
  if y6<(y4.length:Int) then
   (cQ y6).bind fun (j9:Nat)=>
   (y4[j9]?).bind fun (y11:Int)=>
   (gD c0 a0 y11).bind fun (x13:((List Int)×(List Int)))=>
   some (⟨c0.p,c0.ins,c0.fuel,c0.first,(⟨c0.aK.Events,x13.1,x13.2,c0.aK.Steps,c0.aK.End,c0.aK.Stop⟩:RunT)⟩:Runner)
  else
   (gD c0 a0 0).bind fun (x9:((List Int)×(List Int)))=>
   some (⟨c0.p,c0.ins,c0.fuel,c0.first,(⟨c0.aK.Events,x9.1,x9.2,c0.aK.Steps,c0.aK.End,c0.aK.Stop⟩:RunT)⟩:Runner)
 else
  (kK a0.Expr c0.aK.Vars).bind fun (r2:Int)=>
  if (a0.Kind !=4)=true then
   (cQ a0.Var).bind fun (j5:Nat)=>
   (c0.aK.Vars[j5]?).bind fun (y7:Int)=>
   (gE c0 a0 a1 r2 (c0.aK.Vars.set j5 r2)).bind fun (x9:(Runner⊕Runner))=>match x9 with
   | .inl ya_10=>
    some ya_10
   | .inr yb_10=>
    some yb_10
  else
   (gE c0 a0 a1 r2 c0.aK.Vars).bind fun (x5:(Runner⊕Runner))=>match x5 with
   | .inl ya_6=>
    some ya_6
   | .inr yb_6=>
    some yb_6
theorem yL(hk_k0:k0.dp<dp)(hz:aO dp hp)(c0:Runner)(a0:Stmt)(a1:Int)(r:Runner)(h:mB c0 a0 a1=some r):call G Ω0 ⟨dp,false⟩ 107 [(.p k0 0),(.a (ah a0)),(I a1)] (ad hp k0 (aa c0))=some (B4 dp hp k0 c0 a0 a1 r):=
 aF Zu (bt<|.or (kT<|ao (.l (aa c0))<|bt<|xN fun j2=>.ex fun (y4:(List Int))=>ao (.v (.l 3 (y4.map (I))))<|bf<|ao (.l (aa c0))<|bt<|ao (.n j2)<|bf<|ao (.l (aa c0))<|xI fun y6=>bf<|ao (.l (aa c0))<|ao (.v (I y6))<|ao (.i (y4.length:Int))<|.or (kT<|ao (.l (aa c0))<|bt<|ao (.n j2)<|bf<|ao (.l (aa c0))<|ao (.v (I y6))<|bf<|ao (.l (aa c0))<|ao (.v (I y6))<|xN fun j9=>xI fun y11=>.fb<|.ex fun (x13:((List Int)×(List Int)))=>ao (.fr .ret ⟨[],[],ad hp k0 (((lU c0).set 12 (.o 3 (x13.1.map (I)))).set 13 (.o 3 (x13.2.map (I))))⟩)<|.nil) (bf<|.fb<|.ex fun (x9:((List Int)×(List Int)))=>ao (.fr .ret ⟨[],[],ad hp k0 (((lU c0).set 12 (.o 3 (x9.1.map (I)))).set 13 (.o 3 (x9.2.map (I))))⟩)<|.nil)) (bf<|bt<|bf<|ao (.l (aa c0))<|bf<|ao (.l (aa c0))<|xI fun r2=>bt<|.or (kT<|ao (.l (aa c0))<|bt<|xN fun j5=>bf<|ao (.l (aa c0))<|xI fun y7=>bf<|ao (.l (aa c0))<|ao (.v (I y7))<|ao (.l ((c0.aK.Vars.set j5 r2).map (I)))<|bf<|ao (.l (aa c0))<|bf<|ao (.h (ad hp k0 ((br c0).set 12 (.o 3 ((c0.aK.Vars.set j5 r2).map (I))))))<|.fb<|.or (.ex fun (ya_10:Runner)=>ao (.fr .nrm ⟨[],[],ad hp k0 (aa ya_10)⟩)<|.nil) (.ex fun (yb_10:Runner)=>ao (.fr .nrm ⟨[(0,(.p k0 0)),(2,(I a1)),(4,(.p ⟨dp,4⟩ 0)),(8,(I r2)),(102,(.b (a0.Kind==6)))],[(4,(ah a0))],ad hp k0 (aa yb_10)⟩)<|.nil)) (bf<|.fb<|.or (.ex fun (ya_6:Runner)=>ao (.fr .nrm ⟨[],[],ad hp k0 (aa ya_6)⟩)<|.nil) (.ex fun (yb_6:Runner)=>ao (.fr .nrm ⟨[(0,(.p k0 0)),(2,(I a1)),(4,(.p ⟨dp,4⟩ 0)),(8,(I r2)),(102,(.b (a0.Kind==6)))],[(4,(ah a0))],ad hp k0 (aa yb_6)⟩)<|.nil)))) fun L=>ai ((by simp [ah,AV.aG,AV.aI,AV.deep,AV.bz,aj hk_k0,Nat.le_of_lt hk_k0]):(((.a (ah a0)):AV).deep dp&&(([(0,(.p k0 0)),(1,(.a (ah a0))),(2,(I a1))]:List (Nat×AV)).all (fun y=>y.2.aG ⟨dp,4⟩)&&([]:List (Nat×List AV)).all (fun y=>AV.aI ⟨dp,4⟩ y.2)))=true)<|ai (rN dp)<|ba h (fun h1 h=>AA h1<|ai (Nat.ne_of_lt hk_k0)<|ai (aN hp k0 (aa c0))<|cR<|ai (rN dp)<|ai tt<|eS h fun j2 h3 h=>ai h3<|aZ h fun y4 h5 h=>ai (aD (bB 3 (I)) h5)<|ai tt<|ai tt<|ai tt<|ai tt<|ai tt<|ai tt<|ai tt<|ai tt<|ai (Nat.ne_of_lt hk_k0)<|ai (aN hp k0 (aa c0))<|cR<|ai (rN dp)<|ai tt<|ai h3<|ai (Nat.ne_of_lt hk_k0)<|ai (aN hp k0 (aa c0))<|aZ h fun y6 h7 h=>ai (aD (I) h7)<|ai tt<|ai (Nat.ne_of_lt hk_k0)<|ai (aN hp k0 (aa c0))<|ai (aD (I) h7)<|cR<|ai (aL (I) y4)<|ai tt<|bZ h (fun h8 h=>ai (decide_eq_true h8)<|ai tt<|ai tt<|ai tt<|ai tt<|ai tt<|ai tt<|ai (Nat.ne_of_lt hk_k0)<|ai (aN hp k0 (aa c0))<|cR<|ai (rN dp)<|ai tt<|ai h3<|ai (Nat.ne_of_lt hk_k0)<|ai (aN hp k0 (aa c0))<|ai (aD (I) h7)<|ai tt<|ai (Nat.ne_of_lt hk_k0)<|ai (aN hp k0 (aa c0))<|ai (aD (I) h7)<|ai tt<|eS h fun j9 h10 h=>ai h10<|aZ h fun y11 h12 h=>ai (aD (I) h12)<|aP h (qU dp hp k0 hk_k0 hz c0 a0 y11) fun x13 h=>L h) (fun h8 h=>ai (decide_eq_false h8)<|aP h (qU dp hp k0 hk_k0 hz c0 a0 0) fun x9 h=>L h)) (fun h1 h=>Fg h1<|ai (rN dp)<|oD<|ai (Nat.ne_of_lt hk_k0)<|ai (aN hp k0 (aa c0))<|ai tt<|ai (Nat.ne_of_lt hk_k0)<|ai (aN hp k0 (aa c0))<|aP h (nV a0.Expr c0.aK.Vars) fun r2 h=>cR<|ai (rN dp)<|ba h (fun h4 h=>ai h4<|ai tt<|ai tt<|ai tt<|ai tt<|ai tt<|ai (Nat.ne_of_lt hk_k0)<|ai (aN hp k0 (aa c0))<|cR<|ai (rN dp)<|cR<|eS h fun j5 h6 h=>ai h6<|ai (Nat.ne_of_lt hk_k0)<|ai (aN hp k0 (aa c0))<|aZ h fun y7 h8 h=>ai (aD (I) h8)<|ai ff<|ai (Nat.ne_of_lt hk_k0)<|ai (aN hp k0 (aa c0))<|ai (aD (I) h8)<|ai (map_set .. : (c0.aK.Vars.map (I)).set j5 (I r2)=(c0.aK.Vars.set j5 r2).map (I))<|ai (Nat.ne_of_lt hk_k0)<|ai (aN hp k0 (aa c0))<|ai (Nat.ne_of_lt hk_k0)<|ai (bh hp k0 (aa c0) ((br c0).set 12 (.o 3 ((c0.aK.Vars.set j5 r2).map (I)))))<|cZ h (qV dp hp k0 hk_k0 hz c0 a0 a1 r2 (c0.aK.Vars.set j5 r2)) (fun ya_10 h=>L h) (fun yb_10 h=>L h)) (fun h4 h=>ai h4<|cZ h (qV dp hp k0 hk_k0 hz c0 a0 a1 r2 c0.aK.Vars) (fun ya_6 h=>L h) (fun yb_6 h=>L h)))
end
end
end Go.Proofs.YtdpjofmmokaobaaGreat.A
